import Derived.Test.YtflicfkgbjmffaaGreatM36
section
/- The document's gathering: its rows, put and lands. -/
namespace Go.Proofs.YtflicfkgbjmffaaGreat
open Go Go.Abs Go.Proofs V
set_option linter.unusedSimpArgs false
set_option linter.unusedVariables false
structure RLay where
 g:Nat
 fi:Nat
 ev:Nat
 fr:Nat
 af:Nat
 afs:List Nat
 q:Nat
 qs:List Nat
 la:Nat
def RLay.own (L:RLay):List Nat:=L.g :: L.fi :: L.ev :: L.fr :: L.la :: ((L.af :: L.afs) ++ (L.q :: L.qs))
abbrev rgAv (m nc n:Nat) (L:RLay):AV:=.agg [.sl L.fi m,.sl L.ev n,.sl L.fr n,.sl L.af m,.sl L.la m,.sl L.q nc]
def waitAv (ev:List Deed) (k:Int):AV:=.agg [i64 k,i64 (ev.getD k.toNat default).thing]
def WS (g:GS):List (List AV):=g.q.map (List.map (waitAv g.ev))
structure RRow (m nc:Nat) (F:List Int) (g:GS) (W:List (List AV)) (L:RLay) (H:Hp) (nx:Nat):Prop where
 row:∃ d,getH H L.g = some (.row 54 6 d [rgAv m nc g.ev.length L])
 fi:∃ d,getH H L.fi = some (.row 2 1 d (F.map i64))
 ev:∃ d,getH H L.ev = some (.row 74 5 d (g.ev.map Deed.av))
 fr:∃ d,getH H L.fr = some (.row 3 1 d (g.frm.map i64))
 la:∃ d,getH H L.la = some (.row 3 1 d (g.last.map i64))
 af:QI L.af L.afs g.aft H
 w:QAt 66 69 2 L.q L.qs W H
 lf:g.frm.length = g.ev.length
 lF:F.length = m
 laf:g.aft.length = m
 lla:g.last.length = m
 lq:W.length = nc
 lt:∀ b ∈ L.own,b < nx
 nodup:L.own.Nodup
structure RApart (L:RLay):Prop where
 a1:L.g ≠ L.fi
 a2:L.g ≠ L.ev
 a3:L.g ≠ L.fr
 a4:L.g ≠ L.la
 a5:L.fi ≠ L.ev
 a6:L.fi ≠ L.fr
 a7:L.fi ≠ L.la
 a8:L.ev ≠ L.fr
 a9:L.ev ≠ L.la
 b1:L.fr ≠ L.la
 af:∀ x ∈ L.af :: L.afs,L.g ≠ x∧L.fi ≠ x∧L.ev ≠ x∧L.fr ≠ x∧L.la ≠ x
 w:∀ x ∈ L.q :: L.qs,L.g ≠ x∧L.fi ≠ x∧L.ev ≠ x∧L.fr ≠ x∧L.la ≠ x
 aw:∀ x ∈ L.af :: L.afs,∀ y ∈ L.q :: L.qs,x ≠ y
theorem RLay.apart {L:RLay} (h1:L.own.Nodup):RApart L:=by
 simp only [RLay.own,List.nodup_cons,List.mem_cons,not_or] at h1
 obtain ⟨⟨a1,a2,a3,a4,x1⟩,⟨a5,a6,a7,x2⟩,⟨a8,a9,x3⟩,⟨b1,x4⟩,x5,x6⟩:=h1
 obtain ⟨y1,y2,y3⟩:=List.nodup_append.1 x6
 refine ⟨a1,a2,a3,a4,a5,a6,a7,a8,a9,b1,fun x hx => ?_,fun x hx => ?_,fun x hx y hy => y3 x hx y hy⟩
 ·have hm:x ∈ (L.af :: L.afs) ++ (L.q :: L.qs):=List.mem_append_left _ hx
  exact ⟨fun e => x1 (e ▸ hm),fun e => x2 (e ▸ hm),fun e => x3 (e ▸ hm),fun e => x4 (e ▸ hm),fun e => x5 (e ▸ hm)⟩
 ·have hm:x ∈ (L.af :: L.afs) ++ (L.q :: L.qs):=List.mem_append_right _ hx
  exact ⟨fun e => x1 (e ▸ hm),fun e => x2 (e ▸ hm),fun e => x3 (e ▸ hm),fun e => x4 (e ▸ hm),fun e => x5 (e ▸ hm)⟩
def RPut (m nc:Nat) (F:List Int) (L:RLay) (H:Hp) (nx:Nat) (g':GS) (W:List (List AV)) (r0:AV):AV→Hp→Nat→Prop:=fun r H' n => r = r0∧nx ≤ n∧RRow m nc F g' W L H' n∧∀ b,b < nx→b ∉ L.own→getH H' b = getH H b
theorem rown_six {L:RLay} {b:Nat} (hb:b ∉ L.own):b ≠ L.g∧b ≠ L.fi∧b ≠ L.ev∧b ≠ L.fr∧b ≠ L.la∧b ≠ L.af∧b ∉ L.afs∧b ≠ L.q∧b ∉ L.qs:=by
 simp only [RLay.own,List.mem_cons,List.mem_append,not_or] at hb
 obtain ⟨h1,h2,h3,h4,h5,⟨h6,h7⟩,h8,h9⟩:=hb
 exact ⟨h1,h2,h3,h4,h5,h6,h7,h8,h9⟩
section
variable {m nc:Nat} {F:List Int} {g:GS} {W:List (List AV)} {L:RLay} {H:Hp} {nx:Nat}
set_option maxHeartbeats 4000000 in
theorem rput_call (h:RRow m nc F g W L H nx) (hn:g.ev.length < 1000000) (d:Deed) (f:Int):CallN Tryz.prog 33 [.pt L.g 1 0 0,d.av,i64 f] H nx (RPut m nc F L H nx (g.put d f) W (i64 g.ev.length)):=by
 refine Go.fnL lf33 rfl ?_
 obtain ⟨d1,h1⟩:=h.row
 obtain ⟨d3,h3⟩:=h.ev
 obtain ⟨d4,h4⟩:=h.fr
 obtain ⟨a1,a2,a3,a4,a5,a6,a7,a8,a9,b1,paf,pw,paw⟩:=RLay.apart h.nodup
 have l1:L.g < nx:=h.lt _ (by simp [RLay.own])
 have l3:L.ev < nx:=h.lt _ (by simp [RLay.own])
 have l4:L.fr < nx:=h.lt _ (by simp [RLay.own])
 have hlf:=h.lf
 have hl3:(g.ev.map Deed.av).length = g.ev.length:=List.length_map _
 have hl4:(g.frm.map i64).length = g.ev.length:=by rw [List.length_map,hlf]
 repeat' (first|((with_reducible refine Go.red ?_);conv => whnf)|refine aG ?_|exact aCn|with_reducible refine Go.and ?_ ?_|((with_reducible refine Ask.mk ?_);first|exact aAsk|exact aAsk2|(intro h;simp_all [Deed.cells] <;> fail)|(simp_all [Deed.cells] <;> fail))|(apply Go.elem;(·exact aElem))|refine aH ?_|((with_reducible refine Go.bool ?_ ?_) <;> intro hc <;> (try simp only [List.length_map,ne_eq,hcs] at hc) <;> try (exfalso;omega)))
 refine ⟨⟨?_,aNx,?_,fun b hb ho => ?_⟩⟩
 ·show i64 (IntKind.i64.wrap (((g.ev.length + 1:Nat):Int) - 1)) = i64 g.ev.length
  rw [wrap64 (by omega) (by omega),show (((g.ev.length + 1:Nat):Int) - 1) = g.ev.length by omega]
 ·obtain ⟨d2,h2⟩:=h.fi
  obtain ⟨d5,h5⟩:=h.la
  have l2:L.fi < nx:=h.lt _ (by simp [RLay.own])
  have l5:L.la < nx:=h.lt _ (by simp [RLay.own])
  refine ⟨⟨_,(by rw [show (g.put d f).ev.length = g.ev.length + 1 by simp [GS.put]];exact aRow)⟩,⟨_,aRow⟩,⟨_,(by rw [show (g.put d f).ev.map Deed.av = g.ev.map Deed.av ++ [d.av] by simp [GS.put]];exact aRow)⟩,⟨_,(by rw [show (g.put d f).frm.map i64 = g.frm.map i64 ++ [i64 f] by simp [GS.put]];exact aRow)⟩,⟨_,aRow⟩,h.af.keep fun x hx => ?_,h.w.keep fun x hx => ?_,by simp [GS.put,h.lf],h.lF,h.laf,h.lla,h.lq,fun b hb => Nat.lt_of_lt_of_le (h.lt b hb) aNx,h.nodup⟩
  ·obtain ⟨x1,x2,x3,x4,x5⟩:=paf x hx
   have hx2:x < nx:=h.lt x (by simp only [RLay.own,List.mem_cons,List.mem_append] at hx ⊢;rcases hx with hx|hx <;> simp [hx])
   exact aSkip
  ·obtain ⟨x1,x2,x3,x4,x5⟩:=pw x hx
   have hx2:x < nx:=h.lt x (by simp only [RLay.own,List.mem_cons,List.mem_append] at hx ⊢;rcases hx with hx|hx <;> simp [hx])
   exact aSkip
 ·obtain ⟨x1,x2,x3,x4,_⟩:=rown_six ho
  exact aSkip
set_option maxHeartbeats 4000000 in
theorem rlands_call (h:RRow m nc F g W L H nx) {t:Nat} (ht:t < m) (k:Int) (hl:(g.a t).length < 1000000000):CallN Tryz.prog 16 [.pt L.g 1 0 0,i64 k,i64 t] H nx (RPut m nc F L H nx (g.came t k) W (.tup [])):=by
 refine Go.fnL lf16 rfl ?_
 obtain ⟨d1,h1⟩:=h.row
 obtain ⟨d2,h2⟩:=h.fi
 obtain ⟨d3,h3⟩:=h.ev
 obtain ⟨d4,h4⟩:=h.fr
 obtain ⟨d5,h5⟩:=h.la
 obtain ⟨a1,a2,a3,a4,a5,a6,a7,a8,a9,b1,paf,pw,paw⟩:=RLay.apart h.nodup
 have l1:L.g < nx:=h.lt _ (by simp [RLay.own])
 have l2:L.fi < nx:=h.lt _ (by simp [RLay.own])
 have l3:L.ev < nx:=h.lt _ (by simp [RLay.own])
 have l4:L.fr < nx:=h.lt _ (by simp [RLay.own])
 have l5:L.la < nx:=h.lt _ (by simp [RLay.own])
 have l6:L.af < nx:=h.lt _ (by simp [RLay.own])
 have htq:t < g.aft.length:=by rw [h.laf];exact ht
 have hms:=SI_in h.af htq
 have l7:L.afs.getD t 0 < nx:=h.lt _ (by simp only [RLay.own,List.mem_cons,List.mem_append];exact .inr (.inr (.inr (.inr (.inr (.inl (.inr hms)))))))
 obtain ⟨d6,h6⟩:=h.af.row
 obtain ⟨d7,h7⟩:=SI_at h.af htq
 have hgt:=SI_row h.af htq
 have hl6:(qRow L.afs (SI g.aft)).length = m:=by rw [h.af.len,SI_len,h.laf]
 have hl5:(g.last.map i64).length = m:=by rw [List.length_map,h.lla]
 have hll:=h.lla
 have hlr:(g.aft.getD t []).length < 1000000000:=hl
 have hee:∀ d,(g.last.map i64).getD ((t:Int)).toNat d = i64 (g.last.getD t 0):=fun d => getD_av i64 _ _ _ (by rw [hll];omega)
 have hne:=h.af.ne (q:=t) (by rw [SI_len];exact htq)
 obtain ⟨c1,c2,c3,c4,c5⟩:=paf L.af (by simp)
 obtain ⟨c6,c7,c8,c9,c10⟩:=paf _ (List.mem_cons_of_mem _ hms)
 repeat' (first|((with_reducible refine Go.red ?_);conv => whnf)|refine aG ?_|exact aC|with_reducible refine Go.and ?_ ?_|(apply Go.elem;(·(first|exact hgt _|exact hee _|exact aElem)))|refine aH ?_|((with_reducible refine Go.bool ?_ ?_) <;> intro hc <;> (try simp only [List.length_map,ne_eq,hcs] at hc) <;> try (exfalso;omega)))
 refine ⟨⟨rfl,aNx,⟨⟨_,aRow⟩,⟨_,aRow⟩,⟨_,aRow⟩,⟨_,aRow⟩,⟨_,(by rw [show (g.came t k).last.map i64 = (g.last.map i64).set ((t:Int)).toNat (i64 k) by simp [GS.came,List.map_set]];exact aRow)⟩,?_,h.w.keep (fun x hx => ?_),h.lf,h.lF,by show (g.aft.set _ _).length = m;rw [List.length_set];exact h.laf,by show (g.last.set _ _).length = m;rw [List.length_set];exact h.lla,h.lq,fun b hb => Nat.lt_of_lt_of_le (h.lt b hb) aNx,h.nodup⟩,fun b hb ho => ?_⟩⟩
 ·show QAt _ _ 1 _ _ (SI (g.aft.set t (g.a t ++ [k]))) _
  rw [SI_set]
  refine QAt_same h.af (by rw [SI_len];exact htq) _ ⟨_,_,aRow,?_⟩ ⟨_,_,aRow,?_⟩ (fun j hj m1 m2 m3 => ?_)
  ·simp only [List.length_map,List.length_append,List.length_cons,List.length_nil,Int.toNat_natCast];rfl
  ·rw [List.map_append];rfl
  ·obtain ⟨x1,x2,x3,x4,x5⟩:=paf (L.afs.getD j 0) (List.mem_cons_of_mem _ (getD_mem (by rw [h.af.lens];exact hj)))
   have hx:=h.lt (L.afs.getD j 0) (by simp only [RLay.own,List.mem_cons,List.mem_append];exact .inr (.inr (.inr (.inr (.inr (.inl (.inr (getD_mem (by rw [h.af.lens];exact hj)))))))))
   exact aSkip
 ·obtain ⟨x1,x2,x3,x4,x5⟩:=pw x hx
  have x6:=paw _ (List.mem_cons_of_mem _ hms) x hx
  have x7:=paw L.af (by simp) x hx
  have hx2:x < nx:=h.lt x (by simp only [RLay.own,List.mem_cons,List.mem_append] at hx ⊢;rcases hx with hx|hx <;> simp [hx])
  exact aSkip
 ·obtain ⟨o1,o2,o3,o4,o5,o6,o7,o8,o9⟩:=rown_six ho
  have y1:b ≠ L.afs.getD t 0:=fun e => o7 (e ▸ hms)
  exact aSkip
end
end Go.Proofs.YtflicfkgbjmffaaGreat
end
section
/- The document's gathering: what it does behind a step. -/
namespace Go.Proofs.YtflicfkgbjmffaaGreat
open Go Go.Abs Go.Proofs V
set_option linter.unusedSimpArgs false
set_option linter.unusedVariables false
section
variable {m nc:Nat} {F:List Int} {g:GS} {W:List (List AV)} {L:RLay} {H:Hp} {nx:Nat}
theorem RRow.keepN (h:RRow m nc F g W L H nx) {H':Hp} {nx':Nat} (hn:nx ≤ nx') (hk:∀ b,b < nx→getH H' b = getH H b):RRow m nc F g W L H' nx':=by
 have hl:=h.lt
 refine ⟨?_,?_,?_,?_,?_,h.af.keep fun x hx => hk x (hl x ?_),h.w.keep fun x hx => hk x (hl x ?_),h.lf,h.lF,h.laf,h.lla,h.lq,fun b hb => Nat.lt_of_lt_of_le (hl b hb) hn,h.nodup⟩
 ·rw [hk _ (hl _ (by simp [RLay.own]))];exact h.row
 ·rw [hk _ (hl _ (by simp [RLay.own]))];exact h.fi
 ·rw [hk _ (hl _ (by simp [RLay.own]))];exact h.ev
 ·rw [hk _ (hl _ (by simp [RLay.own]))];exact h.fr
 ·rw [hk _ (hl _ (by simp [RLay.own]))];exact h.la
 ·simp only [RLay.own,List.mem_cons,List.mem_append] at hx ⊢;rcases hx with hx|hx <;> simp [hx]
 ·simp only [RLay.own,List.mem_cons,List.mem_append] at hx ⊢;rcases hx with hx|hx <;> simp [hx]
set_option maxHeartbeats 4000000 in
theorem rdid_none (h:RRow m nc F g W L H nx) (d:V.DidS) (hd:d.kind ≠ 2∧d.kind ≠ 3∧d.kind ≠ 4∧d.kind ≠ 5∧d.kind ≠ 6∧d.kind ≠ 8):CallN Tryz.prog 15 [.pt L.g 1 0 0,d.av] H nx (RPut m nc F L H nx g W (.tup [])):=by
 refine Go.fnL lf15 rfl ?_
 obtain ⟨e2,e3,e4,e5,e6,e8⟩:=hd
 repeat' (first|((with_reducible refine Go.red ?_);conv => whnf)|refine aG ?_|exact aC|with_reducible refine Go.and ?_ ?_|(apply Go.elem;(·exact aElem))|refine aH ?_|((with_reducible refine Go.bool ?_ ?_) <;> intro hc <;> (try simp only [List.length_map,ne_eq,hcs] at hc) <;> try (exfalso;omega)))
 exact ⟨⟨rfl,aNx,h.keepN aNx aKeep,fun b hb _ => aSkip⟩⟩
set_option maxHeartbeats 4000000 in
theorem rdid_fence (h:RRow m nc F g W L H nx) (hn:g.ev.length < 1000000) (d:V.DidS) (hd:d.kind = 5 ∨ d.kind = 6):CallN Tryz.prog 15 [.pt L.g 1 0 0,d.av] H nx (RPut m nc F L H nx (g.put ⟨4,d.core,0,0,0⟩ (-1)) W (.tup [])):=by
 refine Go.fnL lf15 rfl ?_
 repeat' (first|((with_reducible refine Go.red ?_);conv => whnf)|refine aG ?_|exact aC|with_reducible refine Go.and ?_ ?_|(apply Go.elem;(·exact aElem))|refine aH ?_|((with_reducible refine Go.bool ?_ ?_) <;> intro hc <;> (try simp only [List.length_map,ne_eq,hcs] at hc) <;> try (exfalso;omega)))
 all_goals
  refine Go.callN (rput_call (h.keepN aNx aKeep) hn ⟨4,d.core,0,0,0⟩ (-1)) ?_
  rintro _ H2 n2 ⟨rfl,hn2,h2,hfr⟩
  repeat' (first|((with_reducible refine Go.red ?_);conv => whnf)|refine aG ?_|exact aC|with_reducible refine Go.and ?_ ?_|(apply Go.elem;(·exact aElem))|refine aH ?_|((with_reducible refine Go.bool ?_ ?_) <;> intro hc <;> (try simp only [List.length_map,ne_eq,hcs] at hc) <;> try (exfalso;omega)))
  exact ⟨⟨rfl,by omega,h2.keepN aNx aKeep,fun b hb ho => Eq.trans aSkip ((hfr b (by omega) ho).trans aSkip)⟩⟩
set_option maxHeartbeats 4000000 in
theorem rdid_swap (h:RRow m nc F g W L H nx) (hn:g.ev.length < 1000000) (d:V.DidS) (hd:d.kind = 4) (ht:0 ≤ d.addr∧d.addr.toNat < m) (hl:(g.a d.addr.toNat).length < 1000000000):CallN Tryz.prog 15 [.pt L.g 1 0 0,d.av] H nx (RPut m nc F L H nx ((g.put ⟨3,d.core,d.addr,d.word,d.put⟩ (g.l d.addr.toNat)).came d.addr.toNat g.ev.length) W (.tup [])):=by
 refine Go.fnL lf15 rfl ?_
 obtain ⟨d1,h1⟩:=h.row
 obtain ⟨d5,h5⟩:=h.la
 have l1:L.g < nx:=h.lt _ (by simp [RLay.own])
 have l5:L.la < nx:=h.lt _ (by simp [RLay.own])
 have hl5:(g.last.map i64).length = m:=by rw [List.length_map,h.lla]
 have hee:∀ x,(g.last.map i64).getD d.addr.toNat x = i64 (g.last.getD d.addr.toNat 0):=fun x => getD_av i64 _ _ _ (by rw [h.lla];omega)
 obtain ⟨kind,core,pc,addr,word,put,own⟩:=d
 simp only at hd ht hl hee ⊢
 subst hd
 obtain ⟨t,rfl⟩:∃ t:Nat,addr = t:=⟨addr.toNat,by omega⟩
 simp only [Int.toNat_natCast] at ht hl hee ⊢
 repeat' (first|((with_reducible refine Go.red ?_);conv => whnf)|refine aG ?_|exact aC|with_reducible refine Go.and ?_ ?_|(apply Go.elem;(·(first|exact hee _|exact aElem)))|refine aH ?_|((with_reducible refine Go.bool ?_ ?_) <;> intro hc <;> (try simp only [List.length_map,ne_eq,hcs] at hc) <;> try (exfalso;omega)))
 refine Go.callN (rput_call (h.keepN aNx aKeep) hn ⟨3,core,t,word,put⟩ (g.l t)) ?_
 rintro _ H2 n2 ⟨rfl,hn2,h2,hfr⟩
 have r3:getH H2 nx = some (.row 62 7 .any [.agg [u8 4,i64 core,i64 pc,i64 t,i64 word,i64 put,bl own]]):=(hfr nx (by omega) (fun hm => absurd (h.lt _ hm) (Nat.lt_irrefl _))).trans aRow
 repeat' (first|((with_reducible refine Go.red ?_);conv => whnf)|refine aG ?_|exact aC|with_reducible refine Go.and ?_ ?_|(apply Go.elem;(·exact aElem))|refine aH ?_|((with_reducible refine Go.bool ?_ ?_) <;> intro hc <;> (try simp only [List.length_map,ne_eq,hcs] at hc) <;> try (exfalso;omega)))
 refine Go.callN (rlands_call (h2.keepN aNx aKeep) ht.2 g.ev.length hl) ?_
 rintro _ H3 n3 ⟨rfl,hn3,h3,hfr3⟩
 repeat' (first|((with_reducible refine Go.red ?_);conv => whnf)|refine aG ?_|exact aC|with_reducible refine Go.and ?_ ?_|(apply Go.elem;(·exact aElem))|refine aH ?_|((with_reducible refine Go.bool ?_ ?_) <;> intro hc <;> (try simp only [List.length_map,ne_eq,hcs] at hc) <;> try (exfalso;omega)))
 exact ⟨⟨rfl,by omega,h3.keepN aNx aKeep,fun b hb ho => Eq.trans aSkip ((hfr3 b (by omega) ho).trans (Eq.trans aSkip ((hfr b (by omega) ho).trans aSkip)))⟩⟩
set_option maxHeartbeats 4000000 in
theorem rdid_store (h:RRow m nc F g W L H nx) (hn:g.ev.length < 1000000) (d:V.DidS) (hd:d.kind = 3) (hc:0 ≤ d.core∧d.core.toNat < nc) (hl:(W.getD d.core.toNat []).length < 1000000000):CallN Tryz.prog 15 [.pt L.g 1 0 0,d.av] H nx (RPut m nc F L H nx (g.put ⟨2,d.core,d.addr,0,d.word⟩ (-1)) (W.set d.core.toNat (W.getD d.core.toNat [] ++ [.agg [i64 g.ev.length,i64 d.addr]])) (.tup [])):=by
 refine Go.fnL lf15 rfl ?_
 obtain ⟨kind,core,pc,addr,word,put,own⟩:=d
 simp only at hd hc hl ⊢
 subst hd
 obtain ⟨c,rfl⟩:∃ c:Nat,core = c:=⟨core.toNat,by omega⟩
 simp only [Int.toNat_natCast] at hc hl ⊢
 have hc:=hc.2
 repeat' (first|((with_reducible refine Go.red ?_);conv => whnf)|refine aG ?_|exact aC|with_reducible refine Go.and ?_ ?_|(apply Go.elem;(·exact aElem))|refine aH ?_|((with_reducible refine Go.bool ?_ ?_) <;> intro hc <;> (try simp only [List.length_map,ne_eq,hcs] at hc) <;> try (exfalso;omega)))
 refine Go.callN (rput_call (h.keepN aNx aKeep) hn ⟨2,c,addr,0,word⟩ (-1)) ?_
 rintro _ H2 n2 ⟨rfl,hn2,h2,hfr⟩
 have r3:getH H2 nx = some (.row 62 7 .any [.agg [u8 3,i64 c,i64 pc,i64 addr,i64 word,i64 put,bl own]]):=(hfr nx (by omega) (fun hm => absurd (h.lt _ hm) (Nat.lt_irrefl _))).trans aRow
 obtain ⟨d1,h1⟩:=h2.row
 obtain ⟨d2,hr2⟩:=h2.fi
 obtain ⟨d3,hr3⟩:=h2.ev
 obtain ⟨d4,hr4⟩:=h2.fr
 obtain ⟨d5,hr5⟩:=h2.la
 obtain ⟨a1,a2,a3,a4,a5,a6,a7,a8,a9,b1,paf,pw,paw⟩:=RLay.apart h.nodup
 have l1:L.g < nx:=h.lt _ (by simp [RLay.own])
 have l2:L.fi < nx:=h.lt _ (by simp [RLay.own])
 have l3:L.ev < nx:=h.lt _ (by simp [RLay.own])
 have l4:L.fr < nx:=h.lt _ (by simp [RLay.own])
 have l5:L.la < nx:=h.lt _ (by simp [RLay.own])
 have l6:L.q < nx:=h.lt _ (by simp [RLay.own])
 have hcW:c < W.length:=by rw [h.lq];exact hc
 have hqm:L.qs.getD c 0 ∈ L.qs:=getD_mem (by rw [h.w.lens];exact hcW)
 have l7:L.qs.getD c 0 < nx:=h.lt _ (by simp only [RLay.own,List.mem_cons,List.mem_append];exact .inr (.inr (.inr (.inr (.inr (.inr (.inr hqm)))))))
 obtain ⟨d6,h6⟩:=h2.w.row
 obtain ⟨d7,h7⟩:=h2.w.qs c hcW
 have hgt:=h2.w.get hcW
 have hl6:(qRow L.qs W).length = nc:=by rw [h2.w.len,h.lq]
 have hne:=h2.w.ne hcW
 obtain ⟨c1,c2,c3,c4,c5⟩:=pw L.q (by simp)
 obtain ⟨c6,c7,c8,c9,c10⟩:=pw _ (List.mem_cons_of_mem _ hqm)
 repeat' (first|((with_reducible refine Go.red ?_);conv => whnf)|refine aG ?_|exact aC|with_reducible refine Go.and ?_ ?_|(apply Go.elem;(·(first|exact hgt _|exact aElem)))|refine aH ?_|((with_reducible refine Go.bool ?_ ?_) <;> intro hc <;> (try simp only [List.length_map,ne_eq,hcs] at hc) <;> try (exfalso;omega)))
 refine ⟨⟨rfl,by omega,⟨⟨_,aRow⟩,⟨_,aRow⟩,⟨_,aRow⟩,⟨_,aRow⟩,⟨_,aRow⟩,h2.af.keep (fun x hx => ?_),?_,h2.lf,h2.lF,h2.laf,h2.lla,by rw [List.length_set];exact h2.lq,fun b hb => Nat.lt_of_lt_of_le (h2.lt b hb) aNx,h2.nodup⟩,fun b hb ho => ?_⟩⟩
 ·obtain ⟨x1,x2,x3,x4,x5⟩:=paf x hx
  have x6:=paw x hx _ (List.mem_cons_of_mem _ hqm)
  have x7:=paw x hx L.q (by simp)
  have hx2:x < nx:=h.lt x (by simp only [RLay.own,List.mem_cons,List.mem_append] at hx ⊢;rcases hx with hx|hx <;> simp [hx])
  exact aSkip
 ·refine QAt_same h2.w hcW _ ⟨_,_,aRow,?_⟩ ⟨_,_,aRow,?_⟩ (fun j hj m1 m2 m3 => ?_)
  ·simp only [List.length_map,List.length_append,List.length_cons,List.length_nil,Int.toNat_natCast];rfl
  ·rfl
  ·have hjm:L.qs.getD j 0 ∈ L.qs:=getD_mem (by rw [h.w.lens];exact hj)
   have hx:=h.lt (L.qs.getD j 0) (by simp only [RLay.own,List.mem_cons,List.mem_append];exact .inr (.inr (.inr (.inr (.inr (.inr (.inr hjm)))))))
   exact aSkip
 ·obtain ⟨o1,o2,o3,o4,o5,o6,o7,o8,o9⟩:=rown_six ho
  have y1:b ≠ L.qs.getD c 0:=fun e => o9 (e ▸ hqm)
  exact Eq.trans aSkip ((hfr b (by omega) ho).trans aSkip)
end
end Go.Proofs.YtflicfkgbjmffaaGreat
end
section
/- The document's gathering: the drain. -/
namespace Go.Proofs.YtflicfkgbjmffaaGreat
open Go Go.Abs Go.Proofs V
set_option linter.unusedSimpArgs false
set_option linter.unusedVariables false
section
variable {m nc:Nat} {F:List Int} {g:GS} {W:List (List AV)} {L:RLay} {H:Hp} {nx:Nat}
def RDrn (m nc:Nat) (F:List Int) (L:RLay) (H:Hp) (nx:Nat) (g':GS) (W:List (List AV)) (r0:AV):AV→Hp→Nat→Prop:=fun r H' n => r = r0∧nx ≤ n∧∃ qs',RRow m nc F g' W { L with qs:=qs' } H' n∧(∀ y ∈ qs',y ∈ L.qs ∨ nx ≤ y)∧∀ b,b < nx→b ∉ L.own→getH H' b = getH H b
structure RCore (m nc:Nat) (F:List Int) (g:GS) (L:RLay) (H:Hp):Prop where
 row:∃ d,getH H L.g = some (.row 54 6 d [rgAv m nc g.ev.length L])
 fi:∃ d,getH H L.fi = some (.row 2 1 d (F.map i64))
 ev:∃ d,getH H L.ev = some (.row 74 5 d (g.ev.map Deed.av))
 fr:∃ d,getH H L.fr = some (.row 3 1 d (g.frm.map i64))
 la:∃ d,getH H L.la = some (.row 3 1 d (g.last.map i64))
 af:QI L.af L.afs g.aft H
set_option maxHeartbeats 4000000 in
theorem rdid_raw (h:RRow m nc F g W L H nx) (d:V.DidS) (hd:d.kind = 8) (hc:0 ≤ d.core∧d.core.toNat < nc) (ht:0 ≤ d.addr∧d.addr.toNat < m) (hl:(g.a d.addr.toNat).length < 1000000000) {k a:Int} {r:List AV} (hk:W.getD d.core.toNat [] = .agg [i64 k,i64 a] :: r) (hr:r.length < 1000000000):CallN Tryz.prog 15 [.pt L.g 1 0 0,d.av] H nx
  (fun x H' n => x = .tup []∧nx ≤ n∧RCore m nc F (g.came d.addr.toNat k) L H'∧(∃ d0,getH H' L.q = some (.row 66 1 d0 ((qRow L.qs W).set d.core.toNat (.sv (L.qs.getD d.core.toNat 0) (r.length + 1) 1 (r.length + 1 - 1)))))∧(∃ H0,QAt 66 69 2 L.q L.qs W H0∧∀ y ∈ L.qs,getH H' y = getH H0 y)∧∀ b,b < nx→b ∉ L.own→getH H' b = getH H b):=by
 refine Go.fnL lf15 rfl ?_
 obtain ⟨kind,core,pc,addr,word,put,own⟩:=d
 simp only at hd hc ht hl hk ⊢
 subst hd
 obtain ⟨c,rfl⟩:∃ c:Nat,core = c:=⟨core.toNat,by omega⟩
 obtain ⟨t,rfl⟩:∃ t:Nat,addr = t:=⟨addr.toNat,by omega⟩
 simp only [Int.toNat_natCast] at hc ht hl hk ⊢
 have hc:=hc.2
 have ht:=ht.2
 obtain ⟨d1,h1⟩:=h.row
 obtain ⟨a1,a2,a3,a4,a5,a6,a7,a8,a9,b1,paf,pw,paw⟩:=RLay.apart h.nodup
 have l1:L.g < nx:=h.lt _ (by simp [RLay.own])
 have l2:L.fi < nx:=h.lt _ (by simp [RLay.own])
 have l3:L.ev < nx:=h.lt _ (by simp [RLay.own])
 have l4:L.fr < nx:=h.lt _ (by simp [RLay.own])
 have l5:L.la < nx:=h.lt _ (by simp [RLay.own])
 have l6:L.q < nx:=h.lt _ (by simp [RLay.own])
 have hcW:c < W.length:=by rw [h.lq];exact hc
 have hqm:L.qs.getD c 0 ∈ L.qs:=getD_mem (by rw [h.w.lens];exact hcW)
 have l7:L.qs.getD c 0 < nx:=h.lt _ (by simp only [RLay.own,List.mem_cons,List.mem_append];exact .inr (.inr (.inr (.inr (.inr (.inr (.inr hqm)))))))
 obtain ⟨d6,h6⟩:=h.w.row
 obtain ⟨d7,h7⟩:=h.w.qs c hcW
 have hgt:=h.w.get hcW
 have hl6:(qRow L.qs W).length = nc:=by rw [h.w.len,h.lq]
 rw [hk] at h7 hgt
 have hne:=h.w.ne hcW
 obtain ⟨c1,c2,c3,c4,c5⟩:=pw L.q (by simp)
 obtain ⟨c6,c7,c8,c9,c10⟩:=pw _ (List.mem_cons_of_mem _ hqm)
 repeat' (first|((with_reducible refine Go.red ?_);conv => whnf)|refine aG ?_|exact aC|with_reducible refine Go.and ?_ ?_|(apply Go.elem;(·(first|exact hgt _|exact aElem)))|refine aH ?_|((with_reducible refine Go.bool ?_ ?_) <;> intro hc <;> (try simp only [List.length_map,ne_eq,hcs] at hc) <;> try (exfalso;omega)))
 refine Go.callN (rlands_call (h.keepN aNx aKeep) ht k hl) ?_
 rintro _ H2 n2 ⟨rfl,hn2,h2,hfr⟩
 have r3:getH H2 nx = some (.row 62 7 .any [.agg [u8 8,i64 c,i64 pc,i64 t,i64 word,i64 put,bl own]]):=(hfr nx (by omega) (fun hm => absurd (h.lt _ hm) (Nat.lt_irrefl _))).trans aRow
 obtain ⟨d1,h1⟩:=h2.row
 obtain ⟨d2,hr2⟩:=h2.fi
 obtain ⟨d3,hr3⟩:=h2.ev
 obtain ⟨d4,hr4⟩:=h2.fr
 obtain ⟨d5,hr5⟩:=h2.la
 obtain ⟨d6,h6⟩:=h2.w.row
 obtain ⟨d7,h7⟩:=h2.w.qs c hcW
 rw [hk] at h7
 repeat' (first|((with_reducible refine Go.red ?_);conv => whnf)|refine aG ?_|exact aC|with_reducible refine Go.and ?_ ?_|(apply Go.elem;(·(first|exact hgt _|exact aElem)))|refine aH ?_|((with_reducible refine Go.bool ?_ ?_) <;> intro hc <;> (try simp only [List.length_map,ne_eq,hcs] at hc) <;> try (exfalso;omega)))
 refine ⟨⟨rfl,by omega,⟨⟨_,aRow⟩,⟨_,aRow⟩,⟨_,aRow⟩,⟨_,aRow⟩,⟨_,aRow⟩,h2.af.keep (fun x hx => ?_)⟩,⟨_,aRow⟩,⟨H2,h2.w,fun y hy => ?_⟩,fun b hb ho => ?_⟩⟩
 ·obtain ⟨x1,x2,x3,x4,x5⟩:=paf x hx
  have x7:=paw x hx L.q (by simp)
  have hx2:x < nx:=h.lt x (by simp only [RLay.own,List.mem_cons,List.mem_append] at hx ⊢;rcases hx with hx|hx <;> simp [hx])
  exact aSkip
 ·have x7:L.q ≠ y:=(List.nodup_cons.1 h.w.nodup).1 |> fun hh e => hh (e ▸ hy)
  have hx2:y < nx:=h.lt y (by simp only [RLay.own,List.mem_cons,List.mem_append];exact .inr (.inr (.inr (.inr (.inr (.inr (.inr hy)))))))
  exact aSkip
 ·obtain ⟨o1,o2,o3,o4,o5,o6,o7,o8,o9⟩:=rown_six ho
  exact Eq.trans aSkip ((hfr b (by omega) ho).trans aSkip)
theorem rdid_drain (h:RRow m nc F g W L H nx) (d:V.DidS) (hd:d.kind = 8) (hc:0 ≤ d.core∧d.core.toNat < nc) (ht:0 ≤ d.addr∧d.addr.toNat < m) (hl:(g.a d.addr.toNat).length < 1000000000) {k a:Int} {r:List AV} (hk:W.getD d.core.toNat [] = .agg [i64 k,i64 a] :: r) (hr:r.length < 1000000000) :
  CallN Tryz.prog 15 [.pt L.g 1 0 0,d.av] H nx (RDrn m nc F L H nx (g.came d.addr.toNat k) (W.set d.core.toNat r) (.tup [])):=by
 refine CallN.wk (rdid_raw h d hd hc ht hl hk hr) ?_
 rintro x H' n ⟨rfl,hn,hC,⟨d0,r0⟩,⟨H0,hQ,hy⟩,hf⟩
 have hcW:d.core.toNat < W.length:=by rw [h.lq];exact hc.2
 have hlt:∀ b ∈ L.own,b < nx:=h.lt
 have hq1:L.q < nx:=hlt _ (by simp [RLay.own])
 have hq2:∀ y ∈ L.qs,y < nx:=fun y hy => hlt y (by simp only [RLay.own,List.mem_cons,List.mem_append];exact .inr (.inr (.inr (.inr (.inr (.inr (.inr hy)))))))
 obtain ⟨a1,a2,a3,a4,a5,a6,a7,a8,a9,b1,paf,pw,paw⟩:=RLay.apart h.nodup
 have hqm:L.qs.getD d.core.toNat 0 ∈ L.qs:=getD_mem (by rw [h.w.lens];exact hcW)
 have hkl:(W.getD d.core.toNat []).length = r.length + 1:=by rw [hk];rfl
 suffices hCC:∀ (H2:Hp) (p:Nat),n ≤ p→QAt 66 69 2 L.q (L.qs.set d.core.toNat p) (W.set d.core.toNat ((W.getD d.core.toNat []).drop 1)) H2→(∀ y,y < n→y ≠ L.q→y ≠ L.qs.getD d.core.toNat 0→getH H2 y = getH H' y)→(fun (H2:Hp) (n2:Nat) => nx ≤ n2∧∃ qs',RRow m nc F (g.came d.addr.toNat k) (W.set d.core.toNat r) { L with qs:=qs' } H2 n2∧(∀ y ∈ qs',y ∈ L.qs ∨ nx ≤ y)∧∀ b,b < nx→b ∉ L.own→getH H2 b = getH H b) H2 (p + 1) by
  obtain ⟨H2,m2,hw,hC2⟩:=tell_suffix (nx:=n) (lo:=n) (C:=fun (H2:Hp) (n2:Nat) => nx ≤ n2∧∃ qs',RRow m nc F (g.came d.addr.toNat k) (W.set d.core.toNat r) { L with qs:=qs' } H2 n2∧(∀ y ∈ qs',y ∈ L.qs ∨ nx ≤ y)∧∀ b,b < nx→b ∉ L.own→getH H2 b = getH H b) hQ hcW 1 (by rw [hkl];omega) ⟨d0,_,r0,by rw [hkl]⟩ (fun j hj _ hm => hy _ hm) (fun y hy => by
   rcases List.mem_cons.1 hy with rfl|hy
   ·omega
   ·have:=hq2 y hy;omega) (Nat.le_refl _) hCC
  exact ⟨_,_,_,hw.same _,rfl,hC2⟩
 intro H2 p hp hQ2 hfr
 ·have hkeep:∀ b,b ∈ L.own→b ≠ L.q→b ∉ L.qs→getH H2 b = getH H' b:=fun b hb h1 h2 => hfr b (by have:=hlt b hb;omega) h1 (fun e => h2 (e ▸ hqm))
  have out:∀ b,b = L.g ∨ b = L.fi ∨ b = L.ev ∨ b = L.fr ∨ b = L.la→getH H2 b = getH H' b:=fun b hb => by
   refine hkeep b (by rcases hb with rfl|rfl|rfl|rfl|rfl <;> simp [RLay.own]) ?_ (fun hm => ?_)
   ·obtain ⟨x1,x2,x3,x4,x5⟩:=pw L.q (by simp)
    rcases hb with rfl|rfl|rfl|rfl|rfl <;> assumption
   ·obtain ⟨x1,x2,x3,x4,x5⟩:=pw b (List.mem_cons_of_mem _ hm)
    rcases hb with e|e|e|e|e
    ·exact x1 e.symm
    ·exact x2 e.symm
    ·exact x3 e.symm
    ·exact x4 e.symm
    ·exact x5 e.symm
  have hdrop:(W.getD d.core.toNat []).drop 1 = r:=by rw [hk];rfl
  rw [hdrop] at hQ2
  have hmem:∀ y ∈ L.qs.set d.core.toNat p,y ∈ L.qs ∨ n ≤ y:=fun y hy => by
   rcases List.mem_or_eq_of_mem_set hy with hy|rfl
   ·exact .inl hy
   ·exact .inr hp
  refine ⟨by omega,L.qs.set d.core.toNat p,⟨?_,?_,?_,?_,?_,hC.af.keep (fun x hx => ?_),hQ2,h.lf,h.lF,?_,?_,by rw [List.length_set];exact h.lq,fun b hb => ?_,?_⟩,fun y hy => (hmem y hy).imp id (fun hh => by omega),fun b hb ho => ?_⟩
  ·rw [out L.g (by simp)];exact hC.row
  ·rw [out L.fi (by simp)];exact hC.fi
  ·rw [out L.ev (by simp)];exact hC.ev
  ·rw [out L.fr (by simp)];exact hC.fr
  ·rw [out L.la (by simp)];exact hC.la
  ·have hxo:x ∈ L.own:=by simp only [RLay.own,List.mem_cons,List.mem_append] at hx ⊢;rcases hx with hx|hx <;> simp [hx]
   exact hkeep x hxo (paw x hx L.q (by simp)) (fun hm => paw x hx x (List.mem_cons_of_mem _ hm) rfl)
  ·show (g.aft.set _ _).length = m
   rw [List.length_set];exact h.laf
  ·show (g.last.set _ _).length = m
   rw [List.length_set];exact h.lla
  ·simp only [RLay.own,List.mem_cons,List.mem_append] at hb
   have hol:b ∈ L.own ∨ n ≤ b∧b = p:=by
    simp only [RLay.own,List.mem_cons,List.mem_append]
    rcases hb with hb|hb|hb|hb|hb|hb|hb|hb
    ·exact .inl (.inl hb)
    ·exact .inl (.inr (.inl hb))
    ·exact .inl (.inr (.inr (.inl hb)))
    ·exact .inl (.inr (.inr (.inr (.inl hb))))
    ·exact .inl (.inr (.inr (.inr (.inr (.inl hb)))))
    ·exact .inl (.inr (.inr (.inr (.inr (.inr (.inl hb))))))
    ·exact .inl (.inr (.inr (.inr (.inr (.inr (.inr (.inl hb)))))))
    ·rcases List.mem_or_eq_of_mem_set hb with hb|hb
     ·exact .inl (.inr (.inr (.inr (.inr (.inr (.inr (.inr hb)))))))
     ·exact .inr ⟨by omega,hb⟩
   rcases hol with ho|⟨_,ho⟩
   ·have:=hlt b ho;omega
   ·omega
  ·have hnd:=h.nodup
   simp only [RLay.own,List.nodup_cons,List.mem_cons,not_or] at hnd
   obtain ⟨⟨_,_,_,_,x1⟩,⟨_,_,_,x2⟩,⟨_,_,x3⟩,⟨_,x4⟩,x5,x6⟩:=hnd
   obtain ⟨y1,y2,y3⟩:=List.nodup_append.1 x6
   have key:∀ x,x ∈ (L.af :: L.afs) ++ (L.q :: L.qs.set d.core.toNat p)→x ∈ (L.af :: L.afs) ++ (L.q :: L.qs) ∨ n ≤ x:=fun x hx => by
    rcases List.mem_append.1 hx with hx|hx
    ·exact .inl (List.mem_append_left _ hx)
    ·rcases List.mem_cons.1 hx with hx|hx
     ·exact .inl (List.mem_append_right _ (hx ▸ by simp))
     ·exact (hmem x hx).imp (fun hh => List.mem_append_right _ (List.mem_cons_of_mem _ hh)) id
   have nope:∀ x,x < nx→x ∉ (L.af :: L.afs) ++ (L.q :: L.qs)→x ∉ (L.af :: L.afs) ++ (L.q :: L.qs.set d.core.toNat p):=fun x hx hn2 hm => (key x hm).elim hn2 (fun hh => by omega)
   simp only [RLay.own,List.nodup_cons,List.mem_cons,not_or]
   refine ⟨⟨a1,a2,a3,a4,nope _ (hlt _ (by simp [RLay.own])) x1⟩,⟨a5,a6,a7,nope _ (hlt _ (by simp [RLay.own])) x2⟩,⟨a8,a9,nope _ (hlt _ (by simp [RLay.own])) x3⟩,⟨b1,nope _ (hlt _ (by simp [RLay.own])) x4⟩,nope _ (hlt _ (by simp [RLay.own])) x5,List.nodup_append.2 ⟨y1,hQ2.nodup,fun x hx y hy => ?_⟩⟩
   rcases List.mem_cons.1 hy with hy2|hy2
   ·exact y3 x hx y (hy2 ▸ by simp)
   ·rcases hmem y hy2 with hy3|hy3
    ·exact y3 x hx y (List.mem_cons_of_mem _ hy3)
    ·have hxo:x ∈ L.own:=by simp only [RLay.own,List.mem_cons,List.mem_append] at hx ⊢;rcases hx with hx|hx <;> simp [hx]
     have:=hlt x hxo
     omega
  ·rw [hfr b (by omega) (rown_six ho).2.2.2.2.2.2.2.1 (fun e => (rown_six ho).2.2.2.2.2.2.2.2 (e ▸ hqm))]
   exact hf b hb ho
end
end Go.Proofs.YtflicfkgbjmffaaGreat
end
section
/- The document's gathering: the load. -/
namespace Go.Proofs.YtflicfkgbjmffaaGreat
open Go Go.Abs Go.Proofs V
set_option linter.unusedSimpArgs false
set_option linter.unusedVariables false
theorem ownL_snoc (ev:List Deed) (a x:Int):∀ (l:List Int) (r:Int),ownL ev a (l ++ [x]) r = if (ev.getD x.toNat default).thing = a then x else ownL ev a l r
 | [],r => rfl
 | k :: t,r => by rw [List.cons_append,ownL,ownL_snoc ev a x t,ownL]
theorem map_getD {α β:Type} (f:α→β) {l:List α} {k:Nat} (d:α) (h:k < l.length) (x:β):(l.map f).getD k x = f (l.getD k d):=by simp [List.getD,h]
theorem take_snoc {α:Type} {l:List α} {k:Nat} (h:k < l.length) (d:α):l.take (k + 1) = l.take k ++ [l.getD k d]:=by
 rw [List.take_succ_eq_append_getElem h];simp [List.getD,h]
section
variable {m nc:Nat} {F:List Int} {g:GS} {W:List (List AV)} {L:RLay} {H:Hp} {nx:Nat}
set_option maxHeartbeats 4000000 in
theorem rdid_load (h:RRow m nc F g W L H nx) (hn:g.ev.length < 1000000) (d:V.DidS) (hd:d.kind = 2) (ht:0 ≤ d.addr∧d.addr.toNat < m) (hq:d.own = true→0 ≤ d.core∧d.core.toNat < nc∧W.getD d.core.toNat [] = (g.w d.core.toNat).map (waitAv g.ev)∧(g.w d.core.toNat).length < 1000000000):CallN Tryz.prog 15 [.pt L.g 1 0 0,d.av] H nx (RPut m nc F L H nx (g.put ⟨1,d.core,d.addr,d.word,0⟩ (g.seen d)) W (.tup [])):=by
 refine Go.fnL lf15 rfl ?_
 obtain ⟨kind,core,pc,addr,word,put,own⟩:=d
 simp only at hd ht hq ⊢
 subst hd
 obtain ⟨t,rfl⟩:∃ t:Nat,addr = t:=⟨addr.toNat,by omega⟩
 simp only [Int.toNat_natCast] at ht ⊢
 have ht:=ht.2
 obtain ⟨d1,h1⟩:=h.row
 obtain ⟨d5,h5⟩:=h.la
 have l1:L.g < nx:=h.lt _ (by simp [RLay.own])
 have l5:L.la < nx:=h.lt _ (by simp [RLay.own])
 have hl5:(g.last.map i64).length = m:=by rw [List.length_map,h.lla]
 have hee:∀ x,(g.last.map i64).getD ((t:Int)).toNat x = i64 (g.last.getD t 0):=fun x => getD_av i64 _ _ _ (by rw [h.lla];omega)
 cases own with
 | false =>
  repeat' (first|((with_reducible refine Go.red ?_);conv => whnf)|refine aG ?_|exact aC|with_reducible refine Go.and ?_ ?_|(apply Go.elem;(·(first|exact hee _|exact aElem)))|refine aH ?_|((with_reducible refine Go.bool ?_ ?_) <;> intro hc <;> (try simp only [List.length_map,ne_eq,hcs] at hc) <;> try (exfalso;omega)))
  refine Go.callN (rput_call (h.keepN aNx aKeep) hn ⟨1,core,t,word,0⟩ (g.l t)) ?_
  rintro _ H2 n2 ⟨rfl,hn2,h2,hfr⟩
  repeat' (first|((with_reducible refine Go.red ?_);conv => whnf)|refine aG ?_|exact aC|with_reducible refine Go.and ?_ ?_|(apply Go.elem;(·exact aElem))|refine aH ?_|((with_reducible refine Go.bool ?_ ?_) <;> intro hc <;> (try simp only [List.length_map,ne_eq,hcs] at hc) <;> try (exfalso;omega)))
  exact ⟨⟨rfl,by omega,h2.keepN aNx aKeep,fun b hb ho => Eq.trans aSkip ((hfr b (by omega) ho).trans aSkip)⟩⟩
 | true =>
  obtain ⟨hc0,hc,hW,hlw⟩:=hq rfl
  obtain ⟨c,rfl⟩:∃ c:Nat,core = c:=⟨core.toNat,by omega⟩
  simp only [Int.toNat_natCast] at hc hW hlw
  have l6:L.q < nx:=h.lt _ (by simp [RLay.own])
  have hcW:c < W.length:=by rw [h.lq];exact hc
  have hqm:L.qs.getD c 0 ∈ L.qs:=getD_mem (by rw [h.w.lens];exact hcW)
  have l7:L.qs.getD c 0 < nx:=h.lt _ (by simp only [RLay.own,List.mem_cons,List.mem_append];exact .inr (.inr (.inr (.inr (.inr (.inr (.inr hqm)))))))
  obtain ⟨d6,h6⟩:=h.w.row
  obtain ⟨d7,h7⟩:=h.w.qs c hcW
  have hgt:=h.w.get hcW
  have hl6:(qRow L.qs W).length = nc:=by rw [h.w.len,h.lq]
  rw [hW] at h7 hgt
  rw [List.length_map] at hgt
  have hlq:((g.w c).map (waitAv g.ev)).length = (g.w c).length:=List.length_map _
  repeat' (first|((with_reducible refine Go.red ?_);conv => whnf)|refine aG ?_|exact aC|with_reducible refine Go.and ?_ ?_|(apply Go.elem;(·(first|exact hee _|exact hgt _|exact aElem)))|refine aH ?_|((with_reducible refine Go.bool ?_ ?_) <;> intro hc <;> (try simp only [List.length_map,ne_eq,hcs] at hc) <;> try (exfalso;omega)))
  refine Go.loop (fun k:Nat => [(0,.pt L.g 1 0 0),(3,.pt nx 1 0 0),(4,i64 (ownL g.ev t ((g.w c).take k) (g.l t))),(5,.sl (L.qs.getD c 0) (g.w c).length),(6,i64 k)])
   (fun k H' n => k ≤ (g.w c).length∧nx + 1 ≤ n∧(∀ b,b < nx→getH H' b = getH H b)∧getH H' nx = some (.row 62 7 .any [.agg [u8 2,i64 c,i64 pc,i64 t,i64 word,i64 put,bl true]])) (fun k => (g.w c).length - k) 0 aLess ⟨Nat.zero_le _,aNx,aKeep,aRow⟩ ?_
  rintro k H2 n ⟨hk,hn2,hf,r3⟩
  have h7:=(hf _ l7).trans h7
  by_cases hkl:k < (g.w c).length
  ·have hge:∀ x,((g.w c).map (waitAv g.ev)).getD ((k:Int)).toNat x = .agg [i64 ((g.w c).getD k 0),i64 (g.ev.getD ((g.w c).getD k 0).toNat default).thing]:=fun x => by
    rw [Int.toNat_natCast,map_getD (waitAv g.ev) 0 hkl];rfl
   have htk:(g.w c).take (k + 1) = (g.w c).take k ++ [(g.w c).getD k 0]:=by
    exact take_snoc hkl 0
   repeat' (first|((with_reducible refine Go.red ?_);conv => whnf)|refine aG ?_|exact aC|with_reducible refine Go.and ?_ ?_|(apply Go.elem;(·(first|exact hge _|exact aElem)))|refine aH ?_|((with_reducible refine Go.bool ?_ ?_) <;> intro hc <;> (try simp only [List.length_map,ne_eq,hcs] at hc) <;> try (exfalso;omega)))
   ·refine ⟨k + 1,by omega,by rw [htk,ownL_snoc,if_pos hc];exact aLess,by omega,aNx,fun b hb => Eq.trans aSkip (hf b hb),aRow⟩
   ·refine ⟨k + 1,by omega,by rw [htk,ownL_snoc,if_neg hc];exact aLess,by omega,aNx,fun b hb => Eq.trans aSkip (hf b hb),aRow⟩
  ·have hkl2:k = (g.w c).length:=by omega
   subst hkl2
   rw [List.take_length]
   repeat' (first|((with_reducible refine Go.red ?_);conv => whnf)|refine aG ?_|exact aC|with_reducible refine Go.and ?_ ?_|(apply Go.elem;(·exact aElem))|refine aH ?_|((with_reducible refine Go.bool ?_ ?_) <;> intro hc <;> (try simp only [List.length_map,ne_eq,hcs] at hc) <;> try (exfalso;omega)))
   refine Go.callN (rput_call ((h.keepN (nx':=n) (by omega) hf).keepN aNx aKeep) hn ⟨1,c,t,word,0⟩ (ownL g.ev t (g.w c) (g.l t))) ?_
   rintro _ H3 n3 ⟨rfl,hn3,h3,hfr⟩
   repeat' (first|((with_reducible refine Go.red ?_);conv => whnf)|refine aG ?_|exact aC|with_reducible refine Go.and ?_ ?_|(apply Go.elem;(·exact aElem))|refine aH ?_|((with_reducible refine Go.bool ?_ ?_) <;> intro hc <;> (try simp only [List.length_map,ne_eq,hcs] at hc) <;> try (exfalso;omega)))
   exact ⟨⟨rfl,by omega,h3.keepN aNx aKeep,fun b hb ho => Eq.trans aSkip ((hfr b (by omega) ho).trans (Eq.trans aSkip (hf b hb)))⟩⟩
end
end Go.Proofs.YtflicfkgbjmffaaGreat
end
section
/- The document's gathering: what it does behind any step. -/
namespace Go.Proofs.YtflicfkgbjmffaaGreat
open Go Go.Abs Go.Proofs V
set_option linter.unusedSimpArgs false
set_option linter.unusedVariables false
theorem WS_get (g:GS) (c:Nat):(WS g).getD c [] = (g.w c).map (waitAv g.ev):=by
 unfold WS
 simp only [GS.w,List.getD,List.getElem?_map]
 cases g.q[c]? <;> rfl
theorem WS_put {g:GS} (hq:∀ c,∀ k ∈ g.w c,k.toNat < g.ev.length) (d:Deed) (f:Int):WS (g.put d f) = WS g:=by
 unfold WS
 show g.q.map (List.map (waitAv (g.ev ++ [d]))) = _
 apply List.map_congr_left
 intro l hl
 apply List.map_congr_left
 intro k hk
 obtain ⟨c,hc,rfl⟩:=List.getElem_of_mem hl
 have h1:=hq c k (by simpa [GS.w,List.getD,hc] using hk)
 unfold waitAv
 rw [gD_app _ h1]
structure DidOk (m nc:Nat) (g:GS) (d:V.DidS):Prop where
 n:g.ev.length < 1000000
 addr:d.kind = 2 ∨ d.kind = 3 ∨ d.kind = 4 ∨ d.kind = 8→0 ≤ d.addr∧d.addr.toNat < m
 core:2 ≤ d.kind→0 ≤ d.core∧d.core.toNat < nc
 q:∀ c,∀ k ∈ g.w c,k.toNat < g.ev.length
 few:∀ c,(g.w c).length < 100000000
 aft:∀ t,(g.a t).length < 100000000
 drn:d.kind = 8→∃ k r,g.w d.core.toNat = k :: r
section
variable {m nc:Nat} {F:List Int} {g:GS} {L:RLay} {H:Hp} {nx:Nat}
theorem RDrn.of {g':GS} {W:List (List AV)} {r0 r:AV} {H':Hp} {n:Nat} (h:RPut m nc F L H nx g' W r0 r H' n):RDrn m nc F L H nx g' W r0 r H' n:=by
 obtain ⟨h1,h2,h3,h4⟩:=h
 exact ⟨h1,h2,L.qs,h3,fun y hy => .inl hy,h4⟩
theorem rdid_call (h:RRow m nc F g (WS g) L H nx) (d:V.DidS) (ok:DidOk m nc g d):CallN Tryz.prog 15 [.pt L.g 1 0 0,d.av] H nx (RDrn m nc F L H nx (g.did d) (WS (g.did d)) (.tup [])):=by
 have hqn:g.q.length = nc:=by have:=h.lq;rw [WS,List.length_map] at this;exact this
 by_cases k2:d.kind = 2
 ·refine CallN.mono (rdid_load h ok.n d k2 (ok.addr (.inl k2)) (fun _ => ⟨(ok.core (by omega)).1,(ok.core (by omega)).2,WS_get _ _,by have:=ok.few d.core.toNat;omega⟩)) fun r H' n hp => ?_
  have e:g.did d = g.put ⟨1,d.core,d.addr,d.word,0⟩ (g.seen d):=by unfold GS.did;rw [if_pos k2]
  rw [e,WS_put ok.q]
  exact RDrn.of hp
 by_cases k3:d.kind = 3
 ·refine CallN.mono (rdid_store h ok.n d k3 (ok.core (by omega)) (by rw [WS_get,List.length_map];have:=ok.few d.core.toNat;omega)) fun r H' n hp => ?_
  have e:g.did d = { g.put ⟨2,d.core,d.addr,0,d.word⟩ (-1) with q:=g.q.set d.core.toNat (g.w d.core.toNat ++ [(g.ev.length:Int)]) }:=by unfold GS.did;rw [if_neg k2,if_pos k3]
  have e2:WS (g.did d) = (WS g).set d.core.toNat ((WS g).getD d.core.toNat [] ++ [.agg [i64 g.ev.length,i64 d.addr]]):=by
   have h1:=WS_put ok.q ⟨2,d.core,d.addr,0,d.word⟩ (-1)
   rw [e,← h1,WS_get]
   unfold WS
   rw [List.map_set,List.map_append]
   show _ = List.set _ _ (List.map _ (g.w d.core.toNat) ++ _)
   congr 2
   show [waitAv (g.ev ++ [_]) g.ev.length] = _
   unfold waitAv
   rw [Int.toNat_natCast,gD_end]
  rw [e2]
  refine RDrn.of ?_
  rw [e]
  obtain ⟨p1,p2,p3,p4⟩:=hp
  exact ⟨p1,p2,⟨p3.row,p3.fi,p3.ev,p3.fr,p3.la,p3.af,p3.w,p3.lf,p3.lF,p3.laf,p3.lla,p3.lq,p3.lt,p3.nodup⟩,p4⟩
 by_cases k4:d.kind = 4
 ·refine CallN.mono (rdid_swap h ok.n d k4 (ok.addr (by omega)) (by have:=ok.aft d.addr.toNat;omega)) fun r H' n hp => ?_
  have e:g.did d = (g.put ⟨3,d.core,d.addr,d.word,d.put⟩ (g.l d.addr.toNat)).came d.addr.toNat g.ev.length:=by unfold GS.did;rw [if_neg k2,if_neg k3,if_pos k4]
  have e2:WS (g.did d) = WS g:=by
   rw [e]
   exact WS_put ok.q ⟨3,d.core,d.addr,d.word,d.put⟩ (g.l d.addr.toNat)
  rw [e2,e]
  exact RDrn.of hp
 by_cases k56:d.kind = 5 ∨ d.kind = 6
 ·refine CallN.mono (rdid_fence h ok.n d k56) fun r H' n hp => ?_
  have e:g.did d = g.put ⟨4,d.core,0,0,0⟩ (-1):=by unfold GS.did;rw [if_neg k2,if_neg k3,if_neg k4,if_pos k56]
  rw [e,WS_put ok.q]
  exact RDrn.of hp
 by_cases k8:d.kind = 8
 ·obtain ⟨k,r,hkr⟩:=ok.drn k8
  have hW:(WS g).getD d.core.toNat [] = .agg [i64 k,i64 (g.ev.getD k.toNat default).thing] :: r.map (waitAv g.ev):=by rw [WS_get,hkr];rfl
  have hfew:=ok.few d.core.toNat
  rw [hkr,List.length_cons] at hfew
  refine CallN.mono (rdid_drain h d k8 (ok.core (by omega)) (ok.addr (by omega)) (by have:=ok.aft d.addr.toNat;omega) hW (by rw [List.length_map];omega)) fun x H' n hp => ?_
  have e:g.did d = ({ g with q:=g.q.set d.core.toNat (g.w d.core.toNat).tail }).came d.addr.toNat ((g.w d.core.toNat).headD 0):=by unfold GS.did;rw [if_neg k2,if_neg k3,if_neg k4,if_neg k56,if_pos k8]
  rw [hkr] at e
  have e2:WS (g.did d) = (WS g).set d.core.toNat (r.map (waitAv g.ev)):=by
   rw [e]
   unfold WS
   rw [← List.map_set]
   rfl
  rw [e2,e]
  obtain ⟨p1,p2,qs',p3,p4,p5⟩:=hp
  exact ⟨p1,p2,qs',⟨p3.row,p3.fi,p3.ev,p3.fr,p3.la,p3.af,p3.w,p3.lf,p3.lF,p3.laf,p3.lla,p3.lq,p3.lt,p3.nodup⟩,p4,p5⟩
 ·refine CallN.mono (rdid_none h d ⟨k2,k3,k4,fun hh => k56 (.inl hh),fun hh => k56 (.inr hh),k8⟩) fun r H' n hp => ?_
  have e:g.did d = g:=by unfold GS.did;rw [if_neg k2,if_neg k3,if_neg k4,if_neg k56,if_neg k8]
  rw [e]
  exact RDrn.of hp
end
end Go.Proofs.YtflicfkgbjmffaaGreat
end
section
/- What a step answers is what the document's gathering takes. -/
namespace Go.Proofs.YtflicfkgbjmffaaGreat
open Go Go.Abs Go.Proofs V
set_option linter.unusedSimpArgs false
set_option linter.unusedVariables false
theorem GI.wLen {m nc:Nat} {F:List Int} {g:GS} {τ κ:Nat→Nat} {now:Nat} (h:GI m nc F g τ κ now) (c:Nat):(g.w c).length ≤ g.ev.length:=by
 by_cases hc:c < nc
 ·have h1:=nodup_sub (l:=g.w c) (m:=iota g.ev.length) ((h.qs c hc).imp fun hab => by omega) (fun k hk => by
   have:=h.q c hc k hk
   exact iota_mem.2 (by omega))
  simpa [iota] using h1
 ·have hl:=h.lq
  have:g.w c = []:=by simp only [GS.w,List.getD,List.getElem?_eq_none (show g.q.length ≤ c by omega)];rfl
  rw [this];exact Nat.zero_le _
theorem GI.aFew {m nc:Nat} {F:List Int} {g:GS} {τ κ:Nat→Nat} {now:Nat} (h:GI m nc F g τ κ now) (t:Nat):(g.a t).length ≤ g.ev.length:=by
 by_cases ht:t < m
 ·exact h.aLen ht
 ·have hl:=h.la
  have:g.a t = []:=by simp only [GS.a,List.getD,List.getElem?_eq_none (show g.aft.length ≤ t by omega)];rfl
  rw [this];exact Nat.zero_le _
theorem GI.wLt {m nc:Nat} {F:List Int} {g:GS} {τ κ:Nat→Nat} {now:Nat} (h:GI m nc F g τ κ now) (c:Nat):∀ k ∈ g.w c,k.toNat < g.ev.length:=by
 by_cases hc:c < nc
 ·exact fun k hk => (h.q c hc k hk).2.1
 ·have hl:=h.lq
  have:g.w c = []:=by simp only [GS.w,List.getD,List.getElem?_eq_none (show g.q.length ≤ c by omega)];rfl
  rw [this];intro k hk;cases hk
theorem did_ok {o:V.Obj} (ok:V.ObjOk o) {s:V.Mach} {g:GS} {now:Nat} (h:GM o (s,g) now) (hn:g.ev.length ≤ 64) (kind k:Int) :
  DidOk o.mem.length o.cores.length g (stepS o s kind k).2.1∧(if (stepS o s kind k).2.2 ≠ 0 then g else g.did (stepS o s kind k).2.1) = g.did (stepS o s kind k).2.1:=by
 have hd:=V.step_does h.gd ok kind k
 obtain ⟨τ,κ,gi⟩:=h.gi
 have ml:=h.ml
 dsimp only at hd gi ml
 have base:∀ d:V.DidS,d.kind < 2→DidOk o.mem.length o.cores.length g d:=fun d hk => ⟨by omega,fun hh => by omega,fun hh => by omega,gi.wLt,fun c => by have:=gi.wLen c;omega,fun t => by have:=gi.aFew t;omega,fun hh => by omega⟩
 generalize stepS o s kind k = r at *
 cases hd with
 | bad e he => exact ⟨base V.did0 (by decide),by show (if e ≠ 0 then g else g.did V.did0) = g.did V.did0;rw [show g.did V.did0 = g from rfl];split <;> rfl⟩
 | idle hk => exact ⟨base V.did0 (by decide),by rw [if_neg (by simp)]⟩
 | does q hq d s2 hd =>
  refine ⟨?_,by rw [if_neg (by simp)]⟩
  show DidOk _ _ g d
  obtain ⟨hqn,hdc⟩:=core_of ml hd
  have had:=hd.addr
  rw [ml.nm] at had
  have hcore:=hd.core
  refine ⟨by omega,fun hh => ?_,fun _ => ⟨by omega,by omega⟩,gi.wLt,fun c => by have:=gi.wLen c;omega,fun t => by have:=gi.aFew t;omega,fun k8 => ?_⟩
  ·have:=had hh;exact ⟨this.1,by omega⟩
  ·have hb:=ml.buf q hqn
   rw [hd.drain k8] at hb
   rw [hdc]
   cases hw:g.w q with
   | nil => rw [hw] at hb;simp at hb
   | cons a r => exact ⟨a,r,rfl⟩
end Go.Proofs.YtflicfkgbjmffaaGreat
end
