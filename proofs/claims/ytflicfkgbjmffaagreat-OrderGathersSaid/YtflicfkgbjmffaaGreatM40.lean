import Derived.Test.YtflicfkgbjmffaaGreatM38
import Derived.Test.YtflicfkgbjmffaaGreatM39
import Derived.Test.YtflicfkgbjmffaaGreatM36
import Derived.Test.YtflicfkgbjmffaaGreatM23
section
/- The document's Gather. -/
namespace Go.Proofs.YtflicfkgbjmffaaGreat
open Go Go.Abs Go.Proofs V
set_option linter.unusedSimpArgs false
set_option linter.unusedVariables false
theorem RRow.keepO {m nc:Nat} {F:List Int} {g:GS} {W:List (List AV)} {L:RLay} {H:Hp} {nx:Nat} (h:RRow m nc F g W L H nx) {H':Hp} {nx':Nat} (hn:nx ≤ nx') (hk:∀ b ∈ L.own,getH H' b = getH H b):RRow m nc F g W L H' nx':=by
 have hl:=h.lt
 refine ⟨?_,?_,?_,?_,?_,h.af.keep fun x hx => hk x ?_,h.w.keep fun x hx => hk x ?_,h.lf,h.lF,h.laf,h.lla,h.lq,fun b hb => Nat.lt_of_lt_of_le (hl b hb) hn,h.nodup⟩
 ·rw [hk _ (by simp [RLay.own])];exact h.row
 ·rw [hk _ (by simp [RLay.own])];exact h.fi
 ·rw [hk _ (by simp [RLay.own])];exact h.ev
 ·rw [hk _ (by simp [RLay.own])];exact h.fr
 ·rw [hk _ (by simp [RLay.own])];exact h.la
 ·simp only [RLay.own,List.mem_cons,List.mem_append] at hx ⊢;rcases hx with hx|hx <;> simp [hx]
 ·simp only [RLay.own,List.mem_cons,List.mem_append] at hx ⊢;rcases hx with hx|hx <;> simp [hx]
theorem landL_ev:∀ (l:List Int) (g:GS),(g.landL l).ev = g.ev
 | [],_ => rfl
 | k :: r,g => landL_ev r (g.land k)
theorem landTo_ev (g:GS):∀ c,(g.landTo c).ev = g.ev
 | 0 => rfl
 | c + 1 => (landL_ev _ _).trans (landTo_ev g c)
theorem land_few (g:GS) (k:Int) (t:Nat):((g.land k).a t).length ≤ (g.a t).length + 1:=by
 unfold GS.land GS.came GS.a
 by_cases h:(g.e k.toNat).thing.toNat < g.aft.length
 ·rw [gD_set h]
  split
  ·rename_i e;subst e;simp
  ·omega
 ·rw [List.set_eq_of_length_le (Nat.le_of_not_lt h)];exact Nat.le_succ _
theorem landL_few:∀ (l:List Int) (g:GS) (t:Nat),((g.landL l).a t).length ≤ (g.a t).length + l.length
 | [],_,_ => by simp [GS.landL]
 | k :: r,g,t => by
  have h1:=landL_few r (g.land k) t
  have h2:=land_few g k t
  rw [List.length_cons]
  show ((g.land k).landL r |>.a t).length ≤ _
  omega
theorem landL_next (g:GS) (l:List Int) {j:Nat} (h:j < l.length):g.landL (l.take (j + 1)) = (g.landL (l.take j)).land (l.getD j 0):=by
 unfold GS.landL
 rw [List.take_succ_eq_append_getElem h,List.foldl_append]
 simp [List.getD,h]
theorem landL_all (g:GS) (l:List Int) {j:Nat} (h:l.length ≤ j):g.landL (l.take j) = g.landL l:=by rw [List.take_of_length_le h]
def RGath (o:V.Obj) (l:List V.StepV):AV→Hp→Nat→Prop:=fun r H n => if gathE o l = 0 then ∃ (L:RLay) (g:GS) (W:List (List AV)),r = .tup [.agg [.sl L.fi o.mem.length,.sl L.ev g.ev.length,.sl L.fr g.ev.length,.sl L.af o.mem.length],i64 0]∧RRow o.mem.length o.cores.length o.mem g W L H n∧g.exec o.mem = gathX o l else r = .tup [noX,i64 (gathE o l)]
theorem DidOk.long {m nc:Nat} {g:GS} {d:V.DidS} (h:DidOk m nc g d):(g.did d).ev.length ≤ g.ev.length + 1:=by
 rw [did_len];split <;> omega
set_option maxHeartbeats 4000000 in
theorem rgather_x {o:V.Obj} (ho:o.Wf) (hb:objOk o = true) (l:List V.StepV) (hl:l.length ≤ 1048576):CallN Tryz.prog 5 [o.av,.im 2 .any (l.map V.StepV.av)] [] 0 (RGath o l):=by
 have ok:=objOk_ok hb
 have hm8:=ok.cores
 have hmm:=ok.mem
 refine Go.fnL lf5 rfl ?_
 repeat' (first|((with_reducible refine Go.red ?_);conv => whnf)|refine aG ?_|exact aC|with_reducible refine Go.and ?_ ?_|(apply Go.elem;(·exact aElem))|((with_reducible refine Go.callW (V.check_ok hb ▸ V.rcheck_pure o ho) ?_ ?_);(·exact aFit))|((with_reducible refine Go.callJ (fun _ => V.check_ok hb ▸ V.rcheck_pure o ho) ?_ ?_);(·exact aFit))|((with_reducible refine Go.callE (V.check_ok hb ▸ V.rcheck_pure o ho) ?_ ?_);(·exact aFit))|((with_reducible refine Go.callF (fun _ => V.check_ok hb ▸ V.rcheck_pure o ho) ?_ ?_);(·exact aFit))|refine aH ?_|((with_reducible refine Go.bool ?_ ?_) <;> intro hc <;> (try simp only [List.length_map,ne_eq,hcs] at hc) <;> try (exfalso;omega)))
 simp only [List.length_map,Int.toNat_natCast,Nat.zero_add]
 have er0:(List.replicate 0 (-1:Int) ++ List.replicate (o.mem.length - 0) 0).map i64 = List.replicate o.mem.length (i64 0):=by simp
 refine Go.loop (fun i:Nat => [(1,.im 2 .any (l.map V.StepV.av)),(2,.pt 0 1 0 0),(4,.pt 1 1 0 0),(9,.pt 34 1 0 0),(10,i64 i)])
  (fun i H' n => i ≤ o.mem.length∧37 ≤ n∧(∃ d,getH H' 0 = some (.row 25 5 d [o.av]))∧(∃ d,getH H' 1 = some (.row 31 4 d [noX]))∧(∃ d,getH H' 16 = some (.row 2 1 d (o.mem.map i64)))∧(∃ d,getH H' 23 = some (.row 28 1 d (List.replicate o.mem.length (.sc (.slice none 0 0))))) ∧
   (∃ d,getH H' 28 = some (.row 3 1 d ((List.replicate i (-1) ++ List.replicate (o.mem.length - i) 0).map i64)))∧(∃ d,getH H' 32 = some (.row 66 1 d (List.replicate o.cores.length (.sc (.slice none 0 0))))) ∧
   (∃ d,getH H' 34 = some (.row 54 6 d [.agg [.sl 16 o.mem.length,.sc (.slice none 0 0),.sc (.slice none 0 0),.sl 23 o.mem.length,.sl 28 o.mem.length,.sl 32 o.cores.length]]))) (fun i => o.mem.length - i) 0 aLess ⟨Nat.zero_le _,aNx,⟨_,aRow⟩,⟨_,aRow⟩,⟨_,aRow⟩,⟨_,aRow⟩,⟨_,by rw [er0];exact aRow⟩,⟨_,aRow⟩,⟨_,aRow⟩⟩ ?_
 rintro i H n ⟨hi,hn,⟨d0,r0⟩,⟨d1,r1⟩,⟨d2,r2⟩,⟨d3,r3⟩,⟨d4,r4⟩,⟨d5,r5⟩,⟨d6,r6⟩⟩
 have hlq:((List.replicate i (-1:Int) ++ List.replicate (o.mem.length - i) 0).map i64).length = o.mem.length:=by simp;omega
 by_cases him:i < o.mem.length
 ·have hge:∀ d,((List.replicate i (-1:Int) ++ List.replicate (o.mem.length - i) 0).map i64).getD ((i:Int)).toNat d = i64 ((List.replicate i (-1:Int) ++ List.replicate (o.mem.length - i) 0).getD i 0):=fun d => getD_av i64 _ _ _ (by simp;omega)
  repeat' (first|((with_reducible refine Go.red ?_);conv => whnf)|refine aG ?_|exact aC|with_reducible refine Go.and ?_ ?_|(apply Go.elem;(·(first|exact hge _|exact aElem)))|refine aH ?_|((with_reducible refine Go.bool ?_ ?_) <;> intro hc <;> (try simp only [List.length_map,ne_eq,hcs] at hc) <;> try (exfalso;omega)))
  refine ⟨i + 1,by omega,aLess,by omega,aNx,⟨_,aRow⟩,⟨_,aRow⟩,⟨_,aRow⟩,⟨_,aRow⟩,⟨_,by rw [← fill_set _ _ him,List.map_set];exact aRow⟩,⟨_,aRow⟩,⟨_,aRow⟩⟩
 ·have him2:i = o.mem.length:=by omega
  subst him2
  repeat' (first|((with_reducible refine Go.red ?_);conv => whnf)|refine aG ?_|exact aC|with_reducible refine Go.and ?_ ?_|(apply Go.elem;(·exact aElem))|refine aK (V.rnew_pure o ho ok.cores ok.mem) ?_|refine aH ?_|((with_reducible refine Go.bool ?_ ?_) <;> intro hc <;> (try simp only [List.length_map,ne_eq,hcs] at hc) <;> try (exfalso;omega)))
  rw [Nat.sub_self,List.replicate_zero,List.append_nil] at r4
  clear hlq him
  have e:gathE o l = if 64 < (atP o l l.length).2.ev.length then 3 else 0:=by rw [gathE,if_neg (by rw [hb];decide),if_neg (by omega)]
  refine Go.loopT (fun i:Nat => [(1,.im 2 .any (l.map V.StepV.av)),(4,.pt 1 1 0 0),(9,.pt 34 1 0 0),(11,.pt (n + 8) 1 0 0),(12,i64 i)])
   (fun i H' n' => i ≤ l.length∧n + 9 ≤ n'∧(atP o l i).2.ev.length ≤ 64∧(∃ d,getH H' 1 = some (.row 31 4 d [noX]))∧(∃ d,getH H' (n + 8) = some (.row 58 8 d [V.stAv o (atP o l i).1]))∧∃ L:RLay,L.g = 34∧RRow o.mem.length o.cores.length o.mem (atP o l i).2 (WS (atP o l i).2) L H' n'∧(∀ y ∈ L.own,16 ≤ y∧y ≠ n + 8)) (fun i => l.length - i) 0 aLess ?_ ?_
  ·refine rborn_to (gg:=34) (fi:=16) (af:=23) (w:=32) (la:=28) (lo:=16) aRow ⟨_,aRow⟩ aRow aRow ⟨_,aRow⟩ (fun y hy => by
    simp only [List.mem_cons,List.not_mem_nil,or_false] at hy
    omega) (by decide) (by omega) ?_
   intro H2 n2 L hn2 hR hg hLo hf
   refine ⟨Nat.zero_le _,by omega,Nat.zero_le _,⟨_,(hf 1 (by omega) (by decide) (by decide) (by decide)).trans aRow⟩,⟨_,(hf (n + 8) (by omega) (by omega) (by omega) (by omega)).trans aRow⟩,L,hg,hR,fun y hy => ?_⟩
   have:=hLo y hy
   simp only [List.mem_cons,List.not_mem_nil,or_false] at this
   omega
  ·rintro i H2 n2 ⟨hi,hn2,hev,⟨d7,r7⟩,⟨d8,r8⟩,L,hLg,hR,hLo⟩
   have hgm:=GM.at ok l i hi
   have hpr:=hgm.2
   by_cases hil:i < l.length
   ·have hpl:((atP o l i).1.prints.length + 1) * 16 ≤ 140737488355328:=by omega
    have hdo:=did_ok ok hgm.1 hev (l.getD i default).kind (l.getD i default).core
    have hnx:(atP o l (i + 1)) = ((stepS o (atP o l i).1 (l.getD i default).kind (l.getD i default).core).1,(atP o l i).2.did (stepS o (atP o l i).1 (l.getD i default).kind (l.getD i default).core).2.1):=by
     rw [atP_next hil]
     exact Prod.ext rfl hdo.2
    have hdk:DidOk o.mem.length o.cores.length (atP o l i).2 (stepS o (atP o l i).1 (l.getD i default).kind (l.getD i default).core).2.1:=hdo.1
    clear hdo
    obtain ⟨dg,rg⟩:=hR.row
    rw [hLg] at rg
    have hcall:=fun H n (h:RRow o.mem.length o.cores.length o.mem (atP o l i).2 (WS (atP o l i).2) L H n) => rdid_call h _ hdk
    rw [hLg] at hcall
    have hsp:=V.rstep_pure hgm.1.gd ok hpl (l.getD i default).kind (l.getD i default).core
    have hxd:∀ d,(l.map V.StepV.av).getD ((i:Int)).toNat d = .agg [u8 (l.getD i default).kind,i64 (l.getD i default).core]:=fun d => getD_av V.StepV.av _ _ _ hil
    generalize (stepS o (atP o l i).1 (l.getD i default).kind (l.getD i default).core) = sx at *
    repeat' (first|((with_reducible refine Go.red ?_);conv => whnf)|refine aG ?_|exact aC|with_reducible refine Go.and ?_ ?_|(apply Go.elem;(·(first|exact hxd _|exact aElem)))|refine aK (hsp) ?_|refine aH ?_|((with_reducible refine Go.bool ?_ ?_) <;> intro hc <;> (try simp only [List.length_map,ne_eq,hcs] at hc) <;> try (exfalso;omega)))
    refine Go.callN (hcall _ _ (hR.keepO aNx fun y hy => (by have h1:=hR.lt y hy;have h2:=hLo y hy;exact aSkip))) ?_
    rintro _ H3 n3 ⟨rfl,hn3,qs',hR3,hq3,hf3⟩
    have hn23:n2 ≤ n3:=Nat.le_trans aNx hn3
    have ho3:∀ y ∈ ({ L with qs:=qs' }:RLay).own,y ∈ L.own ∨ n2 ≤ y:=fun y hy => by
     simp only [RLay.own,List.mem_cons,List.mem_append] at hy ⊢
     rcases hy with h|h|h|h|h|(h|h)|h|h
     ·exact .inl (.inl h)
     ·exact .inl (.inr (.inl h))
     ·exact .inl (.inr (.inr (.inl h)))
     ·exact .inl (.inr (.inr (.inr (.inl h))))
     ·exact .inl (.inr (.inr (.inr (.inr (.inl h)))))
     ·exact .inl (.inr (.inr (.inr (.inr (.inr (.inl (.inl h)))))))
     ·exact .inl (.inr (.inr (.inr (.inr (.inr (.inl (.inr h)))))))
     ·exact .inl (.inr (.inr (.inr (.inr (.inr (.inr (.inl h)))))))
     ·rcases hq3 y h with h|h
      ·exact .inl (.inr (.inr (.inr (.inr (.inr (.inr (.inr h)))))))
      ·exact .inr (Nat.le_trans aNx h)
    obtain ⟨L3,hL3⟩:∃ L3:RLay,L3 = { L with qs:=qs' }:=⟨_,rfl⟩
    have hLg3:L3.g = 34:=by rw [hL3];exact hLg
    rw [← hL3] at hR3 ho3
    have hno:∀ b,b < 16 ∨ b = n + 8→b ∉ L.own:=fun b hb hm => by have:=hLo b hm;omega
    have l12:1 < n2:=by omega
    have l82:n + 8 < n2:=by omega
    obtain ⟨dg3,rg3⟩:=hR3.row
    rw [hLg3] at rg3
    obtain ⟨dv3,rv3⟩:=hR3.ev
    have hvl3:(((atP o l i).2.did sx.2.1).ev.map Deed.av).length = ((atP o l i).2.did sx.2.1).ev.length:=List.length_map _
    have lv3:L3.ev < n3:=hR3.lt _ (by simp [RLay.own])
    have r73:getH H3 1 = some (.row 31 4 d7 [noX]):=(hf3 1 (Nat.lt_of_lt_of_le l12 aNx) (hno 1 (by omega))).trans aRow
    have r83:getH H3 (n + 8) = some (.row 58 8 d8 [V.stAv o sx.1]):=(hf3 (n + 8) (Nat.lt_of_lt_of_le l82 aNx) (hno (n + 8) (by omega))).trans aRow
    clear hf3 hq3 hn3 rg r7 r8
    have hlen:=hdk.long
    by_cases h64:64 < ((atP o l i).2.did sx.2.1).ev.length
    ·have hm:=atP_mono o l (i:=i + 1) (l.length - (i + 1)) (by omega)
     rw [show i + 1 + (l.length - (i + 1)) = l.length by omega,hnx] at hm
     have hm2:((atP o l i).2.did sx.2.1).ev.length ≤ (atP o l l.length).2.ev.length:=hm
     repeat' (first|((with_reducible refine Go.red ?_);conv => whnf)|refine aG ?_|exact aC|with_reducible refine Go.and ?_ ?_|(apply Go.elem;(·exact aElem))|refine aH ?_|((with_reducible refine Go.bool ?_ ?_) <;> intro hc <;> (try simp only [List.length_map,ne_eq,hcs] at hc) <;> try (exfalso;omega)))
     refine ⟨?_⟩
     have e2:gathE o l = 3:=by rw [e,if_pos (by omega)]
     unfold RGath
     rw [e2,if_neg (by decide)]
     rfl
    ·repeat' (first|((with_reducible refine Go.red ?_);conv => whnf)|refine aG ?_|exact aC|with_reducible refine Go.and ?_ ?_|(apply Go.elem;(·exact aElem))|refine aH ?_|((with_reducible refine Go.bool ?_ ?_) <;> intro hc <;> (try simp only [List.length_map,ne_eq,hcs] at hc) <;> try (exfalso;omega)))
     refine ⟨i + 1,by omega,aLess,_,_,Wk.refl _ _ _,by omega,aNx,by rw [hnx];show ((atP o l i).2.did sx.2.1).ev.length ≤ 64;omega,⟨_,aRow⟩,⟨_,by rw [hnx];exact aRow⟩,L3,hLg3,by rw [hnx];exact hR3.keepN aNx aKeep,fun y hy => ?_⟩
     rcases ho3 y hy with h|h
     ·exact hLo y h
     ·exact ⟨by omega,by omega⟩
   ·have hil2:i = l.length:=by omega
    subst hil2
    obtain ⟨dg,rg⟩:=hR.row
    rw [hLg] at rg
    repeat' (first|((with_reducible refine Go.red ?_);conv => whnf)|refine aG ?_|exact aC|with_reducible refine Go.and ?_ ?_|(apply Go.elem;(·exact aElem))|refine aH ?_|((with_reducible refine Go.bool ?_ ?_) <;> intro hc <;> (try simp only [List.length_map,ne_eq,hcs] at hc) <;> try (exfalso;omega)))
    obtain ⟨τ,κ,gi⟩:=hgm.1.gi
    have gi:=gi
    generalize hG:(atP o l l.length).2 = G at *
    have hgq:G.q.length = o.cores.length:=gi.lq
    have hend:=gathX_land o l (by rw [hG];exact hgq)
    rw [hG] at hend
    have hrow1:∀ y,y < 16→y ∉ L.own:=fun y hy hm => by have:=hLo y hm;omega
    refine Go.loop (fun k:Nat => [(4,.pt 1 1 0 0),(9,.pt 34 1 0 0),(16,i64 k)])
     (fun k H' n' => k ≤ o.cores.length∧n + 9 ≤ n'∧(∃ d,getH H' 1 = some (.row 31 4 d [noX]))∧RRow o.mem.length o.cores.length o.mem (G.landTo k) (WS G) L H' n') (fun k => o.cores.length - k) 0 aLess ⟨Nat.zero_le _,aNx,⟨_,aRow⟩,hR.keepN aNx aKeep⟩ ?_
    clear rg r7 r8 hR
    rintro k H3 n3 ⟨hk,hn3,⟨d9,r9⟩,hR⟩
    obtain ⟨dg,rg⟩:=hR.row
    rw [hLg] at rg
    obtain ⟨dq,rq⟩:=hR.w.row
    have lq:L.q < n3:=hR.lt _ (by simp [RLay.own])
    have hql:(qRow L.qs (WS G)).length = o.cores.length:=by rw [hR.w.len,WS,List.length_map,hgq]
    by_cases hkl:k < o.cores.length
    ·have hkW:k < (WS G).length:=by rw [WS,List.length_map,hgq];exact hkl
     have hws:∀ v ∈ G.w k,0 ≤ v∧0 ≤ (G.e v.toNat).thing∧(G.e v.toNat).thing.toNat < o.mem.length:=fun v hv => by
      obtain ⟨h1,h2,h3,_⟩:=gi.q k hkl v hv
      have h4:=evOk_spec (gi.ev _ h2)
      have h5:(G.e v.toNat).kind ≠ 4:=fun h => by
       unfold Deed.wr at h3
       rw [h] at h3;revert h3;decide
      have h6:=h4.2.2.2.2.2.2.2 h5
      exact ⟨h1,h6.1,by omega⟩
     have hwl:(WS G).getD k [] = (G.w k).map (waitAv G.ev):=WS_get G k
     have hfew:(G.w k).length ≤ 64:=Nat.le_trans (gi.wLen k) hev
     have hafew:∀ t,((G.landTo k).a t).length ≤ 64:=fun t => by
      obtain ⟨s2,now2,⟨_,⟨τ2,κ2,gi2⟩,_⟩,_,he2⟩:=finTo_gm ok (s:=(atP o l l.length).1) (g:=G) (by rw [← hG];exact hgm.1) k hk
      have h1:=(finTo_land G k (by omega)).1.aft
      have h2:=gi2.aFew t
      have h3:(G.landTo k).a t = (G.finTo k).a t:=by unfold GS.a;rw [h1]
      have he2:(G.finTo k).ev = G.ev:=he2
      rw [h3]
      have h2:((G.finTo k).a t).length ≤ (G.finTo k).ev.length:=h2
      rw [he2] at h2
      omega
     repeat' (first|((with_reducible refine Go.red ?_);conv => whnf)|refine aG ?_|exact aC|with_reducible refine Go.and ?_ ?_|(apply Go.elem;(·exact aElem))|refine aH ?_|((with_reducible refine Go.bool ?_ ?_) <;> intro hc <;> (try simp only [List.length_map,ne_eq,hcs] at hc) <;> try (exfalso;omega)))
     refine Go.loop (fun j:Nat => [(4,.pt 1 1 0 0),(9,.pt 34 1 0 0),(16,i64 k),(17,i64 j)])
      (fun j H' n' => j ≤ (G.w k).length∧n + 9 ≤ n'∧(∃ d,getH H' 1 = some (.row 31 4 d [noX]))∧RRow o.mem.length o.cores.length o.mem ((G.landTo k).landL ((G.w k).take j)) (WS G) L H' n') (fun j => (G.w k).length - j) 0 aLess ⟨Nat.zero_le _,aNx,⟨_,aRow⟩,hR.keepN aNx aKeep⟩ ?_
     clear rg r9 hR rq
     rintro j H4 n4 ⟨hj,hn4,⟨d9,r9⟩,hR⟩
     obtain ⟨dg,rg⟩:=hR.row
     rw [hLg] at rg
     obtain ⟨dq,rq⟩:=hR.w.row
     have lq4:L.q < n4:=hR.lt _ (by simp [RLay.own])
     obtain ⟨ds,rs⟩:=hR.w.qs k hkW
     have hgk:=hR.w.get hkW
     rw [hwl] at rs hgk
     have hqm:L.qs.getD k 0 ∈ L.qs:=getD_mem (by rw [hR.w.lens];exact hkW)
     have ls4:L.qs.getD k 0 < n4:=hR.lt _ (by simp only [RLay.own,List.mem_cons,List.mem_append];exact .inr (.inr (.inr (.inr (.inr (.inr (.inr hqm)))))))
     have hwml:((G.w k).map (waitAv G.ev)).length = (G.w k).length:=List.length_map _
     by_cases hjl:j < (G.w k).length
     ·have hel:∀ d,((G.w k).map (waitAv G.ev)).getD ((j:Int)).toNat d = .agg [i64 ((G.w k).getD j 0),i64 (G.e ((G.w k).getD j 0).toNat).thing]:=fun d => getD_av (waitAv G.ev) _ _ _ hjl
      have hvm:(G.w k).getD j 0 ∈ G.w k:=by rw [List.getD,List.getElem?_eq_getElem hjl];exact List.getElem_mem hjl
      obtain ⟨hv0,ht0,ht1⟩:=hws _ hvm
      obtain ⟨t,ht⟩:∃ t:Nat,(G.e ((G.w k).getD j 0).toNat).thing = t:=⟨_,(Int.toNat_of_nonneg ht0).symm⟩
      rw [ht] at hel ht1
      rw [Int.toNat_natCast] at ht1
      have hxe:((G.landTo k).landL ((G.w k).take j)).ev = G.ev:=(landL_ev _ _).trans (landTo_ev G k)
      have hfew2:((((G.landTo k).landL ((G.w k).take j))).a t).length < 1000000000:=by
       have h1:=landL_few ((G.w k).take j) (G.landTo k) t
       have h2:=hafew t
       have h3:((G.w k).take j).length ≤ (G.w k).length:=by rw [List.length_take];omega
       omega
      have hcall:=fun H n (h:RRow o.mem.length o.cores.length o.mem ((G.landTo k).landL ((G.w k).take j)) (WS G) L H n) => rlands_call h ht1 ((G.w k).getD j 0) hfew2
      rw [hLg] at hcall
      have hland:((G.landTo k).landL ((G.w k).take j)).came t ((G.w k).getD j 0) = (G.landTo k).landL ((G.w k).take (j + 1)):=by
       rw [landL_next _ _ hjl]
       generalize hX:(G.landTo k).landL ((G.w k).take j) = X at hxe ⊢
       unfold GS.land
       rw [show X.e ((G.w k).getD j 0).toNat = G.e ((G.w k).getD j 0).toNat by unfold GS.e;rw [hxe],ht,Int.toNat_natCast]
      rw [hland] at hcall
      repeat' (first|((with_reducible refine Go.red ?_);conv => whnf)|refine aG ?_|exact aC|with_reducible refine Go.and ?_ ?_|(apply Go.elem;(·(first|exact hgk _|exact hel _|exact aElem)))|refine aH ?_|((with_reducible refine Go.bool ?_ ?_) <;> intro hc <;> (try simp only [List.length_map,ne_eq,hcs] at hc) <;> try (exfalso;omega)))
      refine Go.callN (hcall _ _ (hR.keepN aNx aKeep)) ?_
      rintro _ H5 n5 ⟨rfl,hn5,hR5,hf5⟩
      have l14:1 < n4:=by omega
      have r95:getH H5 1 = some (.row 31 4 d9 [noX]):=(hf5 1 (Nat.lt_of_lt_of_le l14 aNx) (hrow1 1 (by omega))).trans aRow
      have hn45:n4 ≤ n5:=Nat.le_trans aNx hn5
      clear hf5 hn5
      repeat' (first|((with_reducible refine Go.red ?_);conv => whnf)|refine aG ?_|exact aC|with_reducible refine Go.and ?_ ?_|(apply Go.elem;(·exact aElem))|refine aH ?_|((with_reducible refine Go.bool ?_ ?_) <;> intro hc <;> (try simp only [List.length_map,ne_eq,hcs] at hc) <;> try (exfalso;omega)))
      exact ⟨j + 1,by omega,aLess,by omega,aNx,⟨_,aRow⟩,hR5.keepN aNx aKeep⟩
     ·repeat' (first|((with_reducible refine Go.red ?_);conv => whnf)|refine aG ?_|exact aC|with_reducible refine Go.and ?_ ?_|(apply Go.elem;(·(first|exact hgk _|exact aElem)))|refine aH ?_|((with_reducible refine Go.bool ?_ ?_) <;> intro hc <;> (try simp only [List.length_map,ne_eq,hcs] at hc) <;> try (exfalso;omega)))
      have hR:=hR
      rw [landL_all (G.landTo k) (G.w k) (j:=j) (by omega),show (G.landTo k).landL (G.w k) = G.landTo (k + 1) from rfl] at hR
      exact ⟨k + 1,by omega,aLess,by omega,aNx,⟨_,aRow⟩,hR.keepN aNx aKeep⟩
    ·have hkn:k = o.cores.length:=by omega
     subst hkn
     repeat' (first|((with_reducible refine Go.red ?_);conv => whnf)|refine aG ?_|exact aC|with_reducible refine Go.and ?_ ?_|(apply Go.elem;(·exact aElem))|refine aH ?_|((with_reducible refine Go.bool ?_ ?_) <;> intro hc <;> (try simp only [List.length_map,ne_eq,hcs] at hc) <;> try (exfalso;omega)))
     refine ⟨?_⟩
     have e2:gathE o l = 0:=by rw [e,if_neg (by omega)]
     unfold RGath
     rw [e2,if_pos rfl]
     exact ⟨L,_,_,rfl,hR.keepO aNx fun y hy => (by have:=hLo y hy;have:=hR.lt y hy;exact aSkip),hend.symm⟩
end Go.Proofs.YtflicfkgbjmffaaGreat
end
section
/- The reference's Copy of the gathering's own rows, and its Same. -/
namespace Go.Proofs.YtflicfkgbjmffaaGreat
open Go Go.Abs Go.Proofs V
set_option linter.unusedSimpArgs false
set_option linter.unusedVariables false
set_option maxHeartbeats 2000000 in
theorem wordsEq_pure (l m:List Int) (hl:l.length * 8 ≤ 140737488351232) (hm:m.length * 8 ≤ 140737488351232):Pure Tryz.prog 18 [imI l,imI m] (fun r => r = bl (decide (l = m))):=by
 refine Go.pureL lf18 rfl ?_
 repeat' (first|((with_reducible refine Go.red ?_);conv => whnf)|refine aG ?_|exact aC|with_reducible refine Go.and ?_ ?_|(apply Go.elem;(·(first|exact int_get|exact aElem)))|refine aH ?_|((with_reducible refine Go.bool ?_ ?_) <;> intro hc <;> (try simp only [List.length_map,ne_eq,hcs] at hc) <;> try (exfalso;omega)))
 ·refine bl_eq (Eq.symm ?_)
  exact decide_eq_false fun e => hc (by rw [e])
 ·have hlm:l.length = m.length:=by omega
  refine Go.loop (fun i:Nat => [(0,imI l),(1,imI m),(5,i64 i)])
   (fun i H n => i ≤ l.length∧∀ j,j < i→l.getD j 0 = m.getD j 0) (fun i => l.length - i) 0 aLess ⟨Nat.zero_le _,fun _ h => by omega⟩ ?_
  rintro i H n ⟨hi,hall⟩
  by_cases hil:i < l.length
  ·repeat' (first|((with_reducible refine Go.red ?_);conv => whnf)|refine aG ?_|exact aC|with_reducible refine Go.and ?_ ?_|(apply Go.elem;(·(first|exact int_get|exact aElem)))|(simp only [Int.toNat_natCast])|refine aH ?_|((with_reducible refine Go.bool ?_ ?_) <;> intro hc <;> (try simp only [List.length_map,ne_eq,hcs] at hc) <;> try (exfalso;omega)))
   ·refine bl_eq (Eq.symm ?_)
    exact decide_eq_false fun e => hc (by rw [e])
   ·refine ⟨i + 1,by omega,aLess,by omega,fun j hj => ?_⟩
    by_cases hji:j = i
    ·subst hji;exact hc
    ·exact hall j (by omega)
  ·have:i = l.length:=by omega
   subst this
   repeat' (first|((with_reducible refine Go.red ?_);conv => whnf)|refine aG ?_|exact aC|with_reducible refine Go.and ?_ ?_|(apply Go.elem;(·(first|exact int_get|exact aElem)))|refine aH ?_|((with_reducible refine Go.bool ?_ ?_) <;> intro hc <;> (try simp only [List.length_map,ne_eq,hcs] at hc) <;> try (exfalso;omega)))
   refine bl_eq (Eq.symm ?_)
   refine decide_eq_true (List.ext_getElem hlm fun j h1 h2 => ?_)
   have:=hall j h1
   simpa [List.getD,h1,h2] using this
theorem ext_getD {α:Type} {l m:List α} (d:α) (hl:l.length = m.length) (h:∀ j,j < l.length→l.getD j d = m.getD j d):l = m :=
 List.ext_getElem hl fun j h1 h2 => by have:=h j h1;simpa [List.getD,h1,h2] using this
set_option maxHeartbeats 4000000 in
theorem same_pure (x y:Exec) (hx:x.Wf) (hy:y.Wf):Pure Tryz.prog 6 [x.av,y.av] (fun r => r = bl (decide (x = y))):=by
 refine Go.pureL lf6 rfl ?_
 have hI:=ints_pure x.frm y.frm hx.frmlen hy.frmlen
 have hW:=wordsEq_pure x.first y.first hx.firstlen hy.firstlen
 have x1:=hx.eventslen
 have x2:=hx.afterlen
 have y1:=hy.eventslen
 have y2:=hy.afterlen
 repeat' (first|((with_reducible refine Go.red ?_);conv => whnf)|refine aG ?_|exact aCn|with_reducible refine Go.and ?_ ?_|((with_reducible refine Ask.mk ?_);first|exact aAsk|exact aAsk2|(intro h;simp_all [Exec.cells,Deed.cells] <;> fail)|(simp_all [Exec.cells,Deed.cells] <;> fail))|(apply Go.elem;(·(first|exact ev_get|exact lst_get|exact aElem)))|refine aK (hI) ?_|refine aK (hW) ?_|refine aH ?_|((with_reducible refine Go.bool ?_ ?_) <;> intro hc <;> (try simp only [List.length_map,ne_eq,hcs] at hc) <;> try (exfalso;omega)))
 ·refine bl_eq (Eq.symm (decide_eq_false ?_))
  rintro rfl
  simp at hc
 have hne:x.events.length = y.events.length∧x.after.length = y.after.length∧x.frm = y.frm∧x.first = y.first:=by
  obtain ⟨h1,h2⟩:=hc
  refine ⟨?_,?_,?_,h2⟩
  ·exact Decidable.byContradiction fun h => h1 (.inl (.inl (by omega)))
  ·exact Decidable.byContradiction fun h => h1 (.inl (.inr (by omega)))
  ·exact Decidable.byContradiction fun h => h1 (.inr h)
 obtain ⟨e1,e2,e3,e4⟩:=hne
 refine Go.loop (fun i:Nat => [(2,.pt 0 1 0 0),(3,.pt 1 1 0 0),(5,i64 i)])
  (fun i H n => i ≤ x.events.length∧2 ≤ n∧getH H 0 = some (.row 31 4 .any [x.av])∧getH H 1 = some (.row 31 4 .any [y.av])∧∀ j,j < i→x.ev j = y.ev j) (fun i => x.events.length - i) 0 aLess ⟨Nat.zero_le _,aNx,aRow,aRow,fun _ h => by omega⟩ ?_
 rintro i H n ⟨hi,hn,r0,r1,hall⟩
 by_cases hil:i < x.events.length
 ·repeat' (first|((with_reducible refine Go.red ?_);conv => whnf)|refine aG ?_|exact aCn|with_reducible refine Go.and ?_ ?_|((with_reducible refine Ask.mk ?_);first|exact aAsk|exact aAsk2|(intro h;simp_all [Exec.cells,Deed.cells] <;> fail)|(simp_all [Exec.cells,Deed.cells] <;> fail))|(apply Go.elem;(·(first|exact ev_get|exact aElem)))|refine aH ?_|((with_reducible refine Go.bool ?_ ?_) <;> intro hc <;> (try simp only [List.length_map,ne_eq,hcs] at hc) <;> try (exfalso;omega)))
  ·refine bl_eq (Eq.symm (decide_eq_false ?_))
   rintro rfl
   simp at hc
  ·refine ⟨i + 1,by omega,aLess,by omega,aNx,aRow,aRow,fun j hj => ?_⟩
   by_cases hji:j = i
   ·subst hji
    generalize x.ev j = p at *
    generalize y.ev j = q at *
    cases p;cases q
    simp only [Deed.mk.injEq] at *
    exact ⟨hc.1,hc.2.1,hc.2.2.1,hc.2.2.2.1,hc.2.2.2.2.1⟩
   ·exact hall j (by omega)
 ·have hil:i = x.events.length:=by omega
  subst hil
  have hev:x.events = y.events:=ext_getD default e1 hall
  repeat' (first|((with_reducible refine Go.red ?_);conv => whnf)|refine aG ?_|exact aCn|with_reducible refine Go.and ?_ ?_|((with_reducible refine Ask.mk ?_);first|exact aAsk|exact aAsk2|(intro h;simp_all [Exec.cells] <;> fail)|(simp_all [Exec.cells] <;> fail))|(apply Go.elem;(·(first|exact lst_get|exact aElem)))|refine aH ?_|((with_reducible refine Go.bool ?_ ?_) <;> intro hc <;> (try simp only [List.length_map,ne_eq,hcs] at hc) <;> try (exfalso;omega)))
  refine Go.loop (fun i:Nat => [(2,.pt 0 1 0 0),(3,.pt 1 1 0 0),(6,i64 i)])
   (fun i H n => i ≤ x.after.length∧2 ≤ n∧getH H 0 = some (.row 31 4 .any [x.av])∧getH H 1 = some (.row 31 4 .any [y.av])∧∀ j,j < i→x.af j = y.af j) (fun i => x.after.length - i) 0 aLess ⟨Nat.zero_le _,aNx,aRow,aRow,fun _ h => by omega⟩ ?_
  rintro i H n ⟨hi,hn,r0,r1,hall2⟩
  by_cases hil:i < x.after.length
  ·have hI2:=ints_pure (x.af i) (y.af i) (af_len hx i) (af_len hy i)
   repeat' (first|((with_reducible refine Go.red ?_);conv => whnf)|refine aG ?_|exact aCn|with_reducible refine Go.and ?_ ?_|((with_reducible refine Ask.mk ?_);first|exact aAsk|exact aAsk2|(intro h;simp_all [Exec.cells] <;> fail)|(simp_all [Exec.cells] <;> fail))|(apply Go.elem;(·(first|exact lst_get|exact aElem)))|((refine Go.callE hI2 ?_ ?_);(·exact aFit))|((refine Go.callW hI2 ?_ ?_);(·exact aFit))|refine aH ?_|((with_reducible refine Go.bool ?_ ?_) <;> intro hc <;> (try simp only [List.length_map,ne_eq,hcs] at hc) <;> try (exfalso;omega)))
   ·refine bl_eq (Eq.symm (decide_eq_false ?_))
    rintro rfl
    exact hc rfl
   ·refine ⟨i + 1,by omega,aLess,by omega,aNx,aRow,aRow,fun j hj => ?_⟩
    by_cases hji:j = i
    ·subst hji;exact hc
    ·exact hall2 j (by omega)
  ·have hil:i = x.after.length:=by omega
   subst hil
   have haf:x.after = y.after:=ext_getD [] e2 hall2
   repeat' (first|((with_reducible refine Go.red ?_);conv => whnf)|refine aG ?_|exact aCn|with_reducible refine Go.and ?_ ?_|((with_reducible refine Ask.mk ?_);first|exact aAsk|exact aAsk2|(intro h;simp_all [Exec.cells] <;> fail)|(simp_all [Exec.cells] <;> fail))|(apply Go.elem;(·exact aElem))|refine aH ?_|((with_reducible refine Go.bool ?_ ?_) <;> intro hc <;> (try simp only [List.length_map,ne_eq,hcs] at hc) <;> try (exfalso;omega)))
   refine bl_eq (Eq.symm (decide_eq_true ?_))
   cases x;cases y
   simp only at *
   subst hev;subst haf;subst e3;subst e4
   rfl
end Go.Proofs.YtflicfkgbjmffaaGreat
end
section
/- The document's Gather is the program's: the walk of the law. -/
namespace Go.Proofs.YtflicfkgbjmffaaGreat
open Go Go.Abs Go.Proofs V
set_option linter.unusedSimpArgs false
set_option linter.unusedVariables false
theorem exec_frz {m nc:Nat} {F:List Int} {g:GS} {W:List (List AV)} {L:RLay} {H:Hp} {nx:Nat} (hG:RRow m nc F g W L H nx):(AV.agg [Abs.frz H 4 (.sl L.fi m),Abs.frz H 4 (.sl L.ev g.ev.length),Abs.frz H 4 (.sl L.fr g.ev.length),Abs.frz H 4 (.sl L.af m)]) = (g.exec F).fz:=by
 obtain ⟨d1,h1⟩:=hG.fi
 obtain ⟨d2,h2⟩:=hG.ev
 obtain ⟨d3,h3⟩:=hG.fr
 obtain ⟨d4,h4⟩:=hG.af.row
 have hrow:(qRow L.afs (SI g.aft)).map (Abs.frz H 3) = g.aft.map imF:=by
  apply List.ext_getElem
  ·rw [List.length_map,hG.af.len,SI_len,List.length_map]
  ·intro i p1 p2
   have hi:i < g.aft.length:=by simpa using p2
   obtain ⟨d5,h5⟩:=SI_at hG.af hi
   have e1:=SI_row hG.af hi .any
   have hi2:i < (qRow L.afs (SI g.aft)).length:=by rw [hG.af.len,SI_len];exact hi
   have e2:(qRow L.afs (SI g.aft))[i] = (qRow L.afs (SI g.aft)).getD i .any:=by simp [List.getD,hi2]
   have e3:g.aft[i] = g.aft.getD i []:=by simp [List.getD,hi]
   rw [List.getElem_map,List.getElem_map,e2,e1,e3,frz_sl h5 (by simp),frz_same _ ((fitL_map _ _).2 fun _ _ => by simp [fitA])]
   rfl
 rw [frz_sl h1 (by rw [List.length_map,hG.lF]),frz_sl h2 (by simp),frz_sl h3 (by rw [List.length_map,hG.lf]),frz_sl h4 (by rw [hG.af.len,SI_len,hG.laf]),hrow,frz_same _ ((fitL_map _ _).2 fun _ _ => by simp [fitA]),frz_same _ ((fitL_map _ _).2 fun _ _ => by simp [fitA,Deed.cells,fitL]),frz_same _ ((fitL_map _ _).2 fun _ _ => by simp [fitA])]
 rfl
theorem rgather_frz {o:V.Obj} (ho:o.Wf) (l:List V.StepV):Pure Tryz.prog 5 [o.av,.im 2 .any (l.map V.StepV.av)] (fun r => r = if gathE o l = 0 then .tup [(gathX o l).fz,i64 0] else .tup [noX,i64 (gathE o l)]):=by
 cases hok:objOk o with
 | false =>
  have e:gathE o l = 160:=by rw [gathE,if_pos hok]
  rw [e,if_neg (by decide)]
  exact rgather_bad ho hok l
 | true =>
  by_cases hl:1048576 < l.length
  ·have e:gathE o l = 3:=by rw [gathE,if_neg (by rw [hok];decide),if_pos hl]
   rw [e,if_neg (by decide)]
   exact rgather_many ho hok l hl
  ·refine pure_of_call ((rgather_x ho hok l (by omega)).mono ?_) ?_
   ·rintro r H n hr
    unfold RGath at hr
    by_cases he:gathE o l = 0
    ·rw [if_pos he] at hr ⊢
     obtain ⟨L,g,W,rfl,hG,hx⟩:=hr
     show AV.tup [AV.agg [Abs.frz H 4 (.sl L.fi _),Abs.frz H 4 (.sl L.ev _),Abs.frz H 4 (.sl L.fr _),Abs.frz H 4 (.sl L.af _)],Abs.frz H 5 (i64 0)] = _
     rw [exec_frz hG,hx,frz_sc]
    ·rw [if_neg he] at hr ⊢
     subst hr
     rfl
   ·split
    ·simp [fitA,fitL]
    ·simp [fitA,fitL]
def x0:Exec:=⟨[],[],[],[]⟩
theorem x0_wf:x0.Wf:=by
 constructor <;> first|decide|(intro i hi;simp [x0] at hi)|simp [x0]
theorem x0_le (c:Cx):AVle c c noX x0.av :=
 AVle.agg (.cons (Abs.AVle.nilIm c c _ _) (.cons (Abs.AVle.nilIm c c _ _) (.cons (Abs.AVle.nilIm c c _ _) (.cons (Abs.AVle.nilIm c c _ _) .nil))))
set_option maxHeartbeats 4000000 in
theorem gathers_pure {o:V.Obj} (ho:o.Wf) (l:List V.StepV):Abs.Pure Tryz.prog 3 [o.av,.im 2 .any (l.map V.StepV.av)] (fun r => r = bl true):=by
 have h1:=gather_frz ho l
 have h2:=rgather_frz ho l
 refine Go.pureL lf3 rfl ?_
 by_cases he:gathE o l = 0
 ·rw [if_pos he] at h1 h2
  have hx:=gath_wf ho l he
  have h1:=weak_pure h1 (b:=.tup [(gathX o l).av,i64 0]) (by simp [fitA,fitL]) (fun c => AVle.tup (.cons (le_fz c _) (.cons (fun _ hv => hv) .nil)))
  have h2:=weak_pure h2 (b:=.tup [(gathX o l).av,i64 0]) (by simp [fitA,fitL]) (fun c => AVle.tup (.cons (le_fz c _) (.cons (fun _ hv => hv) .nil)))
  have hs:=same_pure (gathX o l) (gathX o l) hx hx
  rw [decide_eq_true rfl] at hs
  repeat' (first|((with_reducible refine Go.red ?_);conv => whnf)|refine aG ?_|exact aCn|with_reducible refine Go.and ?_ ?_|((with_reducible refine Ask.mk ?_);first|exact aAsk|exact aAsk2|(intro h;simp_all [Exec.cells] <;> fail)|(simp_all [Exec.cells] <;> fail))|(apply Go.elem;(·exact aElem))|refine aK (begins_pure) ?_|refine aK (h1) ?_|refine aK (h2) ?_|refine aK (hs) ?_|refine aH ?_|((with_reducible refine Go.bool ?_ ?_) <;> intro hc <;> (try simp only [List.length_map,ne_eq,hcs] at hc) <;> try (exfalso;omega)))
  exact rfl
 ·rw [if_neg he] at h1 h2
  have hs:=(same_pure x0 x0 x0_wf x0_wf).args (bs:=[noX,noX]) (fun c => .cons (x0_le c) (.cons (x0_le c) .nil))
  rw [show decide (x0 = x0) = true from decide_eq_true rfl] at hs
  generalize gathE o l = E at *
  repeat' (first|((with_reducible refine Go.red ?_);conv => whnf)|refine aG ?_|exact aC|with_reducible refine Go.and ?_ ?_|(apply Go.elem;(·exact aElem))|refine aK (begins_pure) ?_|refine aK (h1) ?_|refine aK (h2) ?_|refine aK (hs) ?_|refine aH ?_|((with_reducible refine Go.bool ?_ ?_) <;> intro hc <;> (try simp only [List.length_map,ne_eq,hcs] at hc) <;> try (exfalso;omega)))
  rw [decide_eq_true (rfl:E = E)]
  rfl
end Go.Proofs.YtflicfkgbjmffaaGreat
end
section
/- The program's Gather answers as the document's: for every object and every list of steps. No conditions. -/
namespace Go.Proofs.YtflicfkgbjmffaaGreat
open Go Go.Abs Go.Proofs Go.RowKit Go.ChangeShapes Go.WideShapes Go.ChangeAt V
set_option linter.unusedSimpArgs false
set_option linter.unusedVariables false
set_option maxRecDepth 100000 in
theorem orderGathers_lifted (os:Os) (started:os.Started) (H:Type) (enc:TypeId × Value→H) :
  ReturnsInHanded {} Tryz.checked os 3 .any (Rows.orderGathersSpec.pre6 enc Tryz.prog Tryz.f3 Rows.orderGathersRow.domain false) (Rows.orderGathersSpec.post enc Tryz.prog Tryz.f3 false true false false):=by
 refine returnsInHanded_of_change_sized (C:=Tryz.checked) own started (by kernel_rfl) Tryz.func3
  (ChangeSpec.witness6 (enc:=enc) (C:=Tryz.checked) false ⟨#[],#[.agg #[.slice none 0 0,.int .i64 0,.int .i64 0,.int .i64 0,.slice none 0 0],.slice none 0 0],[]⟩ 8 (by kernel_rfl) (by kernel_rfl) (by kernel_rfl) (by kernel_rfl)) ?_
 intro W base args ds gs before hval hW _ hr _
 refine law_contract (ts:=[25,26]) (tb:=4) laidOut (by kernel_rfl) rfl Tryz.underlying4 (by kernel_rfl) (fun ds h => ?_) (fun t ht => ?_)
  (opensAll_cons (ag:=true) (by kernel_rfl) opens_obj (fun h => by cases h) (opensAll_cons (ag:=false) (by kernel_rfl) opens_steps (fun _ _ _ => rfl) opensAll_nil))
  (fun a h => ?_) hval hW hr
 ·match ds,h with
  | [d0,d1],_ => rfl
 ·have:∀ t ∈ [25,26],Tryz.prog.readableRec t = true∧t < Tryz.prog.types.size:=by
   simp only [List.forall_mem_cons]
   refine ⟨⟨by kernel_rfl,of_decide_eq_true (by kernel_rfl)⟩,⟨by kernel_rfl,of_decide_eq_true (by kernel_rfl)⟩,by simp⟩
  exact this t ht
 ·exact gathers_pure h.1 a.2.1
theorem orderGathers_holds:Rows.OrderGathersSaid :=
 OpenClaim.holds_of_wide 3 Tryz.f3 rfl rfl rfl rfl rfl rfl rfl ⟨rfl,rfl,rfl,rfl,rfl⟩ rfl rfl rfl rfl rfl (by kernel_rfl) Tryz.func3 (by kernel_rfl)
  (of_decide_eq_true (by kernel_rfl)) (by unfold Func.isWrapper;first|(rw [if_pos (by decide +kernel)];kernel_rfl)|(rw [if_neg (by decide +kernel)];exact ⟨rfl,rfl⟩))
  (fun os started H enc _ => orderGathers_lifted os started H enc)
end Go.Proofs.YtflicfkgbjmffaaGreat
end
