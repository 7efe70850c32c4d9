import Derived.Test.YtmonponfppdgfaaGreatDoorM37
import Derived.Test.YtmonponfppdgfaaGreatDoorM39
import Derived.Test.YtmonponfppdgfaaGreatDoorM38
import Derived.Test.YtmonponfppdgfaaGreatDoorM36
section
/- A thread without what can be left out: the walk. -/
namespace Go.Proofs.YtmonponfppdgfaaGreatDoor
open Go Go.Abs Go.Proofs
set_option linter.unusedSimpArgs false
set_option linter.unusedVariables false
abbrev natI (l:List Nat):List AV:=l.map fun (i:Nat) => i64 (i:Int)
theorem nats_app (l:List Nat) (k:Nat):natI l ++ [i64 (k:Int)] = natI (l ++ [k]):=by simp [natI]
theorem nat_at {l:List Nat} {i:Nat} (h:i < l.length) (d:AV):(natI l).getD ((i:Int)).toNat d = i64 (l.getD i 0:Nat):=by
 rw [Int.toNat_natCast];exact getD_av (fun (i:Nat) => i64 (i:Int)) l i d h
noncomputable def lookG0:AV:=.agg [.sc (.string ⟨#[]⟩),i64 0,i64 0,.sc (.slice none 0 0)]
set_option maxRecDepth 4000 in
set_option maxHeartbeats 8000000 in
theorem once_call (u:UnitS) (g:Graph) (hg:g.Wf) (hk:GraphOk u g) (t:Nat) (cls:List ClassV) (hcl:cls.length = u.shared.length) (hcl64:cls.length ≤ 64) (H:Hp) (nx:Nat) :
 CallN Tryz.prog 29 [lookX g t cls] H nx (fun r H2 n2 => ∃ b d,r = .agg [st g.name,i64 g.locals,i64 g.slots,.sl b (onceG g cls t).nodes.length]∧nx ≤ b∧b < n2∧getH H2 b = some (.row 46 13 d ((onceG g cls t).nodes.map Node.av))∧∀ y,y < nx→getH H2 y = getH H y):=by
 have hl:=hg.len
 have hw:=hk.whole
 have hk0:=hk
 have hl0:=hw.1
 have hl1:=hw.2.1
 have hil:=idleL_len g cls t
 have hends:Ends (idleL g cls t) g:=ends_idle _ _
 have hinx:∀ j,tf (idleL g cls t) j = true→0 ≤ (g.nd j).next∧(g.nd j).next < (idleL g cls t).length:=fun j hj => by
  rw [hil];exact such_next hk (idleOf_get.1 hj).1
 have hh0:heir (idleL g cls t) g 0 < g.nodes.length:=heir_ind hends (P:=fun i => i < g.nodes.length) (fun i hi _ => by have:=hinx i hi;rw [hil] at this;show (g.nd i).next.toNat < _;omega) (by omega)
 unfold onceG
 have hhc:=fun b H nx d hb hbn => heirs_call g hg t cls (idleL g cls t) hil (by omega) hends hinx b H nx d hb hbn
 simp only [hil] at hhc
 generalize hid:idleL g cls t = out at *
 refine Go.fnL lf29 rfl ?_
 repeat' (first|((with_reducible refine Go.red ?_);conv => whnf)|refine aG ?_|exact aCn|with_reducible refine Go.and ?_ ?_|((with_reducible refine Ask.mk ?_);first|exact aAsk|exact aAsk2|(intro h;simp_all [lookCells] <;> fail)|(simp_all [lookCells] <;> fail))|(apply Go.elem;(·exact aElem))|refine aH ?_|((with_reducible refine Go.bool ?_ ?_) <;> intro hc <;> (try simp only [List.length_map,ne_eq,hcs] at hc) <;> try (exfalso;omega)))
 refine Go.callN (idle_call u g hg hk t cls hcl hcl64 _ _) ?_
 rintro _ H1 n1 ⟨bi,di,rfl,hb1,hb2,ri,hk1⟩
 rw [hid] at ri
 have r0:getH H1 nx = some (.row 40 4 (zav true [.string ⟨#[]⟩,.int .i64 0,.int .i64 0,.slice none 0 0]) [zav true [.string ⟨#[]⟩,.int .i64 0,.int .i64 0,.slice none 0 0]]):=(hk1 nx aNx).trans aRow
 have hk1':∀ y,y < nx→getH H1 y = getH H y:=fun y hy => (hk1 y (Nat.lt_of_lt_of_le hy aNx)).trans aSkip
 have hb1':nx + 2 ≤ bi:=Nat.le_trans aNx hb1
 clear hk1 hb1
 repeat' (first|((with_reducible refine Go.red ?_);conv => whnf)|refine aG ?_|exact aCn|with_reducible refine Go.and ?_ ?_|((with_reducible refine Ask.mk ?_);first|exact aAsk|exact aAsk2|(intro h;simp_all [lookCells] <;> fail)|(simp_all [lookCells] <;> fail))|(apply Go.elem;(·exact aElem))|refine aH ?_|((with_reducible refine Go.bool ?_ ?_) <;> intro hc <;> (try simp only [List.length_map,ne_eq,hcs] at hc) <;> try (exfalso;omega)))
 refine Go.callN (hhc bi _ _ di aRow aNx) ?_
 rintro _ H2 n2 ⟨mm,dm,em,F,rfl,hm1,hm2,rm,hF,hk2⟩
 have hm1':n1 + 3 ≤ mm:=Nat.le_trans aNx hm1
 have r02:getH H2 nx = some (.row 40 4 (zav true [.string ⟨#[]⟩,.int .i64 0,.int .i64 0,.slice none 0 0]) [zav true [.string ⟨#[]⟩,.int .i64 0,.int .i64 0,.slice none 0 0]]):=(hk2 nx aNx).trans aRow
 have ri2:getH H2 bi = some (.row 4 1 di (out.map bl)):=(hk2 bi aNx).trans aRow
 have hk2':∀ y,y < nx→getH H2 y = getH H y:=fun y hy => (hk2 y (Nat.lt_of_lt_of_le hy aNx)).trans (Eq.trans aSkip (hk1' y hy))
 clear hk2 hk1' ri r0
 have hF0:=hF 0 (by omega)
 have e0:mget false (.int .i64 0) (mapN F) (i64 0) = some (i64 (heir out g 0:Int),true):=by
  rw [getN,show lookE F 0 = some (heir out g 0:Int) from hF0];rfl
 repeat' (first|((with_reducible refine Go.red ?_);conv => whnf)|refine aG ?_|exact aCn|with_reducible refine Go.and ?_ ?_|((with_reducible refine Ask.mk ?_);first|exact aAsk|exact aAsk2|(intro h;simp_all [lookCells] <;> fail)|(simp_all [lookCells] <;> fail))|(apply Go.elem;(·exact aElem))|(apply Go.givesG (g:=none);(·exact fun _ => e0))|refine aH ?_|((with_reducible refine Go.bool ?_ ?_) <;> intro hc <;> (try simp only [List.length_map,ne_eq,hcs] at hc) <;> try (exfalso;omega)))
 have hbm:bi ≠ mm:=by omega
 have ho0:([i64 (heir out g 0:Int)]:List AV) = natI (orderTo g out 0):=rfl
 have hml:(out.map bl).length = g.nodes.length:=by rw [List.length_map,hil]
 have hrl:((reachL g (-1)).map bl).length = g.nodes.length:=by rw [List.length_map,reachL_len]
 refine Go.loop (fun i:Nat => [(0,lookX g t cls),(2,.pt nx 1 0 0),(3,.sl bi g.nodes.length),(4,.mp mm),(5,.sl (n2 + 3) (orderTo g out i).length),(27,i64 g.nodes.length),(28,i64 i)])
  (fun i H' n' => i ≤ g.nodes.length∧n2 + 11 ≤ n'∧(∃ d,getH H' nx = some (.row 40 4 d [lookG0]))∧(∃ d,getH H' bi = some (.row 4 1 d (out.map bl)))∧(∃ d,getH H' mm = some (.row em 0 d (mapA (mapN F))))∧(∃ d,getH H' (n2 + 3) = some (.row 3 1 d (natI (orderTo g out i))))∧∀ y,y < nx→getH H' y = getH H y) (fun i => g.nodes.length - i) 0 (by rw [← List.length_map (f:=Node.av)];exact aLess) ⟨Nat.zero_le _,aNx,⟨_,aRow⟩,⟨_,aRow⟩,⟨_,aRow⟩,⟨_,by rw [← ho0];exact aRow⟩,fun y hy => Eq.trans aSkip (hk2' y hy)⟩ ?_
 clear r02 ri2 rm hk2'
 rintro i H3 n3 ⟨hi,hn3,⟨dg,rg⟩,⟨di,ri⟩,⟨dm,rm⟩,⟨d5,r5⟩,hk3⟩
 by_cases hilt:i < g.nodes.length
 ·have er:=fun d => bools_at (l:=reachL g (-1)) (k:=i) d (by rw [reachL_len];exact hilt)
  have eo:=fun d => bl_at (l:=out) (k:=i) (by rw [hil];exact hilt) d
  have hnx:=orderTo_next g out i
  have hol:=orderTo_len (m:=i) hh0 hi
  have homl:(natI (orderTo g out i)).length = (orderTo g out i).length:=by simp [natI]
  cases hrc:fnd (reachL g (-1)) (i:Int) with
  | false =>
   rw [hrc] at er
   rw [if_neg (by unfold keepsI;rw [hrc];simp)] at hnx
   repeat' (first|((with_reducible refine Go.red ?_);conv => whnf)|refine aG ?_|exact aCn|with_reducible refine Go.and ?_ ?_|((with_reducible refine Ask.mk ?_);first|exact aAsk|(exact hrl)|(exact hml)|exact aAsk2|(intro h;simp_all [lookCells] <;> fail)|(simp_all [lookCells] <;> fail))|(apply Go.elem;(·(first|exact er _|exact eo _|exact aElem)))|(apply Go.givesG (g:=none);(·exact fun _ => e0))|(apply Go.givesG (g:=some _);(·exact fun _ => e0))|refine aH ?_|((with_reducible refine Go.bool ?_ ?_) <;> intro hc <;> (try simp only [List.length_map,ne_eq,hcs] at hc) <;> try (exfalso;omega)))
   exact ⟨i + 1,by omega,by rw [hnx];exact aLess,by omega,by omega,⟨_,aRow⟩,⟨_,aRow⟩,⟨_,aRow⟩,⟨_,by rw [hnx];exact aRow⟩,fun y hy => Eq.trans aSkip (hk3 y hy)⟩
  | true =>
   rw [hrc] at er
   cases hto:tf out i with
   | true =>
    rw [show out.getD i false = true from hto] at eo
    rw [if_neg (by unfold keepsI;rw [hto];simp)] at hnx
    repeat' (first|((with_reducible refine Go.red ?_);conv => whnf)|refine aG ?_|exact aCn|with_reducible refine Go.and ?_ ?_|((with_reducible refine Ask.mk ?_);first|exact aAsk|(exact hrl)|(exact hml)|exact aAsk2|(intro h;simp_all [lookCells] <;> fail)|(simp_all [lookCells] <;> fail))|(apply Go.elem;(·(first|exact er _|exact eo _|exact aElem)))|(apply Go.givesG (g:=none);(·exact fun _ => e0))|(apply Go.givesG (g:=some _);(·exact fun _ => e0))|refine aH ?_|((with_reducible refine Go.bool ?_ ?_) <;> intro hc <;> (try simp only [List.length_map,ne_eq,hcs] at hc) <;> try (exfalso;omega)))
    exact ⟨i + 1,by omega,by rw [hnx];exact aLess,by omega,by omega,⟨_,aRow⟩,⟨_,aRow⟩,⟨_,aRow⟩,⟨_,by rw [hnx];exact aRow⟩,fun y hy => Eq.trans aSkip (hk3 y hy)⟩
   | false =>
    rw [show out.getD i false = false from hto] at eo
    by_cases hih:i = heir out g 0
    ·have hihz:((i:Int) = (heir out g 0:Int)):=by omega
     rw [if_neg (by unfold keepsI;rw [decide_eq_false (fun h => h hih)];simp)] at hnx
     repeat' (first|((with_reducible refine Go.red ?_);conv => whnf)|refine aG ?_|exact aCn|with_reducible refine Go.and ?_ ?_|((with_reducible refine Ask.mk ?_);first|exact aAsk|(exact hrl)|(exact hml)|exact aAsk2|(intro h;simp_all [lookCells] <;> fail)|(simp_all [lookCells] <;> fail))|(apply Go.elem;(·(first|exact er _|exact eo _|exact aElem)))|(apply Go.givesG (g:=none);(·exact fun _ => e0))|(apply Go.givesG (g:=some _);(·exact fun _ => e0))|refine aH ?_|((with_reducible refine Go.bool ?_ ?_) <;> intro hc <;> (try simp only [List.length_map,ne_eq,hcs] at hc) <;> try (exfalso;omega)))
     exact ⟨i + 1,by omega,by rw [hnx];exact aLess,by omega,by omega,⟨_,aRow⟩,⟨_,aRow⟩,⟨_,aRow⟩,⟨_,by rw [hnx];exact aRow⟩,fun y hy => Eq.trans aSkip (hk3 y hy)⟩
    ·rw [if_pos (by unfold keepsI;rw [hrc,hto,decide_eq_true hih];rfl)] at hnx
     repeat' (first|((with_reducible refine Go.red ?_);conv => whnf)|refine aG ?_|exact aCn|with_reducible refine Go.and ?_ ?_|((with_reducible refine Ask.mk ?_);first|exact aAsk|(exact hrl)|(exact hml)|exact aAsk2|(intro h;simp_all [lookCells] <;> fail)|(simp_all [lookCells] <;> fail))|(apply Go.elem;(·(first|exact er _|exact eo _|exact aElem)))|(apply Go.givesG (g:=none);(·exact fun _ => e0))|(apply Go.givesG (g:=some _);(·exact fun _ => e0))|refine aH ?_|((with_reducible refine Go.bool ?_ ?_) <;> intro hc <;> (try simp only [List.length_map,ne_eq,hcs] at hc) <;> try (exfalso;omega)))
     ·exact ⟨i + 1,by omega,by rw [hnx];exact aLess,by omega,by omega,⟨_,aRow⟩,⟨_,aRow⟩,⟨_,aRow⟩,⟨_,by rw [hnx,← nats_app];exact aRow⟩,fun y hy => Eq.trans aSkip (hk3 y hy)⟩
     ·exact hc.elim (fun h => absurd ⟨trivial,trivial⟩ h) (fun h => absurd (Int.ofNat.inj h) hih)
 ·have:i = g.nodes.length:=by omega
  subst this
  have hnd:=orderTo_nodup g out g.nodes.length
  have hlt:=orderTo_lt (m:=g.nodes.length) hh0 (Nat.le_refl _)
  have hol:=orderTo_len (m:=g.nodes.length) hh0 (Nat.le_refl _)
  rw [orderTo_all] at r5 hnd hlt hol ⊢
  generalize orderL g out = o at *
  have homl:(natI o).length = o.length:=by simp [natI]
  repeat' (first|((with_reducible refine Go.red ?_);conv => whnf)|refine aG ?_|exact aCn|with_reducible refine Go.and ?_ ?_|((with_reducible refine Ask.mk ?_);first|exact aAsk|(exact homl)|exact aAsk2)|(apply Go.elem;(·exact aElem))|refine aH ?_|((with_reducible refine Go.bool ?_ ?_) <;> intro hc <;> (try simp only [List.length_map,ne_eq,hcs] at hc) <;> try (exfalso;omega)))
  refine Go.loop (fun k:Nat => [(0,lookX g t cls),(2,.pt nx 1 0 0),(4,.mp mm),(5,.sl (n2 + 3) o.length),(7,.mp (n3 + 1)),(57,.sl (n2 + 3) o.length),(58,i64 o.length),(59,i64 k)])
   (fun k H' n' => k ≤ o.length∧n3 + 6 ≤ n'∧(∃ d,getH H' nx = some (.row 40 4 d [lookG0]))∧(∃ d,getH H' mm = some (.row em 0 d (mapA (mapN F))))∧(∃ d,getH H' (n2 + 3) = some (.row 3 1 d (natI o)))∧(∃ d,getH H' (n3 + 1) = some (.row 3 0 d (mapA (mapN (numTo o k)))))∧∀ y,y < nx→getH H' y = getH H y) (fun k => o.length - k) 0 aLess ⟨Nat.zero_le _,aNx,⟨_,aRow⟩,⟨_,aRow⟩,⟨_,aRow⟩,⟨_,aRow⟩,fun y hy => Eq.trans aSkip (hk3 y hy)⟩ ?_
  clear rg ri rm r5 hk3
  rintro k H4 n4 ⟨hkl,hn4,⟨dg,rg⟩,⟨dm,rm⟩,⟨d5,r5⟩,⟨d7,r7⟩,hk4⟩
  by_cases hk:k < o.length
  ·have eo:=fun d => nat_at (l:=o) (i:=k) hk d
   have hnx:=numTo_next o k
   repeat' (first|((with_reducible refine Go.red ?_);conv => whnf)|refine aG ?_|exact aCn|with_reducible refine Go.and ?_ ?_|((with_reducible refine Ask.mk ?_);first|exact aAsk|(exact homl)|exact aAsk2)|(apply Go.elem;(·(first|exact eo _|exact aElem)))|(apply Go.givesG (g:=none);(·exact fun _ => putN _ _ _))|refine aH ?_|((with_reducible refine Go.bool ?_ ?_) <;> intro hc <;> (try simp only [List.length_map,ne_eq,hcs] at hc) <;> try (exfalso;omega)))
   exact ⟨k + 1,by omega,aLess,by omega,by omega,⟨_,aRow⟩,⟨_,aRow⟩,⟨_,aRow⟩,⟨_,by rw [hnx];exact aRow⟩,fun y hy => Eq.trans aSkip (hk4 y hy)⟩
  ·have:k = o.length:=by omega
   subst this
   have hpl:=fun i => num_place hnd i
   generalize numTo o o.length = NE at *
   repeat' (first|((with_reducible refine Go.red ?_);conv => whnf)|refine aG ?_|exact aCn|with_reducible refine Go.and ?_ ?_|((with_reducible refine Ask.mk ?_);first|exact aAsk|(exact homl)|exact aAsk2|(intro h;simp_all [lookCells] <;> fail)|(simp_all [lookCells] <;> fail))|(apply Go.elem;(·exact aElem))|refine aH ?_|((with_reducible refine Go.bool ?_ ?_) <;> intro hc <;> (try simp only [List.length_map,ne_eq,hcs] at hc) <;> try (exfalso;omega)))
   have hndl:(g.nodes.map Node.av).length = g.nodes.length:=by simp
   refine Go.loopF (fun k:Nat => [(0,lookX g t cls),(2,.pt nx 1 0 0),(4,.mp mm),(7,.mp (n3 + 1)),(10,.pt (n4 + 5) 1 0 0),(73,.sl (n2 + 3) o.length),(74,i64 o.length),(75,i64 k)])
    (fun k H' n' => k ≤ o.length∧n4 + 13 ≤ n'∧(∃ d,getH H' nx = some (.row 40 4 d [lookG0]))∧(∃ d,getH H' mm = some (.row em 0 d (mapA (mapN F))))∧(∃ d,getH H' (n2 + 3) = some (.row 3 1 d (natI o)))∧(∃ d,getH H' (n3 + 1) = some (.row 3 0 d (mapA (mapN NE))))∧(∃ d,getH H' (n4 + 5) = some (.row 40 4 d [.agg [st g.name,i64 g.locals,i64 g.slots,.sl (n4 + 12) k]]))∧(∃ d,getH H' (n4 + 12) = some (.row 46 13 d ((o.take k).map fun i => (reNode g out o (g.nd i)).av)))∧∀ y,y < nx→getH H' y = getH H y) (fun k => o.length - k) 0
    ⟨_,_,_,Rt.wk (Wk.nilCell (b:=n4 + 5) (e:=46) (sz:=13) (by omega) (by omega) (te:=40) (tz:=4) (cs:=[st g.name,i64 g.locals,i64 g.slots,.sc (.slice none 0 0)]) (j:=3) aRow (by show 3 < 4;omega) rfl),aLess,Nat.zero_le _,aNx,⟨_,aRow⟩,⟨_,aRow⟩,⟨_,aRow⟩,⟨_,aRow⟩,⟨_,aRow⟩,⟨_,aRow⟩,fun y hy => Eq.trans aSkip (hk4 y hy)⟩ ?_
   clear rg rm r5 r7 hk4
   rintro k H5 n5 ⟨hkl,hn5,⟨dg,rg⟩,⟨dm,rm⟩,⟨d5,r5⟩,⟨d7,r7⟩,⟨dc,rc⟩,⟨dq,rq⟩,hk5⟩
   by_cases hkk:k < o.length
   ·have eo:=fun d => nat_at (l:=o) (i:=k) hkk d
    have hom:o.getD k 0 < g.nodes.length:=hlt _ (by simp only [List.getD,List.getElem?_eq_getElem hkk,Option.getD_some];exact List.getElem_mem hkk)
    have htk:(o.take (k + 1)).map (fun i => (reNode g out o (g.nd i)).av) = (o.take k).map (fun i => (reNode g out o (g.nd i)).av) ++ [(reNode g out o (g.nd (o.getD k 0))).av]:=by
     rw [List.take_succ_eq_append_getElem hkk,List.map_append,show o.getD k 0 = o[k] by simp only [List.getD,List.getElem?_eq_getElem hkk,Option.getD_some]];rfl
    generalize o.getD k 0 = i at *
    have en:=fun d => nd_at (l:=g.nodes) (i:=i) hom d
    have hnk:NodeOk u g (g.nd i):=hk0.nodes _ (by simp only [Graph.nd,List.getD,List.getElem?_eq_getElem hom,Option.getD_some];exact List.getElem_mem hom)
    have hx:∀ z:Int,0 ≤ z→z < g.nodes.length→mget false (.int .i64 z) (mapN F) (i64 0) = some (i64 (heir out g z.toNat:Int),true):=fun z h0 h1 => by
     have:=hF z.toNat (by omega)
     rw [Int.toNat_of_nonneg h0] at this
     rw [getN,this];rfl
    have hp:∀ j:Nat,mget false (.int .i64 (j:Int)) (mapN NE) (i64 0) = some (i64 (placeN o j:Int),(lookE NE (j:Int)).isSome):=fun j => by rw [getN,hpl]
    have hql:((o.take k).map fun i => (reNode g out o (g.nd i)).av).length = k:=by rw [List.length_map,List.length_take];omega
    by_cases h9:(g.nodes.getD i default).kind = 9
    ·repeat' (first|((with_reducible refine Go.red ?_);conv => whnf)|refine aG ?_|exact aCn|with_reducible refine Go.and ?_ ?_|((with_reducible refine Ask.mk ?_);first|exact aAsk|(exact homl)|(exact hndl)|(exact hql)|(exact absurd h9 hc)|(simp only [h9])|exact aAsk2|(intro h;simp_all [lookCells,Node.cells] <;> fail)|(simp_all [lookCells,Node.cells] <;> fail))|(apply Go.elem;(·(first|exact eo _|exact en _|exact aElem)))|refine aH ?_|((with_reducible refine Go.bool ?_ ?_) <;> intro hc <;> (try simp only [List.length_map,ne_eq,hcs] at hc) <;> try (exfalso;omega)))
     all_goals first|exact hql|exact rfl|skip
     have hre:(reNode g out o (g.nd i)).av = (g.nodes.getD i default).av:=by
      unfold reNode;rw [if_neg (fun h => h h9),if_neg (fun h => by have h':(g.nodes.getD i default).kind = 8:=h;omega)]
     exact ⟨k + 1,by omega,_,_,_,Rt.refl _ _ _,aLess,by omega,by omega,⟨_,aRow⟩,⟨_,aRow⟩,⟨_,aRow⟩,⟨_,aRow⟩,⟨_,aRow⟩,⟨_,by rw [htk,hre];exact aRow⟩,fun y hy => Eq.trans aSkip (hk5 y hy)⟩
    ·have hnn:=hnk.next.1 (by unfold usesNext;exact decide_eq_true (by have:=hnk.kind;have h9':¬ (g.nd i).kind = 9:=h9;omega))
     have e1:=hx _ hnn.1 hnn.2
     have e2:=hp (heir out g (g.nd i).next.toNat)
     by_cases h8:(g.nodes.getD i default).kind = 8
     ·have hee:=hnk.els.1 h8
      have e3:=hx _ hee.1 hee.2
      have e4:=hp (heir out g (g.nd i).els.toNat)
      repeat' (first|((with_reducible refine Go.red ?_);conv => whnf)|refine aG ?_|exact aCn|with_reducible refine Go.and ?_ ?_|((with_reducible refine Ask.mk ?_);first|exact aAsk|(exact homl)|(exact hndl)|(exact absurd h8 hc)|exact aAsk2|(intro h;simp_all [lookCells,Node.cells] <;> fail)|(simp_all [lookCells,Node.cells] <;> fail))|(apply Go.elem;(·(first|exact eo _|exact en _|exact aElem)))|(apply Go.givesG (g:=none);(·exact fun _ => e1))|(apply Go.givesG (g:=none);(·exact fun _ => e2))|(apply Go.givesG (g:=none);(·exact fun _ => e3))|(apply Go.givesG (g:=none);(·exact fun _ => e4))|refine aH ?_|((with_reducible refine Go.bool ?_ ?_) <;> intro hc <;> (try simp only [List.length_map,ne_eq,hcs] at hc) <;> try (exfalso;omega)))
      all_goals first|exact hql|exact rfl|skip
      have hre:(reNode g out o (g.nd i)).av = (.agg [u8 (g.nd i).kind,u8 (g.nd i).op,i64 (g.nd i).slot,i64 (g.nd i).thing,bl (g.nd i).a.isSlot,i64 (g.nd i).a.slot,i64 (g.nd i).a.word,bl (g.nd i).b.isSlot,i64 (g.nd i).b.slot,i64 (g.nd i).b.word,i64 (placeN o (heir out g (g.nd i).next.toNat):Int),i64 (placeN o (heir out g (g.nd i).els.toNat):Int),i64 (g.nd i).origin]):=by
       unfold reNode;rw [if_pos h9,if_pos h8];rfl
      exact ⟨k + 1,by omega,_,_,_,Rt.refl _ _ _,aLess,by omega,by omega,⟨_,aRow⟩,⟨_,aRow⟩,⟨_,aRow⟩,⟨_,aRow⟩,⟨_,aRow⟩,⟨_,by rw [htk,hre];exact aRow⟩,fun y hy => Eq.trans aSkip (hk5 y hy)⟩
     ·repeat' (first|((with_reducible refine Go.red ?_);conv => whnf)|refine aG ?_|exact aCn|with_reducible refine Go.and ?_ ?_|((with_reducible refine Ask.mk ?_);first|exact aAsk|(exact homl)|(exact hndl)|(exact absurd hc h8)|exact aAsk2|(intro h;simp_all [lookCells,Node.cells] <;> fail)|(simp_all [lookCells,Node.cells] <;> fail))|(apply Go.elem;(·(first|exact eo _|exact en _|exact aElem)))|(apply Go.givesG (g:=none);(·exact fun _ => e1))|(apply Go.givesG (g:=none);(·exact fun _ => e2))|refine aH ?_|((with_reducible refine Go.bool ?_ ?_) <;> intro hc <;> (try simp only [List.length_map,ne_eq,hcs] at hc) <;> try (exfalso;omega)))
      all_goals first|exact hql|exact rfl|skip
      have hre:(reNode g out o (g.nd i)).av = (.agg [u8 (g.nd i).kind,u8 (g.nd i).op,i64 (g.nd i).slot,i64 (g.nd i).thing,bl (g.nd i).a.isSlot,i64 (g.nd i).a.slot,i64 (g.nd i).a.word,bl (g.nd i).b.isSlot,i64 (g.nd i).b.slot,i64 (g.nd i).b.word,i64 (placeN o (heir out g (g.nd i).next.toNat):Int),i64 (g.nd i).els,i64 (g.nd i).origin]):=by
       unfold reNode;rw [if_pos h9,if_neg h8];rfl
      exact ⟨k + 1,by omega,_,_,_,Rt.refl _ _ _,aLess,by omega,by omega,⟨_,aRow⟩,⟨_,aRow⟩,⟨_,aRow⟩,⟨_,aRow⟩,⟨_,aRow⟩,⟨_,by rw [htk,hre];exact aRow⟩,fun y hy => Eq.trans aSkip (hk5 y hy)⟩
   ·have:k = o.length:=by omega
    subst this
    rw [List.take_length] at rq
    repeat' (first|((with_reducible refine Go.red ?_);conv => whnf)|refine aG ?_|exact aCn|with_reducible refine Go.and ?_ ?_|((with_reducible refine Ask.mk ?_);first|exact aAsk|(exact homl)|exact aAsk2|(intro h;simp_all [lookCells] <;> fail)|(simp_all [lookCells] <;> fail))|(apply Go.elem;(·exact aElem))|refine aH ?_|((with_reducible refine Go.bool ?_ ?_) <;> intro hc <;> (try simp only [List.length_map,ne_eq,hcs] at hc) <;> try (exfalso;omega)))
    exact ⟨n4 + 12,_,by rw [List.length_map],by omega,by omega,by rw [List.map_map];exact aRow,fun y hy => Eq.trans aSkip (hk5 y hy)⟩
end Go.Proofs.YtmonponfppdgfaaGreatDoor
end
section
/- Once: the walk. -/
namespace Go.Proofs.YtmonponfppdgfaaGreatDoor
open Go Go.Abs Go.Proofs
set_option linter.unusedSimpArgs false
set_option linter.unusedVariables false
theorem fit_graphAv (g:Graph):fitA 0 g.av:=by simp [fitA,fitL,Graph.cells,fit_nodes]
theorem fit_unitAv (u:UnitS):fitA 0 u.av:=by simp [fitA,fitL,UnitS.cells,fit_decls,fit_graphs]
theorem once_gpure (u:UnitS) (g:Graph) (hg:g.Wf) (hk:GraphOk u g) (t:Nat) (cls:List ClassV) (hcl:cls.length = u.shared.length) (hcl64:cls.length ≤ 64):Pure Tryz.prog 29 [lookX g t cls] (fun r => r = (onceG g cls t).av):=by
 refine pure_of_call ((once_call u g hg hk t cls hcl hcl64 [] 0).mono ?_) (fit_graphAv _)
 rintro r H2 n2 ⟨b,d,rfl,_,_,hb,_⟩
 rw [show Abs.frz H2 6 (.agg [st g.name,i64 g.locals,i64 g.slots,.sl b (onceG g cls t).nodes.length]) = .agg ([st g.name,i64 g.locals,i64 g.slots,.sl b (onceG g cls t).nodes.length].map (Abs.frz H2 5)) from rfl]
 simp only [List.map_cons,List.map_nil]
 rw [frz_fit 5 (by simp [fitA]),frz_fit 5 (by simp [fitA]),frz_fit 5 (by simp [fitA]),frz_sl hb (by simp),frz_same _ (fit_nodes _)]
 rfl
theorem frz_agg {H:Hp} {k:Nat} {cs:List AV}:Abs.frz H (k + 1) (.agg cs) = .agg (cs.map (Abs.frz H k)):=by simp only [frz]
noncomputable def onceTo (u:UnitS) (t:Nat):List Graph:=(List.range t).map fun t => onceG (u.gr t) (classesU u) t
theorem onceTo_next (u:UnitS) (t:Nat):onceTo u (t + 1) = onceTo u t ++ [onceG (u.gr t) (classesU u) t]:=by
 rw [onceTo,List.range_succ,List.map_append];rfl
theorem onceTo_len (u:UnitS) (t:Nat):(onceTo u t).length = t:=by simp [onceTo]
set_option maxRecDepth 4000 in
set_option maxHeartbeats 4000000 in
theorem Once_right (u:UnitS) (hu:u.Wf) (hr:RightU u):Pure Tryz.prog 9 [u.av] (fun r => r = .tup [(onceU u).av,i64 0]):=by
 have hc:=check_pure u hu
 rw [checkU_ok.2 hr] at hc
 have hsh:=cloneD_pure u.shared hu.sharedlen
 have hlk:=cloneD_pure u.locks hu.lockslen
 have hfew:=hr.few
 refine pure_of_call ?_ (by rw [fitA,fitL,fitL,fitL];exact ⟨fit_unitAv _,by simp [fitA],trivial⟩)
 refine Go.fnL lf9 rfl ?_
 repeat' (first|((with_reducible refine Go.red ?_);conv => whnf)|refine aG ?_|exact aCn|with_reducible refine Go.and ?_ ?_|((with_reducible refine Ask.mk ?_);first|exact aAsk|exact aAsk2|(intro h;simp_all [UnitS.cells] <;> fail)|(simp_all [UnitS.cells] <;> fail))|(apply Go.elem;(·exact aElem))|refine aK (hc) ?_|refine aK (hsh) ?_|refine aK (hlk) ?_|refine aH ?_|((with_reducible refine Go.bool ?_ ?_) <;> intro hc <;> (try simp only [List.length_map,ne_eq,hcs] at hc) <;> try (exfalso;omega)))
 have hg0:onceTo u 0 = []:=rfl
 refine Go.loopF (fun t:Nat => [(1,.pt 0 1 0 0),(2,.pt 1 1 0 0),(7,.pt 20 1 0 0),(30,i64 u.graphs.length),(31,i64 t)])
  (fun t H n => t ≤ u.graphs.length∧27 ≤ n∧(∃ d,getH H 0 = some (.row 25 3 d [u.av]))∧(∃ d,getH H 1 = some (.row 25 3 d [zav true [.slice none 0 0,.slice none 0 0,.slice none 0 0]]))∧(∃ d,getH H 20 = some (.row 25 3 d [.agg [declsAv u.shared,declsAv u.locks,.sl 26 t]]))∧(∃ d,getH H 26 = some (.row 40 4 d ((onceTo u t).map Graph.av)))) (fun t => u.graphs.length - t) 0
  ⟨_,_,_,Rt.wk (Wk.nilCell (b:=20) (e:=40) (sz:=4) (by simp only [List.length_cons,List.length_nil];omega) (by omega) (te:=25) (tz:=3) (cs:=[declsAv u.shared,declsAv u.locks,.sc (.slice none 0 0)]) (j:=2) aRow (by show 2 < 3;omega) rfl),by rw [← List.length_map (f:=Graph.av)];exact aLess,Nat.zero_le _,aNx,⟨_,aRow⟩,⟨_,aRow⟩,⟨_,aRow⟩,⟨_,aRow⟩⟩ ?_
 rintro t H n ⟨ht,hn,⟨d0,r0⟩,⟨d1,r1⟩,⟨d20,r20⟩,⟨dg,rg⟩⟩
 have hgl:((onceTo u t).map Graph.av).length = t:=by rw [List.length_map,onceTo_len]
 by_cases htl:t < u.graphs.length
 ·have ha:=asked_ok u hu hr t htl
  have ho:=once_gpure u (u.gr t) (hu.graphs _ (getD_mem' default htl)) (hr.gr htl) t (classesU u) (classesU_len u) (by rw [classesU_len];omega)
  have hnx:(onceTo u (t + 1)).map Graph.av = (onceTo u t).map Graph.av ++ [(onceG (u.gr t) (classesU u) t).av]:=by rw [onceTo_next,List.map_append];rfl
  repeat' (first|((with_reducible refine Go.red ?_);conv => whnf)|refine aG ?_|exact aCn|with_reducible refine Go.and ?_ ?_|((with_reducible refine Ask.mk ?_);first|exact aAsk|(exact hgl)|exact aAsk2|(intro h;simp_all [UnitS.cells] <;> fail)|(simp_all [UnitS.cells] <;> fail))|(apply Go.elem;(·exact aElem))|refine aK (ha) ?_|refine aK (ho) ?_|refine aH ?_|((with_reducible refine Go.bool ?_ ?_) <;> intro hc <;> (try simp only [List.length_map,ne_eq,hcs] at hc) <;> try (exfalso;omega)))
  exact ⟨t + 1,by omega,_,_,_,Rt.refl _ _ _,aLess,by omega,by omega,⟨_,aRow⟩,⟨_,aRow⟩,⟨_,aRow⟩,⟨_,by rw [hnx];exact aRow⟩⟩
 ·have:t = u.graphs.length:=by omega
  subst this
  repeat' (first|((with_reducible refine Go.red ?_);conv => whnf)|refine aG ?_|exact aCn|with_reducible refine Go.and ?_ ?_|((with_reducible refine Ask.mk ?_);first|exact aAsk|(exact hgl)|exact aAsk2|(intro h;simp_all [UnitS.cells] <;> fail)|(simp_all [UnitS.cells] <;> fail))|(apply Go.elem;(·exact aElem))|refine aH ?_|((with_reducible refine Go.bool ?_ ?_) <;> intro hc <;> (try simp only [List.length_map,ne_eq,hcs] at hc) <;> try (exfalso;omega)))
  refine ⟨frz_tup2.trans ?_⟩
  rw [frz_sc 5 (by simp [fitA])]
  refine congrArg (fun z => AV.tup [z,i64 0]) ?_
  rw [frz_agg]
  simp only [List.map_cons,List.map_nil]
  rw [frz_fit 4 (by rw [fitA];exact fit_decls _),frz_fit 4 (by rw [fitA];exact fit_decls _),frz_sl (e:=40) (sz:=4) (d:=dg) (es:=(onceTo u u.graphs.length).map Graph.av) aRow hgl,frz_same _ (fit_graphs _)]
  rfl
set_option maxRecDepth 4000 in
set_option maxHeartbeats 4000000 in
theorem Sweep_right (u:UnitS) (hu:u.Wf) (hr:RightU u):Pure Tryz.prog 15 [u.av] (fun r => r = .tup [(sweepU u).av,i64 0]):=by
 have ho:=Once_right u hu hr
 have hfit:=fun v => fit_unitAv v
 refine Go.pureL lf15 rfl ?_
 repeat' (first|((with_reducible refine Go.red ?_);conv => whnf)|refine aG ?_|exact aCn|with_reducible refine Go.and ?_ ?_|((with_reducible refine Ask.mk ?_);first|exact aAsk|exact aAsk2|(intro h;simp_all [UnitS.cells] <;> fail)|(simp_all [UnitS.cells] <;> fail))|(apply Go.elem;(·exact aElem))|refine aK (ho) ?_|refine aH ?_|((with_reducible refine Go.bool ?_ ?_) <;> intro hc <;> (try simp only [List.length_map,ne_eq,hcs] at hc) <;> try (exfalso;omega)))
 refine Go.loop (fun v:UnitS => [(2,.pt 1 1 0 0),(4,.pt 7 1 0 0),(5,i64 0)])
  (fun v H n => 10 ≤ n∧RightU v∧v.Wf∧sweepN (sizeU v) v = sweepU u∧(∃ d,getH H 1 = some (.row 25 3 d [zav true [.slice none 0 0,.slice none 0 0,.slice none 0 0]]))∧(∃ d,getH H 7 = some (.row 25 3 d [v.av]))) (fun v => sizeU v) (onceU u) aLess ⟨aNx,once_right hr,once_wf hu hr,(sweepU_eq hr).symm,⟨_,aRow⟩,⟨_,aRow⟩⟩ ?_
 rintro v H n ⟨hn,hvr,hvw,hsw,⟨d1,r1⟩,⟨d8,r8⟩⟩
 have ho2:=Once_right v hvw hvr
 have hs:=cfgSame_pure (onceU v) v (once_wf hvw hvr) hvw
 by_cases e:onceU v = v
 ·rw [decide_eq_true e] at hs
  rw [sweep_stop hvr e] at hsw
  subst hsw
  repeat' (first|((with_reducible refine Go.red ?_);conv => whnf)|refine aG ?_|exact aCn|with_reducible refine Go.and ?_ ?_|((with_reducible refine Ask.mk ?_);first|exact aAsk|exact aAsk2|(intro h;simp_all [UnitS.cells] <;> fail)|(simp_all [UnitS.cells] <;> fail))|(apply Go.elem;(·exact aElem))|refine aK (ho2) ?_|refine aK (hs) ?_|refine aH ?_|((with_reducible refine Go.bool ?_ ?_) <;> intro hc <;> (try simp only [List.length_map,ne_eq,hcs] at hc) <;> try (exfalso;omega)))
  exact congrArg (fun z => AV.tup [AV.agg z,i64 0]) (frz_same _ (fit_unit 0 _))
 ·rw [decide_eq_false e] at hs
  obtain ⟨h1,h2⟩:=sweep_on hvr e
  repeat' (first|((with_reducible refine Go.red ?_);conv => whnf)|refine aG ?_|exact aCn|with_reducible refine Go.and ?_ ?_|((with_reducible refine Ask.mk ?_);first|exact aAsk|exact aAsk2|(intro h;simp_all [UnitS.cells] <;> fail)|(simp_all [UnitS.cells] <;> fail))|(apply Go.elem;(·exact aElem))|refine aK (ho2) ?_|refine aK (hs) ?_|refine aH ?_|((with_reducible refine Go.bool ?_ ?_) <;> intro hc <;> (try simp only [List.length_map,ne_eq,hcs] at hc) <;> try (exfalso;omega)))
  exact ⟨onceU v,h2,aLess,by omega,once_right hvr,once_wf hvw hvr,h1.symm.trans hsw,⟨_,aRow⟩,⟨_,aRow⟩⟩
end Go.Proofs.YtmonponfppdgfaaGreatDoor
end
section
/- What the laws ask first: the walk. -/
namespace Go.Proofs.YtmonponfppdgfaaGreatDoor
open Go Go.Abs Go.Proofs
set_option linter.unusedSimpArgs false
set_option linter.unusedVariables false
instance decWf64 (n:Int):Decidable (wf64 n):=inferInstanceAs (Decidable (_∧_))
def twA:Node:=⟨1,0,0,0,⟨false,0,1⟩,default,1,0,0⟩
def twB:Node:=⟨1,0,0,0,⟨false,0,2⟩,default,2,0,1⟩
def twC:Node:=⟨7,0,0,0,⟨true,0,0⟩,default,3,0,2⟩
def twD:Node:=⟨9,0,0,0,default,default,0,0,3⟩
def tw0:Graph:=⟨⟨(List.toArray [97])⟩,0,1,[twA,twB,twC,twD]⟩
def tw1:Graph:=⟨⟨(List.toArray [97])⟩,0,1,[{ twB with next:=1 },{ twC with next:=2 },twD]⟩
def twU:UnitS:=⟨[],[],[tw0]⟩
def twV:UnitS:=⟨[],[],[tw1]⟩
theorem twU_right:RightU twU:=⟨by decide +kernel,fun g hg => by
 simp only [twU,List.mem_cons,List.not_mem_nil,or_false] at hg
 subst hg
 exact graphF_none.1 (by decide +kernel)⟩
theorem twV_right:RightU twV:=⟨by decide +kernel,fun g hg => by
 simp only [twV,List.mem_cons,List.not_mem_nil,or_false] at hg
 subst hg
 exact graphF_none.1 (by decide +kernel)⟩
theorem reach_all {g:Graph} (h:∀ i,i < g.nodes.length→Come g (-1) (i:Int)):reachL g (-1) = List.replicate g.nodes.length true:=by
 apply List.ext_getElem (by rw [reachL_len,List.length_replicate])
 intro i h1 h2
 have hi:i < g.nodes.length:=by rw [← reachL_len g (-1)];exact h1
 have e2:(reachL g (-1))[i] = (reachL g (-1)).getD i false:=by simp [List.getD,h1]
 rw [e2,(reachL_get g (-1) hi).2 (h i hi)];simp
theorem reach_tw0:reachL tw0 (-1) = [true,true,true,true]:=by
 have c0:Come tw0 (-1) 0:=.zero
 have c1:Come tw0 (-1) 1:=.step c0 (by decide) (by decide)
 have c2:Come tw0 (-1) 2:=.step c1 (by decide) (by decide)
 have c3:Come tw0 (-1) 3:=.step c2 (by decide) (by decide)
 exact reach_all (g:=tw0) fun i hi => match i,hi with
  | 0,_ => c0
  | 1,_ => c1
  | 2,_ => c2
  | 3,_ => c3
theorem reach_tw1:reachL tw1 (-1) = [true,true,true]:=by
 have c0:Come tw1 (-1) 0:=.zero
 have c1:Come tw1 (-1) 1:=.step c0 (by decide) (by decide)
 have c2:Come tw1 (-1) 2:=.step c1 (by decide) (by decide)
 exact reach_all (g:=tw1) fun i hi => match i,hi with
  | 0,_ => c0
  | 1,_ => c1
  | 2,_ => c2
theorem live_tw0:liveT tw0 = [[false],[false],[true],[false]]:=by
 have hw:Whole tw0:=(twU_right.graphs tw0 (by simp [twU])).whole
 refine (Grow.fin hw (T:=[[false],[false],[true],[false]]) ⟨⟨rfl,by decide +kernel⟩,fun i k h => ?_⟩ (fun i k hi hk => (by decide +kernel:∀ i,i < tw0.nodes.length→∀ k,k < tw0.slots.toNat→cellB tw0 readsB keepsB [[false],[false],[true],[false]] i k = true→tget [[false],[false],[true],[false]] i k = true) i hi k hk)).symm
 match i,k,h with
 | 2,0,_ => exact .beg (by decide +kernel)
 | 0,0,h => exact absurd h (by decide)
 | 1,0,h => exact absurd h (by decide)
 | 3,0,h => exact absurd h (by decide)
 | 0,k + 1,h => exact absurd h (by simp [tget])
 | 1,k + 1,h => exact absurd h (by simp [tget])
 | 2,k + 1,h => exact absurd h (by simp [tget])
 | 3,k + 1,h => exact absurd h (by simp [tget])
 | i + 4,k,h => exact absurd h (by simp [tget])
theorem live_tw1:liveT tw1 = [[false],[true],[false]]:=by
 have hw:Whole tw1:=(twV_right.graphs tw1 (by simp [twV])).whole
 refine (Grow.fin hw (T:=[[false],[true],[false]]) ⟨⟨rfl,by decide +kernel⟩,fun i k h => ?_⟩ (fun i k hi hk => (by decide +kernel:∀ i,i < tw1.nodes.length→∀ k,k < tw1.slots.toNat→cellB tw1 readsB keepsB [[false],[true],[false]] i k = true→tget [[false],[true],[false]] i k = true) i hi k hk)).symm
 match i,k,h with
 | 1,0,_ => exact .beg (by decide +kernel)
 | 0,0,h => exact absurd h (by decide)
 | 2,0,h => exact absurd h (by decide)
 | 0,k + 1,h => exact absurd h (by simp [tget])
 | 1,k + 1,h => exact absurd h (by simp [tget])
 | 2,k + 1,h => exact absurd h (by simp [tget])
 | i + 3,k,h => exact absurd h (by simp [tget])
theorem idle_none {l:List Bool} {g:Graph} (h:∀ i,tf l i = false):idleOf l g = List.replicate l.length false:=by
 apply List.ext_getElem (by rw [idleOf_len,List.length_replicate])
 intro i h1 h2
 have e:(idleOf l g)[i] = tf (idleOf l g) i:=by simp [tf,List.getD,h1]
 rw [e]
 cases hb:tf (idleOf l g) i with
 | false => simp
 | true => have:=(idleOf_get.1 hb).1;rw [h i] at this;cases this
theorem such_tw0:suchL tw0 [] 0 = [true,false,false,false]:=by
 have e0:suchB tw0 [] 0 0 = true:=by unfold suchB;rw [reach_tw0,live_tw0];rfl
 have e1:suchB tw0 [] 0 1 = false:=by unfold suchB;rw [reach_tw0,live_tw0];rfl
 have e2:suchB tw0 [] 0 2 = false:=by unfold suchB;rw [reach_tw0,live_tw0];rfl
 have e3:suchB tw0 [] 0 3 = false:=by unfold suchB;rw [reach_tw0,live_tw0];rfl
 show [suchB tw0 [] 0 0,suchB tw0 [] 0 1,suchB tw0 [] 0 2,suchB tw0 [] 0 3] = _
 rw [e0,e1,e2,e3]
theorem idle_tw0:idleL tw0 [] 0 = [true,false,false,false]:=by
 unfold idleL
 rw [such_tw0]
 have hn:¬ Ret [true,false,false,false] tw0 0:=by
  rintro ⟨p,h1,h2,h3⟩
  by_cases e:p = 1
  ·subst e;exact absurd h2 (by decide)
  ·exact absurd (h3 1 (by omega)) (by decide)
 have key:∀ i,tf (idleOf [true,false,false,false] tw0) i = tf [true,false,false,false] i:=fun i => by
  rw [Bool.eq_iff_iff,idleOf_get]
  refine ⟨fun h => h.1,fun h => ⟨h,?_⟩⟩
  match i,h with
  | 0,_ => exact hn
  | 1,h => exact absurd h (by decide)
  | 2,h => exact absurd h (by decide)
  | 3,h => exact absurd h (by decide)
  | i + 4,h => exact absurd h (by simp [tf])
 exact list_eq false (by rw [idleOf_len]) fun j _ => key j
theorem once_tw0:onceG tw0 [] 0 = tw1:=by
 have ho:orderL tw0 [true,false,false,false] = [1,2,3]:=by unfold orderL;rw [reach_tw0];decide +kernel
 unfold onceG
 rw [idle_tw0,ho]
 decide +kernel
theorem such_tw1:suchL tw1 [] 0 = [false,false,false]:=by
 have e0:suchB tw1 [] 0 0 = false:=by unfold suchB;rw [reach_tw1,live_tw1];rfl
 have e1:suchB tw1 [] 0 1 = false:=by unfold suchB;rw [reach_tw1,live_tw1];rfl
 have e2:suchB tw1 [] 0 2 = false:=by unfold suchB;rw [reach_tw1,live_tw1];rfl
 show [suchB tw1 [] 0 0,suchB tw1 [] 0 1,suchB tw1 [] 0 2] = _
 rw [e0,e1,e2]
theorem once_tw1:onceG tw1 [] 0 = tw1:=by
 have hi:idleL tw1 [] 0 = [false,false,false]:=by
  unfold idleL
  rw [such_tw1]
  refine idle_none fun i => ?_
  match i with
  | 0 => rfl
  | 1 => rfl
  | 2 => rfl
  | i + 3 => simp [tf]
 have ho:orderL tw1 [false,false,false] = [0,1,2]:=by unfold orderL;rw [reach_tw1];decide +kernel
 unfold onceG
 rw [hi,ho]
 decide +kernel
theorem onceU_tw:onceU twU = twV:=by
 show ({ twU with graphs:=[onceG tw0 [] 0] }:UnitS) = twV
 rw [once_tw0];rfl
theorem onceV_tw:onceU twV = twV:=by
 show ({ twV with graphs:=[onceG tw1 [] 0] }:UnitS) = twV
 rw [once_tw1];rfl
theorem sweep_tw:sweepU twU = twV:=by
 rw [sweepU_eq twU_right,onceU_tw]
 exact sweep_stop twV_right onceV_tw
theorem tw_wf:twU.Wf:=by
 refine ⟨fun _ h => by simp [twU] at h,by simp [twU],fun _ h => by simp [twU] at h,by simp [twU],fun g hg => ?_,by simp [twU]⟩
 simp only [twU,List.mem_cons,List.not_mem_nil,or_false] at hg
 subst hg
 refine ⟨by decide +kernel,by decide +kernel,by decide +kernel,fun n hn => ?_,by decide +kernel⟩
 simp only [tw0,List.mem_cons,List.not_mem_nil,or_false] at hn
 rcases hn with rfl|rfl|rfl|rfl <;> exact ⟨by decide +kernel,by decide +kernel,by decide +kernel,by decide +kernel,⟨by decide +kernel,by decide +kernel⟩,⟨by decide +kernel,by decide +kernel⟩,by decide +kernel,by decide +kernel,by decide +kernel⟩
theorem bools_pure (l m:List Bool) (hl:l.length ≤ 4096) (hm:m.length ≤ 4096):Pure Tryz.prog 11 [imB l,imB m] (fun r => r = bl (decide (l = m))):=by
 refine Go.pureL lf11 rfl ?_
 unfold imB
 repeat' (first|((with_reducible refine Go.red ?_);conv => whnf)|refine aG ?_|exact aC|with_reducible refine Go.and ?_ ?_|(apply Go.elem;(·exact aElem))|refine aH ?_|((with_reducible refine Go.bool ?_ ?_) <;> intro hc <;> (try simp only [List.length_map,ne_eq,hcs] at hc) <;> try (exfalso;omega)))
 ·refine bl_eq (Eq.symm ?_)
  exact decide_eq_false fun e => hc (by rw [e])
 ·have hlm:l.length = m.length:=by omega
  refine Go.loop (fun i:Nat => [(0,imB l),(1,imB m),(5,i64 i)])
   (fun i H n => i ≤ l.length∧∀ j,j < i→l.getD j false = m.getD j false) (fun i => l.length - i) 0 aLess ⟨Nat.zero_le _,fun _ h => by omega⟩ ?_
  unfold imB
  rintro i H n ⟨hi,hall⟩
  by_cases hil:i < l.length
  ·have e1:=fun d => bl_at (l:=l) hil d
   have e2:=fun d => bl_at (l:=m) (k:=i) (by omega) d
   repeat' (first|((with_reducible refine Go.red ?_);conv => whnf)|refine aG ?_|exact aC|with_reducible refine Go.and ?_ ?_|(apply Go.elem;(·(first|exact e1 _|exact e2 _|exact aElem)))|refine aH ?_|((with_reducible refine Go.bool ?_ ?_) <;> intro hc <;> (try simp only [List.length_map,ne_eq,hcs] at hc) <;> try (exfalso;omega)))
   ·refine bl_eq (Eq.symm ?_)
    refine decide_eq_false fun e => ?_
    rw [e] at hc
    simp at hc
   ·refine ⟨i + 1,by omega,aLess,by omega,fun j hj => ?_⟩
    by_cases hji:j = i
    ·subst hji;simpa using hc
    ·exact hall j (by omega)
  ·have:i = l.length:=by omega
   subst this
   repeat' (first|((with_reducible refine Go.red ?_);conv => whnf)|refine aG ?_|exact aC|with_reducible refine Go.and ?_ ?_|(apply Go.elem;(·exact aElem))|refine aH ?_|((with_reducible refine Go.bool ?_ ?_) <;> intro hc <;> (try simp only [List.length_map,ne_eq,hcs] at hc) <;> try (exfalso;omega)))
   refine bl_eq (Eq.symm ?_)
   exact decide_eq_true (list_eq false hlm hall)
theorem twice_pure:Pure Tryz.prog 34 [] (fun r => r = twU.av):=by
 have h:Pure Tryz.prog 34 [] (fun r => r = .agg [.sc (.slice none 0 0),.sc (.slice none 0 0),graphsAv [tw0]]):=by
  refine pure_of_call ?_ (by rw [fitA,fitL,fitL,fitL,fitL];exact ⟨by simp [fitA],by simp [fitA],by rw [fitA];exact fit_graphs _,trivial⟩)
  refine Go.fnL lf34 rfl ?_
  repeat' (first|((with_reducible refine Go.red ?_);conv => whnf)|refine aG ?_|exact aC|with_reducible refine Go.and ?_ ?_|(apply Go.elem;(·exact aElem))|refine aH ?_|((with_reducible refine Go.bool ?_ ?_) <;> intro hc <;> (try simp only [List.length_map,ne_eq,hcs] at hc) <;> try (exfalso;omega)))
  exact ⟨by kernel_rfl⟩
 refine pure_le (u:=.agg [.sc (.slice none 0 0),.sc (.slice none 0 0),graphsAv [tw0]]) (h.mono fun r hr => .inl hr) (fit_unitAv _) fun c => ?_
 refine Abs.AVle.agg (.cons ?_ (.cons ?_ (.cons (fun _ h => h) .nil)))
 ·exact Abs.AVle.nilIm c c 3 .any
 ·exact Abs.AVle.nilIm c c 3 .any
theorem bools_look (l m:List Bool) (hl:l.length ≤ 4096) (hm:m.length ≤ 4096) {b:Nat} {H:Hp} {nx:Nat} {e:TypeId} {d:AV} (hb:getH H b = some (.row e 1 d (m.map bl))):Look Tryz.prog 11 [imB l,.sl b m.length] H nx (bl (decide (l = m))):=by
 refine Pure.view (args2:=[imB l,imB m]) (bools_pure l m hl hm) ?_ (by simp [fitL,fitA,imB,fitL_map]) trivial ⟨rfl,fun _ _ => rfl⟩
 rw [List.map_cons,List.map_cons,List.map_nil,frz_fit 6 (by simp [fitA,imB,fitL_map]),frz_sl hb (by simp),frz_same _ (fit_bools _ _)]
 rfl
theorem bools_tw {b:Nat} {H:Hp} {nx:Nat} {e:TypeId} {d:AV} (hb:getH H b = some (.row e 1 d [bl true,bl false,bl false,bl false])):Look Tryz.prog 11 [imB [true,false,false,false],.sl b 4] H nx (bl true) :=
 bools_look [true,false,false,false] [true,false,false,false] (by decide) (by decide) hb
set_option maxRecDepth 4000 in
set_option maxHeartbeats 4000000 in
theorem begins_pure:Pure Tryz.prog 13 [] (fun r => r = bl true):=by
 have hcl:classesU twU = []:=rfl
 have h1:Pure Tryz.prog 7 [twU.av,i64 0] (fun r => r = .tup [imB [true,false,false,false],i64 0]):=by
  have:=Idle_pure twU tw_wf 0
  unfold listAv at this
  rw [if_pos (rightB_iff.2 twU_right),if_neg (by decide),hcl,show twU.gr (0:Int).toNat = tw0 from rfl,show (0:Int).toNat = 0 from rfl,idle_tw0] at this
  exact this
 have h2:Pure Tryz.prog 15 [twU.av] (fun r => r = .tup [twV.av,i64 0]):=by
  have:=Sweep_right twU tw_wf twU_right
  rw [sweep_tw] at this
  exact this
 have h3:Pure Tryz.prog 17 [twU.av,i64 0] (fun r => r = .tup [.im 1 .any ([[false],[false],[true],[false]].map imB),i64 0]):=by
  have:=Live_pure twU tw_wf 0
  unfold tabAv at this
  rw [if_pos (rightB_iff.2 twU_right),if_neg (by decide),show twU.gr (0:Int).toNat = tw0 from rfl,live_tw0] at this
  exact this
 have h0:=twice_pure
 refine Go.pureL lf13 rfl ?_
 repeat' (first|((with_reducible refine Go.red ?_);conv => whnf)|refine aG ?_|exact aCn|with_reducible refine Go.and ?_ ?_|((with_reducible refine Ask.mk ?_);first|exact aAsk|exact aAsk2|(intro h;simp_all [UnitS.cells,Graph.cells,Node.cells] <;> fail)|(simp_all [UnitS.cells,Graph.cells,Node.cells] <;> fail))|(apply Go.elem;(·(first|exact rfl|exact aElem)))|refine aK (h0) ?_|refine aK (h1) ?_|refine aK (h2) ?_|refine aK (h3) ?_|((refine Go.lookW (bools_tw (by exact aRow)) ?_ ?_);(·exact True.intro))|((refine Go.lookJ (fun _ => bools_tw (by exact aRow)) ?_ ?_);(·exact True.intro))|refine aH ?_|((with_reducible refine Go.bool ?_ ?_) <;> intro hc <;> (try simp only [List.length_map,ne_eq,hcs] at hc) <;> try (exfalso;omega)))
 all_goals first|exact ⟨⟨by decide +kernel,by decide +kernel⟩⟩|exact rfl
end Go.Proofs.YtmonponfppdgfaaGreatDoor
end
section
/- The document's Live and Waits: the walk. -/
namespace Go.Proofs.YtmonponfppdgfaaGreatDoor
open Go Go.Abs Go.Proofs
set_option linter.unusedSimpArgs false
set_option linter.unusedVariables false
@[simp] theorem fit_classC (n:Nat) (v:ClassV):fitL n v.cells:=by simp [ClassV.cells,fitL,fitA]
set_option maxRecDepth 4000 in
set_option maxHeartbeats 2000000 in
theorem fault_pure (u:UnitS) (hu:u.Wf) (t:Int):Pure Tryz.prog 24 [u.av,i64 t] (fun r => r = i64 (if rightB u = true then (if t < 0 ∨ (u.graphs.length:Int) ≤ t then 2 else 0) else 60)):=by
 have hck:=rcheck_pure u hu
 have hgl:=hu.graphslen
 have hgm:(u.graphs.map Graph.av).length = u.graphs.length:=by simp
 by_cases hr:RightU u
 ·rw [if_pos (rightB_iff.2 hr)]
  rw [checkU_ok.2 hr] at hck
  refine Go.pureL lf24 rfl ?_
  by_cases ht:t < 0 ∨ (u.graphs.length:Int) ≤ t
  ·rw [if_pos ht]
   repeat' (first|((with_reducible refine Go.red ?_);conv => whnf)|refine aG ?_|exact aCn|with_reducible refine Go.and ?_ ?_|((with_reducible refine Ask.mk ?_);first|exact aAsk|(exact hgm)|exact aAsk2|(intro h;simp_all [UnitS.cells] <;> fail)|(simp_all [UnitS.cells] <;> fail))|(apply Go.elem;(·exact aElem))|refine aK (hck) ?_|refine aH ?_|((with_reducible refine Go.bool ?_ ?_) <;> intro hc <;> (try simp only [List.length_map,ne_eq,hcs] at hc) <;> try (exfalso;omega)))
   all_goals first|exact rfl|(exfalso;simp at hc;omega)
  ·rw [if_neg ht]
   repeat' (first|((with_reducible refine Go.red ?_);conv => whnf)|refine aG ?_|exact aCn|with_reducible refine Go.and ?_ ?_|((with_reducible refine Ask.mk ?_);first|exact aAsk|(exact hgm)|exact aAsk2|(intro h;simp_all [UnitS.cells] <;> fail)|(simp_all [UnitS.cells] <;> fail))|(apply Go.elem;(·exact aElem))|refine aK (hck) ?_|refine aH ?_|((with_reducible refine Go.bool ?_ ?_) <;> intro hc <;> (try simp only [List.length_map,ne_eq,hcs] at hc) <;> try (exfalso;omega)))
   all_goals first|exact rfl|(exfalso;simp at hc;omega)
 ·rw [if_neg (mt rightB_iff.1 hr)]
  have hbad:=checkU_bad hr
  generalize checkU u = c at *
  obtain ⟨c1,c2,c3⟩:=c
  dsimp only at hbad
  subst hbad
  refine Go.pureL lf24 rfl ?_
  repeat' (first|((with_reducible refine Go.red ?_);conv => whnf)|refine aG ?_|exact aCn|with_reducible refine Go.and ?_ ?_|((with_reducible refine Ask.mk ?_);first|exact aAsk|(exact hgm)|exact aAsk2|(intro h;simp_all [UnitS.cells] <;> fail)|(simp_all [UnitS.cells] <;> fail))|(apply Go.elem;(·exact aElem))|refine aK (hck) ?_|refine aH ?_|((with_reducible refine Go.bool ?_ ?_) <;> intro hc <;> (try simp only [List.length_map,ne_eq,hcs] at hc) <;> try (exfalso;omega)))
  all_goals first|exact rfl|(exfalso;simp at hc;done)|(exfalso;simp at hc;omega)
set_option maxRecDepth 4000 in
set_option maxHeartbeats 2000000 in
theorem rLive_pure (u:UnitS) (hu:u.Wf) (t:Int):Pure Tryz.prog 18 [u.av,i64 t] (fun r => r = tabAv u t (liveT (u.gr t.toNat))):=by
 have hf:=fault_pure u hu t
 have hgm:(u.graphs.map Graph.av).length = u.graphs.length:=by simp
 unfold tabAv
 by_cases hr:RightU u
 ·rw [if_pos (rightB_iff.2 hr)] at hf ⊢
  by_cases ht:t < 0 ∨ (u.graphs.length:Int) ≤ t
  ·rw [if_pos ht] at hf ⊢
   refine nil_tab ?_
   refine Go.pureL lf18 rfl ?_
   repeat' (first|((with_reducible refine Go.red ?_);conv => whnf)|refine aG ?_|exact aCn|with_reducible refine Go.and ?_ ?_|((with_reducible refine Ask.mk ?_);first|exact aAsk|exact aAsk2|(intro h;simp_all [UnitS.cells] <;> fail)|(simp_all [UnitS.cells] <;> fail))|(apply Go.elem;(·exact aElem))|refine aK (hf) ?_|refine aH ?_|((with_reducible refine Go.bool ?_ ?_) <;> intro hc <;> (try simp only [List.length_map,ne_eq,hcs] at hc) <;> try (exfalso;omega)))
   all_goals first|exact rfl|(exfalso;simp at hc;done)
  ·rw [if_neg ht] at hf ⊢
   obtain ⟨k,rfl⟩:∃ k:Nat,t = k:=⟨t.toNat,by omega⟩
   rw [Int.toNat_natCast]
   have hk:k < u.graphs.length:=by omega
   have eg:∀ d,(u.graphs.map Graph.av).getD (k:Int).toNat d = (u.gr k).av:=fun d => gr_at hk d
   have hgo:=hr.gr hk
   have hsl:=hgo.slots
   have hlo:=hgo.locals
   obtain ⟨N,hN⟩:∃ N:Nat,(u.gr k).slots = N:=⟨(u.gr k).slots.toNat,by omega⟩
   have hlv:=rlive_pure (u.gr k) (hu.graphs _ (getD_mem' default hk)) hgo.whole N (by omega) hN
   refine Go.pureL lf18 rfl ?_
   repeat' (first|((with_reducible refine Go.red ?_);conv => whnf)|refine aG ?_|exact aCn|with_reducible refine Go.and ?_ ?_|((with_reducible refine Ask.mk ?_);first|exact aAsk|(exact hgm)|exact aAsk2|(intro h;simp_all [UnitS.cells] <;> fail)|(simp_all [UnitS.cells] <;> fail))|(apply Go.elem;(·(first|exact eg _|exact aElem)))|refine aK (hf) ?_|refine aK (hlv) ?_|refine aH ?_|((with_reducible refine Go.bool ?_ ?_) <;> intro hc <;> (try simp only [List.length_map,ne_eq,hcs] at hc) <;> try (exfalso;omega)))
   all_goals first|(exfalso;simp at hc;done)|exact Res.eq (by simp only [fitA,fitL];exact ⟨fit_tab _,trivial,trivial⟩) rfl
 ·rw [if_neg (mt rightB_iff.1 hr)] at hf ⊢
  refine nil_tab ?_
  refine Go.pureL lf18 rfl ?_
  repeat' (first|((with_reducible refine Go.red ?_);conv => whnf)|refine aG ?_|exact aCn|with_reducible refine Go.and ?_ ?_|((with_reducible refine Ask.mk ?_);first|exact aAsk|exact aAsk2|(intro h;simp_all [UnitS.cells] <;> fail)|(simp_all [UnitS.cells] <;> fail))|(apply Go.elem;(·exact aElem))|refine aK (hf) ?_|refine aH ?_|((with_reducible refine Go.bool ?_ ?_) <;> intro hc <;> (try simp only [List.length_map,ne_eq,hcs] at hc) <;> try (exfalso;omega)))
  all_goals first|exact rfl|(exfalso;simp at hc;done)
set_option maxRecDepth 4000 in
set_option maxHeartbeats 2000000 in
theorem rWaits_pure (u:UnitS) (hu:u.Wf) (t:Int):Pure Tryz.prog 21 [u.av,i64 t] (fun r => r = tabAv u t (waitT (u.gr t.toNat) (classesU u) t.toNat)):=by
 have hf:=fault_pure u hu t
 have hcp:=rclasses_pure u hu
 have hgm:(u.graphs.map Graph.av).length = u.graphs.length:=by simp
 unfold tabAv
 by_cases hr:RightU u
 ·rw [if_pos (rightB_iff.2 hr)] at hf hcp ⊢
  unfold classesAv at hcp
  by_cases ht:t < 0 ∨ (u.graphs.length:Int) ≤ t
  ·rw [if_pos ht] at hf ⊢
   refine nil_tab ?_
   refine Go.pureL lf21 rfl ?_
   repeat' (first|((with_reducible refine Go.red ?_);conv => whnf)|refine aG ?_|exact aCn|with_reducible refine Go.and ?_ ?_|((with_reducible refine Ask.mk ?_);first|exact aAsk|exact aAsk2|(intro h;simp_all [UnitS.cells] <;> fail)|(simp_all [UnitS.cells] <;> fail))|(apply Go.elem;(·exact aElem))|refine aK (hf) ?_|refine aH ?_|((with_reducible refine Go.bool ?_ ?_) <;> intro hc <;> (try simp only [List.length_map,ne_eq,hcs] at hc) <;> try (exfalso;omega)))
   all_goals first|exact rfl|(exfalso;simp at hc;done)
  ·rw [if_neg ht] at hf ⊢
   obtain ⟨k,rfl⟩:∃ k:Nat,t = k:=⟨t.toNat,by omega⟩
   rw [Int.toNat_natCast]
   have hk:k < u.graphs.length:=by omega
   have hgo:=hr.gr hk
   have hfew:=hr.few
   have hwp:=rwaits_pure u hu k hk hgo.whole (classesU u) (classesU_len u) hfew.1
   have hcl:=@fit_classes (classesU u)
   generalize classesU u = cls at *
   refine Go.pureL lf21 rfl ?_
   repeat' (first|((with_reducible refine Go.red ?_);conv => whnf)|refine aG ?_|exact aCn|with_reducible refine Go.and ?_ ?_|((with_reducible refine Ask.mk ?_);first|exact aAsk|exact aAsk2|(intro h;simp_all [UnitS.cells] <;> fail)|(simp_all [UnitS.cells] <;> fail))|(apply Go.elem;(·exact aElem))|refine aK (hf) ?_|refine aK (hcp) ?_|refine aK (hwp) ?_|refine aH ?_|((with_reducible refine Go.bool ?_ ?_) <;> intro hc <;> (try simp only [List.length_map,ne_eq,hcs] at hc) <;> try (exfalso;omega)))
   all_goals first|(exfalso;simp at hc;done)|exact Res.eq (by simp only [fitA,fitL];exact ⟨fit_tab _,trivial,trivial⟩) rfl
 ·rw [if_neg (mt rightB_iff.1 hr)] at hf ⊢
  refine nil_tab ?_
  refine Go.pureL lf21 rfl ?_
  repeat' (first|((with_reducible refine Go.red ?_);conv => whnf)|refine aG ?_|exact aCn|with_reducible refine Go.and ?_ ?_|((with_reducible refine Ask.mk ?_);first|exact aAsk|exact aAsk2|(intro h;simp_all [UnitS.cells] <;> fail)|(simp_all [UnitS.cells] <;> fail))|(apply Go.elem;(·exact aElem))|refine aK (hf) ?_|refine aH ?_|((with_reducible refine Go.bool ?_ ?_) <;> intro hc <;> (try simp only [List.length_map,ne_eq,hcs] at hc) <;> try (exfalso;omega)))
  all_goals first|exact rfl|(exfalso;simp at hc;done)
set_option maxRecDepth 4000 in
theorem bools_same (l:List Bool) (hl:l.length ≤ 5000):Pure Tryz.prog 11 [imB l,imB l] (fun r => r = bl true):=by
 refine Go.pureL lf11 rfl ?_
 have hm:(l.map bl).length = l.length:=by simp
 unfold imB
 repeat' (first|((with_reducible refine Go.red ?_);conv => whnf)|refine aG ?_|exact aC|with_reducible refine Go.and ?_ ?_|(apply Go.elem;(·exact aElem))|refine aH ?_|((with_reducible refine Go.bool ?_ ?_) <;> intro hc <;> (try simp only [List.length_map,ne_eq,hcs] at hc) <;> try (exfalso;omega)))
 all_goals first|(exfalso;simp at hc;done)|skip
 refine Go.loop (fun i:Nat => [(0,imB l),(1,imB l),(5,i64 i)])
  (fun i H n => i ≤ l.length) (fun i => l.length - i) 0 aLess (Nat.zero_le _) ?_
 unfold imB
 rintro i H n hi
 by_cases hil:i < l.length
 ·have e1:=fun d => bl_at (l:=l) hil d
  repeat' (first|((with_reducible refine Go.red ?_);conv => whnf)|refine aG ?_|exact aCn|with_reducible refine Go.and ?_ ?_|((with_reducible refine Ask.mk ?_);first|exact aAsk|(exact hm)|exact aAsk2)|(apply Go.elem;(·(first|exact e1 _|exact aElem)))|refine aH ?_|((with_reducible refine Go.bool ?_ ?_) <;> intro hc <;> (try simp only [List.length_map,ne_eq,hcs] at hc) <;> try (exfalso;omega)))
  all_goals first|(exfalso;simp at hc;done)|exact ⟨i + 1,by omega,aLess,by omega⟩
 ·have:i = l.length:=by omega
  subst this
  repeat' (first|((with_reducible refine Go.red ?_);conv => whnf)|refine aG ?_|exact aCn|with_reducible refine Go.and ?_ ?_|((with_reducible refine Ask.mk ?_);first|exact aAsk|(exact hm)|exact aAsk2)|(apply Go.elem;(·exact aElem))|refine aH ?_|((with_reducible refine Go.bool ?_ ?_) <;> intro hc <;> (try simp only [List.length_map,ne_eq,hcs] at hc) <;> try (exfalso;omega)))
  exact rfl
set_option maxRecDepth 4000 in
theorem tables_same (T:Tab) (hT:T.length ≤ 5000) (hr:∀ i,(T.getD i []).length ≤ 5000):Pure Tryz.prog 19 [.im 1 .any (T.map imB),.im 1 .any (T.map imB)] (fun r => r = bl true):=by
 refine Go.pureL lf19 rfl ?_
 have hm:(T.map imB).length = T.length:=by simp
 repeat' (first|((with_reducible refine Go.red ?_);conv => whnf)|refine aG ?_|exact aC|with_reducible refine Go.and ?_ ?_|(apply Go.elem;(·exact aElem))|refine aH ?_|((with_reducible refine Go.bool ?_ ?_) <;> intro hc <;> (try simp only [List.length_map,ne_eq,hcs] at hc) <;> try (exfalso;omega)))
 all_goals first|(exfalso;simp at hc;done)|skip
 refine Go.loop (fun i:Nat => [(0,.im 1 .any (T.map imB)),(1,.im 1 .any (T.map imB)),(5,i64 i)])
  (fun i H n => i ≤ T.length) (fun i => T.length - i) 0 aLess (Nat.zero_le _) ?_
 rintro i H n hi
 by_cases hil:i < T.length
 ·have e1:∀ d,(T.map imB).getD (i:Int).toNat d = imB (T.getD i []):=fun d => by
   rw [Int.toNat_natCast];exact getD_av imB T i d hil
  have hb:=bools_same _ (hr i)
  unfold imB at hb
  have e2:∀ d,(T.map imB).getD (i:Int).toNat d = .im 1 .any ((T.getD i []).map bl):=e1
  repeat' (first|((with_reducible refine Go.red ?_);conv => whnf)|refine aG ?_|exact aCn|with_reducible refine Go.and ?_ ?_|((with_reducible refine Ask.mk ?_);first|exact aAsk|(exact hm)|exact aAsk2)|(apply Go.elem;(·(first|exact e2 _|exact aElem)))|refine aK (hb) ?_|refine aH ?_|((with_reducible refine Go.bool ?_ ?_) <;> intro hc <;> (try simp only [List.length_map,ne_eq,hcs] at hc) <;> try (exfalso;omega)))
  all_goals first|(exfalso;simp at hc;done)|exact ⟨i + 1,by omega,aLess,by omega⟩
 ·have:i = T.length:=by omega
  subst this
  repeat' (first|((with_reducible refine Go.red ?_);conv => whnf)|refine aG ?_|exact aCn|with_reducible refine Go.and ?_ ?_|((with_reducible refine Ask.mk ?_);first|exact aAsk|(exact hm)|exact aAsk2)|(apply Go.elem;(·exact aElem))|refine aH ?_|((with_reducible refine Go.bool ?_ ?_) <;> intro hc <;> (try simp only [List.length_map,ne_eq,hcs] at hc) <;> try (exfalso;omega)))
  exact rfl
end Go.Proofs.YtmonponfppdgfaaGreatDoor
end
