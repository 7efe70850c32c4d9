import Derived.Test.YtflicfkgbjmffaaGreatM20
section
/- The arrows that count, in a matrix. -/
namespace Go.Abs
open Go.RowKit
theorem CallN.freshP {P:Program} {f:FuncId} {args args2:List AV} {e:TypeId} {sz:Nat} {x:AV} (h:CallN P f args2 [] 0 (fun r1 H1 _ => ∃ b d0,r1 = .pt b 1 0 0∧getH H1 b = some (.row e sz d0 [x]))) (hfl:flatR x) (d:AV) {H:Hp} {id:Nat} (ha:args.map (frz H 6) = args2) (hfa:fitL 0 args2) :
  CallH P f args H id (fun r' H'' => r' = .pt id 1 0 0∧H'' = putH H (some (id,.row e sz d [x]))):=by
 refine ⟨h.1,fun w0 c vs hS hH hid hv => ?_⟩
 have hS0:Sim c.w ⟨fun _ => none,getH [],fun _ => False,c.w,c.M0⟩:=⟨Below.refl _ _,fun b hb => Nat.lt_of_lt_of_le (hS.m0 b hb) hS.below.size,fun b e sz d es he => by simp [getH] at he,fun b b' k k' blk o z o' z' hk => by simp [getH] at hk⟩
 subst ha
 have hv':VRs ⟨fun _ => none,getH [],fun _ => False,c.w,c.M0⟩ (args.map (frz H 6)) vs:=frzL_spec hS hH hfa hv
 refine (h.2 c.w _ vs hS0 rfl (fun _ h => h.elim) hv').mono ?_
 rintro en w' ⟨v,r1,H1,nx',ρ,U,he,⟨b,d0,rfl,hb⟩,hU,hS',_,hvr⟩
 rw [VR] at hvr
 obtain ⟨_,_,ad,hvv,hrr⟩:=hvr
 obtain ⟨_,hr2⟩:=hrr _ _ _ _ hb
 obtain ⟨hsz0,blk0,o0,z0,hρ0,rfl⟩:=hr2 rfl
 obtain ⟨_,hz,hor⟩:=hS'.rowP b _ _ _ _ hb (by omega)
 have hbel:=hS'.below
 have hHeq:getH (putH H (some (id,.row e sz d [x]))) = upd c.H id (some (.row e sz d [x])):=by rw [getH_put,hH]
 rcases hor with ⟨h0,_⟩|⟨blk,o,z,hρ,hlow,⟨arr,harr,hsz⟩,hlz,hrow⟩
 ·rw [hρ0] at h0;cases h0
 ·rw [hρ0] at hρ;cases hρ
  obtain ⟨p1,p2⟩:=hS.putG (b:=id) (e:=e) (sz:=sz) d (es:=[x]) (w':=w') (blk:=blk0) (o:=o0) (z:=z0) hz (.inl hid) (.inl hlow) hbel.os hbel.tape hbel.output hbel.size (fun k hk _ => hbel.block k hk) harr hsz hlz (fun hle i hi => by
   obtain ⟨y,x1,x2⟩:=VRow_get hrow i hi
   have:i = 0:=by simpa using hi
   subst this
   exact ⟨y,x1,flatR_vr hfl x2⟩)
  refine ⟨v,_,_,upd c.ρ id (some (blk0,o0,z0)),he,⟨rfl,rfl⟩,?_,?_,?_⟩
  ·rw [hHeq];exact p1
  ·rw [hHeq];exact p2
  ·rw [hHeq,VR]
   refine ⟨.inr rfl,by omega,_,hvv,fun e' sz' d' es' he' => ?_⟩
   simp only [nxt,upd_same,Option.some.injEq,Blk.row.injEq] at he'
   obtain ⟨rfl,rfl,rfl,rfl⟩:=he'
   exact ⟨by simp,fun _ => ⟨by omega,blk0,o0,z0,by simp [nxt],rfl⟩⟩
theorem Go.freshPE {P:Program} {f:FuncId} {args args2:List AV} {e:TypeId} {sz:Nat} {x:AV} {H:Hp} {id:Nat} {K:AV→Option (Nat × Blk)→List Nat→Prop} (S:List Nat) (d:AV) (h:CallN P f args2 [] 0 (fun r1 H1 _ => ∃ b d0,r1 = .pt b 1 0 0∧getH H1 b = some (.row e sz d0 [x]))) (hfl:flatR x)
  (ha:∀ H1,(∀ b ∈ S,getH H1 b = getH H b)→args.map (frz H1 6) = args2) (hf:fitL 0 args2) (hK:Go (K (.pt id 1 0 0) (some (id,.row e sz d [x])) S)):CallE P id f args H K :=
 CallE.fresh S (fun H1 h1 => CallN.freshP h hfl d (ha H1 h1) hf) (fun b q hq => by cases hq;rfl) hK
end Go.Abs
namespace Go.Proofs.YtflicfkgbjmffaaGreat
open Go Go.Abs Go.Proofs
set_option linter.unusedSimpArgs false
set_option linter.unusedVariables false
def arrK (x:Exec) (cf:Int→Nat→Nat→Bool) (k a b:Nat):Bool:=decide (a ≠ b) && (List.range k).any fun j => isB x j a b && cf j a b
def arrM (x:Exec) (cf:Int→Nat→Nat→Bool):Mat:=fun a b => decide (a < x.events.length) && decide (b < x.events.length) && arrK x cf 4 a b
def Part (x:Exec) (cf:Int→Nat→Nat→Bool) (a b k:Nat) (M:Mat):Prop:=∀ y z,M y z = if y < a ∨ (y = a∧z < b) then arrM x cf y z else if y = a∧z = b then arrK x cf k a b else false
theorem arrK_succ {x:Exec} {cf:Int→Nat→Nat→Bool} {k a b:Nat}:arrK x cf (k + 1) a b = (arrK x cf k a b || (decide (a ≠ b) && (isB x k a b && cf k a b))):=by
 simp only [arrK,List.range_succ,List.any_append,List.any_cons,List.any_nil,Bool.or_false]
 cases decide (a ≠ b) <;> simp
theorem Part.zero {x:Exec} {cf:Int→Nat→Nat→Bool}:Part x cf 0 0 0 fun _ _ => false:=by
 intro y z
 rw [if_neg (by omega)]
 split <;> simp [arrK]
theorem Part.kind {x:Exec} {cf:Int→Nat→Nat→Bool} {a b k:Nat} {M:Mat} (h:Part x cf a b k M) (hne:a ≠ b) {v:Bool} (hv:v = (M a b || (isB x k a b && cf k a b))):Part x cf a b (k + 1) (setM M a b v):=by
 have hab:=h a b
 rw [if_neg (by omega),if_pos ⟨rfl,rfl⟩] at hab
 intro y z
 simp only [setM]
 by_cases hyz:y = a∧z = b
 ·obtain ⟨rfl,rfl⟩:=hyz
  rw [if_pos ⟨rfl,rfl⟩,if_neg (by omega),if_pos ⟨rfl,rfl⟩,arrK_succ,hv,hab]
  simp [hne]
 ·rw [if_neg hyz,h y z,if_neg hyz,if_neg hyz]
theorem Part.next {x:Exec} {cf:Int→Nat→Nat→Bool} {a b k:Nat} {M:Mat} (h:Part x cf a b k M) (ha:a < x.events.length) (hb:b < x.events.length) (hk:k = 4 ∨ a = b):Part x cf a (b + 1) 0 M:=by
 intro y z
 rw [h y z]
 by_cases h1:y < a ∨ (y = a∧z < b)
 ·rw [if_pos h1,if_pos (by omega)]
 ·rw [if_neg h1]
  by_cases h2:y = a∧z = b
  ·rw [if_pos h2,if_pos (by omega)]
   obtain ⟨rfl,rfl⟩:=h2
   simp only [arrM,ha,hb,decide_true,Bool.true_and]
   rcases hk with rfl|rfl
   ·rfl
   ·simp [arrK]
  ·rw [if_neg h2,if_neg (by omega)]
   split <;> simp [arrK]
theorem Part.row {x:Exec} {cf:Int→Nat→Nat→Bool} {a:Nat} {M:Mat} (h:Part x cf a x.events.length 0 M):Part x cf (a + 1) 0 0 M:=by
 intro y z
 have e0:∀ (p:Prop) [Decidable p] (a b:Nat),(if p then arrK x cf 0 a b else false) = false:=by intro p _ a b;split <;> simp [arrK]
 rw [h y z,e0,e0]
 by_cases h1:y < a ∨ (y = a∧z < x.events.length)
 ·rw [if_pos h1,if_pos (by omega)]
 ·rw [if_neg h1]
  by_cases h2:y < a + 1
  ·rw [if_pos (.inl h2)]
   have:¬ z < x.events.length:=by omega
   simp only [arrM,this,decide_false,Bool.false_and,Bool.and_false]
  ·rw [if_neg (by omega)]
theorem Part.all {x:Exec} {cf:Int→Nat→Nat→Bool} {M:Mat} (h:Part x cf x.events.length 0 0 M):M = arrM x cf:=by
 funext y z
 rw [h y z]
 by_cases h1:y < x.events.length
 ·rw [if_pos (.inl h1)]
 ·rw [if_neg (by omega)]
  simp only [arrM,h1,decide_false,Bool.false_and]
  split <;> simp [arrK]
set_option maxHeartbeats 4000000 in
theorem arrows_v (x:Exec) (h:Fine x) (g:FuncId) (v:AV) (hv:fitA 0 v) (cf:Int→Nat→Nat→Bool)
  (hcl:∀ (k a b:Nat),k < 4→a < x.events.length→b < x.events.length→Pure Tryz.prog g [u8 k,i64 a,i64 b,v] (fun r => r = bl (cf k a b))) :
  CallN Tryz.prog 39 [x.av,.fn (.func g) [] [v]] [] 0 (fun r H n => ∃ b d,r = .pt b 1 0 0∧getH H b = some (.row 141 4096 d [.agg (matC (arrM x cf))])):=by
 have hfew:=h.few
 refine Go.fnL lf39 rfl ?_
 repeat' (first|((with_reducible refine Go.red ?_);conv => whnf)|refine aG ?_|exact aC|with_reducible refine Go.and ?_ ?_|(apply Go.elem;(·(first|((with_reducible refine matC_get ?_ ?_ _);(·omega);(·omega))|with_reducible exact ev_get|exact aElem)))|refine aH ?_|((with_reducible refine Go.bool ?_ ?_) <;> intro hc <;> (try simp only [List.length_map,ne_eq,hcs] at hc) <;> try (exfalso;omega)))
 refine Go.loop (fun p:Nat × Mat => [(1,.fn (.func g) [] [v]),(2,.pt 0 1 0 0),(5,.pt 3 1 0 0),(13,i64 x.events.length),(14,i64 p.1)])
  (fun p H n => p.1 ≤ x.events.length∧4 ≤ n∧getH H 0 = some (.row 31 4 .any [x.av])∧getH H 3 = some (.row 141 4096 .any [.agg (matC p.2)])∧Part x cf p.1 0 0 p.2) (fun p => x.events.length - p.1) (0,fun _ _ => false) aLess ⟨Nat.zero_le _,aNx,aRow,by rw [← matC_rep];exact aRow,Part.zero⟩ ?_
 rintro ⟨a,M1⟩ H1 n1 ⟨ha,hn1,r0,r1,hp1⟩
 dsimp only at ha r1 hp1 ⊢
 repeat' (first|((with_reducible refine Go.red ?_);conv => whnf)|refine aG ?_|exact aC|with_reducible refine Go.and ?_ ?_|(apply Go.elem;(·(first|((with_reducible refine matC_get ?_ ?_ _);(·omega);(·omega))|with_reducible exact ev_get|exact aElem)))|refine aH ?_|((with_reducible refine Go.bool ?_ ?_) <;> intro hc <;> (try simp only [List.length_map,ne_eq,hcs] at hc) <;> try (exfalso;omega)))
 ·refine Go.loop (fun p:Nat × Mat => [(1,.fn (.func g) [] [v]),(2,.pt 0 1 0 0),(5,.pt 3 1 0 0),(6,i64 a),(13,i64 x.events.length),(14,i64 a),(19,i64 x.events.length),(20,i64 p.1)])
   (fun p H n => p.1 ≤ x.events.length∧4 ≤ n∧getH H 0 = some (.row 31 4 .any [x.av])∧getH H 3 = some (.row 141 4096 .any [.agg (matC p.2)])∧Part x cf a p.1 0 p.2) (fun p => x.events.length - p.1) (0,M1) aLess ⟨Nat.zero_le _,aNx,aRow,aRow,hp1⟩ ?_
  rintro ⟨b,M2⟩ H2 n2 ⟨hb,hn2,r02,r2,hp2⟩
  dsimp only at hb r2 hp2 ⊢
  repeat' (first|((with_reducible refine Go.red ?_);conv => whnf)|refine aG ?_|exact aC|with_reducible refine Go.and ?_ ?_|(apply Go.elem;(·(first|((with_reducible refine matC_get ?_ ?_ _);(·omega);(·omega))|with_reducible exact ev_get|exact aElem)))|refine aH ?_|((with_reducible refine Go.bool ?_ ?_) <;> intro hc <;> (try simp only [List.length_map,ne_eq,hcs] at hc) <;> try (exfalso;omega)))
  ·refine Go.loop (fun p:Nat × Mat => [(1,.fn (.func g) [] [v]),(2,.pt 0 1 0 0),(5,.pt 3 1 0 0),(6,i64 a),(7,i64 b),(8,u8 p.1),(13,i64 x.events.length),(14,i64 a),(19,i64 x.events.length),(20,i64 b)])
    (fun p H n => p.1 ≤ 4∧4 ≤ n∧getH H 0 = some (.row 31 4 .any [x.av])∧getH H 3 = some (.row 141 4096 .any [.agg (matC p.2)])∧Part x cf a b p.1 p.2) (fun p => 4 - p.1) (0,M2) aLess ⟨Nat.zero_le _,aNx,aRow,aRow,hp2⟩ ?_
   rintro ⟨k,M3⟩ H3 n3 ⟨hk,hn3,r03,r3,hp3⟩
   dsimp only at hk r3 hp3 ⊢
   by_cases hcond:k < 4∧a ≠ b
   ·have hIs:=is_pure x h k ⟨by omega,by omega⟩ a b (by omega) (by omega)
    have hCt:=hcl k a b hcond.1 (by omega) (by omega)
    repeat' (first|((with_reducible refine Go.red ?_);conv => whnf)|refine aG ?_|exact aC|with_reducible refine Go.and ?_ ?_|(apply Go.elem;(·(first|((with_reducible refine matC_get ?_ ?_ _);(·omega);(·omega))|with_reducible exact ev_get|exact aElem)))|refine aK (hIs) ?_|refine aK (hCt) ?_|((with_reducible refine Go.callF (fun _ => hCt) ?_ ?_);(·(simp [fitL,fitA,hv])))|refine aH ?_|((with_reducible refine Go.bool ?_ ?_) <;> intro hc <;> (try simp only [List.length_map,ne_eq,hcs] at hc) <;> try (exfalso;omega)))
    ·refine ⟨(k + 1,setM M3 a b (if M3 a b = true then true else (if isB x k a b = true then cf k a b else false))),by dsimp only;omega,aLess,by dsimp only;omega,aNx,aRow,?_,hp3.kind hcond.2 (by cases M3 a b <;> cases isB x k a b <;> cases cf k a b <;> rfl)⟩
     dsimp only
     rw [← matC_set (by omega) (by omega)]
     exact aRow
   ·repeat' (first|((with_reducible refine Go.red ?_);conv => whnf)|refine aG ?_|exact aC|with_reducible refine Go.and ?_ ?_|(apply Go.elem;(·(first|((with_reducible refine matC_get ?_ ?_ _);(·omega);(·omega))|with_reducible exact ev_get|exact aElem)))|refine aH ?_|((with_reducible refine Go.bool ?_ ?_) <;> intro hc <;> (try simp only [List.length_map,ne_eq,hcs] at hc) <;> try (exfalso;omega)))
    exact ⟨(b + 1,M3),by dsimp only;omega,aLess,by dsimp only;omega,aNx,aRow,aRow,hp3.next (by omega) (by omega) (by omega)⟩
  ·have:b = x.events.length:=by omega
   subst this
   exact ⟨(a + 1,M2),by dsimp only;omega,aLess,by dsimp only;omega,aNx,aRow,aRow,hp2.row⟩
 ·have:a = x.events.length:=by omega
  subst this
  rw [hp1.all] at r1
  exact ⟨⟨3,_,rfl,aRow⟩⟩
set_option maxHeartbeats 4000000 in
theorem arrows_e (x:Exec) (h:Fine x) (g:FuncId) (cf:Int→Nat→Nat→Bool)
  (hcl:∀ (k a b:Nat),k < 4→a < x.events.length→b < x.events.length→Pure Tryz.prog g [u8 k,i64 a,i64 b] (fun r => r = bl (cf k a b))) :
  CallN Tryz.prog 39 [x.av,.fn (.func g) [] []] [] 0 (fun r H n => ∃ b d,r = .pt b 1 0 0∧getH H b = some (.row 141 4096 d [.agg (matC (arrM x cf))])):=by
 have hfew:=h.few
 refine Go.fnL lf39 rfl ?_
 repeat' (first|((with_reducible refine Go.red ?_);conv => whnf)|refine aG ?_|exact aC|with_reducible refine Go.and ?_ ?_|(apply Go.elem;(·(first|((with_reducible refine matC_get ?_ ?_ _);(·omega);(·omega))|with_reducible exact ev_get|exact aElem)))|refine aH ?_|((with_reducible refine Go.bool ?_ ?_) <;> intro hc <;> (try simp only [List.length_map,ne_eq,hcs] at hc) <;> try (exfalso;omega)))
 refine Go.loop (fun p:Nat × Mat => [(1,.fn (.func g) [] []),(2,.pt 0 1 0 0),(5,.pt 3 1 0 0),(13,i64 x.events.length),(14,i64 p.1)])
  (fun p H n => p.1 ≤ x.events.length∧4 ≤ n∧getH H 0 = some (.row 31 4 .any [x.av])∧getH H 3 = some (.row 141 4096 .any [.agg (matC p.2)])∧Part x cf p.1 0 0 p.2) (fun p => x.events.length - p.1) (0,fun _ _ => false) aLess ⟨Nat.zero_le _,aNx,aRow,by rw [← matC_rep];exact aRow,Part.zero⟩ ?_
 rintro ⟨a,M1⟩ H1 n1 ⟨ha,hn1,r0,r1,hp1⟩
 dsimp only at ha r1 hp1 ⊢
 repeat' (first|((with_reducible refine Go.red ?_);conv => whnf)|refine aG ?_|exact aC|with_reducible refine Go.and ?_ ?_|(apply Go.elem;(·(first|((with_reducible refine matC_get ?_ ?_ _);(·omega);(·omega))|with_reducible exact ev_get|exact aElem)))|refine aH ?_|((with_reducible refine Go.bool ?_ ?_) <;> intro hc <;> (try simp only [List.length_map,ne_eq,hcs] at hc) <;> try (exfalso;omega)))
 ·refine Go.loop (fun p:Nat × Mat => [(1,.fn (.func g) [] []),(2,.pt 0 1 0 0),(5,.pt 3 1 0 0),(6,i64 a),(13,i64 x.events.length),(14,i64 a),(19,i64 x.events.length),(20,i64 p.1)])
   (fun p H n => p.1 ≤ x.events.length∧4 ≤ n∧getH H 0 = some (.row 31 4 .any [x.av])∧getH H 3 = some (.row 141 4096 .any [.agg (matC p.2)])∧Part x cf a p.1 0 p.2) (fun p => x.events.length - p.1) (0,M1) aLess ⟨Nat.zero_le _,aNx,aRow,aRow,hp1⟩ ?_
  rintro ⟨b,M2⟩ H2 n2 ⟨hb,hn2,r02,r2,hp2⟩
  dsimp only at hb r2 hp2 ⊢
  repeat' (first|((with_reducible refine Go.red ?_);conv => whnf)|refine aG ?_|exact aC|with_reducible refine Go.and ?_ ?_|(apply Go.elem;(·(first|((with_reducible refine matC_get ?_ ?_ _);(·omega);(·omega))|with_reducible exact ev_get|exact aElem)))|refine aH ?_|((with_reducible refine Go.bool ?_ ?_) <;> intro hc <;> (try simp only [List.length_map,ne_eq,hcs] at hc) <;> try (exfalso;omega)))
  ·refine Go.loop (fun p:Nat × Mat => [(1,.fn (.func g) [] []),(2,.pt 0 1 0 0),(5,.pt 3 1 0 0),(6,i64 a),(7,i64 b),(8,u8 p.1),(13,i64 x.events.length),(14,i64 a),(19,i64 x.events.length),(20,i64 b)])
    (fun p H n => p.1 ≤ 4∧4 ≤ n∧getH H 0 = some (.row 31 4 .any [x.av])∧getH H 3 = some (.row 141 4096 .any [.agg (matC p.2)])∧Part x cf a b p.1 p.2) (fun p => 4 - p.1) (0,M2) aLess ⟨Nat.zero_le _,aNx,aRow,aRow,hp2⟩ ?_
   rintro ⟨k,M3⟩ H3 n3 ⟨hk,hn3,r03,r3,hp3⟩
   dsimp only at hk r3 hp3 ⊢
   by_cases hcond:k < 4∧a ≠ b
   ·have hIs:=is_pure x h k ⟨by omega,by omega⟩ a b (by omega) (by omega)
    have hCt:=hcl k a b hcond.1 (by omega) (by omega)
    repeat' (first|((with_reducible refine Go.red ?_);conv => whnf)|refine aG ?_|exact aC|with_reducible refine Go.and ?_ ?_|(apply Go.elem;(·(first|((with_reducible refine matC_get ?_ ?_ _);(·omega);(·omega))|with_reducible exact ev_get|exact aElem)))|refine aK (hIs) ?_|refine aK (hCt) ?_|refine aH ?_|((with_reducible refine Go.bool ?_ ?_) <;> intro hc <;> (try simp only [List.length_map,ne_eq,hcs] at hc) <;> try (exfalso;omega)))
    ·refine ⟨(k + 1,setM M3 a b (if M3 a b = true then true else (if isB x k a b = true then cf k a b else false))),by dsimp only;omega,aLess,by dsimp only;omega,aNx,aRow,?_,hp3.kind hcond.2 (by cases M3 a b <;> cases isB x k a b <;> cases cf k a b <;> rfl)⟩
     dsimp only
     rw [← matC_set (by omega) (by omega)]
     exact aRow
   ·repeat' (first|((with_reducible refine Go.red ?_);conv => whnf)|refine aG ?_|exact aC|with_reducible refine Go.and ?_ ?_|(apply Go.elem;(·(first|((with_reducible refine matC_get ?_ ?_ _);(·omega);(·omega))|with_reducible exact ev_get|exact aElem)))|refine aH ?_|((with_reducible refine Go.bool ?_ ?_) <;> intro hc <;> (try simp only [List.length_map,ne_eq,hcs] at hc) <;> try (exfalso;omega)))
    exact ⟨(b + 1,M3),by dsimp only;omega,aLess,by dsimp only;omega,aNx,aRow,aRow,hp3.next (by omega) (by omega) (by omega)⟩
  ·have:b = x.events.length:=by omega
   subst this
   exact ⟨(a + 1,M2),by dsimp only;omega,aLess,by dsimp only;omega,aNx,aRow,aRow,hp2.row⟩
 ·have:a = x.events.length:=by omega
  subst this
  rw [hp1.all] at r1
  exact ⟨⟨3,_,rfl,aRow⟩⟩
end Go.Proofs.YtflicfkgbjmffaaGreat
end
section
/- Coherent, plain, tso: what the program answers. -/
namespace Go.Proofs.YtflicfkgbjmffaaGreat
open Go Go.Abs Go.Proofs
set_option linter.unusedSimpArgs false
set_option linter.unusedVariables false
def cohF (x:Exec) (k:Int) (a b:Nat):Bool:=decide (k ≠ 0) || (decide ((x.ev a).thing = (x.ev b).thing) && decide ((x.ev a).kind ≠ 4) && decide ((x.ev b).kind ≠ 4))
def tsoF (x:Exec) (k:Int) (a b:Nat):Bool:=if k = 1 then decide ((x.ev a).thread ≠ (x.ev b).thread) else if k = 0 then decide ((x.ev a).kind ≠ 2) || decide ((x.ev b).kind ≠ 1) else true
abbrev boxV (x:Exec):AV:=.ip 4 .any [x.av] 0 0
set_option maxHeartbeats 2000000 in
theorem coh_pure (x:Exec) (k a b:Nat) (ha:a < x.events.length) (hb:b < x.events.length):Pure Tryz.prog 60 [u8 k,i64 a,i64 b,boxV x] (fun r => r = bl (cohF x k a b)):=by
 refine Go.pureL lf60 rfl ?_
 repeat' (first|((with_reducible refine Go.red ?_);conv => whnf)|refine aG ?_|exact aCn|with_reducible refine Go.and ?_ ?_|((with_reducible refine Ask.mk ?_);first|exact aAsk|exact aAsk2|(intro h;simp_all [Exec.cells,Deed.cells] <;> fail)|(simp_all [Exec.cells,Deed.cells] <;> fail))|(apply Go.elem;(·(first|exact ev_get|exact int_get|exact lst_get|exact aElem)))|refine aH ?_|((with_reducible refine Go.bool ?_ ?_) <;> intro hc <;> (try simp only [List.length_map,ne_eq,hcs] at hc) <;> try (exfalso;omega)))
 all_goals
  refine bl_eq ?_
  rw [Bool.eq_iff_iff]
  simp only [cohF,ev_fold,fr_fold,Int.toNat_natCast,Bool.and_eq_true,Bool.or_eq_true,decide_eq_true_eq,Bool.ite_eq_true_distrib,Bool.false_eq_true] at *
  grind
set_option maxHeartbeats 2000000 in
theorem tsof_pure (x:Exec) (k a b:Nat) (ha:a < x.events.length) (hb:b < x.events.length):Pure Tryz.prog 36 [u8 k,i64 a,i64 b,boxV x] (fun r => r = bl (tsoF x k a b)):=by
 refine Go.pureL lf36 rfl ?_
 repeat' (first|((with_reducible refine Go.red ?_);conv => whnf)|refine aG ?_|exact aCn|with_reducible refine Go.and ?_ ?_|((with_reducible refine Ask.mk ?_);first|exact aAsk|exact aAsk2|(intro h;simp_all [Exec.cells,Deed.cells] <;> fail)|(simp_all [Exec.cells,Deed.cells] <;> fail))|(apply Go.elem;(·(first|exact ev_get|exact int_get|exact lst_get|exact aElem)))|refine aH ?_|((with_reducible refine Go.bool ?_ ?_) <;> intro hc <;> (try simp only [List.length_map,ne_eq,hcs] at hc) <;> try (exfalso;omega)))
 all_goals
  refine bl_eq ?_
  rw [Bool.eq_iff_iff]
  simp only [tsoF,ev_fold,fr_fold,Int.toNat_natCast,Bool.and_eq_true,Bool.or_eq_true,decide_eq_true_eq,Bool.ite_eq_true_distrib,Bool.false_eq_true] at *
  grind
theorem every_pure (k a b:Nat):Pure Tryz.prog 38 [u8 k,i64 a,i64 b] (fun r => r = bl true):=by
 refine Go.pureL lf38 rfl ?_
 repeat' (first|((with_reducible refine Go.red ?_);conv => whnf)|refine aG ?_|exact aC|with_reducible refine Go.and ?_ ?_|(apply Go.elem;(·exact aElem))|refine aH ?_|((with_reducible refine Go.bool ?_ ?_) <;> intro hc <;> (try simp only [List.length_map,ne_eq,hcs] at hc) <;> try (exfalso;omega)))
 exact rfl
theorem frz_clo {x:Exec} {g:FuncId} {H:Hp} {b:Nat} {e:TypeId} {d:AV} (h:getH H b = some (.row e 4 d [x.av])):[x.av,.fn (.func g) [] [.pt b 1 0 0]].map (frz H 6) = [x.av,.fn (.func g) [] [boxV x]]:=by
 have e1:∀ k,frz H k x.av = x.av:=fun k => frz_fit k (by simp [fitA])
 have e2:frz H 5 (.pt b 1 0 0) = boxV x:=by
  refine (frz_at (k:=4) (len:=1) (i:=0) (off:=0) h rfl).trans ?_
  simp only [List.map_cons,List.map_nil,e1]
 have e3:frz H 6 (.fn (.func g) [] [.pt b 1 0 0]) = .fn (.func g) [] [frz H 5 (.pt b 1 0 0)]:=by rw [frz];rfl
 simp only [List.map_cons,List.map_nil,e1,e2,e3]
theorem frz_cle {x:Exec} {g:FuncId} {H:Hp}:[x.av,.fn (.func g) [] []].map (frz H 6) = [x.av,.fn (.func g) [] []]:=by
 have e1:∀ k,frz H k x.av = x.av:=fun k => frz_fit k (by simp [fitA])
 have e3:frz H 6 (.fn (.func g) [] []) = .fn (.func g) [] []:=by rw [frz];rfl
 simp only [List.map_cons,List.map_nil,e1,e3]
set_option maxHeartbeats 4000000 in
theorem free_v (x:Exec) (h:Fine x) (g:FuncId) (cf:Int→Nat→Nat→Bool)
  (hcl:∀ (k a b:Nat),k < 4→a < x.events.length→b < x.events.length→Pure Tryz.prog g [u8 k,i64 a,i64 b,boxV x] (fun r => r = bl (cf k a b)))
  (b nx:Nat) (H:Hp) (e:TypeId) (d:AV) (hb:b < nx) (hr:getH H b = some (.row e 4 d [x.av])) :
  Look Tryz.prog 35 [x.av,.fn (.func g) [] [.pt b 1 0 0]] H nx (bl (!ringB x.events.length (arrM x cf))):=by
 have hfew:=h.few
 refine Go.lookAtL lf35 rfl ?_
 repeat' (first|((with_reducible refine Go.red ?_);conv => whnf)|refine aG ?_|exact aC|with_reducible refine Go.and ?_ ?_|(apply Go.elem;(·(first|exact ev_get|exact aElem)))|((refine Go.freshPE [b] .any (arrows_v x h g (boxV x) (by simp [fitA,fitL]) cf hcl) (flat_mat _) (fun H1 h1 => frz_clo ((h1 b (by simp)).trans aRow)) (by simp [fitL,fitA]) ?_))|refine aH ?_|((with_reducible refine Go.bool ?_ ?_) <;> intro hc <;> (try simp only [List.length_map,ne_eq,hcs] at hc) <;> try (exfalso;omega)))
 simp only [List.length_map]
 refine Go.callN (ring_call x.events.length (nx + 1 + 1 + 1 + 1) _ _ .any (arrM x cf) hfew aNx aRow) ?_
 rintro _ H2 n2 ⟨rfl,hn2,hfr⟩
 repeat' (first|((with_reducible refine Go.red ?_);conv => whnf)|refine aG ?_|exact aC|with_reducible refine Go.and ?_ ?_|(apply Go.elem;(·exact aElem))|refine aH ?_|((with_reducible refine Go.bool ?_ ?_) <;> intro hc <;> (try simp only [List.length_map,ne_eq,hcs] at hc) <;> try (exfalso;omega)))
 refine ⟨⟨rfl,fun y hy => ?_⟩⟩
 refine Eq.trans (hfr y (by simp only [List.length_cons,List.length_nil];omega) (by omega)) ?_
 repeat (first|exact rfl|(refine Eq.trans (getH_skipEq (by omega)) ?_))
set_option maxHeartbeats 4000000 in
theorem free_e (x:Exec) (h:Fine x) (b nx:Nat) (H:Hp) :
  Look Tryz.prog 35 [x.av,.fn (.func 38) [] []] H nx (bl (!ringB x.events.length (arrM x fun _ _ _ => true))):=by
 have hfew:=h.few
 refine Go.lookAtL lf35 rfl ?_
 repeat' (first|((with_reducible refine Go.red ?_);conv => whnf)|refine aG ?_|exact aC|with_reducible refine Go.and ?_ ?_|(apply Go.elem;(·(first|exact ev_get|exact aElem)))|((refine Go.freshPE [] .any (arrows_e x h 38 (fun _ _ _ => true) (fun k a b _ _ _ => every_pure k a b)) (flat_mat _) (fun H1 h1 => frz_cle) (by simp [fitL,fitA]) ?_))|refine aH ?_|((with_reducible refine Go.bool ?_ ?_) <;> intro hc <;> (try simp only [List.length_map,ne_eq,hcs] at hc) <;> try (exfalso;omega)))
 simp only [List.length_map]
 refine Go.callN (ring_call x.events.length (nx + 1 + 1 + 1 + 1) _ _ .any (arrM x fun _ _ _ => true) hfew aNx aRow) ?_
 rintro _ H2 n2 ⟨rfl,hn2,hfr⟩
 repeat' (first|((with_reducible refine Go.red ?_);conv => whnf)|refine aG ?_|exact aC|with_reducible refine Go.and ?_ ?_|(apply Go.elem;(·exact aElem))|refine aH ?_|((with_reducible refine Go.bool ?_ ?_) <;> intro hc <;> (try simp only [List.length_map,ne_eq,hcs] at hc) <;> try (exfalso;omega)))
 refine ⟨⟨rfl,fun y hy => ?_⟩⟩
 refine Eq.trans (hfr y (by simp only [List.length_cons,List.length_nil];omega) (by omega)) ?_
 repeat (first|exact rfl|(refine Eq.trans (getH_skipEq (by omega)) ?_))
end Go.Proofs.YtflicfkgbjmffaaGreat
end
section
/- Check, Coherent, Plain and Tso of the program. -/
namespace Go.Proofs.YtflicfkgbjmffaaGreat
open Go Go.Abs Go.Proofs
set_option linter.unusedSimpArgs false
set_option linter.unusedVariables false
def goodAt (x:Exec) (i:Nat):Bool:=evOk x.first.length (x.ev i) && frOk x i
def badFrom (x:Exec):Nat→Nat→Option Nat
 | 0,_ => none
 | m + 1,i => if goodAt x i = true then badFrom x m (i + 1) else some i
def shapeB (x:Exec):Bool:=decide (x.events.length ≤ 64) && decide (x.frm.length = x.events.length) && decide (x.after.length = x.first.length)
def checkS (x:Exec):Int × Int :=
 if shapeB x = true then (match badFrom x x.events.length 0 with
  | some i => (220,(i:Int))
  | none => if aftOk x then (0,0) else (220,0)) else (220,0)
def okB (x:Exec):Bool:=decide ((checkS x).1 = 0)
theorem badFrom_none {x:Exec}:∀ {m i:Nat},badFrom x m i = none→∀ j,i ≤ j→j < i + m→goodAt x j = true
 | 0,i,_,j,h1,h2 => by omega
 | m + 1,i,h,j,h1,h2 => by
  simp only [badFrom] at h
  split at h
  ·rename_i hg
   by_cases hji:j = i
   ·subst hji;exact hg
   ·exact badFrom_none h j (by omega) (by omega)
  ·cases h
theorem fine_of {x:Exec} (hx:x.Wf) (h:okB x = true):Fine x:=by
 simp only [okB,checkS,decide_eq_true_eq] at h
 split at h
 ·rename_i hs
  simp only [shapeB,Bool.and_eq_true,decide_eq_true_eq] at hs
  split at h
  ·simp at h
  ·rename_i hb
   split at h
   ·rename_i ha
    have hg:=badFrom_none hb
    refine ⟨hx,hs.1.1,hs.1.2,hs.2,fun i hi => ?_,fun i hi => ?_,ha⟩
    ·have:=hg i (by omega) (by omega);simp only [goodAt,Bool.and_eq_true] at this;exact this.1
    ·have:=hg i (by omega) (by omega);simp only [goodAt,Bool.and_eq_true] at this;exact this.2
   ·simp at h
 ·simp at h
set_option maxHeartbeats 2000000 in
theorem check_pure (x:Exec) (hx:x.Wf):Pure Tryz.prog 37 [x.av] (fun r => r = .tup [i64 (checkS x).1,i64 (checkS x).2]):=by
 refine Go.pureL lf37 rfl ?_
 have h1:=hx.eventslen
 have h2:=hx.frmlen
 have h3:=hx.afterlen
 have h4:=hx.firstlen
 repeat' (first|((with_reducible refine Go.red ?_);conv => whnf)|refine aG ?_|exact aCn|with_reducible refine Go.and ?_ ?_|((with_reducible refine Ask.mk ?_);first|exact aAsk|exact aAsk2|(intro h;simp_all [Exec.cells,Deed.cells] <;> fail)|(simp_all [Exec.cells,Deed.cells] <;> fail))|(apply Go.elem;(·(first|exact ev_get|exact int_get|exact lst_get|exact aElem)))|refine aH ?_|((with_reducible refine Go.bool ?_ ?_) <;> intro hc <;> (try simp only [List.length_map,ne_eq,hcs] at hc) <;> try (exfalso;omega)))
 ·have hs:shapeB x = false:=by
   rw [Bool.eq_false_iff]
   simp only [shapeB,ne_eq,Bool.and_eq_true,decide_eq_true_eq]
   omega
  have e:checkS x = (220,0):=by simp [checkS,hs]
  rw [e]
 ·have hs:shapeB x = true:=by
   simp only [shapeB,Bool.and_eq_true,decide_eq_true_eq]
   omega
  refine Go.loop (fun i:Nat => [(1,.pt 0 1 0 0),(2,i64 0),(3,i64 0),(29,i64 x.events.length),(30,i64 i)])
   (fun i H n => i ≤ x.events.length∧1 ≤ n∧getH H 0 = some (.row 31 4 .any [x.av])∧badFrom x x.events.length 0 = badFrom x (x.events.length - i) i) (fun i => x.events.length - i) 0 aLess ⟨Nat.zero_le _,aNx,aRow,by simp⟩ ?_
  rintro i H n ⟨hi,hn,r0,hb⟩
  have hfew:x.events.length ≤ 64:=by omega
  by_cases hlt:i < x.events.length
  ·have hd:=deed_pure x i hlt (by omega)
   have e:x.events.length - i = (x.events.length - (i + 1)) + 1:=by omega
   rw [e,badFrom] at hb
   cases hg:goodAt x i with
   | true =>
    rw [if_pos hg] at hb
    have hg2:=hg
    unfold goodAt at hg2
    rw [hg2] at hd
    repeat' (first|((with_reducible refine Go.red ?_);conv => whnf)|refine aG ?_|exact aCn|with_reducible refine Go.and ?_ ?_|((with_reducible refine Ask.mk ?_);first|exact aAsk|exact aAsk2|(intro h;simp_all [Exec.cells,Deed.cells] <;> fail)|(simp_all [Exec.cells,Deed.cells] <;> fail))|(apply Go.elem;(·(first|exact ev_get|exact int_get|exact lst_get|exact aElem)))|refine aK (hd) ?_|refine aH ?_|((with_reducible refine Go.bool ?_ ?_) <;> intro hc <;> (try simp only [List.length_map,ne_eq,hcs] at hc) <;> try (exfalso;omega)))
    exact ⟨i + 1,by omega,aLess,by omega,aNx,aRow,hb⟩
   | false =>
    rw [if_neg (by simp [hg])] at hb
    have hg2:=hg
    unfold goodAt at hg2
    rw [hg2] at hd
    repeat' (first|((with_reducible refine Go.red ?_);conv => whnf)|refine aG ?_|exact aCn|with_reducible refine Go.and ?_ ?_|((with_reducible refine Ask.mk ?_);first|exact aAsk|exact aAsk2|(intro h;simp_all [Exec.cells,Deed.cells] <;> fail)|(simp_all [Exec.cells,Deed.cells] <;> fail))|(apply Go.elem;(·(first|exact ev_get|exact int_get|exact lst_get|exact aElem)))|refine aK (hd) ?_|refine aH ?_|((with_reducible refine Go.bool ?_ ?_) <;> intro hc <;> (try simp only [List.length_map,ne_eq,hcs] at hc) <;> try (exfalso;omega)))
    have e2:checkS x = (220,(i:Int)):=by simp only [checkS,hs,if_true,hb]
    rw [e2]
  ·have hil:i = x.events.length:=by omega
   subst hil
   rw [Nat.sub_self,badFrom] at hb
   have ha:=after_pure x hx hfew
   by_cases haf:aftOk x
   ·have e2:checkS x = (0,0):=by simp only [checkS,hs,if_true,hb,haf]
    rw [decide_eq_true haf] at ha
    repeat' (first|((with_reducible refine Go.red ?_);conv => whnf)|refine aG ?_|exact aCn|with_reducible refine Go.and ?_ ?_|((with_reducible refine Ask.mk ?_);first|exact aAsk|exact aAsk2|(intro h;simp_all [Exec.cells,Deed.cells] <;> fail)|(simp_all [Exec.cells,Deed.cells] <;> fail))|(apply Go.elem;(·(first|exact ev_get|exact int_get|exact lst_get|exact aElem)))|refine aK (ha) ?_|refine aH ?_|((with_reducible refine Go.bool ?_ ?_) <;> intro hc <;> (try simp only [List.length_map,ne_eq,hcs] at hc) <;> try (exfalso;omega)))
    rw [e2]
   ·have e2:checkS x = (220,0):=by simp only [checkS,hs,if_true,hb,haf,if_false]
    rw [decide_eq_false haf] at ha
    repeat' (first|((with_reducible refine Go.red ?_);conv => whnf)|refine aG ?_|exact aCn|with_reducible refine Go.and ?_ ?_|((with_reducible refine Ask.mk ?_);first|exact aAsk|exact aAsk2|(intro h;simp_all [Exec.cells,Deed.cells] <;> fail)|(simp_all [Exec.cells,Deed.cells] <;> fail))|(apply Go.elem;(·(first|exact ev_get|exact int_get|exact lst_get|exact aElem)))|refine aK (ha) ?_|refine aH ?_|((with_reducible refine Go.bool ?_ ?_) <;> intro hc <;> (try simp only [List.length_map,ne_eq,hcs] at hc) <;> try (exfalso;omega)))
    rw [e2]
theorem check_err {x:Exec}:(checkS x).1 = 0 ∨ (checkS x).1 = 220:=by
 unfold checkS
 repeat' split
 all_goals simp
theorem okB_true {x:Exec} (h:okB x = true):(checkS x).1 = 0:=by simpa [okB] using h
theorem okB_false {x:Exec} (h:okB x = false):(checkS x).1 = 220:=by
 have:=check_err (x:=x)
 simp only [okB,decide_eq_false_iff_not] at h
 omega
def errN (x:Exec):Int:=if okB x = true then 0 else 220
def cohB (x:Exec):Bool:=okB x && !ringB x.events.length (arrM x (cohF x))
def plainB (x:Exec):Bool:=okB x && !ringB x.events.length (arrM x fun _ _ _ => true)
def tsoB (x:Exec):Bool:=okB x && (cohB x && !ringB x.events.length (arrM x (tsoF x)))
set_option maxHeartbeats 2000000 in
theorem coherent_pure (x:Exec) (hx:x.Wf):Pure Tryz.prog 34 [x.av] (fun r => r = .tup [bl (cohB x),i64 (errN x)]):=by
 refine Go.pureL lf34 rfl ?_
 have hck:=check_pure x hx
 cases hok:okB x with
 | true =>
  have h:=fine_of hx hok
  have e:cohB x = !ringB x.events.length (arrM x (cohF x)):=by simp [cohB,hok]
  have e2:errN x = 0:=by simp [errN,hok]
  rw [okB_true hok] at hck
  rw [e,e2]
  repeat' (first|((with_reducible refine Go.red ?_);conv => whnf)|refine aG ?_|exact aC|with_reducible refine Go.and ?_ ?_|(apply Go.elem;(·exact aElem))|refine aK (hck) ?_|((refine Go.lookW ((free_v x h 60 (cohF x) (fun k a b _ ha hb => coh_pure x k a b ha hb) 0 _ _ _ .any aNx aRow)) ?_ ?_);(·exact True.intro))|((refine Go.lookJ (fun _ => (free_v x h 60 (cohF x) (fun k a b _ ha hb => coh_pure x k a b ha hb) 0 _ _ _ .any aNx aRow)) ?_ ?_);(·exact True.intro))|refine aH ?_|((with_reducible refine Go.bool ?_ ?_) <;> intro hc <;> (try simp only [List.length_map,ne_eq,hcs] at hc) <;> try (exfalso;omega)))
  exact rfl
 | false =>
  have e:cohB x = false:=by simp [cohB,hok]
  have e2:errN x = 220:=by simp [errN,hok]
  rw [okB_false hok] at hck
  rw [e,e2]
  repeat' (first|((with_reducible refine Go.red ?_);conv => whnf)|refine aG ?_|exact aC|with_reducible refine Go.and ?_ ?_|(apply Go.elem;(·exact aElem))|refine aK (hck) ?_|refine aH ?_|((with_reducible refine Go.bool ?_ ?_) <;> intro hc <;> (try simp only [List.length_map,ne_eq,hcs] at hc) <;> try (exfalso;omega)))
  exact rfl
set_option maxHeartbeats 2000000 in
theorem plain_pure (x:Exec) (hx:x.Wf):Pure Tryz.prog 21 [x.av] (fun r => r = .tup [bl (plainB x),i64 (errN x)]):=by
 refine Go.pureL lf21 rfl ?_
 have hck:=check_pure x hx
 cases hok:okB x with
 | true =>
  have h:=fine_of hx hok
  have e:plainB x = !ringB x.events.length (arrM x fun _ _ _ => true):=by simp [plainB,hok]
  have e2:errN x = 0:=by simp [errN,hok]
  rw [okB_true hok] at hck
  rw [e,e2]
  repeat' (first|((with_reducible refine Go.red ?_);conv => whnf)|refine aG ?_|exact aC|with_reducible refine Go.and ?_ ?_|(apply Go.elem;(·exact aElem))|refine aK (hck) ?_|((refine Go.lookW ((free_e x h 0 _ _)) ?_ ?_);(·exact True.intro))|((refine Go.lookJ (fun _ => (free_e x h 0 _ _)) ?_ ?_);(·exact True.intro))|refine aH ?_|((with_reducible refine Go.bool ?_ ?_) <;> intro hc <;> (try simp only [List.length_map,ne_eq,hcs] at hc) <;> try (exfalso;omega)))
  exact rfl
 | false =>
  have e:plainB x = false:=by simp [plainB,hok]
  have e2:errN x = 220:=by simp [errN,hok]
  rw [okB_false hok] at hck
  rw [e,e2]
  repeat' (first|((with_reducible refine Go.red ?_);conv => whnf)|refine aG ?_|exact aC|with_reducible refine Go.and ?_ ?_|(apply Go.elem;(·exact aElem))|refine aK (hck) ?_|refine aH ?_|((with_reducible refine Go.bool ?_ ?_) <;> intro hc <;> (try simp only [List.length_map,ne_eq,hcs] at hc) <;> try (exfalso;omega)))
  exact rfl
set_option maxHeartbeats 2000000 in
theorem tso_pure (x:Exec) (hx:x.Wf):Pure Tryz.prog 19 [x.av] (fun r => r = .tup [bl (tsoB x),i64 (errN x)]):=by
 refine Go.pureL lf19 rfl ?_
 have hck:=coherent_pure x hx
 cases hok:okB x with
 | true =>
  have h:=fine_of hx hok
  have e2:errN x = 0:=by simp [errN,hok]
  rw [e2] at hck ⊢
  cases hco:cohB x with
  | true =>
   have e:tsoB x = !ringB x.events.length (arrM x (tsoF x)):=by simp [tsoB,hok,hco]
   rw [hco] at hck
   rw [e]
   repeat' (first|((with_reducible refine Go.red ?_);conv => whnf)|refine aG ?_|exact aC|with_reducible refine Go.and ?_ ?_|(apply Go.elem;(·exact aElem))|refine aK (hck) ?_|((refine Go.lookW ((free_v x h 36 (tsoF x) (fun k a b _ ha hb => tsof_pure x k a b ha hb) 0 _ _ _ .any aNx aRow)) ?_ ?_);(·exact True.intro))|((refine Go.lookJ (fun _ => (free_v x h 36 (tsoF x) (fun k a b _ ha hb => tsof_pure x k a b ha hb) 0 _ _ _ .any aNx aRow)) ?_ ?_);(·exact True.intro))|refine aH ?_|((with_reducible refine Go.bool ?_ ?_) <;> intro hc <;> (try simp only [List.length_map,ne_eq,hcs] at hc) <;> try (exfalso;omega)))
   exact rfl
  | false =>
   have e:tsoB x = false:=by simp [tsoB,hco]
   rw [hco] at hck
   rw [e]
   repeat' (first|((with_reducible refine Go.red ?_);conv => whnf)|refine aG ?_|exact aC|with_reducible refine Go.and ?_ ?_|(apply Go.elem;(·exact aElem))|refine aK (hck) ?_|refine aH ?_|((with_reducible refine Go.bool ?_ ?_) <;> intro hc <;> (try simp only [List.length_map,ne_eq,hcs] at hc) <;> try (exfalso;omega)))
   exact rfl
 | false =>
  have e:tsoB x = false:=by simp [tsoB,hok]
  have e2:errN x = 220:=by simp [errN,hok]
  rw [e2] at hck ⊢
  rw [e]
  repeat' (first|((with_reducible refine Go.red ?_);conv => whnf)|refine aG ?_|exact aC|with_reducible refine Go.and ?_ ?_|(apply Go.elem;(·exact aElem))|refine aK (hck) ?_|refine aH ?_|((with_reducible refine Go.bool ?_ ?_) <;> intro hc <;> (try simp only [List.length_map,ne_eq,hcs] at hc) <;> try (exfalso;omega)))
  exact rfl
end Go.Proofs.YtflicfkgbjmffaaGreat
end
section
/- The heap of what may come next. -/
namespace Go.Proofs.YtflicfkgbjmffaaGreat
open Go Go.Abs Go.Proofs
set_option linter.unusedSimpArgs false
set_option linter.unusedVariables false
def swapL (l:List Int) (i j:Nat):List Int:=(l.set i (l.getD j 0)).set j (l.getD i 0)
theorem swapL_len (l:List Int) (i j:Nat):(swapL l i j).length = l.length:=by simp [swapL]
theorem set_get {l:List Int} {i j:Nat} {v:Int} (d:AV) (h:j < l.length):((l.map i64).set i (i64 v)).getD j d = i64 ((l.set i v).getD j 0):=by
 rw [← List.map_set]
 exact getD_av i64 _ _ _ (by simpa using h)
theorem set_map {l:List Int} {i:Nat} {v:Int}:(l.map i64).set i (i64 v) = (l.set i v).map i64:=by rw [List.map_set]
structure HpAt (R q:Nat) (l:List Int) (H:Hp):Prop where
 r:∃ d,getH H R = some (.row 106 1 d [.sl q l.length])
 s:∃ d,getH H q = some (.row 3 1 d (l.map i64))
 ne:R ≠ q
abbrev hpV (R:Nat):AV:=.ifc 105 (.pt R 1 0 0)
theorem mLen : methT Tryz.prog 105 "Len" = some (41, some (106, false, 1)) := by kernel_rfl
theorem mLess : methT Tryz.prog 105 "Less" = some (137, some (106, false, 1)) := by kernel_rfl
theorem mSwap : methT Tryz.prog 105 "Swap" = some (140, some (106, false, 1)) := by kernel_rfl
theorem mPush : methT Tryz.prog 105 "Push" = some (139, none) := by kernel_rfl
theorem mPop : methT Tryz.prog 105 "Pop" = some (138, none) := by kernel_rfl
theorem goLen {R : Nat} {v : AV} {bs : List AV} {H : Hp} {nx : Nat} {K : AV → Hp → Nat → Prop} (hl : lookA H (.pt R 1 0 0) = some (1, v, 0)) (hr : ldE false 1 v 1 0 = some v) (h : CallW Tryz.prog 41 (v :: bs) H nx K) : MethW Tryz.prog 105 (.pt R 1 0 0) "Len" bs H nx K := Go.meth1 mLen hl hr h
theorem goLess {R : Nat} {v : AV} {bs : List AV} {H : Hp} {nx : Nat} {K : AV → Hp → Nat → Prop} (hl : lookA H (.pt R 1 0 0) = some (1, v, 0)) (hr : ldE false 1 v 1 0 = some v) (h : CallW Tryz.prog 137 (v :: bs) H nx K) : MethW Tryz.prog 105 (.pt R 1 0 0) "Less" bs H nx K := Go.meth1 mLess hl hr h
theorem goSwap {R : Nat} {v : AV} {bs : List AV} {H : Hp} {nx : Nat} {K : AV → Hp → Nat → Prop} (hl : lookA H (.pt R 1 0 0) = some (1, v, 0)) (hr : ldE false 1 v 1 0 = some v) (h : CallW Tryz.prog 140 (v :: bs) H nx K) : MethW Tryz.prog 105 (.pt R 1 0 0) "Swap" bs H nx K := Go.meth1 mSwap hl hr h
theorem goPush {R : Nat} {bs : List AV} {H : Hp} {nx : Nat} {K : AV → Hp → Nat → Prop} (h : CallW Tryz.prog 139 (.pt R 1 0 0 :: bs) H nx K) : MethW Tryz.prog 105 (.pt R 1 0 0) "Push" bs H nx K := Go.meth0 mPush h
theorem goPop {R : Nat} {bs : List AV} {H : Hp} {nx : Nat} {K : AV → Hp → Nat → Prop} (h : CallW Tryz.prog 138 (.pt R 1 0 0 :: bs) H nx K) : MethW Tryz.prog 105 (.pt R 1 0 0) "Pop" bs H nx K := Go.meth0 mPop h
theorem HpAt.look {R q:Nat} {l:List Int} {H:Hp} (h:HpAt R q l H):lookA H (.pt R 1 0 0) = some (1,.sl q l.length,0):=by
 obtain ⟨d,hd⟩:=h.r
 simp [lookA,hd]
theorem len_look (q:Nat) (l:List Int) (H:Hp) (nx:Nat) (d:AV) (hs:getH H q = some (.row 3 1 d (l.map i64))):Look Tryz.prog 41 [.sl q l.length] H nx (i64 l.length):=by
 refine Go.lookAtL lf41 rfl ?_
 repeat' (first|((with_reducible refine Go.red ?_);conv => whnf)|refine aG ?_|exact aC|with_reducible refine Go.and ?_ ?_|(apply Go.elem;(·exact aElem))|refine aH ?_|((with_reducible refine Go.bool ?_ ?_) <;> intro hc <;> (try simp only [List.length_map,ne_eq,hcs] at hc) <;> try (exfalso;omega)))
 exact ⟨⟨rfl,fun _ _ => rfl⟩⟩
theorem less_look (q:Nat) (l:List Int) (H:Hp) (nx:Nat) (d:AV) (hs:getH H q = some (.row 3 1 d (l.map i64))) (i j:Nat) (hi:i < l.length) (hj:j < l.length) :
  Look Tryz.prog 137 [.sl q l.length,i64 i,i64 j] H nx (bl (decide (l.getD i 0 < l.getD j 0))):=by
 refine Go.lookAtL lf137 rfl ?_
 repeat' (first|((with_reducible refine Go.red ?_);conv => whnf)|refine aG ?_|exact aC|with_reducible refine Go.and ?_ ?_|(apply Go.elem;(·(first|exact getD_av _ _ _ _ (by omega)|exact aElem)))|refine aH ?_|((with_reducible refine Go.bool ?_ ?_) <;> intro hc <;> (try simp only [List.length_map,ne_eq,hcs] at hc) <;> try (exfalso;omega)))
 exact ⟨⟨rfl,fun _ _ => rfl⟩⟩
theorem swap_call (q:Nat) (l:List Int) (H:Hp) (nx:Nat) (d:AV) (hs:getH H q = some (.row 3 1 d (l.map i64))) (i j:Nat) (hi:i < l.length) (hj:j < l.length) (hq:q < nx) :
  CallN Tryz.prog 140 [.sl q l.length,i64 i,i64 j] H nx (fun r H' nx' => nx ≤ nx'∧getH H' q = some (.row 3 1 d ((swapL l i j).map i64))∧∀ y,y < nx→y ≠ q→getH H' y = getH H y):=by
 refine Go.fnL lf140 rfl ?_
 repeat' (first|((with_reducible refine Go.red ?_);conv => whnf)|refine aG ?_|exact aC|with_reducible refine Go.and ?_ ?_|(apply Go.elem;(·(first|exact set_get _ (by omega)|exact getD_av _ _ _ _ (by omega)|exact aElem)))|refine aH ?_|((with_reducible refine Go.bool ?_ ?_) <;> intro hc <;> (try simp only [List.length_map,ne_eq,hcs] at hc) <;> try (exfalso;omega)))
 refine ⟨⟨aNx,?_,fun y hy hne => ?_⟩⟩
 ·simp only [swapL,← set_map]
  exact aRow
 ·repeat (first|exact rfl|(refine Eq.trans (getH_skipEq hne) ?_))
def HpTo (R q:Nat) (l:List Int) (H:Hp) (nx:Nat) (H':Hp) (nx':Nat):Prop:=nx ≤ nx'∧HpAt R q l H'∧∀ y,y < nx→y ≠ R→y ≠ q→getH H' y = getH H y
theorem push_call (R q:Nat) (l:List Int) (k:Int) (H:Hp) (nx:Nat) (h:HpAt R q l H) (hR:R < nx) (hq:q < nx) (hl:l.length < 1000) :
  CallN Tryz.prog 139 [.pt R 1 0 0,.ifc 3 (i64 k)] H nx (fun r H' nx' => HpTo R q (l ++ [k]) H nx H' nx'):=by
 obtain ⟨⟨dR,hr⟩,⟨dq,hs⟩,hne⟩:=h
 refine Go.fnL lf139 rfl ?_
 repeat' (first|((with_reducible refine Go.red ?_);conv => whnf)|refine aG ?_|exact aC|with_reducible refine Go.and ?_ ?_|(apply Go.elem;(·(first|exact getD_av _ _ _ _ (by omega)|exact aElem)))|refine aH ?_|((with_reducible refine Go.bool ?_ ?_) <;> intro hc <;> (try simp only [List.length_map,ne_eq,hcs] at hc) <;> try (exfalso;omega)))
 refine ⟨⟨aNx,⟨⟨dR,?_⟩,⟨dq,?_⟩,hne⟩,fun y hy n1 n2 => ?_⟩⟩
 ·simp only [List.length_append,List.length_cons,List.length_nil]
  exact aRow
 ·rw [List.map_append]
  exact aRow
 ·repeat (first|exact rfl|(refine Eq.trans (getH_skipEq (by omega)) ?_))
theorem bnd_pred {d n:Nat} {k:IntKind} (h:0 < n):bndA d (some (.sc (.int k ((n:Int) - 1)))) = some (n - 1):=by
 simp only [bndA]
 rw [if_pos (by omega)]
 congr 1
 omega
theorem Wk.any_res {r:AV} {H H2:Hp} {nx nx2:Nat} (h:Wk .any H nx .any H2 nx2):Wk r H nx r H2 nx2:=by
 intro w0 ρ U w M0 hU hS
 obtain ⟨ρ2,U2,k1,k2,k3,_⟩:=h w0 ρ U w M0 hU hS
 exact ⟨ρ2,U2,k1,k2,k3,AVle.keep k3 r⟩
theorem pop_call0 (R q:Nat) (l:List Int) (H:Hp) (nx:Nat) (dR dq:AV) (hr:getH H R = some (.row 106 1 dR [.sl q l.length])) (hs:getH H q = some (.row 3 1 dq (l.map i64))) (hne:R ≠ q) (hR:R < nx) (hq:q < nx) (hl:l.length < 1000) (h0:0 < l.length) :
  CallN Tryz.prog 138 [.pt R 1 0 0] H nx (fun r H' nx' => r = .ifc 3 (i64 (l.getD (l.length - 1) 0))∧nx ≤ nx'∧getH H' R = some (.row 106 1 dR [.sv q l.length 0 (l.length - 1)])∧getH H' q = some (.row 3 1 dq (l.map i64))∧∀ y,y < nx→y ≠ R→getH H' y = getH H y):=by
 refine Go.fnL lf138 rfl ?_
 repeat' (first|((with_reducible refine Go.red ?_);conv => whnf)|refine aG ?_|exact aC|with_reducible refine Go.and ?_ ?_|(apply Go.elem;(·(first|exact getD_av _ _ _ _ (by omega)|exact aElem)))|(apply Go.gives;(·exact slc_sl aRow (by simp) rfl (bnd_pred h0) (by omega)))|refine aH ?_|((with_reducible refine Go.bool ?_ ?_) <;> intro hc <;> (try simp only [List.length_map,ne_eq,hcs] at hc) <;> try (exfalso;omega)))
 refine ⟨⟨?_,aNx,?_,aRow,fun y hy n1 => ?_⟩⟩
 ·have:((l.length:Int) - 1).toNat = l.length - 1:=by omega
  rw [this];rfl
 ·exact aRow
 ·repeat (first|exact rfl|(refine Eq.trans (getH_skipEq (by omega)) ?_))
theorem pop_call (R q:Nat) (l:List Int) (H:Hp) (nx:Nat) (h:HpAt R q l H) (hR:R < nx) (hq:q < nx) (hl:l.length < 1000) (h0:0 < l.length) :
  CallN Tryz.prog 138 [.pt R 1 0 0] H nx (fun r H' nx' => r = .ifc 3 (i64 (l.getD (l.length - 1) 0))∧∃ q',HpAt R q' (l.take (l.length - 1)) H'∧nx ≤ nx'∧nx ≤ q'∧q' < nx'∧∀ y,y < nx→y ≠ R→y ≠ q→getH H' y = getH H y):=by
 obtain ⟨⟨dR,hr⟩,⟨dq,hs⟩,hne⟩:=h
 refine (pop_call0 R q l H nx dR dq hr hs hne hR hq hl h0).wk ?_
 rintro r H1 n1 ⟨rfl,hn1,r1,r2,hfr⟩
 have hw:=Wk.part (nx:=n1) (q:=0) r1 (by simp) rfl r2 (by simp) (by omega) (Ne.symm hne)
 refine ⟨_,_,_,Wk.any_res hw,rfl,n1,⟨⟨.any,?_⟩,⟨.any,?_⟩,by omega⟩,by omega,by omega,by omega,fun y hy n1 n2 => ?_⟩
 ·have e:(l.take (l.length - 1)).length = l.length - 1:=by simp
  rw [e]
  exact aRow
 ·rw [List.drop_zero,← List.map_take]
  exact aRow
 ·repeat (first|exact hfr y hy n1|(refine Eq.trans (getH_skipEq (by omega)) ?_))
end Go.Proofs.YtflicfkgbjmffaaGreat
end
