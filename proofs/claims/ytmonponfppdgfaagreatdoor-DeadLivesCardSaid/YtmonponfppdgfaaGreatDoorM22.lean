import Derived.Test.YtmonponfppdgfaaGreatDoorM21
import Derived.Lib.TrailingZeros
section
/- How variables are shared, in plain data. -/
namespace Go.Proofs.YtmonponfppdgfaaGreatDoor
open Go Go.Abs Go.Proofs
set_option linter.unusedSimpArgs false
set_option linter.unusedVariables false
def hb (l:List Int):Nat:=l.foldl (fun a k => a ||| 2 ^ k.toNat) 0
theorem hb_app (l:List Int) (k:Int):hb (l ++ [k]) = hb l ||| 2 ^ k.toNat:=by simp [hb]
theorem hb_bit:∀ (l:List Int) (j:Nat),(hb l).testBit j = l.any fun k => decide (k.toNat = j):=by
 have h:∀ (l:List Int) (a j:Nat),(l.foldl (fun a k => a ||| 2 ^ k.toNat) a).testBit j = (a.testBit j || l.any fun k => decide (k.toNat = j)):=by
  intro l
  induction l with
  | nil => simp
  | cons k l ih =>
   intro a j
   rw [List.foldl_cons,ih,Nat.testBit_or,Nat.testBit_two_pow,List.any_cons,Bool.or_assoc]
 intro l j
 rw [hb,h];simp
theorem lt_bits {n m:Nat} (h:∀ j,n.testBit j = true→j < m):n < 2 ^ m:=by
 apply Nat.lt_of_not_le
 intro hle
 obtain ⟨j,hj,ht⟩:=Nat.exists_ge_and_testBit_of_ge_two_pow hle
 exact absurd (h j ht) (by omega)
theorem hb_lt {l:List Int} {m:Nat} (h:∀ k ∈ l,k.toNat < m):hb l < 2 ^ m:=lt_bits fun j hj => by
 rw [hb_bit,List.any_eq_true] at hj
 obtain ⟨k,hk,e⟩:=hj
 rw [← of_decide_eq_true e];exact h k hk
abbrev Acc:=Nat × Node × List Int
noncomputable def accG (t:Nat) (g:Graph) (i:Nat):Option Acc:=if fnd (reachL g (-1)) i = true then some (t,g.nd i,(heldG g).1.getD i []) else none
noncomputable def accL (t:Nat) (g:Graph) (m:Nat):List Acc:=(List.range m).filterMap (accG t g)
noncomputable def accs (u:UnitS) (m:Nat):List Acc:=(List.range m).flatMap fun t => accL t (u.gr t) (u.gr t).nodes.length
theorem accL_succ (t:Nat) (g:Graph) (m:Nat):accL t g (m + 1) = accL t g m ++ (accG t g m).toList:=by
 rw [accL,List.range_succ,List.filterMap_append]
 cases h:accG t g m <;> simp [accL,h]
theorem accs_succ (u:UnitS) (m:Nat):accs u (m + 1) = accs u m ++ accL m (u.gr m) (u.gr m).nodes.length:=by
 rw [accs,List.range_succ,List.flatMap_append];simp [accs]
def tch (n:Node):Bool:=decide (n.kind = 2 ∨ n.kind = 3 ∨ n.kind = 4)
abbrev UseE:=List (Int × (Nat × Nat))
def useOf (p:Nat × Nat) (t:Nat) (l:List Int):Nat × Nat:=(p.1 ||| 2 ^ t,p.2 &&& hb l)
def useStep (E:UseE) (x:Acc):UseE:=if tch x.2.1 = true then putE E x.2.1.thing (useOf ((lookE E x.2.1.thing).getD (0,65535)) x.1 x.2.2) else E
def usesE (l:List Acc):UseE:=l.foldl useStep []
theorem usesE_app (l:List Acc) (x:Acc):usesE (l ++ [x]) = useStep (usesE l) x:=by simp [usesE]
def touchL (l:List Acc) (v:Int):List (Nat × List Int):=(l.filter fun x => tch x.2.1 && decide (x.2.1.thing = v)).map fun x => (x.1,x.2.2)
def aggU (l:List (Nat × List Int)):Nat × Nat:=l.foldl (fun p x => useOf p x.1 x.2) (0,65535)
theorem touchL_app (l:List Acc) (x:Acc) (v:Int):touchL (l ++ [x]) v = if tch x.2.1 = true∧x.2.1.thing = v then touchL l v ++ [(x.1,x.2.2)] else touchL l v:=by
 unfold touchL
 rw [List.filter_append]
 by_cases h:tch x.2.1 = true∧x.2.1.thing = v
 ·rw [if_pos h]
  have:(tch x.2.1 && decide (x.2.1.thing = v)) = true:=by rw [h.1,decide_eq_true h.2];rfl
  simp [List.filter_cons,this]
 ·rw [if_neg h]
  have:(tch x.2.1 && decide (x.2.1.thing = v)) = false:=by
   rw [Bool.and_eq_false_iff]
   by_cases h1:tch x.2.1 = true
   ·right;exact decide_eq_false fun e => h ⟨h1,e⟩
   ·left;simpa using h1
  simp [List.filter_cons,this]
theorem list_rev {α:Type} {p:List α→Prop} (h0:p []) (h1:∀ l x,p l→p (l ++ [x])) (l:List α):p l:=by
 have:∀ r:List α,p r.reverse:=by
  intro r
  induction r with
  | nil => exact h0
  | cons a r ih => rw [List.reverse_cons];exact h1 _ _ ih
 rw [← List.reverse_reverse l];exact this _
theorem usesE_look (l:List Acc) (v:Int):lookE (usesE l) v = if touchL l v = [] then none else some (aggU (touchL l v)):=by
 revert v
 induction l using list_rev with
 | h0 => intro v;rfl
 | h1 l x ih =>
  intro v
  rw [usesE_app,useStep]
  by_cases ht:tch x.2.1 = true
  ·rw [if_pos ht,look_put]
   by_cases hv:x.2.1.thing = v
   ·rw [if_pos hv.symm,(touchL_app l x v).trans (if_pos ⟨ht,hv⟩),if_neg (by simp),hv,ih v]
    have e:∀ L:List (Nat × List Int),(if L = [] then none else some (aggU L)).getD (0,65535) = aggU L:=fun L => by
     split
     ·rename_i h;rw [h];rfl
     ·rfl
    rw [e]
    simp [aggU]
   ·rw [if_neg (fun e => hv e.symm),(touchL_app l x v).trans (if_neg (fun h => hv h.2)),ih v]
  ·rw [if_neg ht,(touchL_app l x v).trans (if_neg (fun h => ht h.1)),ih v]
theorem agg_bits:∀ (l:List (Nat × List Int)) (p:Nat × Nat) (j:Nat),(l.foldl (fun p x => useOf p x.1 x.2) p).1.testBit j = (p.1.testBit j || l.any fun x => decide (x.1 = j))∧(l.foldl (fun p x => useOf p x.1 x.2) p).2.testBit j = (p.2.testBit j && l.all fun x => x.2.any fun k => decide (k.toNat = j))
 | [],p,j => by simp
 | x :: l,p,j => by
  rw [List.foldl_cons]
  obtain ⟨h1,h2⟩:=agg_bits l (useOf p x.1 x.2) j
  rw [h1,h2]
  simp only [useOf,Nat.testBit_or,Nat.testBit_and,Nat.testBit_two_pow,hb_bit,List.any_cons,List.all_cons,Bool.or_assoc,Bool.and_assoc,and_self]
theorem agg_thr (l:List (Nat × List Int)) (j:Nat):(aggU l).1.testBit j = l.any fun x => decide (x.1 = j):=by
 rw [aggU,(agg_bits l _ j).1];simp
theorem bit_full (j:Nat):(65535:Nat).testBit j = decide (j < 16):=by
 have:=@Nat.testBit_two_pow_sub_one 16 j
 simpa using this
theorem agg_grd (l:List (Nat × List Int)) (j:Nat):(aggU l).2.testBit j = (decide (j < 16) && l.all fun x => x.2.any fun k => decide (k.toNat = j)):=by
 rw [aggU,(agg_bits l _ j).2,bit_full]
theorem agg_lt {l:List (Nat × List Int)} (h:∀ x ∈ l,x.1 < 8):(aggU l).1 < 256∧(aggU l).2 < 65536:=by
 refine ⟨lt_bits (m:=8) fun j hj => ?_,lt_bits (m:=16) fun j hj => ?_⟩
 ·rw [agg_thr,List.any_eq_true] at hj
  obtain ⟨x,hx,e⟩:=hj
  rw [← of_decide_eq_true e];exact h x hx
 ·rw [agg_grd,Bool.and_eq_true] at hj
  exact of_decide_eq_true hj.1
abbrev ctz (x:Nat):Nat:=Lib.ctz 32 x
theorem ctz_bit {x:Nat} (h0:x ≠ 0) (h:x < 4294967296):x.testBit (ctz x) = true∧(∀ j,j < ctz x→x.testBit j = false)∧ctz x < 32:=by
 unfold ctz Lib.ctz
 rw [if_neg h0]
 obtain ⟨m,hm,hk⟩:=Lib.ctzFrom_spec 32 x (Nat.pos_of_ne_zero h0) h
 generalize Lib.ctzFrom 32 x = k at *
 refine ⟨?_,fun j hj => ?_,hk⟩
 ·rw [hm,Nat.mul_comm,Nat.testBit_mul_two_pow];simp
 ·rw [hm,Nat.mul_comm,Nat.testBit_mul_two_pow];simp;omega
theorem ctz_of {x j:Nat} (h0:x < 4294967296) (h:x.testBit j = true) (hl:∀ i,i < j→x.testBit i = false):ctz x = j:=by
 have hx:x ≠ 0:=fun e => by rw [e,Nat.zero_testBit] at h;cases h
 obtain ⟨h1,h2,_⟩:=ctz_bit hx h0
 by_cases hj:j < ctz x
 ·rw [h2 j hj] at h;cases h
 ·by_cases hj2:ctz x < j
  ·rw [hl _ hj2] at h1;cases h1
  ·omega
theorem pred_bit {x:Nat} (h0:x ≠ 0) (h:x < 4294967296) (j:Nat):(x &&& (x - 1)).testBit j = (x.testBit j && decide (j ≠ ctz x)):=by
 unfold ctz Lib.ctz
 rw [if_neg h0]
 obtain ⟨m,hm,hk⟩:=Lib.ctzFrom_spec 32 x (Nat.pos_of_ne_zero h0) h
 generalize Lib.ctzFrom 32 x = k at *
 have e1:x - 1 = 2 ^ k * (2 * m) + (2 ^ k - 1):=by
  rw [hm,Nat.mul_add,Nat.mul_one]
  have:=Nat.one_le_two_pow (n:=k)
  omega
 have hlt:2 ^ k - 1 < 2 ^ k:=by have:=Nat.one_le_two_pow (n:=k);omega
 rw [Nat.testBit_and,e1,Nat.testBit_two_pow_mul_add _ hlt]
 by_cases hj:j < k
 ·rw [if_pos hj,Nat.testBit_two_pow_sub_one,decide_eq_true hj,Bool.and_true,decide_eq_true (by omega),Bool.and_true]
 ·rw [if_neg hj]
  have e2:x.testBit j = (2 * m + 1).testBit (j - k):=by
   rw [hm,Nat.mul_comm,Nat.testBit_mul_two_pow,decide_eq_true (by omega)];simp
  rw [e2]
  by_cases e:j = k
  ·subst e;simp
  ·obtain ⟨i,hi⟩:∃ i,j - k = i + 1:=⟨j - k - 1,by omega⟩
   rw [hi,Nat.testBit_succ,Nat.testBit_succ,show (2 * m + 1) / 2 = m by omega,show (2 * m) / 2 = m by omega,decide_eq_true e]
   simp
theorem pred_lt {x:Nat} (h0:x ≠ 0):x &&& (x - 1) < x:=by
 have:x &&& (x - 1) ≤ x - 1:=Nat.and_le_right
 omega
def bitsL:Nat→Nat→List Int
 | 0,_ => []
 | f + 1,x => if x = 0 then [] else (ctz x:Int) :: bitsL f (x &&& (x - 1))
def bits (x:Nat):List Int:=bitsL x x
theorem bitsL_more:∀ (f x:Nat),x ≤ f→bitsL f x = bits x
 | 0,x,h => by
  have:x = 0:=by omega
  subst this;rfl
 | f + 1,x,h => by
  by_cases h0:x = 0
  ·subst h0;rfl
  ·obtain ⟨y,rfl⟩:∃ y,x = y + 1:=⟨x - 1,by omega⟩
   have:=pred_lt h0
   rw [bitsL,if_neg h0,bits,bitsL,if_neg h0,bitsL_more f _ (by omega),bitsL_more y _ (by omega)]
theorem bits_next {x:Nat} (h0:x ≠ 0):bits x = (ctz x:Int) :: bits (x &&& (x - 1)):=by
 obtain ⟨y,rfl⟩:∃ y,x = y + 1:=⟨x - 1,by omega⟩
 have:=pred_lt h0
 rw [bits,bitsL,if_neg h0,bitsL_more y _ (by omega)]
def classB (p:Nat × Nat):ClassV:=if p.1 = 0 then ⟨0,0,0⟩ else if p.1 &&& (p.1 - 1) = 0 then ⟨1,ctz p.1,0⟩ else if p.2 ≠ 0 then ⟨2,0,ctz p.2⟩ else ⟨3,0,0⟩
def grdB (tl:List (Nat × List Int)) (l:Nat):Bool:=tl.all fun x => x.2.any fun k => decide (k = (l:Int))
def classT (locks:Nat) (tl:List (Nat × List Int)):ClassV :=
 match tl with
 | [] => ⟨0,0,0⟩
 | (t,l) :: r => if (r.all fun x => decide (x.1 = t)) = true then ⟨1,t,0⟩ else match (List.range locks).find? (grdB ((t,l) :: r)) with
  | some k => ⟨2,0,k⟩
  | none => ⟨3,0,0⟩
theorem classB_eq {locks:Nat} {tl:List (Nat × List Int)} (hl:locks ≤ 16) (ht:∀ x ∈ tl,x.1 < 8∧∀ k ∈ x.2,0 ≤ k∧k < locks):classB (if tl = [] then (0,0) else aggU tl) = classT locks tl:=by
 match tl,ht with
 | [],_ => rfl
 | (t,l) :: r,ht =>
  rw [if_neg (by simp)]
  have hlt:=agg_lt (l:=(t,l) :: r) fun x hx => (ht x hx).1
  have h1:(aggU ((t,l) :: r)).1.testBit t = true:=by rw [agg_thr];simp
  have hne:(aggU ((t,l) :: r)).1 ≠ 0:=fun e => by rw [e,Nat.zero_testBit] at h1;cases h1
  have hg:∀ j,(aggU ((t,l) :: r)).2.testBit j = (decide (j < 16) && grdB ((t,l) :: r) j):=fun j => by
   rw [agg_grd]
   congr 1
   unfold grdB
   rw [Bool.eq_iff_iff,List.all_eq_true,List.all_eq_true]
   refine forall_congr' fun x => forall_congr' fun hx => ?_
   rw [List.any_eq_true,List.any_eq_true]
   refine exists_congr fun k => and_congr_right fun hk => ?_
   have:=((ht x hx).2 k hk).1
   rw [decide_eq_true_eq,decide_eq_true_eq];omega
  unfold classB classT
  rw [if_neg hne]
  simp only
  by_cases hs:(r.all fun x => decide (x.1 = t)) = true
  ·rw [if_pos hs]
   have hall:∀ j,(aggU ((t,l) :: r)).1.testBit j = decide (j = t):=fun j => by
    rw [agg_thr,Bool.eq_iff_iff,List.any_eq_true,decide_eq_true_eq]
    constructor
    ·rintro ⟨x,hx,e⟩
     rcases List.mem_cons.1 hx with rfl|hx
     ·exact (of_decide_eq_true e).symm
     ·rw [← of_decide_eq_true e];exact of_decide_eq_true (List.all_eq_true.1 hs x hx)
    ·rintro rfl;exact ⟨(j,l),by simp,by simp⟩
   have hc:ctz (aggU ((t,l) :: r)).1 = t:=ctz_of (by omega) h1 fun i hi => by rw [hall];exact decide_eq_false (by omega)
   have hz:(aggU ((t,l) :: r)).1 &&& ((aggU ((t,l) :: r)).1 - 1) = 0:=Nat.eq_of_testBit_eq fun j => by
    rw [pred_bit hne (by omega),hall,hc,Nat.zero_testBit]
    by_cases e:j = t <;> simp [e]
   rw [if_pos hz,hc]
  ·rw [if_neg hs]
   have hz:¬ (aggU ((t,l) :: r)).1 &&& ((aggU ((t,l) :: r)).1 - 1) = 0:=fun hz => by
    apply hs
    have one:∀ j,(aggU ((t,l) :: r)).1.testBit j = true→j = ctz (aggU ((t,l) :: r)).1:=fun j hj => by
     have:=pred_bit hne (by omega) j
     rw [hz,Nat.zero_testBit,hj,Bool.true_and] at this
     exact Classical.byContradiction fun h => by rw [decide_eq_true h] at this;cases this
    have ht0:=one t h1
    rw [List.all_eq_true]
    intro x hx
    have:(aggU ((t,l) :: r)).1.testBit x.1 = true:=by
     rw [agg_thr,List.any_eq_true];exact ⟨x,List.mem_cons_of_mem _ hx,by simp⟩
    rw [decide_eq_true_eq,one x.1 this,← ht0]
   rw [if_neg hz]
   cases hf:(List.range locks).find? (grdB ((t,l) :: r)) with
   | none =>
    have hz2:(aggU ((t,l) :: r)).2 = 0:=Nat.eq_of_testBit_eq fun j => by
     rw [hg,Nat.zero_testBit]
     by_cases hj:j < locks
     ·have:=List.find?_eq_none.1 hf j (List.mem_range.2 hj)
      simp only [Bool.not_eq_true] at this
      rw [this,Bool.and_false]
     ·have hnb:grdB ((t,l) :: r) j = false:=by
       rw [Bool.eq_false_iff,ne_eq]
       intro h
       have h2:=List.all_eq_true.1 h (t,l) (by simp)
       rw [List.any_eq_true] at h2
       obtain ⟨k,hk,e⟩:=h2
       have e:=of_decide_eq_true e
       have:=((ht (t,l) (by simp)).2 k hk).2
       omega
      rw [hnb,Bool.and_false]
    rw [hz2];rfl
   | some k =>
    obtain ⟨hk1,hk2⟩:=List.find?_eq_some_iff_append.1 hf
    obtain ⟨pre,bs,eab,hno⟩:=hk2
    have hkm:k ∈ List.range locks:=by rw [eab];simp
    have hkl:=List.mem_range.1 hkm
    have hkl2:pre.length = k:=by
     have h1:(List.range locks)[pre.length]? = some k:=by rw [eab];simp
     rw [List.getElem?_range] at h1
     ·cases h1;rfl
     ·have:=congrArg List.length eab
      simp at this;omega
    have hbit:(aggU ((t,l) :: r)).2.testBit k = true:=by rw [hg,hk1,decide_eq_true (by omega)];rfl
    have hne2:(aggU ((t,l) :: r)).2 ≠ 0:=fun e => by rw [e,Nat.zero_testBit] at hbit;cases hbit
    rw [if_pos hne2]
    have hc:ctz (aggU ((t,l) :: r)).2 = k:=ctz_of (by omega) hbit fun i hi => by
     have him:i ∈ pre:=by
      have h1:(List.range locks)[i]? = some i:=by rw [List.getElem?_range (by omega)]
      rw [eab,List.getElem?_append_left (by omega)] at h1
      exact List.mem_of_getElem? h1
     have:=hno i him
     simp only [Bool.not_eq_true',] at this
     rw [hg,this,Bool.and_false]
    rw [hc]
noncomputable def classesU (u:UnitS):List ClassV:=(List.range u.shared.length).map fun (v:Nat) => classT u.locks.length (touchL (accs u u.graphs.length) v)
end Go.Proofs.YtmonponfppdgfaaGreatDoor
end
section
/- Lists that are handed back; small functions. -/
namespace Go.Abs
open Go.RowKit
theorem Go.givesG {α:Type} {g:Option Bool} {x:Option α} {K:α→Prop} {a:α} (h:Gd g→x = some a) (k:Go (K a)):GivesG g x K:=GivesG.of h k
theorem AVles.refl (c:Cx):∀ bs:List AV,AVles c c bs bs
 | [] => .nil
 | _ :: bs => .cons (fun _ hv => hv) (AVles.refl c bs)
theorem AVles.map {α:Type} {c:Cx} {f g:α→AV} (h:∀ a,AVle c c (f a) (g a)):∀ l:List α,AVles c c (l.map f) (l.map g)
 | [] => .nil
 | a :: l => .cons (h a) (AVles.map h l)
theorem Pure.args {P:Program} {f:FuncId} {bs bs2:List AV} {R:AV→Prop} (h:Pure P f bs2 R) (hle:∀ c,AVles c c bs bs2):Pure P f bs R :=
 ⟨h.1,fun M w vs hM hv => h.2 M w vs hM ((hle _).vrs hv)⟩
theorem CallN.args {P:Program} {f:FuncId} {bs bs2:List AV} {H:Hp} {nx:Nat} {R:AV→Hp→Nat→Prop} (h:CallN P f bs2 H nx R) (hle:∀ c,AVles c c bs bs2):CallN P f bs H nx R :=
 ⟨h.1,fun w0 c vs h1 h2 h3 hv => h.2 w0 c vs h1 h2 h3 ((hle _).vrs hv)⟩
theorem AVle.nilIm (c c2:Cx) (sz:Nat) (d:AV):AVle c c2 (.sc (.slice none 0 0)) (.im sz d []):=by
 intro v hv
 rw [VR] at hv
 subst hv
 rw [VR]
 exact ⟨none,0,rfl,by simp,.inl rfl⟩
def Cloned (H:Hp) (nx:Nat) (e:TypeId) (sz:Nat) (es:List AV):AV→Hp→Nat→Prop:=fun r H' n => ∃ b' d',r = .sl b' es.length∧nx ≤ b'∧b' < n∧nx ≤ n∧getH H' b' = some (.row e sz d' es)∧∀ b,b < nx→getH H' b = getH H b
theorem Cloned.of {P:Program} {f:FuncId} {args:List AV} {H:Hp} {nx:Nat} {e:TypeId} {sz:Nat} {es:List AV} (hsz:0 < sz) (h:CallN P f args H nx (fun r H' n => (r = .sc (.slice none 0 0)∧es = []∧nx ≤ n∧∀ b,b < nx→getH H' b = getH H b) ∨ Cloned H nx e sz es r H' n)):CallN P f args H nx (Cloned H nx e sz es):=by
 refine h.wk ?_
 rintro r H' n (⟨rfl,rfl,h1,h2⟩|h1)
 ·refine ⟨_,_,_,Wk.nil (nx:=n) e sz .any hsz,n,.any,rfl,h1,Nat.lt_succ_self _,by omega,getH_here _ _ _,fun b hb => ?_⟩
  rw [getH_skipEq (by omega)];exact h2 b hb
 ·exact ⟨r,H',n,Wk.refl _ _ _,h1⟩
end Go.Abs
namespace Go.Proofs.YtmonponfppdgfaaGreatDoor
open Go Go.Abs Go.Proofs
set_option linter.unusedSimpArgs false
set_option linter.unusedVariables false
def imF (l:List Int):AV:=.im 1 .any (l.map i64)
def imB (l:List Bool):AV:=.im 1 .any (l.map bl)
theorem pure_of_call {P:Program} {f:FuncId} {args:List AV} {u:AV} (h:CallN P f args [] 0 (fun r H _ => Abs.frz H 6 r = u)) (hf:fitA 0 u):Pure P f args (fun r => r = u):=by
 refine ⟨h.1,fun M w vs hM hv => ?_⟩
 have hS:Sim w ⟨fun _ => none,getH [],fun _ => False,w,M⟩:=⟨⟨rfl,rfl,rfl,Nat.le_refl _,fun _ _ => rfl⟩,hM,fun b e sz d es he => by simp [getH] at he,fun b b' k k' blk o z o' z' hk => by simp [getH] at hk⟩
 refine (h.2 w _ vs hS rfl (fun _ h => h.elim) hv).mono ?_
 rintro en w' ⟨v1,r1,H1,nx',ρ,U,he,hz,hU,hS',_,g2⟩
 have h3:=frz_spec hS' rfl 6 (a:=r1) (v:=v1) (by rw [hz];exact hf) g2
 rw [hz] at h3
 exact ⟨v1,_,he,rfl,hf,h3,hS'.below⟩
theorem pure_or {P:Program} {f:FuncId} {args:List AV} {u v:AV} (h:CallN P f args [] 0 (fun r H _ => Abs.frz H 6 r = u ∨ Abs.frz H 6 r = v)) (hu:fitA 0 u) (hv:fitA 0 v):Pure P f args (fun r => r = u ∨ r = v):=by
 refine ⟨h.1,fun M w vs hM hv' => ?_⟩
 have hS:Sim w ⟨fun _ => none,getH [],fun _ => False,w,M⟩:=⟨⟨rfl,rfl,rfl,Nat.le_refl _,fun _ _ => rfl⟩,hM,fun b e sz d es he => by simp [getH] at he,fun b b' k k' blk o z o' z' hk => by simp [getH] at hk⟩
 refine (h.2 w _ vs hS rfl (fun _ h => h.elim) hv').mono ?_
 rintro en w' ⟨v1,r1,H1,nx',ρ,U,he,hz,hU,hS',_,g2⟩
 rcases hz with hz|hz
 ·have h3:=frz_spec hS' rfl 6 (a:=r1) (v:=v1) (by rw [hz];exact hu) g2
  rw [hz] at h3
  exact ⟨v1,_,he,.inl rfl,hu,h3,hS'.below⟩
 ·have h3:=frz_spec hS' rfl 6 (a:=r1) (v:=v1) (by rw [hz];exact hv) g2
  rw [hz] at h3
  exact ⟨v1,_,he,.inr rfl,hv,h3,hS'.below⟩
theorem pure_le {P:Program} {f:FuncId} {args:List AV} {u v:AV} (h:Pure P f args (fun r => r = u ∨ r = v)) (hv:fitA 0 v) (hle:∀ c,AVle c c u v):Pure P f args (fun r => r = v) :=
 ⟨h.1,fun M w vs hM hv' => (h.2 M w vs hM hv').mono fun en w' ⟨x,r,h2,h3,h4,h5,h6⟩ => by
  rcases h3 with rfl|rfl
  ·exact ⟨x,_,h2,rfl,hv,hle _ _ h5,h6⟩
  ·exact ⟨x,_,h2,rfl,hv,h5,h6⟩⟩
theorem pure_im {P:Program} {f:FuncId} {args:List AV} {sz:Nat} {es:List AV} (hf:fitA 0 (.im sz .any es)) (h:CallN P f args [] 0 (fun r H _ => Abs.frz H 6 r = .sc (.slice none 0 0)∧es = [] ∨ Abs.frz H 6 r = .im sz .any es)):Pure P f args (fun r => r = .im sz .any es):=by
 by_cases hl:es = []
 ·subst hl
  exact pure_le (pure_or (h.mono fun r H n h => h.imp (·.1) id) (by simp [fitA,fitL]) hf) hf (fun c => Abs.AVle.nilIm c c _ _)
 ·exact pure_of_call (h.mono fun r H n h => h.elim (fun h => absurd h.2 hl) id) hf
theorem known_pure (op:Int):Pure Tryz.prog 110 [u8 op] (fun r => r = bl (decide (0 < op∧op < 19))):=by
 refine Go.pureL lf110 rfl ?_
 repeat' (first|((with_reducible refine Go.red ?_);conv => whnf)|refine aG ?_|exact aC|with_reducible refine Go.and ?_ ?_|(apply Go.elem;(·exact aElem))|refine aH ?_|((with_reducible refine Go.bool ?_ ?_) <;> intro hc <;> (try simp only [List.length_map,ne_eq,hcs] at hc) <;> try (exfalso;omega)))
 simp only [decide_eq_true_eq]
 exact bl_eq (by by_cases h:0 < op <;> simp [h])
theorem rtwo_pure (op:Int):Pure Tryz.prog 94 [u8 op] (fun r => r = bl (operTwo op)):=by
 refine Go.pureL lf94 rfl ?_
 repeat' (first|((with_reducible refine Go.red ?_);conv => whnf)|refine aG ?_|exact aC|with_reducible refine Go.and ?_ ?_|(apply Go.elem;(·exact aElem))|refine aH ?_|((with_reducible refine Go.bool ?_ ?_) <;> intro hc <;> (try simp only [List.length_map,ne_eq,hcs] at hc) <;> try (exfalso;omega)))
 all_goals simp_all [operTwo,hcs]
theorem digit_pure (c:Int):Pure Tryz.prog 104 [u8 c] (fun r => r = bl (decide (48 ≤ c) && decide (c ≤ 57))):=by
 refine Go.pureL lf104 rfl ?_
 repeat' (first|((with_reducible refine Go.red ?_);conv => whnf)|refine aG ?_|exact aC|with_reducible refine Go.and ?_ ?_|(apply Go.elem;(·exact aElem))|refine aH ?_|((with_reducible refine Go.bool ?_ ?_) <;> intro hc <;> (try simp only [List.length_map,ne_eq,hcs] at hc) <;> try (exfalso;omega)))
 all_goals simp_all [hcs]
set_option maxHeartbeats 1000000 in
theorem follows_pure (n:Node):Pure Tryz.prog 90 [n.av] (fun r => r = imF n.fold):=by
 refine pure_im (by simp [fitA,fitL_map]) ?_
 refine Go.fnL lf90 rfl ?_
 repeat' (first|((with_reducible refine Go.red ?_);conv => whnf)|refine aG ?_|exact aCn|with_reducible refine Go.and ?_ ?_|((with_reducible refine Ask.mk ?_);first|exact aAsk|exact aAsk2|(intro h;simp_all [Node.cells] <;> fail)|(simp_all [Node.cells] <;> fail))|(apply Go.elem;(·exact aElem))|refine aH ?_|((with_reducible refine Go.bool ?_ ?_) <;> intro hc <;> (try simp only [List.length_map,ne_eq,hcs] at hc) <;> try (exfalso;omega)))
 all_goals refine ⟨?_⟩
 all_goals first|exact .inl ⟨rfl,by simp_all [Node.fold]⟩|(refine .inr ((frz_sl aRow (by simp)).trans ?_);rw [frz_same _ (by simp [fitL,fitA])];first|(simp_all [imF,Node.fold];done)|(unfold Node.fold;rw [if_neg (by assumption),if_neg (fun h => hc.elim (fun a => a h.1) (fun a => h.2 a))];rfl))
set_option maxHeartbeats 1000000 in
theorem dfollows_pure (n:Node):Pure Tryz.prog 76 [n.av] (fun r => r = imF n.fold):=by
 refine pure_im (by simp [fitA,fitL_map]) ?_
 refine Go.fnL lf76 rfl ?_
 repeat' (first|((with_reducible refine Go.red ?_);conv => whnf)|refine aG ?_|exact aCn|with_reducible refine Go.and ?_ ?_|((with_reducible refine Ask.mk ?_);first|exact aAsk|exact aAsk2|(intro h;simp_all [Node.cells] <;> fail)|(simp_all [Node.cells] <;> fail))|(apply Go.elem;(·exact aElem))|refine aH ?_|((with_reducible refine Go.bool ?_ ?_) <;> intro hc <;> (try simp only [List.length_map,ne_eq,hcs] at hc) <;> try (exfalso;omega)))
 all_goals refine ⟨?_⟩
 all_goals first|exact .inl ⟨rfl,by simp_all [Node.fold]⟩|(refine .inr ((frz_sl aRow (by simp)).trans ?_);rw [frz_same _ (by simp [fitL,fitA])];first|(simp_all [imF,Node.fold];done)|(unfold Node.fold;rw [if_neg (by assumption),if_neg (fun h => hc.elim (fun a => a h.1) (fun a => h.2 a))];rfl))
set_option maxHeartbeats 1000000 in
theorem rfollows_pure (n:Node):Pure Tryz.prog 49 [n.av] (fun r => r = imF n.fol):=by
 refine pure_im (by simp [fitA,fitL_map]) ?_
 refine Go.fnL lf49 rfl ?_
 repeat' (first|((with_reducible refine Go.red ?_);conv => whnf)|refine aG ?_|exact aCn|with_reducible refine Go.and ?_ ?_|((with_reducible refine Ask.mk ?_);first|exact aAsk|exact aAsk2|(intro h;simp_all [Node.cells] <;> fail)|(simp_all [Node.cells] <;> fail))|(apply Go.elem;(·exact aElem))|refine aH ?_|((with_reducible refine Go.bool ?_ ?_) <;> intro hc <;> (try simp only [List.length_map,ne_eq,hcs] at hc) <;> try (exfalso;omega)))
 all_goals refine ⟨?_⟩
 all_goals first|exact .inl ⟨rfl,by simp_all [Node.fol]⟩|(refine .inr ((frz_sl aRow (by simp)).trans ?_);rw [frz_same _ (by simp [fitL,fitA])];simp_all [imF,Node.fol])
end Go.Proofs.YtmonponfppdgfaaGreatDoor
end
section
/- Is a node right? -/
namespace Go.Proofs.YtmonponfppdgfaaGreatDoor
open Go Go.Abs Go.Proofs
set_option linter.unusedSimpArgs false
set_option linter.unusedVariables false
theorem run_pure2 {f:FuncId} {args:List AV} {u:AV} (hu:fitA 0 u) (h:(xcall TT 30 f args [] 0).map (fun q => frz q.2.1 6 q.1) = some u):Pure Tryz.prog f args (fun r => r = u):=by
 simp only [Option.map_eq_some_iff] at h
 obtain ⟨⟨r,H',nx'⟩,h1,h2⟩:=h
 simp only at h2
 have h0:=xcall_spec hTT 30 _ _ _ _ _ _ _ h1
 have h3:=CallN.pure (H':=H') (h0.mono fun r H n ⟨h1,h2,_⟩ => ⟨h1,h2⟩) (by rw [h2];exact hu)
 exact h3.mono fun r hr => by rw [hr,h2]
theorem two_pure (op:Int) (h0:0 ≤ op):Pure Tryz.prog 98 [u8 op] (fun r => r = bl (operTwo op)):=by
 refine Go.pureL lf98 rfl ?_
 repeat' (first|((with_reducible refine Go.red ?_);conv => whnf)|refine aG ?_|exact aC|with_reducible refine Go.and ?_ ?_|(apply Go.elem;(·exact aElem))|((with_reducible refine Go.callW (known_pure _) ?_ ?_);(·exact aFit))|((with_reducible refine Go.callJ (fun _ => known_pure _) ?_ ?_);(·exact aFit))|((with_reducible refine Go.callE (known_pure _) ?_ ?_);(·exact aFit))|((with_reducible refine Go.callF (fun _ => known_pure _) ?_ ?_);(·exact aFit))|refine aH ?_|((with_reducible refine Go.bool ?_ ?_) <;> intro hc <;> (try simp only [List.length_map,ne_eq,hcs] at hc) <;> try (exfalso;omega)))
 refine bl_eq ?_
 unfold operTwo
 by_cases h1:0 < op <;> by_cases h2:op < 19 <;> by_cases h3:op = 17 <;> by_cases h4:op = 18 <;> simp [h1,h2,h3,h4] <;> omega
def mask (k op:Int):Int:=if k = 1 then (if operTwo op = true then 59 else 43) else if k = 2 then 38 else if k = 3 then 44 else if k = 4 then 46 else if k = 5 then 36 else if k = 6 then 36 else if k = 7 then 40 else if k = 8 then 104 else 0
set_option maxRecDepth 100000 in
theorem parts_pure (n:Node) (hn:n.Wf) (h:1 ≤ n.kind∧n.kind < 10):Pure Tryz.prog 86 [n.av] (fun r => r = u8 (mask n.kind n.op)):=by
 obtain ⟨h0,h1⟩:=h
 have ho:=hn.op.1
 obtain ⟨kind,op,slot,thing,a,b,next,els,origin⟩:=n
 simp only at h0 h1 ho
 have hk:kind = 1 ∨ kind = 2 ∨ kind = 3 ∨ kind = 4 ∨ kind = 5 ∨ kind = 6 ∨ kind = 7 ∨ kind = 8 ∨ kind = 9:=by omega
 rcases hk with rfl|rfl|rfl|rfl|rfl|rfl|rfl|rfl|rfl
 ·refine Go.pureL lf86 rfl ?_
  repeat' (first|((with_reducible refine Go.red ?_);conv => whnf)|refine aG ?_|exact aC|with_reducible refine Go.and ?_ ?_|(apply Go.elem;(·exact aElem))|((with_reducible refine Go.callW (two_pure _ ho) ?_ ?_);(·exact aFit))|((with_reducible refine Go.callJ (fun _ => two_pure _ ho) ?_ ?_);(·exact aFit))|((with_reducible refine Go.callE (two_pure _ ho) ?_ ?_);(·exact aFit))|((with_reducible refine Go.callF (fun _ => two_pure _ ho) ?_ ?_);(·exact aFit))|refine aH ?_|((with_reducible refine Go.bool ?_ ?_) <;> intro hc <;> (try simp only [List.length_map,ne_eq,hcs] at hc) <;> try (exfalso;omega)))
  all_goals
   cases ht:operTwo op with
   | true =>
    rw [ht] at hc
    first|(exact absurd rfl hc)|(exact absurd hc (by decide))|(simp only [show mask 1 op = 59 by simp [mask,ht]];try kernel_rfl)
   | false =>
    rw [ht] at hc
    first|(exact absurd rfl hc)|(exact absurd hc (by decide))|(simp only [show mask 1 op = 43 by simp [mask,ht]];try kernel_rfl)
 iterate 8 exact run_pure2 (by simp [fitA,fitL]) (by kernel_rfl)
theorem Val.default_eq:(default:Val) = ⟨false,0,0⟩:=rfl
def bitOf (m u:Int):Int:=IntKind.u8.wrap (BitVec.ofInt IntKind.u8.bits m &&& BitVec.ofInt IntKind.u8.bits u).toNat
theorem within_look (k u most m:Int) (b:Nat) (H:Hp) (nx:Nat) (e:TypeId) (d:AV) (hb:getH H b = some (.row e 1 d [u8 m])):Look Tryz.prog 87 [i64 k,u8 u,i64 most,.pt b 1 0 0] H nx (bl (numB k (decide (bitOf m u ≠ 0)) most)):=by
 refine Go.lookAtL lf87 rfl ?_
 repeat' (first|((with_reducible refine Go.red ?_);conv => whnf)|refine aG ?_|exact aC|with_reducible refine Go.and ?_ ?_|(apply Go.elem;(·exact aElem))|refine aH ?_|((with_reducible refine Go.bool ?_ ?_) <;> intro hc <;> (try simp only [List.length_map,ne_eq,hcs] at hc) <;> try (exfalso;omega)))
 refine ResN.look ?_ aKeep
 simp only [show IntKind.u8.wrap (BitVec.ofInt IntKind.u8.bits m &&& BitVec.ofInt IntKind.u8.bits u).toNat = bitOf m u from rfl,numB]
 by_cases h1:bitOf m u = 0 <;> by_cases h2:k = 0 <;> by_cases h3:0 ≤ k <;> by_cases h4:k < most <;> simp [h1,h2,h3,h4]
theorem value_look (v:Val) (u m:Int) (g:Graph) (b c:Nat) (H:Hp) (nx:Nat) (e e2:TypeId) (d d2:AV) (hb:getH H b = some (.row e 1 d [u8 m])) (hc:getH H c = some (.row e2 4 d2 [g.av])) (hbn:b < nx) (hcn:c < nx):Look Tryz.prog 88 [v.av,u8 u,.pt b 1 0 0,.pt c 1 0 0] H nx (bl (valB v (decide (bitOf m u ≠ 0)) g.slots)):=by
 refine Go.lookAtL lf88 rfl ?_
 repeat' (first|((with_reducible refine Go.red ?_);conv => whnf)|refine aG ?_|exact aCn|with_reducible refine Go.and ?_ ?_|((with_reducible refine Ask.mk ?_);first|exact aAsk|exact aAsk2|(intro h;simp_all [Val.cells,Graph.cells] <;> fail)|(simp_all [Val.cells,Graph.cells] <;> fail))|(apply Go.elem;(·exact aElem))|refine aH ?_|((with_reducible refine Go.bool ?_ ?_) <;> intro hc <;> (try simp only [List.length_map,ne_eq,hcs] at hc) <;> try (exfalso;omega)))
 all_goals refine ResN.look ?_ aKeep
 all_goals simp only [show IntKind.u8.wrap (BitVec.ofInt IntKind.u8.bits m &&& BitVec.ofInt IntKind.u8.bits u).toNat = bitOf m u from rfl] at *
 all_goals unfold valB
 ·rw [if_neg (show ¬ decide (bitOf m u ≠ 0) = true by simp [hc])]
  obtain ⟨is,sl,wo⟩:=v
  refine bl_eq ?_
  rw [Bool.eq_iff_iff]
  simp [Val.default_eq,and_assoc]
 ·rename_i h0
  rw [decide_eq_true hc,if_pos rfl,if_pos h0]
  refine bl_eq ?_
  by_cases h1:0 ≤ v.slot <;> by_cases h2:v.slot < g.slots <;> simp [h1,h2]
 ·rename_i h0
  rw [decide_eq_true hc,if_pos rfl,if_neg (by rw [h0];decide)]
theorem mask_bits (k op:Int) (h:1 ≤ k∧k < 10):(bitOf (mask k op) 1 = 0 ↔ ¬ k = 1)∧(decide (bitOf (mask k op) 2 ≠ 0) = usesSlot k)∧(decide (bitOf (mask k op) 4 ≠ 0) = usesThing k)∧(decide (bitOf (mask k op) 8 ≠ 0) = usesA k)∧(decide (bitOf (mask k op) 16 ≠ 0) = (decide (k = 1) && operTwo op))∧(decide (bitOf (mask k op) 32 ≠ 0) = usesNext k)∧(decide (bitOf (mask k op) 64 ≠ 0) = decide (k = 8)):=by
 have hk:k = 1 ∨ k = 2 ∨ k = 3 ∨ k = 4 ∨ k = 5 ∨ k = 6 ∨ k = 7 ∨ k = 8 ∨ k = 9:=by omega
 rcases hk with rfl|rfl|rfl|rfl|rfl|rfl|rfl|rfl|rfl
 ·cases ht:operTwo op with
  | false => rw [show mask 1 op = 43 by simp [mask,ht]];decide
  | true => rw [show mask 1 op = 59 by simp [mask,ht]];decide
 ·rw [show mask 2 op = 38 by rfl,show (decide ((2:Int) = 1) && operTwo op) = false by rfl];decide
 ·rw [show mask 3 op = 44 by rfl,show (decide ((3:Int) = 1) && operTwo op) = false by rfl];decide
 ·rw [show mask 4 op = 46 by rfl,show (decide ((4:Int) = 1) && operTwo op) = false by rfl];decide
 ·rw [show mask 5 op = 36 by rfl,show (decide ((5:Int) = 1) && operTwo op) = false by rfl];decide
 ·rw [show mask 6 op = 36 by rfl,show (decide ((6:Int) = 1) && operTwo op) = false by rfl];decide
 ·rw [show mask 7 op = 40 by rfl,show (decide ((7:Int) = 1) && operTwo op) = false by rfl];decide
 ·rw [show mask 8 op = 104 by rfl,show (decide ((8:Int) = 1) && operTwo op) = false by rfl];decide
 ·rw [show mask 9 op = 0 by rfl,show (decide ((9:Int) = 1) && operTwo op) = false by rfl];decide
set_option maxRecDepth 4000 in
set_option maxHeartbeats 2000000 in
theorem right_pure (u:UnitS) (g:Graph) (n:Node) (hn:n.Wf):Pure Tryz.prog 52 [u.av,g.av,n.av] (fun r => r = bl (nodeB u g n)):=by
 refine Go.pureL lf52 rfl ?_
 have h0:=hn.kind.1
 have ho:=hn.op.1
 by_cases hk:1 ≤ n.kind∧n.kind < 10∧0 ≤ n.origin∧n.origin < 4096
 ·have hp:=parts_pure n hn ⟨hk.1,hk.2.1⟩
  obtain ⟨m1,m2,m3,m4,m5,m6,m7⟩:=mask_bits n.kind n.op ⟨hk.1,hk.2.1⟩
  repeat' (first|((with_reducible refine Go.red ?_);conv => whnf)|refine aG ?_|exact aCn|with_reducible refine Go.and ?_ ?_|((with_reducible refine Ask.mk ?_);first|exact aAsk|exact aAsk2|(intro h;simp_all [UnitS.cells,Graph.cells,Node.cells] <;> fail)|(simp_all [UnitS.cells,Graph.cells,Node.cells] <;> fail))|(apply Go.elem;(·exact aElem))|refine aK (hp) ?_|((refine Go.lookW (within_look _ _ _ _ _ _ _ _ _ (by exact rfl)) ?_ ?_);(·exact True.intro))|((refine Go.lookJ (fun _ => within_look _ _ _ _ _ _ _ _ _ (by exact rfl)) ?_ ?_);(·exact True.intro))|((refine Go.lookW (value_look ⟨_,_,_⟩ _ _ _ _ _ _ _ _ _ _ _ (by exact rfl) (by exact rfl) aNx aNx) ?_ ?_);(·exact True.intro))|((refine Go.lookJ (fun _ => value_look ⟨_,_,_⟩ _ _ _ _ _ _ _ _ _ _ _ (by exact rfl) (by exact rfl) aNx aNx) ?_ ?_);(·exact True.intro))|refine aH ?_|((with_reducible refine Go.bool ?_ ?_) <;> intro hc <;> (try simp only [List.length_map,ne_eq,hcs] at hc) <;> try (exfalso;omega)))
  all_goals
   have hop:numB (IntKind.i64.wrap n.op) (decide (bitOf (mask n.kind n.op) 1 ≠ 0)) 19 = (if n.kind = 1 then decide (n.op < 19) else decide (n.op = 0)):=by
    have h2:=hn.op.2
    rw [wrap64 (by omega) (by omega)]
    unfold numB
    by_cases h1:n.kind = 1
    ·rw [if_pos h1,if_pos (show decide (bitOf (mask n.kind n.op) 1 ≠ 0) = true by rw [decide_eq_true_eq];exact fun h => m1.1 h h1),decide_eq_true ho,Bool.true_and]
    ·rw [if_neg h1,if_neg (show ¬ decide (bitOf (mask n.kind n.op) 1 ≠ 0) = true by rw [decide_eq_true_eq];exact fun h => h (m1.2 h1))]
   refine bl_eq ?_
   rw [hop,m2,m3,m4,m5,m6,m7]
   unfold nodeB
   rw [decide_eq_true hk,Bool.true_and]
   simp only [hc,if_true,if_false,or_self,Bool.if_false_right,Bool.decide_eq_true,Bool.and_assoc]
   simp only [List.length_map]
   generalize numB n.slot (usesSlot n.kind) g.slots = x1
   have ea:(⟨n.a.isSlot,n.a.slot,n.a.word⟩:Val) = n.a:=rfl
   have eb:(⟨n.b.isSlot,n.b.slot,n.b.word⟩:Val) = n.b:=rfl
   rw [ea,eb]
   generalize valB n.a (usesA n.kind) g.slots = x2
   generalize valB n.b (decide (n.kind = 1) && operTwo n.op) g.slots = x3
   generalize numB n.next (usesNext n.kind) g.nodes.length = x4
   generalize numB n.els (decide (n.kind = 8)) g.nodes.length = x5
   revert x1 x2 x3 x4 x5
   intro x1 x2 x3 x4 x5
   cases x1 <;> cases x2 <;> cases x3 <;> cases x4 <;> cases x5 <;> simp
 ·have hb:nodeB u g n = false:=by unfold nodeB;rw [decide_eq_false hk];simp
  rw [hb]
  repeat' (first|((with_reducible refine Go.red ?_);conv => whnf)|refine aG ?_|exact aCn|with_reducible refine Go.and ?_ ?_|((with_reducible refine Ask.mk ?_);first|exact aAsk|exact aAsk2|(intro h;simp_all [UnitS.cells,Graph.cells,Node.cells] <;> fail)|(simp_all [UnitS.cells,Graph.cells,Node.cells] <;> fail))|(apply Go.elem;(·exact aElem))|refine aH ?_|((with_reducible refine Go.bool ?_ ?_) <;> intro hc <;> (try simp only [List.length_map,ne_eq,hcs] at hc) <;> try (exfalso;omega)))
  exact rfl
end Go.Proofs.YtmonponfppdgfaaGreatDoor
end
section
/- Names. -/
namespace Go.Proofs.YtmonponfppdgfaaGreatDoor
open Go Go.Abs Go.Proofs
set_option linter.unusedSimpArgs false
set_option linter.unusedVariables false
def digitB (c:Int):Bool:=decide (48 ≤ c) && decide (c ≤ 57)
def letterB (c:Int):Bool:=decide (97 ≤ c) && decide (c ≤ 122) || decide (65 ≤ c) && decide (c ≤ 90) || decide (c = 95)
def wordsL:List ByteArray:=[⟨(List.toArray [115,104,97,114,101,100])⟩,⟨(List.toArray [108,111,99,107])⟩,⟨(List.toArray [116,104,114,101,97,100])⟩,⟨(List.toArray [108,111,99,97,108])⟩,⟨(List.toArray [105,102])⟩,⟨(List.toArray [101,108,115,101])⟩,⟨(List.toArray [119,104,105,108,101])⟩,⟨(List.toArray [112,114,105,110,116])⟩,⟨(List.toArray [115,107,105,112])⟩,⟨(List.toArray [115,119,97,112])⟩]
def wordB (s:ByteArray):Bool:=wordsL.any (s == ·)
theorem letter_pure (c:Int):Pure Tryz.prog 106 [u8 c] (fun r => r = bl (letterB c)):=by
 refine Go.pureL lf106 rfl ?_
 repeat' (first|((with_reducible refine Go.red ?_);conv => whnf)|refine aG ?_|exact aC|with_reducible refine Go.and ?_ ?_|(apply Go.elem;(·exact aElem))|refine aH ?_|((with_reducible refine Go.bool ?_ ?_) <;> intro hc <;> (try simp only [List.length_map,ne_eq,hcs] at hc) <;> try (exfalso;omega)))
 refine bl_eq ?_
 unfold letterB
 by_cases h1:97 ≤ c <;> by_cases h2:c ≤ 122 <;> by_cases h3:65 ≤ c <;> by_cases h4:c ≤ 90 <;> by_cases h5:c = 95 <;> simp [h1,h2,h3,h4,h5]
theorem word_pure (s:ByteArray):Pure Tryz.prog 105 [st s] (fun r => r = bl (wordB s)):=by
 refine Go.pureL lf105 rfl ?_
 repeat' (first|((with_reducible refine Go.red ?_);conv => whnf)|refine aG ?_|exact aC|with_reducible refine Go.and ?_ ?_|(apply Go.elem;(·exact aElem))|refine aH ?_|((with_reducible refine Go.bool ?_ ?_) <;> intro hc <;> (try simp only [List.length_map,ne_eq,hcs] at hc) <;> try (exfalso;omega)))
 all_goals refine bl_eq ?_
 all_goals simp_all [wordB,wordsL]
def byteB (s:ByteArray) (i:Nat):Int:=(s.data.toList.getD i 0).toNat
def nameB (s:ByteArray):Bool:=decide (1 ≤ s.size) && decide (s.size ≤ 32) && !digitB (byteB s 0) && !wordB s && (List.range s.size).all fun i => letterB (byteB s i) || digitB (byteB s i)
theorem str_nil (s:ByteArray):(s == (⟨#[]⟩:ByteArray)) = decide (s.size = 0):=by
 obtain ⟨d⟩:=s
 show (d == #[]) = _
 rw [Bool.eq_iff_iff]
 show (d == #[]) = true ↔ decide (d.size = 0) = true
 simp
theorem name_pure (s:ByteArray) (hs:s.size ≤ 140737488351232):Pure Tryz.prog 85 [st s] (fun r => r = bl (nameB s)):=by
 refine Go.pureL lf85 rfl ?_
 have e0:=str_nil s
 by_cases hz:s.size = 0
 ·have e1:(s == (⟨#[]⟩:ByteArray)) = true:=by rw [e0,decide_eq_true hz]
  have hb:nameB s = false:=by unfold nameB;rw [decide_eq_false (by omega)];simp
  rw [hb]
  repeat' (first|((with_reducible refine Go.red ?_);conv => whnf)|refine aG ?_|exact aCn|with_reducible refine Go.and ?_ ?_|((with_reducible refine Ask.mk ?_);first|exact aAsk|((refine Ask.mk ?_);intro h;simp_all)|exact aAsk2)|(apply Go.elem;(·exact aElem))|((with_reducible refine Go.callW (digit_pure _) ?_ ?_);(·exact aFit))|((with_reducible refine Go.callJ (fun _ => digit_pure _) ?_ ?_);(·exact aFit))|((with_reducible refine Go.callE (digit_pure _) ?_ ?_);(·exact aFit))|((with_reducible refine Go.callF (fun _ => digit_pure _) ?_ ?_);(·exact aFit))|((with_reducible refine Go.callW (word_pure _) ?_ ?_);(·exact aFit))|((with_reducible refine Go.callJ (fun _ => word_pure _) ?_ ?_);(·exact aFit))|((with_reducible refine Go.callE (word_pure _) ?_ ?_);(·exact aFit))|((with_reducible refine Go.callF (fun _ => word_pure _) ?_ ?_);(·exact aFit))|((with_reducible refine Go.callW (letter_pure _) ?_ ?_);(·exact aFit))|((with_reducible refine Go.callJ (fun _ => letter_pure _) ?_ ?_);(·exact aFit))|((with_reducible refine Go.callE (letter_pure _) ?_ ?_);(·exact aFit))|((with_reducible refine Go.callF (fun _ => letter_pure _) ?_ ?_);(·exact aFit))|(simp only [e1])|refine aH ?_|((with_reducible refine Go.bool ?_ ?_) <;> intro hc <;> (try simp only [List.length_map,ne_eq,hcs] at hc) <;> try (exfalso;omega)))
  all_goals first|exact rfl|(exfalso;simp_all)
 ·have e1:(s == (⟨#[]⟩:ByteArray)) = false:=by rw [e0,decide_eq_false hz]
  repeat' (first|((with_reducible refine Go.red ?_);conv => whnf)|refine aG ?_|exact aCn|with_reducible refine Go.and ?_ ?_|((with_reducible refine Ask.mk ?_);first|exact aAsk|((refine Ask.mk ?_);intro h;exact ⟨by omega,by omega⟩)|exact aAsk2)|(apply Go.elem;(·exact aElem))|((with_reducible refine Go.callW (digit_pure _) ?_ ?_);(·exact aFit))|((with_reducible refine Go.callJ (fun _ => digit_pure _) ?_ ?_);(·exact aFit))|((with_reducible refine Go.callE (digit_pure _) ?_ ?_);(·exact aFit))|((with_reducible refine Go.callF (fun _ => digit_pure _) ?_ ?_);(·exact aFit))|((with_reducible refine Go.callW (word_pure _) ?_ ?_);(·exact aFit))|((with_reducible refine Go.callJ (fun _ => word_pure _) ?_ ?_);(·exact aFit))|((with_reducible refine Go.callE (word_pure _) ?_ ?_);(·exact aFit))|((with_reducible refine Go.callF (fun _ => word_pure _) ?_ ?_);(·exact aFit))|((with_reducible refine Go.callW (letter_pure _) ?_ ?_);(·exact aFit))|((with_reducible refine Go.callJ (fun _ => letter_pure _) ?_ ?_);(·exact aFit))|((with_reducible refine Go.callE (letter_pure _) ?_ ?_);(·exact aFit))|((with_reducible refine Go.callF (fun _ => letter_pure _) ?_ ?_);(·exact aFit))|(simp only [e1])|refine aH ?_|((with_reducible refine Go.bool ?_ ?_) <;> intro hc <;> (try simp only [List.length_map,ne_eq,hcs] at hc) <;> try (exfalso;omega)))
  ·refine bl_eq (Eq.symm ?_)
   unfold nameB
   have hp:(decide (1 ≤ s.size) && decide (s.size ≤ 32) && !digitB (byteB s 0) && !wordB s) = false:=by
    rcases hc with ((h|h)|h)|h
    ·exact absurd h (by decide)
    ·simp [show ¬ s.size ≤ 32 by omega]
    ·have h:48 ≤ byteB s 0∧byteB s 0 ≤ 57:=h
     simp [digitB,h.1,h.2]
    ·simp [h]
   rw [hp,Bool.false_and]
  ·have hp:(decide (1 ≤ s.size) && decide (s.size ≤ 32) && !digitB (byteB s 0) && !wordB s) = true:=by
    obtain ⟨h1,h2⟩:=hc
    have h3:¬ (48 ≤ byteB s 0∧byteB s 0 ≤ 57):=fun h => h1 (.inr h)
    have h4:s.size ≤ 32:=by
     have:¬ (32:Int) < s.size:=fun h => h1 (.inl (.inr h))
     omega
    have h5:digitB (byteB s 0) = false:=by
     unfold digitB
     by_cases h:48 ≤ byteB s 0
     ·rw [decide_eq_true h,decide_eq_false (fun h' => h3 ⟨h,h'⟩)];rfl
     ·rw [decide_eq_false h];rfl
    rw [decide_eq_true (by omega:1 ≤ s.size),decide_eq_true h4,h5,h2];rfl
   have hb:∀ R,(decide (1 ≤ s.size) && decide (s.size ≤ 32) && !digitB (byteB s 0) && !wordB s && R) = R:=fun R => by rw [hp,Bool.true_and]
   unfold nameB
   rw [hb]
   clear hc hp hb e1 e0
   refine Go.loop (fun i:Nat => [(0,st s),(21,i64 s.size),(22,i64 i)]) (fun i H n => i ≤ s.size∧∀ j,j < i→(letterB (byteB s j) || digitB (byteB s j)) = true) (fun i => s.size - i) 0 aLess ⟨Nat.zero_le _,fun _ h => by omega⟩ ?_
   rintro i H n ⟨hi,hall⟩
   by_cases his:i < s.size
   ·repeat' (first|((with_reducible refine Go.red ?_);conv => whnf)|refine aG ?_|exact aCn|with_reducible refine Go.and ?_ ?_|((with_reducible refine Ask.mk ?_);first|exact aAsk|((refine Ask.mk ?_);intro h;exact ⟨by omega,by omega⟩)|exact aAsk2)|(apply Go.elem;(·exact aElem))|((with_reducible refine Go.callW (digit_pure _) ?_ ?_);(·exact aFit))|((with_reducible refine Go.callJ (fun _ => digit_pure _) ?_ ?_);(·exact aFit))|((with_reducible refine Go.callE (digit_pure _) ?_ ?_);(·exact aFit))|((with_reducible refine Go.callF (fun _ => digit_pure _) ?_ ?_);(·exact aFit))|((with_reducible refine Go.callW (letter_pure _) ?_ ?_);(·exact aFit))|((with_reducible refine Go.callJ (fun _ => letter_pure _) ?_ ?_);(·exact aFit))|((with_reducible refine Go.callE (letter_pure _) ?_ ?_);(·exact aFit))|((with_reducible refine Go.callF (fun _ => letter_pure _) ?_ ?_);(·exact aFit))|refine aH ?_|((with_reducible refine Go.bool ?_ ?_) <;> intro hc <;> (try simp only [List.length_map,ne_eq,hcs] at hc) <;> try (exfalso;omega)))
    ·refine bl_eq (Eq.symm ?_)
     rw [Bool.eq_false_iff,ne_eq,List.all_eq_true]
     intro hA
     have h1:=hA i (List.mem_range.2 his)
     have hc:letterB (byteB s i) = false∧(byteB s i < 48 ∨ 57 < byteB s i):=hc
     rw [hc.1,Bool.false_or] at h1
     simp only [digitB,Bool.and_eq_true,decide_eq_true_eq] at h1
     omega
    ·refine ⟨i + 1,by omega,aLess,by omega,fun j hj => ?_⟩
     by_cases hji:j = i
     ·have hc:¬ letterB (byteB s i) = false ∨ (48 ≤ byteB s i∧byteB s i ≤ 57):=hc
      rw [hji]
      rcases hc with h|h
      ·rw [Bool.not_eq_false] at h
       rw [h,Bool.true_or]
      ·simp [digitB,h.1,h.2]
     ·exact hall j (by omega)
   ·have:i = s.size:=by omega
    subst this
    repeat' (first|((with_reducible refine Go.red ?_);conv => whnf)|refine aG ?_|exact aC|with_reducible refine Go.and ?_ ?_|(apply Go.elem;(·exact aElem))|refine aH ?_|((with_reducible refine Go.bool ?_ ?_) <;> intro hc <;> (try simp only [List.length_map,ne_eq,hcs] at hc) <;> try (exfalso;omega)))
    refine bl_eq (Eq.symm ?_)
    rw [List.all_eq_true]
    intro j hj
    exact hall j (List.mem_range.1 hj)
end Go.Proofs.YtmonponfppdgfaaGreatDoor
end
