import Derived.Test.YtflicfkgbjmffaaGreatM24
section
/- Right objects. -/
namespace Go.Proofs.YtflicfkgbjmffaaGreat.V
open Go Go.Abs Go.Proofs
set_option linter.unusedSimpArgs false
theorem same_call (c d:Core) (b:Nat) (H:Hp) (nx:Nat) (e:TypeId) (df:AV) (hb:getH H b = some (.row e 2 df [c.av])) (hlt:b < nx):Look Tryz.prog 43 [d.av,.pt b 1 0 0] H nx (bl (d.name == c.name)):=by
 refine Go.lookAtL lf43 rfl ?_
 repeat' (first|((with_reducible refine Go.red ?_);conv => whnf)|refine aG ?_|exact aC|with_reducible refine Go.and ?_ ?_|(apply Go.elem;(·exact aElem))|refine aH ?_|((with_reducible refine Go.bool ?_ ?_) <;> intro hc <;> (try simp only [List.length_map,ne_eq,hcs] at hc) <;> try (exfalso;omega)))
 exact ResN.look rfl aKeep
theorem drop_cons {α:Type} [Inhabited α] {l:List α} {i:Nat} (h:i < l.length):l.drop i = l.getD i default :: l.drop (i + 1):=by
 rw [List.drop_eq_getElem_cons h]
 simp [List.getD,h]
def idxName (name:ByteArray):List Core→Nat→Int
 | [],_ => -1
 | d :: r,k => if (d.name == name) = true then k else idxName name r (k + 1)
theorem idx_call (c:Core) (l:List Core) (hl:l.length * 40 ≤ 140737488351232) (b:Nat) (H:Hp) (nx:Nat) (e:TypeId) (df:AV) (hb:getH H b = some (.row e 2 df [c.av])) (hlt:b < nx):Look Tryz.prog 70 [.im 2 .any (l.map Core.av),.fn (.func 43) [] [.pt b 1 0 0]] H nx (i64 (idxName c.name l 0)):=by
 refine Go.lookAtL lf70 rfl ?_
 repeat' (first|((with_reducible refine Go.red ?_);conv => whnf)|refine aG ?_|exact aC|with_reducible refine Go.and ?_ ?_|(apply Go.elem;(·exact aElem))|refine aH ?_|((with_reducible refine Go.bool ?_ ?_) <;> intro hc <;> (try simp only [List.length_map,ne_eq,hcs] at hc) <;> try (exfalso;omega)))
 refine Go.loop (fun i:Nat => [(0,.im 2 .any (l.map Core.av)),(1,.fn (.func 43) [] [.pt b 1 0 0]),(7,i64 l.length),(8,i64 i)]) (fun i H' n => i ≤ l.length∧H' = H∧nx ≤ n∧idxName c.name l 0 = idxName c.name (l.drop i) i) (fun i => l.length - i) 0 aLess ⟨Nat.zero_le _,rfl,by omega,rfl⟩ ?_
 rintro i H' n ⟨hi,rfl,hn,hs⟩
 repeat' (first|((with_reducible refine Go.red ?_);conv => whnf)|refine aG ?_|exact aC|with_reducible refine Go.and ?_ ?_|(apply Go.elem;(·exact aElem))|((refine Go.lookW (same_call c _ b _ _ e df hb (by omega)) ?_ ?_);(·exact True.intro))|((refine Go.lookJ (fun _ => same_call c _ b _ _ e df hb (by omega)) ?_ ?_);(·exact True.intro))|refine aH ?_|((with_reducible refine Go.bool ?_ ?_) <;> intro hc <;> (try simp only [List.length_map,ne_eq,hcs] at hc) <;> try (exfalso;omega)))
 ·try simp only [Int.toNat_natCast] at hc
  refine ResN.look ?_ aKeep
  rw [hs,drop_cons (by omega),idxName,if_pos hc]
 ·try simp only [Int.toNat_natCast] at hc
  refine ⟨i + 1,by omega,aLess,by omega,rfl,by omega,?_⟩
  rw [hs,drop_cons (by omega),idxName,if_neg (by rw [hc];simp)]
 ·refine ResN.look ?_ aKeep
  rw [hs,List.drop_eq_nil_of_le (by omega),idxName]
theorem idxName_iff (name:ByteArray):∀ (l:List Core) (k:Nat),0 ≤ idxName name l k ↔ (l.any (fun d => d.name == name)) = true
 | [],k => by simp [idxName]
 | d :: r,k => by
  have ih:=idxName_iff name r (k + 1)
  simp only [idxName,List.any_cons,Bool.or_eq_true]
  by_cases h:(d.name == name) = true
  ·rw [if_pos h];exact ⟨fun _ => Or.inl h,fun _ => by omega⟩
  ·rw [if_neg h,ih];exact ⟨Or.inr,fun hh => hh.resolve_left h⟩
theorem idxName_any (name:ByteArray) (l:List Core) (k:Nat):(decide (0 ≤ idxName name l k)) = l.any (fun d => d.name == name):=by
 rw [Bool.eq_iff_iff,decide_eq_true_eq]
 exact idxName_iff name l k
theorem any_call (c:Core) (l:List Core) (hl:l.length * 40 ≤ 140737488351232) (b:Nat) (H:Hp) (nx:Nat) (e:TypeId) (df:AV) (hb:getH H b = some (.row e 2 df [c.av])) (hlt:b < nx):Look Tryz.prog 45 [.im 2 .any (l.map Core.av),.fn (.func 43) [] [.pt b 1 0 0]] H nx (bl (l.any fun d => d.name == c.name)):=by
 refine Go.lookAtL lf45 rfl ?_
 repeat' (first|((with_reducible refine Go.red ?_);conv => whnf)|refine aG ?_|exact aC|with_reducible refine Go.and ?_ ?_|(apply Go.elem;(·exact aElem))|((refine Go.lookW (idx_call c l hl b _ _ e df hb (by omega)) ?_ ?_);(·exact True.intro))|((refine Go.lookJ (fun _ => idx_call c l hl b _ _ e df hb (by omega)) ?_ ?_);(·exact True.intro))|refine aH ?_|((with_reducible refine Go.bool ?_ ?_) <;> intro hc <;> (try simp only [List.length_map,ne_eq,hcs] at hc) <;> try (exfalso;omega)))
 refine ResN.look ?_ aKeep
 rw [← idxName_any c.name l 0]
def lastOk (c:Core):Bool:=decide ((c.code.getD ((c.code.length:Int) - 1).toNat default).kind = 10) || decide ((c.code.getD ((c.code.length:Int) - 1).toNat default).kind = 8)
def coreOk (pre:List Core) (c:Core):Bool:=isName c.name && !(pre.any fun d => d.name == c.name) && decide (1 ≤ c.code.length) && decide (c.code.length ≤ 16384) && lastOk c
def coresOk:List Core→List Core→Bool
 | _,[] => true
 | pre,c :: r => coreOk pre c && coresOk (pre ++ [c]) r
def shapedOk (o:Obj):Bool:=decide (0 ≤ o.shared) && decide (o.shared ≤ 64) && decide (0 ≤ o.locks) && decide (o.locks ≤ 16) && decide (o.shared + o.locks ≤ o.mem.length) && decide (o.mem.length ≤ 4096) && decide (1 ≤ o.buffer) && decide (o.buffer ≤ 16) && decide (o.cores.length ≤ 8) && coresOk [] o.cores
theorem coresOk_at {l:List Core} {i:Nat} (h:i < l.length):coresOk (l.take i) (l.drop i) = (coreOk (l.take i) (l.getD i default) && coresOk (l.take (i + 1)) (l.drop (i + 1))):=by
 rw [drop_cons h,coresOk,List.take_succ_eq_append_getElem h]
 simp [List.getD,h]
theorem Obj.Wf.at {o:Obj} (ho:o.Wf) (i:Nat):(o.cores.getD i default).Wf:=by
 by_cases h:i < o.cores.length
 ·have:o.cores.getD i default = o.cores[i]:=by simp [List.getD,h]
  rw [this];exact ho.cores _ (List.getElem_mem h)
 ·have:o.cores.getD i default = default:=by simp [List.getD,h]
  rw [this];exact ⟨by decide,(fun _ hi => nomatch hi),by decide⟩
theorem any_pre (c:Core) (l:List Core) (i:Nat) (hl:l.length * 40 ≤ 140737488351232) (b:Nat) (H:Hp) (nx:Nat) (e:TypeId) (df:AV) (hb:getH H b = some (.row e 2 df [c.av])) (hlt:b < nx):Look Tryz.prog 45 [.im 2 .any (((l.map Core.av).drop 0).take (((i:Nat):Int).toNat - 0)),.fn (.func 43) [] [.pt b 1 0 0]] H nx (bl ((l.take i).any fun d => d.name == c.name)):=by
 have h:=any_call c (l.take i) (by rw [List.length_take];omega) b H nx e df hb hlt
 rw [List.map_take] at h
 exact h
theorem shaped_pure (o:Obj) (ho:o.Wf):Pure Tryz.prog 23 [o.av] (fun r => r = bl (shapedOk o)):=by
 refine Go.pureL lf23 rfl ?_
 repeat' (first|((with_reducible refine Go.red ?_);conv => whnf)|refine aG ?_|exact aC|with_reducible refine Go.and ?_ ?_|(apply Go.elem;(·exact aElem))|refine aH ?_|((with_reducible refine Go.bool ?_ ?_) <;> intro hc <;> (try simp only [List.length_map,ne_eq,hcs] at hc) <;> try (exfalso;omega)))
 ·congr 2
  simp only [shapedOk]
  grind
 ·refine Go.loop (fun i:Nat => [(1,.pt 0 1 0 0),(60,.im 2 .any (o.cores.map Core.av)),(61,i64 o.cores.length),(62,i64 i)]) (fun i H' n => i ≤ o.cores.length∧1 ≤ n∧getH H' 0 = some (.row 25 5 .any [o.av])∧coresOk [] o.cores = coresOk (o.cores.take i) (o.cores.drop i)) (fun i => o.cores.length - i) 0 aLess ⟨Nat.zero_le _,by omega,rfl,rfl⟩ ?_
  rintro i H' n ⟨hi,hn,hr,hs⟩
  repeat' (first|((with_reducible refine Go.red ?_);conv => whnf)|refine aG ?_|exact aC|with_reducible refine Go.and ?_ ?_|(apply Go.elem;(·exact aElem))|((with_reducible refine Go.callW (name_pure _ (ho.at _).name) ?_ ?_);(·exact aFit))|((with_reducible refine Go.callJ (fun _ => name_pure _ (ho.at _).name) ?_ ?_);(·exact aFit))|((with_reducible refine Go.callE (name_pure _ (ho.at _).name) ?_ ?_);(·exact aFit))|((with_reducible refine Go.callF (fun _ => name_pure _ (ho.at _).name) ?_ ?_);(·exact aFit))|((refine Go.lookW (any_pre _ o.cores i ho.corelen _ _ _ _ _ aRow (by omega)) ?_ ?_);(·exact True.intro))|((refine Go.lookJ (fun _ => any_pre _ o.cores i ho.corelen _ _ _ _ _ aRow (by omega)) ?_ ?_);(·exact True.intro))|refine aH ?_|((with_reducible refine Go.bool ?_ ?_) <;> intro hc <;> (try simp only [List.length_map,ne_eq,hcs] at hc) <;> try (exfalso;omega)))
  ·have hb:shapedOk o = false:=by
    have:coreOk (o.cores.take i) (o.cores.getD i default) = false:=by
     simp only [coreOk]
     grind
    simp only [shapedOk]
    rw [hs,coresOk_at (by omega),this]
    simp
   rw [hb]
  ·have hb:shapedOk o = false:=by
    have:coreOk (o.cores.take i) (o.cores.getD i default) = false:=by
     simp only [coreOk,lastOk]
     grind
    simp only [shapedOk]
    rw [hs,coresOk_at (by omega),this]
    simp
   rw [hb]
  ·have hb:coreOk (o.cores.take i) (o.cores.getD i default) = true:=by
    simp only [coreOk,lastOk]
    grind
   refine ⟨i + 1,by omega,aLess,by omega,by omega,aRow,?_⟩
   rw [hs,coresOk_at (by omega),hb,Bool.true_and]
  ·rw [List.drop_eq_nil_of_le (by omega),coresOk] at hs
   have hb:shapedOk o = true:=by
    simp only [shapedOk]
    rw [hs]
    grind
   rw [hb]
def bad1 (len mem:Int):List Instr→Nat→Option Nat
 | [],_ => none
 | i :: r,k => if instrOk i len mem = true then bad1 len mem r (k + 1) else some k
def bad2 (mem:Int):List Core→Nat→Option (Nat × Nat)
 | [],_ => none
 | c :: r,k => match bad1 c.code.length mem c.code 0 with
  | some n => some (k,n)
  | none => bad2 mem r (k + 1)
def checkAv (o:Obj):AV:=if shapedOk o = true then (match bad2 o.mem.length o.cores 0 with
  | none => .tup [i64 0,i64 0,i64 0]
  | some (k,n) => .tup [i64 160,i64 k,i64 n]) else .tup [i64 160,i64 0,i64 0]
@[simp] theorem fit_check (n:Nat) (o:Obj):fitA n (checkAv o):=by
 simp only [checkAv]
 split
 ·split <;> simp [fitA,fitL]
 ·simp [fitA,fitL]
theorem Core.Wf.at {c:Core} (hc:c.Wf) (i:Nat):(c.code.getD i default).Wf:=by
 by_cases h:i < c.code.length
 ·have:c.code.getD i default = c.code[i]:=by simp [List.getD,h]
  rw [this];exact hc.code _ (List.getElem_mem h)
 ·have:c.code.getD i default = default:=by simp [List.getD,h]
  rw [this]
  constructor <;> first|decide|(unfold wf64;decide)
theorem check_pure (o:Obj) (ho:o.Wf):Pure Tryz.prog 8 [o.av] (fun r => r = checkAv o):=by
 refine Go.pureL lf8 rfl ?_
 repeat' (first|((with_reducible refine Go.red ?_);conv => whnf)|refine aG ?_|exact aC|with_reducible refine Go.and ?_ ?_|(apply Go.elem;(·exact aElem))|refine aK (shaped_pure o ho) ?_|refine aH ?_|((with_reducible refine Go.bool ?_ ?_) <;> intro hc <;> (try simp only [List.length_map,ne_eq,hcs] at hc) <;> try (exfalso;omega)))
 ·simp [checkAv,hc]
 ·refine Go.loop (fun i:Nat => [(1,.pt 0 1 0 0),(13,.im 2 .any (o.cores.map Core.av)),(14,i64 o.cores.length),(15,i64 i)]) (fun i H' n => i ≤ o.cores.length∧1 ≤ n∧getH H' 0 = some (.row 25 5 .any [o.av])∧bad2 o.mem.length o.cores 0 = bad2 o.mem.length (o.cores.drop i) i) (fun i => o.cores.length - i) 0 aLess ⟨Nat.zero_le _,by omega,rfl,rfl⟩ ?_
  rintro i H' n ⟨hi,hn,hr,hs⟩
  have hol:=ho.corelen
  repeat' (first|((with_reducible refine Go.red ?_);conv => whnf)|refine aG ?_|exact aC|with_reducible refine Go.and ?_ ?_|(apply Go.elem;(·exact aElem))|refine aH ?_|((with_reducible refine Go.bool ?_ ?_) <;> intro hc <;> (try simp only [List.length_map,ne_eq,hcs] at hc) <;> try (exfalso;omega)))
  ·refine Go.loop (fun k:Nat => [(1,.pt 0 1 0 0),(5,i64 i),(6,.pt (n+1+1+1+1) 1 0 0),(13,.im 2 .any (o.cores.map Core.av)),(14,i64 o.cores.length),(15,i64 i),(21,.im 9 .any ((o.cores.getD i default).code.map Instr.av)),(22,i64 (o.cores.getD i default).code.length),(23,i64 k)]) (fun k H2 n2 => k ≤ (o.cores.getD i default).code.length∧n + 5 ≤ n2∧getH H2 0 = some (.row 25 5 .any [o.av])∧(∃ df,getH H2 (n+1+1+1+1) = some (.row 83 2 df [(o.cores.getD i default).av]))∧bad1 (o.cores.getD i default).code.length o.mem.length (o.cores.getD i default).code 0 = bad1 (o.cores.getD i default).code.length o.mem.length ((o.cores.getD i default).code.drop k) k) (fun k => (o.cores.getD i default).code.length - k) 0 aLess ⟨Nat.zero_le _,by omega,aRow,⟨_,aRow⟩,rfl⟩ ?_
   rintro k H2 n2 ⟨hk,hn2,hr2,⟨df,hr3⟩,hs2⟩
   have hcl:=(ho.at i).len
   repeat' (first|((with_reducible refine Go.red ?_);conv => whnf)|refine aG ?_|exact aC|with_reducible refine Go.and ?_ ?_|(apply Go.elem;(·exact aElem))|((with_reducible refine Go.callW (Right_pure _ ((ho.at _).at _) _ _) ?_ ?_);(·exact aFit))|((with_reducible refine Go.callJ (fun _ => Right_pure _ ((ho.at _).at _) _ _) ?_ ?_);(·exact aFit))|((with_reducible refine Go.callE (Right_pure _ ((ho.at _).at _) _ _) ?_ ?_);(·exact aFit))|((with_reducible refine Go.callF (fun _ => Right_pure _ ((ho.at _).at _) _ _) ?_ ?_);(·exact aFit))|refine aH ?_|((with_reducible refine Go.bool ?_ ?_) <;> intro hc <;> (try simp only [List.length_map,ne_eq,hcs] at hc) <;> try (exfalso;omega)))
   ·have h1:bad1 (o.cores.getD i default).code.length o.mem.length (o.cores.getD i default).code 0 = some k:=by
     rw [hs2,drop_cons (by omega),bad1,if_neg (by rw [hc];simp)]
    have h2:bad2 o.mem.length o.cores 0 = some (i,k):=by
     rw [hs,drop_cons (by omega),bad2,h1]
    rw [checkAv,if_pos (by assumption),h2]
   ·refine ⟨k + 1,by omega,aLess,by omega,by omega,aRow,⟨_,aRow⟩,?_⟩
    rw [hs2,drop_cons (by omega),bad1,if_pos hc]
   ·have h1:bad1 (o.cores.getD i default).code.length o.mem.length (o.cores.getD i default).code 0 = none:=by
     rw [hs2,List.drop_eq_nil_of_le (by omega),bad1]
    refine ⟨i + 1,by omega,aLess,by omega,by omega,aRow,?_⟩
    rw [hs,drop_cons (by omega),bad2,h1]
  ·rw [List.drop_eq_nil_of_le (by omega),bad2] at hs
   rw [checkAv,if_pos (by assumption),hs]
end Go.Proofs.YtflicfkgbjmffaaGreat.V
/- Operators. -/
namespace Go.Proofs.YtflicfkgbjmffaaGreat.V
open Go Go.Abs Go.Proofs
set_option linter.unusedSimpArgs false
abbrev w64 (n:Int):Int:=IntKind.i64.wrap n
def quoW (a b:Int):Int:=if b = 0 then 0 else if b = -1 then w64 (0 - a) else w64 (a.tdiv b)
def remW (a b:Int):Int:=if b = 0 then a else w64 (a - w64 (quoW a b * b))
def andW (a b:Int):Int:=w64 ((BitVec.ofInt 64 a &&& BitVec.ofInt 64 b).toNat:Int)
def orW (a b:Int):Int:=w64 ((BitVec.ofInt 64 a ||| BitVec.ofInt 64 b).toNat:Int)
def xorW (a b:Int):Int:=w64 ((BitVec.ofInt 64 a ^^^ BitVec.ofInt 64 b).toNat:Int)
def cntW (b:Int):Int:=IntKind.u64.wrap ((BitVec.ofInt 64 (IntKind.u64.wrap b) &&& BitVec.ofInt 64 63).toNat:Int)
def shlW (a b:Int):Int:=w64 (a * 2 ^ (min (cntW b).toNat 64))
def shrW (a b:Int):Int:=a.fdiv (2 ^ (min (cntW b).toNat 64))
def tr (t:Bool):Int:=if t = true then 1 else 0
theorem truth_pure (t:Bool):Pure Tryz.prog 119 [bl t] (fun r => r = i64 (tr t)):=by
 refine Go.pureL lf119 rfl ?_
 repeat' (first|((with_reducible refine Go.red ?_);conv => whnf)|refine aG ?_|exact aC|with_reducible refine Go.and ?_ ?_|(apply Go.elem;(·exact aElem))|refine aH ?_|((with_reducible refine Go.bool ?_ ?_) <;> intro hc <;> (try simp only [List.length_map,ne_eq,hcs] at hc) <;> try (exfalso;omega)))
 all_goals simp_all [tr]
theorem add_pure (a b:Int):Pure Tryz.prog 101 [i64 a,i64 b] (fun r => r = i64 (w64 (a + b))):=by
 refine Go.pureL lf101 rfl ?_
 repeat' (first|((with_reducible refine Go.red ?_);conv => whnf)|refine aG ?_|exact aC|with_reducible refine Go.and ?_ ?_|(apply Go.elem;(·exact aElem))|refine aH ?_|((with_reducible refine Go.bool ?_ ?_) <;> intro hc <;> (try simp only [List.length_map,ne_eq,hcs] at hc) <;> try (exfalso;omega)))
 all_goals exact rfl
theorem sub_pure (a b:Int):Pure Tryz.prog 102 [i64 a,i64 b] (fun r => r = i64 (w64 (a - b))):=by
 refine Go.pureL lf102 rfl ?_
 repeat' (first|((with_reducible refine Go.red ?_);conv => whnf)|refine aG ?_|exact aC|with_reducible refine Go.and ?_ ?_|(apply Go.elem;(·exact aElem))|refine aH ?_|((with_reducible refine Go.bool ?_ ?_) <;> intro hc <;> (try simp only [List.length_map,ne_eq,hcs] at hc) <;> try (exfalso;omega)))
 all_goals exact rfl
theorem mul_pure (a b:Int):Pure Tryz.prog 103 [i64 a,i64 b] (fun r => r = i64 (w64 (a * b))):=by
 refine Go.pureL lf103 rfl ?_
 repeat' (first|((with_reducible refine Go.red ?_);conv => whnf)|refine aG ?_|exact aC|with_reducible refine Go.and ?_ ?_|(apply Go.elem;(·exact aElem))|refine aH ?_|((with_reducible refine Go.bool ?_ ?_) <;> intro hc <;> (try simp only [List.length_map,ne_eq,hcs] at hc) <;> try (exfalso;omega)))
 all_goals exact rfl
theorem div_pure (a b:Int):Pure Tryz.prog 104 [i64 a,i64 b] (fun r => r = i64 (quoW a b)):=by
 refine Go.pureL lf104 rfl ?_
 repeat' (first|((with_reducible refine Go.red ?_);conv => whnf)|refine aG ?_|exact aC|with_reducible refine Go.and ?_ ?_|(apply Go.elem;(·exact aElem))|refine aH ?_|((with_reducible refine Go.bool ?_ ?_) <;> intro hc <;> (try simp only [List.length_map,ne_eq,hcs] at hc) <;> try (exfalso;omega)))
 all_goals simp_all [quoW]
theorem rem_pure (a b:Int):Pure Tryz.prog 105 [i64 a,i64 b] (fun r => r = i64 (remW a b)):=by
 refine Go.pureL lf105 rfl ?_
 repeat' (first|((with_reducible refine Go.red ?_);conv => whnf)|refine aG ?_|exact aC|with_reducible refine Go.and ?_ ?_|(apply Go.elem;(·exact aElem))|((with_reducible refine Go.callW (div_pure _ _) ?_ ?_);(·exact aFit))|((with_reducible refine Go.callJ (fun _ => div_pure _ _) ?_ ?_);(·exact aFit))|((with_reducible refine Go.callE (div_pure _ _) ?_ ?_);(·exact aFit))|((with_reducible refine Go.callF (fun _ => div_pure _ _) ?_ ?_);(·exact aFit))|refine aH ?_|((with_reducible refine Go.bool ?_ ?_) <;> intro hc <;> (try simp only [List.length_map,ne_eq,hcs] at hc) <;> try (exfalso;omega)))
 all_goals simp_all [remW]
theorem and_pure (a b:Int):Pure Tryz.prog 106 [i64 a,i64 b] (fun r => r = i64 (andW a b)):=by
 refine Go.pureL lf106 rfl ?_
 repeat' (first|((with_reducible refine Go.red ?_);conv => whnf)|refine aG ?_|exact aC|with_reducible refine Go.and ?_ ?_|(apply Go.elem;(·exact aElem))|refine aH ?_|((with_reducible refine Go.bool ?_ ?_) <;> intro hc <;> (try simp only [List.length_map,ne_eq,hcs] at hc) <;> try (exfalso;omega)))
 all_goals exact rfl
theorem or_pure (a b:Int):Pure Tryz.prog 107 [i64 a,i64 b] (fun r => r = i64 (orW a b)):=by
 refine Go.pureL lf107 rfl ?_
 repeat' (first|((with_reducible refine Go.red ?_);conv => whnf)|refine aG ?_|exact aC|with_reducible refine Go.and ?_ ?_|(apply Go.elem;(·exact aElem))|refine aH ?_|((with_reducible refine Go.bool ?_ ?_) <;> intro hc <;> (try simp only [List.length_map,ne_eq,hcs] at hc) <;> try (exfalso;omega)))
 all_goals exact rfl
theorem xor_pure (a b:Int):Pure Tryz.prog 108 [i64 a,i64 b] (fun r => r = i64 (xorW a b)):=by
 refine Go.pureL lf108 rfl ?_
 repeat' (first|((with_reducible refine Go.red ?_);conv => whnf)|refine aG ?_|exact aC|with_reducible refine Go.and ?_ ?_|(apply Go.elem;(·exact aElem))|refine aH ?_|((with_reducible refine Go.bool ?_ ?_) <;> intro hc <;> (try simp only [List.length_map,ne_eq,hcs] at hc) <;> try (exfalso;omega)))
 all_goals exact rfl
theorem shl_pure (a b:Int):Pure Tryz.prog 109 [i64 a,i64 b] (fun r => r = i64 (shlW a b)):=by
 refine Go.pureL lf109 rfl ?_
 repeat' (first|((with_reducible refine Go.red ?_);conv => whnf)|refine aG ?_|exact aC|with_reducible refine Go.and ?_ ?_|(apply Go.elem;(·exact aElem))|refine aH ?_|((with_reducible refine Go.bool ?_ ?_) <;> intro hc <;> (try simp only [List.length_map,ne_eq,hcs] at hc) <;> try (exfalso;omega)))
 all_goals exact rfl
theorem shr_pure (a b:Int):Pure Tryz.prog 110 [i64 a,i64 b] (fun r => r = i64 (shrW a b)):=by
 refine Go.pureL lf110 rfl ?_
 repeat' (first|((with_reducible refine Go.red ?_);conv => whnf)|refine aG ?_|exact aC|with_reducible refine Go.and ?_ ?_|(apply Go.elem;(·exact aElem))|refine aH ?_|((with_reducible refine Go.bool ?_ ?_) <;> intro hc <;> (try simp only [List.length_map,ne_eq,hcs] at hc) <;> try (exfalso;omega)))
 all_goals exact rfl
theorem is_pure (a b:Int):Pure Tryz.prog 111 [i64 a,i64 b] (fun r => r = i64 (tr (decide (a = b)))):=by
 refine Go.pureL lf111 rfl ?_
 repeat' (first|((with_reducible refine Go.red ?_);conv => whnf)|refine aG ?_|exact aC|with_reducible refine Go.and ?_ ?_|(apply Go.elem;(·exact aElem))|((with_reducible refine Go.callW (truth_pure _) ?_ ?_);(·exact aFit))|((with_reducible refine Go.callJ (fun _ => truth_pure _) ?_ ?_);(·exact aFit))|((with_reducible refine Go.callE (truth_pure _) ?_ ?_);(·exact aFit))|((with_reducible refine Go.callF (fun _ => truth_pure _) ?_ ?_);(·exact aFit))|refine aH ?_|((with_reducible refine Go.bool ?_ ?_) <;> intro hc <;> (try simp only [List.length_map,ne_eq,hcs] at hc) <;> try (exfalso;omega)))
 all_goals exact rfl
theorem isNot_pure (a b:Int):Pure Tryz.prog 112 [i64 a,i64 b] (fun r => r = i64 (tr (decide (a ≠ b)))):=by
 refine Go.pureL lf112 rfl ?_
 repeat' (first|((with_reducible refine Go.red ?_);conv => whnf)|refine aG ?_|exact aC|with_reducible refine Go.and ?_ ?_|(apply Go.elem;(·exact aElem))|((with_reducible refine Go.callW (truth_pure _) ?_ ?_);(·exact aFit))|((with_reducible refine Go.callJ (fun _ => truth_pure _) ?_ ?_);(·exact aFit))|((with_reducible refine Go.callE (truth_pure _) ?_ ?_);(·exact aFit))|((with_reducible refine Go.callF (fun _ => truth_pure _) ?_ ?_);(·exact aFit))|refine aH ?_|((with_reducible refine Go.bool ?_ ?_) <;> intro hc <;> (try simp only [List.length_map,ne_eq,hcs] at hc) <;> try (exfalso;omega)))
 all_goals exact rfl
theorem less_pure (a b:Int):Pure Tryz.prog 113 [i64 a,i64 b] (fun r => r = i64 (tr (decide (a < b)))):=by
 refine Go.pureL lf113 rfl ?_
 repeat' (first|((with_reducible refine Go.red ?_);conv => whnf)|refine aG ?_|exact aC|with_reducible refine Go.and ?_ ?_|(apply Go.elem;(·exact aElem))|((with_reducible refine Go.callW (truth_pure _) ?_ ?_);(·exact aFit))|((with_reducible refine Go.callJ (fun _ => truth_pure _) ?_ ?_);(·exact aFit))|((with_reducible refine Go.callE (truth_pure _) ?_ ?_);(·exact aFit))|((with_reducible refine Go.callF (fun _ => truth_pure _) ?_ ?_);(·exact aFit))|refine aH ?_|((with_reducible refine Go.bool ?_ ?_) <;> intro hc <;> (try simp only [List.length_map,ne_eq,hcs] at hc) <;> try (exfalso;omega)))
 all_goals exact rfl
theorem most_pure (a b:Int):Pure Tryz.prog 114 [i64 a,i64 b] (fun r => r = i64 (tr (decide (a ≤ b)))):=by
 refine Go.pureL lf114 rfl ?_
 repeat' (first|((with_reducible refine Go.red ?_);conv => whnf)|refine aG ?_|exact aC|with_reducible refine Go.and ?_ ?_|(apply Go.elem;(·exact aElem))|((with_reducible refine Go.callW (truth_pure _) ?_ ?_);(·exact aFit))|((with_reducible refine Go.callJ (fun _ => truth_pure _) ?_ ?_);(·exact aFit))|((with_reducible refine Go.callE (truth_pure _) ?_ ?_);(·exact aFit))|((with_reducible refine Go.callF (fun _ => truth_pure _) ?_ ?_);(·exact aFit))|refine aH ?_|((with_reducible refine Go.bool ?_ ?_) <;> intro hc <;> (try simp only [List.length_map,ne_eq,hcs] at hc) <;> try (exfalso;omega)))
 all_goals exact rfl
theorem above_pure (a b:Int):Pure Tryz.prog 115 [i64 a,i64 b] (fun r => r = i64 (tr (decide (b < a)))):=by
 refine Go.pureL lf115 rfl ?_
 repeat' (first|((with_reducible refine Go.red ?_);conv => whnf)|refine aG ?_|exact aC|with_reducible refine Go.and ?_ ?_|(apply Go.elem;(·exact aElem))|((with_reducible refine Go.callW (truth_pure _) ?_ ?_);(·exact aFit))|((with_reducible refine Go.callJ (fun _ => truth_pure _) ?_ ?_);(·exact aFit))|((with_reducible refine Go.callE (truth_pure _) ?_ ?_);(·exact aFit))|((with_reducible refine Go.callF (fun _ => truth_pure _) ?_ ?_);(·exact aFit))|refine aH ?_|((with_reducible refine Go.bool ?_ ?_) <;> intro hc <;> (try simp only [List.length_map,ne_eq,hcs] at hc) <;> try (exfalso;omega)))
 all_goals exact rfl
theorem least_pure (a b:Int):Pure Tryz.prog 116 [i64 a,i64 b] (fun r => r = i64 (tr (decide (b ≤ a)))):=by
 refine Go.pureL lf116 rfl ?_
 repeat' (first|((with_reducible refine Go.red ?_);conv => whnf)|refine aG ?_|exact aC|with_reducible refine Go.and ?_ ?_|(apply Go.elem;(·exact aElem))|((with_reducible refine Go.callW (truth_pure _) ?_ ?_);(·exact aFit))|((with_reducible refine Go.callJ (fun _ => truth_pure _) ?_ ?_);(·exact aFit))|((with_reducible refine Go.callE (truth_pure _) ?_ ?_);(·exact aFit))|((with_reducible refine Go.callF (fun _ => truth_pure _) ?_ ?_);(·exact aFit))|refine aH ?_|((with_reducible refine Go.bool ?_ ?_) <;> intro hc <;> (try simp only [List.length_map,ne_eq,hcs] at hc) <;> try (exfalso;omega)))
 all_goals exact rfl
theorem minus_pure (a:Int):Pure Tryz.prog 117 [i64 a] (fun r => r = i64 (w64 (0 - a))):=by
 refine Go.pureL lf117 rfl ?_
 repeat' (first|((with_reducible refine Go.red ?_);conv => whnf)|refine aG ?_|exact aC|with_reducible refine Go.and ?_ ?_|(apply Go.elem;(·exact aElem))|refine aH ?_|((with_reducible refine Go.bool ?_ ?_) <;> intro hc <;> (try simp only [List.length_map,ne_eq,hcs] at hc) <;> try (exfalso;omega)))
 all_goals exact rfl
theorem not_pure (a:Int):Pure Tryz.prog 118 [i64 a] (fun r => r = i64 (tr (decide (a = 0)))):=by
 refine Go.pureL lf118 rfl ?_
 repeat' (first|((with_reducible refine Go.red ?_);conv => whnf)|refine aG ?_|exact aC|with_reducible refine Go.and ?_ ?_|(apply Go.elem;(·exact aElem))|((with_reducible refine Go.callW (truth_pure _) ?_ ?_);(·exact aFit))|((with_reducible refine Go.callJ (fun _ => truth_pure _) ?_ ?_);(·exact aFit))|((with_reducible refine Go.callE (truth_pure _) ?_ ?_);(·exact aFit))|((with_reducible refine Go.callF (fun _ => truth_pure _) ?_ ?_);(·exact aFit))|refine aH ?_|((with_reducible refine Go.bool ?_ ?_) <;> intro hc <;> (try simp only [List.length_map,ne_eq,hcs] at hc) <;> try (exfalso;omega)))
 all_goals exact rfl
def opTab:AV:=.agg [.sc .nilFunc,.sc .nilFunc,.fn (.func 101) [] [],.sc .nilFunc,.fn (.func 102) [] [],.sc .nilFunc,.fn (.func 103) [] [],.sc .nilFunc,.fn (.func 104) [] [],.sc .nilFunc,.fn (.func 105) [] [],.sc .nilFunc,.fn (.func 106) [] [],.sc .nilFunc,.fn (.func 107) [] [],.sc .nilFunc,.fn (.func 108) [] [],.sc .nilFunc,.fn (.func 109) [] [],.sc .nilFunc,.fn (.func 110) [] [],.sc .nilFunc,.fn (.func 111) [] [],.sc .nilFunc,.fn (.func 112) [] [],.sc .nilFunc,.fn (.func 113) [] [],.sc .nilFunc,.fn (.func 114) [] [],.sc .nilFunc,.fn (.func 115) [] [],.sc .nilFunc,.fn (.func 116) [] [],.sc .nilFunc,.sc .nilFunc,.fn (.func 117) [] [],.sc .nilFunc,.fn (.func 118) [] []]
theorem operators_pure:Pure Tryz.prog 100 [] (fun r => r = opTab):=run_pure2 (by simp [opTab,fitA,fitL]) (by kernel_rfl)
def twoW (op a b:Int):Int:=if op = 1 then w64 (a + b) else if op = 2 then w64 (a - b) else if op = 3 then w64 (a * b) else if op = 4 then quoW a b else if op = 5 then remW a b else if op = 6 then andW a b else if op = 7 then orW a b else if op = 8 then xorW a b else if op = 9 then shlW a b else if op = 10 then shrW a b else if op = 11 then tr (decide (a = b)) else if op = 12 then tr (decide (a ≠ b)) else if op = 13 then tr (decide (a < b)) else if op = 14 then tr (decide (a ≤ b)) else if op = 15 then tr (decide (b < a)) else tr (decide (b ≤ a))
def oneW (op a:Int):Int:=if op = 17 then w64 (0 - a) else tr (decide (a = 0))
theorem two_cases {op:Int} (h:two op = true):op = 1 ∨ op = 2 ∨ op = 3 ∨ op = 4 ∨ op = 5 ∨ op = 6 ∨ op = 7 ∨ op = 8 ∨ op = 9 ∨ op = 10 ∨ op = 11 ∨ op = 12 ∨ op = 13 ∨ op = 14 ∨ op = 15 ∨ op = 16:=by
 simp only [two,Bool.and_eq_true,decide_eq_true_eq] at h;omega
theorem Do_two (op a b:Int) (h:two op = true):Pure Tryz.prog 98 [u8 op,i64 a,i64 b] (fun r => r = .tup [i64 (twoW op a b),i64 0]):=by
 refine Go.pureL lf98 rfl ?_
 rcases two_cases h with rfl|rfl|rfl|rfl|rfl|rfl|rfl|rfl|rfl|rfl|rfl|rfl|rfl|rfl|rfl|rfl
 all_goals repeat' (first|((with_reducible refine Go.red ?_);conv => whnf)|refine aG ?_|exact aC|with_reducible refine Go.and ?_ ?_|(apply Go.elem;(·exact aElem))|((with_reducible refine Go.callW (two_pure _) ?_ ?_);(·exact aFit))|((with_reducible refine Go.callJ (fun _ => two_pure _) ?_ ?_);(·exact aFit))|((with_reducible refine Go.callE (two_pure _) ?_ ?_);(·exact aFit))|((with_reducible refine Go.callF (fun _ => two_pure _) ?_ ?_);(·exact aFit))|refine aK (operators_pure) ?_|((with_reducible refine Go.callW (add_pure _ _) ?_ ?_);(·exact aFit))|((with_reducible refine Go.callJ (fun _ => add_pure _ _) ?_ ?_);(·exact aFit))|((with_reducible refine Go.callE (add_pure _ _) ?_ ?_);(·exact aFit))|((with_reducible refine Go.callF (fun _ => add_pure _ _) ?_ ?_);(·exact aFit))|((with_reducible refine Go.callW (sub_pure _ _) ?_ ?_);(·exact aFit))|((with_reducible refine Go.callJ (fun _ => sub_pure _ _) ?_ ?_);(·exact aFit))|((with_reducible refine Go.callE (sub_pure _ _) ?_ ?_);(·exact aFit))|((with_reducible refine Go.callF (fun _ => sub_pure _ _) ?_ ?_);(·exact aFit))|((with_reducible refine Go.callW (mul_pure _ _) ?_ ?_);(·exact aFit))|((with_reducible refine Go.callJ (fun _ => mul_pure _ _) ?_ ?_);(·exact aFit))|((with_reducible refine Go.callE (mul_pure _ _) ?_ ?_);(·exact aFit))|((with_reducible refine Go.callF (fun _ => mul_pure _ _) ?_ ?_);(·exact aFit))|((with_reducible refine Go.callW (div_pure _ _) ?_ ?_);(·exact aFit))|((with_reducible refine Go.callJ (fun _ => div_pure _ _) ?_ ?_);(·exact aFit))|((with_reducible refine Go.callE (div_pure _ _) ?_ ?_);(·exact aFit))|((with_reducible refine Go.callF (fun _ => div_pure _ _) ?_ ?_);(·exact aFit))|((with_reducible refine Go.callW (rem_pure _ _) ?_ ?_);(·exact aFit))|((with_reducible refine Go.callJ (fun _ => rem_pure _ _) ?_ ?_);(·exact aFit))|((with_reducible refine Go.callE (rem_pure _ _) ?_ ?_);(·exact aFit))|((with_reducible refine Go.callF (fun _ => rem_pure _ _) ?_ ?_);(·exact aFit))|((with_reducible refine Go.callW (and_pure _ _) ?_ ?_);(·exact aFit))|((with_reducible refine Go.callJ (fun _ => and_pure _ _) ?_ ?_);(·exact aFit))|((with_reducible refine Go.callE (and_pure _ _) ?_ ?_);(·exact aFit))|((with_reducible refine Go.callF (fun _ => and_pure _ _) ?_ ?_);(·exact aFit))|((with_reducible refine Go.callW (or_pure _ _) ?_ ?_);(·exact aFit))|((with_reducible refine Go.callJ (fun _ => or_pure _ _) ?_ ?_);(·exact aFit))|((with_reducible refine Go.callE (or_pure _ _) ?_ ?_);(·exact aFit))|((with_reducible refine Go.callF (fun _ => or_pure _ _) ?_ ?_);(·exact aFit))|((with_reducible refine Go.callW (xor_pure _ _) ?_ ?_);(·exact aFit))|((with_reducible refine Go.callJ (fun _ => xor_pure _ _) ?_ ?_);(·exact aFit))|((with_reducible refine Go.callE (xor_pure _ _) ?_ ?_);(·exact aFit))|((with_reducible refine Go.callF (fun _ => xor_pure _ _) ?_ ?_);(·exact aFit))|((with_reducible refine Go.callW (shl_pure _ _) ?_ ?_);(·exact aFit))|((with_reducible refine Go.callJ (fun _ => shl_pure _ _) ?_ ?_);(·exact aFit))|((with_reducible refine Go.callE (shl_pure _ _) ?_ ?_);(·exact aFit))|((with_reducible refine Go.callF (fun _ => shl_pure _ _) ?_ ?_);(·exact aFit))|((with_reducible refine Go.callW (shr_pure _ _) ?_ ?_);(·exact aFit))|((with_reducible refine Go.callJ (fun _ => shr_pure _ _) ?_ ?_);(·exact aFit))|((with_reducible refine Go.callE (shr_pure _ _) ?_ ?_);(·exact aFit))|((with_reducible refine Go.callF (fun _ => shr_pure _ _) ?_ ?_);(·exact aFit))|((with_reducible refine Go.callW (is_pure _ _) ?_ ?_);(·exact aFit))|((with_reducible refine Go.callJ (fun _ => is_pure _ _) ?_ ?_);(·exact aFit))|((with_reducible refine Go.callE (is_pure _ _) ?_ ?_);(·exact aFit))|((with_reducible refine Go.callF (fun _ => is_pure _ _) ?_ ?_);(·exact aFit))|((with_reducible refine Go.callW (isNot_pure _ _) ?_ ?_);(·exact aFit))|((with_reducible refine Go.callJ (fun _ => isNot_pure _ _) ?_ ?_);(·exact aFit))|((with_reducible refine Go.callE (isNot_pure _ _) ?_ ?_);(·exact aFit))|((with_reducible refine Go.callF (fun _ => isNot_pure _ _) ?_ ?_);(·exact aFit))|((with_reducible refine Go.callW (less_pure _ _) ?_ ?_);(·exact aFit))|((with_reducible refine Go.callJ (fun _ => less_pure _ _) ?_ ?_);(·exact aFit))|((with_reducible refine Go.callE (less_pure _ _) ?_ ?_);(·exact aFit))|((with_reducible refine Go.callF (fun _ => less_pure _ _) ?_ ?_);(·exact aFit))|((with_reducible refine Go.callW (most_pure _ _) ?_ ?_);(·exact aFit))|((with_reducible refine Go.callJ (fun _ => most_pure _ _) ?_ ?_);(·exact aFit))|((with_reducible refine Go.callE (most_pure _ _) ?_ ?_);(·exact aFit))|((with_reducible refine Go.callF (fun _ => most_pure _ _) ?_ ?_);(·exact aFit))|((with_reducible refine Go.callW (above_pure _ _) ?_ ?_);(·exact aFit))|((with_reducible refine Go.callJ (fun _ => above_pure _ _) ?_ ?_);(·exact aFit))|((with_reducible refine Go.callE (above_pure _ _) ?_ ?_);(·exact aFit))|((with_reducible refine Go.callF (fun _ => above_pure _ _) ?_ ?_);(·exact aFit))|((with_reducible refine Go.callW (least_pure _ _) ?_ ?_);(·exact aFit))|((with_reducible refine Go.callJ (fun _ => least_pure _ _) ?_ ?_);(·exact aFit))|((with_reducible refine Go.callE (least_pure _ _) ?_ ?_);(·exact aFit))|((with_reducible refine Go.callF (fun _ => least_pure _ _) ?_ ?_);(·exact aFit))|refine aH ?_|((with_reducible refine Go.bool ?_ ?_) <;> intro hc <;> (try simp only [List.length_map,ne_eq,hcs] at hc) <;> try (exfalso;omega)))
 all_goals (first|exact rfl|trace_state)
theorem Do_not (op a b:Int) (h:two op = false):Pure Tryz.prog 98 [u8 op,i64 a,i64 b] (fun r => r = .tup [i64 0,i64 2]):=by
 refine Go.pureL lf98 rfl ?_
 repeat' (first|((with_reducible refine Go.red ?_);conv => whnf)|refine aG ?_|exact aC|with_reducible refine Go.and ?_ ?_|(apply Go.elem;(·exact aElem))|((with_reducible refine Go.callW (two_pure _) ?_ ?_);(·exact aFit))|((with_reducible refine Go.callJ (fun _ => two_pure _) ?_ ?_);(·exact aFit))|((with_reducible refine Go.callE (two_pure _) ?_ ?_);(·exact aFit))|((with_reducible refine Go.callF (fun _ => two_pure _) ?_ ?_);(·exact aFit))|refine aH ?_|((with_reducible refine Go.bool ?_ ?_) <;> intro hc <;> (try simp only [List.length_map,ne_eq,hcs] at hc) <;> try (exfalso;omega)))
 all_goals simp_all
theorem One_one (op a:Int) (h:op = 17 ∨ op = 18):Pure Tryz.prog 99 [u8 op,i64 a] (fun r => r = .tup [i64 (oneW op a),i64 0]):=by
 refine Go.pureL lf99 rfl ?_
 rcases h with rfl|rfl
 all_goals repeat' (first|((with_reducible refine Go.red ?_);conv => whnf)|refine aG ?_|exact aC|with_reducible refine Go.and ?_ ?_|(apply Go.elem;(·exact aElem))|((with_reducible refine Go.callW (known_pure _) ?_ ?_);(·exact aFit))|((with_reducible refine Go.callJ (fun _ => known_pure _) ?_ ?_);(·exact aFit))|((with_reducible refine Go.callE (known_pure _) ?_ ?_);(·exact aFit))|((with_reducible refine Go.callF (fun _ => known_pure _) ?_ ?_);(·exact aFit))|((with_reducible refine Go.callW (two_pure _) ?_ ?_);(·exact aFit))|((with_reducible refine Go.callJ (fun _ => two_pure _) ?_ ?_);(·exact aFit))|((with_reducible refine Go.callE (two_pure _) ?_ ?_);(·exact aFit))|((with_reducible refine Go.callF (fun _ => two_pure _) ?_ ?_);(·exact aFit))|refine aK (operators_pure) ?_|((with_reducible refine Go.callW (minus_pure _) ?_ ?_);(·exact aFit))|((with_reducible refine Go.callJ (fun _ => minus_pure _) ?_ ?_);(·exact aFit))|((with_reducible refine Go.callE (minus_pure _) ?_ ?_);(·exact aFit))|((with_reducible refine Go.callF (fun _ => minus_pure _) ?_ ?_);(·exact aFit))|((with_reducible refine Go.callW (not_pure _) ?_ ?_);(·exact aFit))|((with_reducible refine Go.callJ (fun _ => not_pure _) ?_ ?_);(·exact aFit))|((with_reducible refine Go.callE (not_pure _) ?_ ?_);(·exact aFit))|((with_reducible refine Go.callF (fun _ => not_pure _) ?_ ?_);(·exact aFit))|refine aH ?_|((with_reducible refine Go.bool ?_ ?_) <;> intro hc <;> (try simp only [List.length_map,ne_eq,hcs] at hc) <;> try (exfalso;omega)))
 all_goals (first|exact rfl|trace_state)
end Go.Proofs.YtflicfkgbjmffaaGreat.V
end
