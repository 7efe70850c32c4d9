import Derived.Test.YtflicfkgbjmffaaGreatM25
import Derived.Test.YtflicfkgbjmffaaGreatM37
import Derived.Test.YtflicfkgbjmffaaGreatM28
import Derived.Test.YtflicfkgbjmffaaGreatM32
section
/- The document's check of an object. -/
namespace Go.Proofs.YtflicfkgbjmffaaGreat.V
open Go Go.Abs Go.Proofs
set_option linter.unusedSimpArgs false
set_option linter.unusedVariables false
theorem rdigit_pure (c:Int):Pure Tryz.prog 77 [.sc (.int .u8 c)] (fun r => r = .sc (.bool (isDigit c))):=by
 refine Go.pureL lf77 rfl ?_
 repeat' (first|((with_reducible refine Go.red ?_);conv => whnf)|refine aG ?_|exact aC|with_reducible refine Go.and ?_ ?_|(apply Go.elem;(·exact aElem))|refine aH ?_|((with_reducible refine Go.bool ?_ ?_) <;> intro hc <;> (try simp only [List.length_map,ne_eq,hcs] at hc) <;> try (exfalso;omega)))
 all_goals simp [isDigit]
theorem rletter_pure (c:Int):Pure Tryz.prog 79 [.sc (.int .u8 c)] (fun r => r = .sc (.bool (isLetter c))):=by
 refine Go.pureL lf79 rfl ?_
 repeat' (first|((with_reducible refine Go.red ?_);conv => whnf)|refine aG ?_|exact aC|with_reducible refine Go.and ?_ ?_|(apply Go.elem;(·exact aElem))|refine aH ?_|((with_reducible refine Go.bool ?_ ?_) <;> intro hc <;> (try simp only [List.length_map,ne_eq,hcs] at hc) <;> try (exfalso;omega)))
 all_goals simp [isLetter,Bool.or_assoc]
theorem rword_pure (s:ByteArray):Pure Tryz.prog 78 [.sc (.string s)] (fun r => r = .sc (.bool (isWord s))):=by
 refine Go.pureL lf78 rfl ?_
 repeat' (first|((with_reducible refine Go.red ?_);conv => whnf)|refine aG ?_|exact aC|with_reducible refine Go.and ?_ ?_|(apply Go.elem;(·exact aElem))|refine aH ?_|((with_reducible refine Go.bool ?_ ?_) <;> intro hc <;> (try simp only [List.length_map,ne_eq,hcs] at hc) <;> try (exfalso;omega)))
 all_goals simp_all [isWord]
theorem rtwo_pure (c:Int):Pure Tryz.prog 53 [.sc (.int .u8 c)] (fun r => r = .sc (.bool (two c))):=by
 refine Go.pureL lf53 rfl ?_
 repeat' (first|((with_reducible refine Go.red ?_);conv => whnf)|refine aG ?_|exact aC|with_reducible refine Go.and ?_ ?_|(apply Go.elem;(·exact aElem))|refine aH ?_|((with_reducible refine Go.bool ?_ ?_) <;> intro hc <;> (try simp only [List.length_map,ne_eq,hcs] at hc) <;> try (exfalso;omega)))
 all_goals
  congr 2
  rw [Bool.eq_iff_iff]
  simp [two]
  omega
theorem rreg_pure (c:Int):Pure Tryz.prog 54 [.sc (.int .i64 c)] (fun r => r = .sc (.bool (decide (0 ≤ c) && decide (c < 16)))):=by
 refine Go.pureL lf54 rfl ?_
 repeat' (first|((with_reducible refine Go.red ?_);conv => whnf)|refine aG ?_|exact aC|with_reducible refine Go.and ?_ ?_|(apply Go.elem;(·exact aElem))|refine aH ?_|((with_reducible refine Go.bool ?_ ?_) <;> intro hc <;> (try simp only [List.length_map,ne_eq,hcs] at hc) <;> try (exfalso;omega)))
 all_goals simp
theorem size_zero {s:ByteArray} (h:s.size < 1):(s == ⟨#[]⟩) = true:=by
 obtain ⟨a⟩:=s
 have h2:a.size < 1:=h
 have:a = #[]:=Array.eq_empty_of_size_eq_zero (by omega)
 subst this;rfl
theorem size_some {s:ByteArray} (h:¬ s.size < 1):(s == ⟨#[]⟩) = false:=by
 cases hb:(s == ⟨#[]⟩) with
 | false => rfl
 | true =>
  exfalso
  have:s = ⟨#[]⟩:=by
   obtain ⟨a⟩:=s
   have h2:(a == #[]) = true:=hb
   simp at h2
   rw [h2]
  rw [this] at h
  exact h (by decide)
theorem rname_pure (s:ByteArray) (hs:s.size ≤ 140737488351232):Pure Tryz.prog 51 [.sc (.string s)] (fun r => r = .sc (.bool (isName s))):=by
 refine Go.pureL lf51 rfl ?_
 repeat' (first|((with_reducible refine Go.red ?_);conv => whnf)|refine aG ?_|exact aC|with_reducible refine Go.and ?_ ?_|(apply Go.elem;(·exact aElem))|((with_reducible refine Go.callW (rdigit_pure _) ?_ ?_);(·exact aFit))|((with_reducible refine Go.callJ (fun _ => rdigit_pure _) ?_ ?_);(·exact aFit))|((with_reducible refine Go.callE (rdigit_pure _) ?_ ?_);(·exact aFit))|((with_reducible refine Go.callF (fun _ => rdigit_pure _) ?_ ?_);(·exact aFit))|((with_reducible refine Go.callW (rletter_pure _) ?_ ?_);(·exact aFit))|((with_reducible refine Go.callJ (fun _ => rletter_pure _) ?_ ?_);(·exact aFit))|((with_reducible refine Go.callE (rletter_pure _) ?_ ?_);(·exact aFit))|((with_reducible refine Go.callF (fun _ => rletter_pure _) ?_ ?_);(·exact aFit))|((with_reducible refine Go.callW (rword_pure _) ?_ ?_);(·exact aFit))|((with_reducible refine Go.callJ (fun _ => rword_pure _) ?_ ?_);(·exact aFit))|((with_reducible refine Go.callE (rword_pure _) ?_ ?_);(·exact aFit))|((with_reducible refine Go.callF (fun _ => rword_pure _) ?_ ?_);(·exact aFit))|refine aH ?_|((with_reducible refine Go.bool ?_ ?_) <;> intro hc <;> (try simp only [List.length_map,ne_eq,hcs] at hc) <;> try (exfalso;omega)))
 ·congr 2
  rcases hc with ((hc|hc)|hc)|hc
  ·have h9:=size_zero (s:=s) (by omega)
   simp [isName,h9]
  ·simp [isName,hc]
  ·have h2:isDigit (s.data.toList.getD 0 0).toNat = true:=hc
   simp only [isName,h2,Bool.not_true,Bool.and_false,Bool.false_and]
  ·simp [isName,hc]
 ·have h0:(s == ⟨#[]⟩) = false:=size_some (fun h => hc.1 (.inl (.inl (by omega))))
  have h1:¬ ((32:Int) < s.size):=fun h => hc.1 (.inl (.inr h))
  have h2:isDigit (s.data.toList.getD 0 0).toNat = false:=by
   cases hd:isDigit (s.data.toList.getD 0 0).toNat with
   | false => rfl
   | true => exact absurd (.inr hd) hc.1
  have h3:=hc.2
  refine Go.loop (fun i:Nat => [(3,.sc (.int .i64 i)),(0,.sc (.string s))]) (fun i _ _ => i ≤ s.size∧∀ j,j < i→okChar (s.data.toList.getD j 0) = true) (fun i => s.size - i) 0 ⟨rfl,rfl,trivial⟩ ⟨Nat.zero_le _,fun j hj => by omega⟩ ?_
  intro i H nx ⟨hi,hok⟩
  repeat' (first|((with_reducible refine Go.red ?_);conv => whnf)|refine aG ?_|exact aC|with_reducible refine Go.and ?_ ?_|(apply Go.elem;(·exact aElem))|((with_reducible refine Go.callW (rdigit_pure _) ?_ ?_);(·exact aFit))|((with_reducible refine Go.callJ (fun _ => rdigit_pure _) ?_ ?_);(·exact aFit))|((with_reducible refine Go.callE (rdigit_pure _) ?_ ?_);(·exact aFit))|((with_reducible refine Go.callF (fun _ => rdigit_pure _) ?_ ?_);(·exact aFit))|((with_reducible refine Go.callW (rletter_pure _) ?_ ?_);(·exact aFit))|((with_reducible refine Go.callJ (fun _ => rletter_pure _) ?_ ?_);(·exact aFit))|((with_reducible refine Go.callE (rletter_pure _) ?_ ?_);(·exact aFit))|((with_reducible refine Go.callF (fun _ => rletter_pure _) ?_ ?_);(·exact aFit))|((with_reducible refine Go.callW (rword_pure _) ?_ ?_);(·exact aFit))|((with_reducible refine Go.callJ (fun _ => rword_pure _) ?_ ?_);(·exact aFit))|((with_reducible refine Go.callE (rword_pure _) ?_ ?_);(·exact aFit))|((with_reducible refine Go.callF (fun _ => rword_pure _) ?_ ?_);(·exact aFit))|refine aH ?_|((with_reducible refine Go.bool ?_ ?_) <;> intro hc <;> (try simp only [List.length_map,ne_eq,hcs] at hc) <;> try (exfalso;omega)))
  ·congr 2
   have h1:s.data.toList.all okChar = false:=all_getD_false 0 (j:=i) (by simp;omega) (by simpa [okChar] using hc)
   simp [isName,h1]
  ·refine ⟨i + 1,by omega,aLess,by omega,fun j hj => ?_⟩
   by_cases h:j = i
   ·subst h;simp only [okChar];grind
   ·exact hok j (by omega)
  ·congr 2
   have h4:s.data.toList.all okChar = true:=all_getD 0 fun j hj => hok j (by simp at hj;omega)
   simp only [isName,h0,h2,h3,h4,decide_eq_false h1];rfl
theorem uses_pure (k:Int) (h:0 ≤ k∧k < 256):Pure Tryz.prog 52 [.sc (.int .u8 k)] (fun r => r = .tup [bl (decide (k = 1 ∨ k = 2 ∨ k = 3 ∨ k = 5)),bl (decide (k = 2 ∨ k = 4 ∨ k = 7 ∨ k = 9)),bl (decide (k = 3 ∨ k = 4 ∨ k = 5)),bl (decide (k = 8 ∨ k = 9))]):=by
 refine Go.pureL lf52 rfl ?_
 repeat' (first|((with_reducible refine Go.red ?_);conv => whnf)|refine aG ?_|exact aC|with_reducible refine Go.and ?_ ?_|(apply Go.elem;(·exact aElem))|refine aH ?_|((with_reducible refine Go.bool ?_ ?_) <;> intro hc <;> (try simp only [List.length_map,ne_eq,hcs] at hc) <;> try (exfalso;omega)))
 all_goals
  simp only [AV.tup.injEq,List.cons.injEq,AV.sc.injEq,Value.bool.injEq,and_true]
  refine ⟨?_,?_,?_,?_⟩ <;> (symm;simp only [decide_eq_true_eq,decide_eq_false_iff_not];omega)
theorem kinds10 {k:Int} (h:1 ≤ k∧k ≤ 10):k = 1 ∨ k = 2 ∨ k = 3 ∨ k = 4 ∨ k = 5 ∨ k = 6 ∨ k = 7 ∨ k = 8 ∨ k = 9 ∨ k = 10:=by omega
theorem instrOk_eq {i:Instr} {code mem:Int} (hk:1 ≤ i.kind∧i.kind ≤ 10):instrOk i code mem = (decide (0 ≤ i.fr) && decide (i.fr ≤ 4096) && (bif decide (i.kind = 2) then decide (1 ≤ i.op) && decide (i.op ≤ 18) else decide (i.op = 0)) &&
  within (decide (i.kind = 1 ∨ i.kind = 2 ∨ i.kind = 3 ∨ i.kind = 5)) i.d 16 && within (decide (i.kind = 2 ∨ i.kind = 4 ∨ i.kind = 7 ∨ i.kind = 9)) i.a 16 && within (decide (i.kind = 2) && two i.op) i.b 16 &&
  within (decide (i.kind = 3 ∨ i.kind = 4 ∨ i.kind = 5)) i.addr mem && within (decide (i.kind = 8 ∨ i.kind = 9)) i.to code && (decide (i.kind = 1) || decide (i.word = 0))):=by
 have h0:kindOk i.kind = true:=by simp [kindOk,hk]
 rw [instrOk,h0,Bool.true_and]
 obtain ⟨kind,op,d,a,b,addr,to,word,fr⟩:=i
 simp only at hk ⊢
 rcases kinds10 hk with rfl|rfl|rfl|rfl|rfl|rfl|rfl|rfl|rfl|rfl
 ·rw [show mask 1 op = 66 from rfl];rfl
 ·cases ht:two op with
  | false => rw [show mask 2 op = 7 by simp [mask,ht]];rfl
  | true => rw [show mask 2 op = 15 by simp [mask,ht]];rfl
 ·rw [show mask 3 op = 18 from rfl];rfl
 ·rw [show mask 4 op = 20 from rfl];rfl
 ·rw [show mask 5 op = 18 from rfl];rfl
 ·rw [show mask 6 op = 0 from rfl];rfl
 ·rw [show mask 7 op = 4 from rfl];rfl
 ·rw [show mask 8 op = 32 from rfl];rfl
 ·rw [show mask 9 op = 36 from rfl];rfl
 ·rw [show mask 10 op = 0 from rfl];rfl
theorem rRight_pure (i:Instr) (hi:i.Wf) (code mem:Int):Pure Tryz.prog 30 [i.av,i64 code,i64 mem] (fun r => r = bl (instrOk i code mem)):=by
 refine Go.pureL lf30 rfl ?_
 have hkd:=hi.kind
 repeat' (first|((with_reducible refine Go.red ?_);conv => whnf)|refine aG ?_|exact aC|with_reducible refine Go.and ?_ ?_|(apply Go.elem;(·exact aElem))|((with_reducible refine Go.callW (uses_pure _ hkd) ?_ ?_);(·exact aFit))|((with_reducible refine Go.callJ (fun _ => uses_pure _ hkd) ?_ ?_);(·exact aFit))|((with_reducible refine Go.callE (uses_pure _ hkd) ?_ ?_);(·exact aFit))|((with_reducible refine Go.callF (fun _ => uses_pure _ hkd) ?_ ?_);(·exact aFit))|((with_reducible refine Go.callW (rtwo_pure _) ?_ ?_);(·exact aFit))|((with_reducible refine Go.callJ (fun _ => rtwo_pure _) ?_ ?_);(·exact aFit))|((with_reducible refine Go.callE (rtwo_pure _) ?_ ?_);(·exact aFit))|((with_reducible refine Go.callF (fun _ => rtwo_pure _) ?_ ?_);(·exact aFit))|((with_reducible refine Go.callW (rreg_pure _) ?_ ?_);(·exact aFit))|((with_reducible refine Go.callJ (fun _ => rreg_pure _) ?_ ?_);(·exact aFit))|((with_reducible refine Go.callE (rreg_pure _) ?_ ?_);(·exact aFit))|((with_reducible refine Go.callF (fun _ => rreg_pure _) ?_ ?_);(·exact aFit))|refine aH ?_|((with_reducible refine Go.bool ?_ ?_) <;> intro hc <;> (try simp only [List.length_map,ne_eq,hcs] at hc) <;> try (exfalso;omega)))
 all_goals
  congr 2
  by_cases hk:1 ≤ i.kind∧i.kind ≤ 10
  ·rw [instrOk_eq hk]
   simp only [within]
   grind
  ·have h1:kindOk i.kind = false:=by
    simp only [kindOk,Bool.and_eq_false_iff,decide_eq_false_iff_not]
    omega
   first
    | (exfalso;omega)
    | (simp only [instrOk,h1];simp)
end Go.Proofs.YtflicfkgbjmffaaGreat.V
end
section
/- The document's check of an object, whole. -/
namespace Go.Proofs.YtflicfkgbjmffaaGreat.V
open Go Go.Abs Go.Proofs
set_option linter.unusedSimpArgs false
set_option linter.unusedVariables false
theorem any_next (l:List Core) (k:Nat) (h:k < l.length) (f:Core→Bool):(l.take (k + 1)).any f = ((l.take k).any f || f (l.getD k default)):=by
 rw [List.take_succ_eq_append_getElem h,List.any_append]
 simp [List.getD,h]
theorem askIdx {ok:Bool} {n:Nat} (h:(!if (if (!ok) = true then true else decide ((n:Int) < 1)) = true then true else decide ((16384:Int) < n)) = true):0 ≤ (n:Int) - 1∧(n:Int) - 1 < n:=by
 cases ok
 ·simp at h
 ·by_cases h1:(n:Int) < 1
  ·simp [h1] at h
  ·omega
set_option maxHeartbeats 4000000 in
theorem rshaped_pure (o:Obj) (ho:o.Wf):Pure Tryz.prog 29 [o.av] (fun r => r = bl (shapedOk o)):=by
 refine Go.pureL lf29 rfl ?_
 have hol:=ho.corelen
 repeat' (first|((with_reducible refine Go.red ?_);conv => whnf)|refine aG ?_|exact aC|with_reducible refine Go.and ?_ ?_|(apply Go.elem;(·exact aElem))|refine aH ?_|((with_reducible refine Go.bool ?_ ?_) <;> intro hc <;> (try simp only [List.length_map,ne_eq,hcs] at hc) <;> try (exfalso;omega)))
 ·congr 2
  simp only [shapedOk]
  grind
 ·refine Go.loop (fun i:Nat => [(1,.pt 0 1 0 0),(3,i64 i)]) (fun i H' n => i ≤ o.cores.length∧1 ≤ n∧getH H' 0 = some (.row 25 5 .any [o.av])∧coresOk [] o.cores = coresOk (o.cores.take i) (o.cores.drop i)) (fun i => o.cores.length - i) 0 aLess ⟨Nat.zero_le _,aNx,aRow,rfl⟩ ?_
  rintro i H' n ⟨hi,hn,hr,hs⟩
  have hcl:=(ho.at i).len
  repeat' (first|((with_reducible refine Go.red ?_);conv => whnf)|refine aG ?_|exact aC|with_reducible refine Go.and ?_ ?_|(apply Go.elem;(·exact aElem))|((with_reducible refine Go.callW (rname_pure _ (ho.at _).name) ?_ ?_);(·exact aFit))|((with_reducible refine Go.callJ (fun _ => rname_pure _ (ho.at _).name) ?_ ?_);(·exact aFit))|((with_reducible refine Go.callE (rname_pure _ (ho.at _).name) ?_ ?_);(·exact aFit))|((with_reducible refine Go.callF (fun _ => rname_pure _ (ho.at _).name) ?_ ?_);(·exact aFit))|refine aH ?_|((with_reducible refine Go.bool ?_ ?_) <;> intro hc <;> (try simp only [List.length_map,ne_eq,hcs] at hc) <;> try (exfalso;omega)))
  ·refine Go.loop (fun p:Nat × Bool => [(1,.pt 0 1 0 0),(3,i64 i),(4,.pt (n + 10) 1 0 0),(5,bl p.2),(6,i64 p.1)]) (fun p H2 n2 => p.1 ≤ i∧n + 11 ≤ n2∧getH H2 0 = some (.row 25 5 .any [o.av])∧(∃ df,getH H2 (n + 10) = some (.row 83 2 df [(o.cores.getD i default).av]))∧p.2 = (isName (o.cores.getD i default).name && !((o.cores.take p.1).any fun d => d.name == (o.cores.getD i default).name))) (fun p => i - p.1) (0,isName (o.cores.getD i default).name) aLess ⟨Nat.zero_le _,aNx,aRow,⟨_,aRow⟩,by simp⟩ ?_
   rintro ⟨k,ok⟩ H2 n2 ⟨hk,hn2,hr2,⟨df,hr3⟩,hok⟩
   simp only at hk hok
   dsimp only
   by_cases hki:k < i
   ·repeat' (first|((with_reducible refine Go.red ?_);conv => whnf)|refine aG ?_|exact aC|with_reducible refine Go.and ?_ ?_|(apply Go.elem;(·exact aElem))|refine aH ?_|((with_reducible refine Go.bool ?_ ?_) <;> intro hc <;> (try simp only [List.length_map,ne_eq,hcs] at hc) <;> try (exfalso;omega)))
    refine ⟨(k + 1,ok && ((o.cores.getD k default).name != (o.cores.getD i default).name)),by show i - (k + 1) < i - k;omega,?_,by show k + 1 ≤ i;omega,aNx,aRow,⟨_,aRow⟩,?_⟩
    ·have e:(if ok = true then ((o.cores.getD k default).name != (o.cores.getD i default).name) else false) = (ok && ((o.cores.getD k default).name != (o.cores.getD i default).name)):=by cases ok <;> rfl
     rw [← e]
     exact aLess
    ·show _ = (_ && !((o.cores.take (k + 1)).any _))
     rw [hok,any_next _ _ (by omega)]
     simp only [bne,Bool.not_or,Bool.and_assoc]
   by_cases hcode:(o.cores.getD i default).code = []
   ·have hr4:getH H2 (n + 10) = some (.row 83 2 df [.agg [.sc (.string (o.cores.getD i default).name),.im 9 .any []]]):=by
     rw [hr3];simp only [Core.av,Core.cells,hcode,List.map_nil]
    clear hr3
    cases ok
    all_goals
     repeat' (first|((with_reducible refine Go.red ?_);conv => whnf)|refine aG ?_|exact aC|with_reducible refine Go.and ?_ ?_|(apply Go.elem;(·exact aElem))|refine aH ?_|((with_reducible refine Go.bool ?_ ?_) <;> intro hc <;> (try simp only [List.length_map,ne_eq,hcs] at hc) <;> try (exfalso;omega)))
    all_goals
     have hki2:k = i:=by omega
     rw [hki2] at hok
     have hb:shapedOk o = false:=by
      have hco:coreOk (o.cores.take i) (o.cores.getD i default) = false:=by
       simp only [coreOk,hcode,List.length_nil];simp
      simp only [shapedOk]
      rw [hs,coresOk_at (by omega),hco]
      simp
     rw [hb]
   have hpos:0 < (o.cores.getD i default).code.length:=List.length_pos_iff.2 hcode
   repeat' (first|((with_reducible refine Go.red ?_);conv => whnf)|refine aG ?_|exact aCn|with_reducible refine Go.and ?_ ?_|((with_reducible refine Ask.mk ?_);first|exact aAsk|exact askIdx|exact aAsk2)|(apply Go.elem;(·exact aElem))|refine aH ?_|((with_reducible refine Go.bool ?_ ?_) <;> intro hc <;> (try simp only [List.length_map,ne_eq,hcs] at hc) <;> try (exfalso;omega)))
   ·have hki2:k = i:=by omega
    rw [hki2] at hok
    have hb:shapedOk o = false:=by
     have hco:coreOk (o.cores.take i) (o.cores.getD i default) = false:=by
      simp only [coreOk,lastOk]
      grind
     simp only [shapedOk]
     rw [hs,coresOk_at (by omega),hco]
     simp
    rw [hb]
   ·have hki2:k = i:=by omega
    rw [hki2] at hok
    have hb:coreOk (o.cores.take i) (o.cores.getD i default) = true:=by
     simp only [coreOk,lastOk]
     grind
    refine ⟨i + 1,by omega,aLess,by omega,aNx,aRow,?_⟩
    rw [hs,coresOk_at (by omega),hb,Bool.true_and]
  ·rw [List.drop_eq_nil_of_le (by omega),coresOk] at hs
   have hb:shapedOk o = true:=by
    simp only [shapedOk]
    rw [hs]
    grind
   rw [hb]
set_option maxHeartbeats 4000000 in
theorem rcheck_pure (o:Obj) (ho:o.Wf):Pure Tryz.prog 12 [o.av] (fun r => r = checkAv o):=by
 refine Go.pureL lf12 rfl ?_
 have hol:=ho.corelen
 repeat' (first|((with_reducible refine Go.red ?_);conv => whnf)|refine aG ?_|exact aC|with_reducible refine Go.and ?_ ?_|(apply Go.elem;(·exact aElem))|refine aK (rshaped_pure o ho) ?_|refine aH ?_|((with_reducible refine Go.bool ?_ ?_) <;> intro hc <;> (try simp only [List.length_map,ne_eq,hcs] at hc) <;> try (exfalso;omega)))
 ·simp [checkAv,hc]
 ·refine Go.loop (fun i:Nat => [(1,.pt 0 1 0 0),(6,i64 i)]) (fun i H' n => i ≤ o.cores.length∧1 ≤ n∧getH H' 0 = some (.row 25 5 .any [o.av])∧bad2 o.mem.length o.cores 0 = bad2 o.mem.length (o.cores.drop i) i) (fun i => o.cores.length - i) 0 aLess ⟨Nat.zero_le _,aNx,aRow,rfl⟩ ?_
  rintro i H' n ⟨hi,hn,hr,hs⟩
  have hcl:=(ho.at i).len
  repeat' (first|((with_reducible refine Go.red ?_);conv => whnf)|refine aG ?_|exact aC|with_reducible refine Go.and ?_ ?_|(apply Go.elem;(·exact aElem))|refine aH ?_|((with_reducible refine Go.bool ?_ ?_) <;> intro hc <;> (try simp only [List.length_map,ne_eq,hcs] at hc) <;> try (exfalso;omega)))
  ·refine Go.loop (fun k:Nat => [(1,.pt 0 1 0 0),(6,i64 i),(7,i64 k)]) (fun k H2 n2 => k ≤ (o.cores.getD i default).code.length∧1 ≤ n2∧getH H2 0 = some (.row 25 5 .any [o.av])∧bad1 (o.cores.getD i default).code.length o.mem.length (o.cores.getD i default).code 0 = bad1 (o.cores.getD i default).code.length o.mem.length ((o.cores.getD i default).code.drop k) k) (fun k => (o.cores.getD i default).code.length - k) 0 aLess ⟨Nat.zero_le _,aNx,aRow,rfl⟩ ?_
   rintro k H2 n2 ⟨hk,hn2,hr2,hs2⟩
   repeat' (first|((with_reducible refine Go.red ?_);conv => whnf)|refine aG ?_|exact aC|with_reducible refine Go.and ?_ ?_|(apply Go.elem;(·exact aElem))|((with_reducible refine Go.callW (rRight_pure _ ((ho.at _).at _) _ _) ?_ ?_);(·exact aFit))|((with_reducible refine Go.callJ (fun _ => rRight_pure _ ((ho.at _).at _) _ _) ?_ ?_);(·exact aFit))|((with_reducible refine Go.callE (rRight_pure _ ((ho.at _).at _) _ _) ?_ ?_);(·exact aFit))|((with_reducible refine Go.callF (fun _ => rRight_pure _ ((ho.at _).at _) _ _) ?_ ?_);(·exact aFit))|refine aH ?_|((with_reducible refine Go.bool ?_ ?_) <;> intro hc <;> (try simp only [List.length_map,ne_eq,hcs] at hc) <;> try (exfalso;omega)))
   ·have h1:bad1 (o.cores.getD i default).code.length o.mem.length (o.cores.getD i default).code 0 = some k:=by
     rw [hs2,drop_cons (by omega),bad1,if_neg (by rw [hc];simp)]
    have h2:bad2 o.mem.length o.cores 0 = some (i,k):=by
     rw [hs,drop_cons (by omega),bad2,h1]
    rw [checkAv,if_pos (by assumption),h2]
   ·refine ⟨k + 1,by omega,aLess,by omega,aNx,aRow,?_⟩
    rw [hs2,drop_cons (by omega),bad1,if_pos hc]
   ·have h1:bad1 (o.cores.getD i default).code.length o.mem.length (o.cores.getD i default).code 0 = none:=by
     rw [hs2,List.drop_eq_nil_of_le (by omega),bad1]
    refine ⟨i + 1,by omega,aLess,by omega,aNx,aRow,?_⟩
    rw [hs,drop_cons (by omega),bad2,h1]
  ·rw [List.drop_eq_nil_of_le (by omega),bad2] at hs
   rw [checkAv,if_pos (by assumption),hs]
end Go.Proofs.YtflicfkgbjmffaaGreat.V
end
section
/- The document's Gather: where there is no machine, or too many steps. -/
namespace Go.Proofs.YtflicfkgbjmffaaGreat
open Go Go.Abs Go.Proofs V
set_option linter.unusedSimpArgs false
set_option linter.unusedVariables false
set_option maxHeartbeats 4000000 in
theorem rgather_bad {o:V.Obj} (ho:o.Wf) (hb:objOk o = false) (l:List V.StepV):Abs.Pure Tryz.prog 5 [o.av,.im 2 .any (l.map V.StepV.av)] (fun r => r = .tup [noX,i64 160]):=by
 refine Go.pureL lf5 rfl ?_
 obtain ⟨k,n,hcb⟩:=V.check_bad hb
 repeat' (first|((with_reducible refine Go.red ?_);conv => whnf)|refine aG ?_|exact aC|with_reducible refine Go.and ?_ ?_|(apply Go.elem;(·exact aElem))|((with_reducible refine Go.callW (hcb ▸ V.rcheck_pure o ho) ?_ ?_);(·exact aFit))|((with_reducible refine Go.callJ (fun _ => hcb ▸ V.rcheck_pure o ho) ?_ ?_);(·exact aFit))|((with_reducible refine Go.callE (hcb ▸ V.rcheck_pure o ho) ?_ ?_);(·exact aFit))|((with_reducible refine Go.callF (fun _ => hcb ▸ V.rcheck_pure o ho) ?_ ?_);(·exact aFit))|refine aH ?_|((with_reducible refine Go.bool ?_ ?_) <;> intro hc <;> (try simp only [List.length_map,ne_eq,hcs] at hc) <;> try (exfalso;omega)))
 exact rfl
set_option maxHeartbeats 4000000 in
theorem rgather_many {o:V.Obj} (ho:o.Wf) (hb:objOk o = true) (l:List V.StepV) (hl:1048576 < l.length):Abs.Pure Tryz.prog 5 [o.av,.im 2 .any (l.map V.StepV.av)] (fun r => r = .tup [noX,i64 3]):=by
 refine Go.pureL lf5 rfl ?_
 repeat' (first|((with_reducible refine Go.red ?_);conv => whnf)|refine aG ?_|exact aC|with_reducible refine Go.and ?_ ?_|(apply Go.elem;(·exact aElem))|((with_reducible refine Go.callW (V.check_ok hb ▸ V.rcheck_pure o ho) ?_ ?_);(·exact aFit))|((with_reducible refine Go.callJ (fun _ => V.check_ok hb ▸ V.rcheck_pure o ho) ?_ ?_);(·exact aFit))|((with_reducible refine Go.callE (V.check_ok hb ▸ V.rcheck_pure o ho) ?_ ?_);(·exact aFit))|((with_reducible refine Go.callF (fun _ => V.check_ok hb ▸ V.rcheck_pure o ho) ?_ ?_);(·exact aFit))|refine aH ?_|((with_reducible refine Go.bool ?_ ?_) <;> intro hc <;> (try simp only [List.length_map,ne_eq,hcs] at hc) <;> try (exfalso;omega)))
 exact rfl
end Go.Proofs.YtflicfkgbjmffaaGreat
end
section
/- The document's gathering: its rows get names. -/
namespace Go.Proofs.YtflicfkgbjmffaaGreat
open Go Go.Abs Go.Proofs V
set_option linter.unusedSimpArgs false
set_option linter.unusedVariables false
theorem RLay.nodup_mk {L:RLay} (h:RApart L) (h1:(L.af :: L.afs).Nodup) (h2:(L.q :: L.qs).Nodup):L.own.Nodup:=by
 obtain ⟨a1,a2,a3,a4,a5,a6,a7,a8,a9,b1,paf,pw,paw⟩:=h
 have no:∀ z,(z = L.g ∨ z = L.fi ∨ z = L.ev ∨ z = L.fr ∨ z = L.la)→z ∉ (L.af :: L.afs) ++ (L.q :: L.qs):=fun z hz hm => by
  rcases List.mem_append.1 hm with hm|hm
  ·obtain ⟨x1,x2,x3,x4,x5⟩:=paf z hm
   rcases hz with e|e|e|e|e
   ·exact x1 e.symm
   ·exact x2 e.symm
   ·exact x3 e.symm
   ·exact x4 e.symm
   ·exact x5 e.symm
  ·obtain ⟨x1,x2,x3,x4,x5⟩:=pw z hm
   rcases hz with e|e|e|e|e
   ·exact x1 e.symm
   ·exact x2 e.symm
   ·exact x3 e.symm
   ·exact x4 e.symm
   ·exact x5 e.symm
 simp only [RLay.own,List.nodup_cons,List.mem_cons,not_or]
 exact ⟨⟨a1,a2,a3,a4,no _ (.inl rfl)⟩,⟨a5,a6,a7,no _ (.inr (.inl rfl))⟩,⟨a8,a9,no _ (.inr (.inr (.inl rfl)))⟩,⟨b1,no _ (.inr (.inr (.inr (.inl rfl))))⟩,no _ (.inr (.inr (.inr (.inr rfl)))),List.nodup_append.2 ⟨h1,h2,fun x hx y hy => paw x hx y hy⟩⟩
theorem rborn {o:V.Obj} {H:Hp} {n gg fi af w la lo:Nat} {d1 d3 d4:AV} (r1:getH H gg = some (.row 54 6 d1 [.agg [.sl fi o.mem.length,.sc (.slice none 0 0),.sc (.slice none 0 0),.sl af o.mem.length,.sl la o.mem.length,.sl w o.cores.length]]))
  (r2:∃ d,getH H fi = some (.row 2 1 d (o.mem.map i64))) (r3:getH H af = some (.row 28 1 d3 (List.replicate o.mem.length (.sc (.slice none 0 0))))) (r4:getH H w = some (.row 66 1 d4 (List.replicate o.cores.length (.sc (.slice none 0 0))))) (r5:∃ d,getH H la = some (.row 3 1 d ((List.replicate o.mem.length (-1)).map i64)))
  (hlt:∀ y ∈ [gg,fi,af,w,la],y < n∧lo ≤ y) (hnd:[gg,fi,af,w,la].Nodup) (hlo:lo ≤ n) :
  ∃ H2 n2 L,Wk .any H n .any H2 n2∧n ≤ n2∧RRow o.mem.length o.cores.length o.mem (g0 o) (WS (g0 o)) L H2 n2∧L.g = gg∧(∀ y ∈ L.own,y ∈ [gg,fi,af,w,la] ∨ n ≤ y)∧∀ b,b < n→b ≠ gg→b ≠ af→b ≠ w→getH H2 b = getH H b:=by
 obtain ⟨g1,g2⟩:=hlt gg (by simp)
 obtain ⟨f1,f2⟩:=hlt fi (by simp)
 obtain ⟨a1,a2⟩:=hlt af (by simp)
 obtain ⟨w1,w2⟩:=hlt w (by simp)
 obtain ⟨l1,l2⟩:=hlt la (by simp)
 simp only [List.nodup_cons,List.mem_cons,List.not_mem_nil,or_false,not_or,not_false_eq_true,List.nodup_nil,and_true] at hnd
 obtain ⟨⟨x1,x2,x3,x4⟩,⟨x5,x6,x7⟩,⟨x8,x9⟩,x10⟩:=hnd
 obtain ⟨d2,r2⟩:=r2
 obtain ⟨d5,r5⟩:=r5
 have k1:=Wk.born (te:=28) (e:=3) (sz:=1) a1 (by omega) r3
 have q1:=QAt.born (te:=28) (e:=3) (sz:=1) (n:=o.mem.length) (H:=H) a1
 generalize hA:bornH 28 3 1 af o.mem.length n H = A at k1 q1
 have fA:∀ y,y < n→y ≠ af→getH A y = getH H y:=fun y h1 h2 => by rw [← hA];exact bornH_at h1 h2
 have k2:=Wk.born (te:=66) (e:=69) (sz:=2) (b:=w) (n:=o.cores.length) (nx:=n + o.mem.length) (by omega) (by omega) ((fA w w1 (Ne.symm x8)).trans r4)
 have q2:=QAt.born (te:=66) (e:=69) (sz:=2) (b:=w) (n:=o.cores.length) (nx:=n + o.mem.length) (H:=A) (by omega)
 generalize hB:bornH 66 69 2 w o.cores.length (n + o.mem.length) A = B at k2 q2
 have fB:∀ y,y < n + o.mem.length→y ≠ w→getH B y = getH A y:=fun y h1 h2 => by rw [← hB];exact bornH_at h1 h2
 have rB:getH B gg = some (.row 54 6 d1 [.agg [.sl fi o.mem.length,.sc (.slice none 0 0),.sc (.slice none 0 0),.sl af o.mem.length,.sl la o.mem.length,.sl w o.cores.length]]):=(fB gg (by omega) x3).trans ((fA gg g1 x2).trans r1)
 have k3:=Wk.nilCell (b:=gg) (e:=74) (sz:=5) (j:=1) (nx:=n + o.mem.length + o.cores.length) (by omega) (by omega) rB (by simp) rfl
 have k4:=Wk.nilCell (b:=gg) (e:=3) (sz:=1) (j:=2) (nx:=n + o.mem.length + o.cores.length + 1) (cs:=[.sl fi o.mem.length,.sl (n + o.mem.length + o.cores.length) 0,.sc (.slice none 0 0),.sl af o.mem.length,.sl la o.mem.length,.sl w o.cores.length]) (d:=d1) (H:=(gg,some (.row 54 6 d1 [.agg [.sl fi o.mem.length,.sl (n + o.mem.length + o.cores.length) 0,.sc (.slice none 0 0),.sl af o.mem.length,.sl la o.mem.length,.sl w o.cores.length]])) :: (n + o.mem.length + o.cores.length,some (.row 74 5 .any [])) :: B) (by omega) (by omega) (getH_here _ _ _) (by simp) rfl
 refine ⟨_,_,⟨gg,fi,n + o.mem.length + o.cores.length,n + o.mem.length + o.cores.length + 1,af,(List.range o.mem.length).map (n + ·),w,(List.range o.cores.length).map (n + o.mem.length + ·),la⟩,((k1.then k2).then k3).then k4,by omega,?_,rfl,fun y hy => ?_,fun b hb h1 h2 h3 => ?_⟩
 ·have hs:∀ {y:Nat} {q1 q2 q3 q4:Option Blk},y ≠ gg→y < n + o.mem.length + o.cores.length→getH ((gg,q1) :: (n + o.mem.length + o.cores.length + 1,q2) :: (gg,q3) :: (n + o.mem.length + o.cores.length,q4) :: B) y = getH B y:=fun {y q1 q2 q3 q4} h1 h2 => by
   rw [getH_skipEq h1,getH_skipEq (by omega),getH_skipEq h1,getH_skipEq (by omega)]
  have m1:∀ y ∈ af :: (List.range o.mem.length).map (n + ·),y = af ∨ (n ≤ y∧y < n + o.mem.length):=fun y hy => by
   simp only [List.mem_cons,List.mem_map,List.mem_range] at hy
   rcases hy with hy|⟨i,hi,rfl⟩
   ·exact .inl hy
   ·exact .inr ⟨by omega,by omega⟩
  have m2:∀ y ∈ w :: (List.range o.cores.length).map (n + o.mem.length + ·),y = w ∨ (n + o.mem.length ≤ y∧y < n + o.mem.length + o.cores.length):=fun y hy => by
   simp only [List.mem_cons,List.mem_map,List.mem_range] at hy
   rcases hy with hy|⟨i,hi,rfl⟩
   ·exact .inl hy
   ·exact .inr ⟨by omega,by omega⟩
  have e1:SI (List.replicate o.mem.length []) = List.replicate o.mem.length []:=by simp [SI]
  have e2:WS (g0 o) = List.replicate o.cores.length []:=by simp [WS,g0]
  have hap:RApart ⟨gg,fi,n + o.mem.length + o.cores.length,n + o.mem.length + o.cores.length + 1,af,(List.range o.mem.length).map (n + ·),w,(List.range o.cores.length).map (n + o.mem.length + ·),la⟩:=by
   refine ⟨x1,by show gg ≠ n + o.mem.length + o.cores.length;omega,by show gg ≠ n + o.mem.length + o.cores.length + 1;omega,x4,by show fi ≠ n + o.mem.length + o.cores.length;omega,by show fi ≠ n + o.mem.length + o.cores.length + 1;omega,x7,by show n + o.mem.length + o.cores.length ≠ n + o.mem.length + o.cores.length + 1;omega,by show n + o.mem.length + o.cores.length ≠ la;omega,by show n + o.mem.length + o.cores.length + 1 ≠ la;omega,fun x hx => ?_,fun x hx => ?_,fun x hx y hy => ?_⟩
   ·dsimp only
    rcases m1 x hx with rfl|⟨h1,h2⟩
    ·exact ⟨x2,x5,by omega,by omega,Ne.symm x9⟩
    ·exact ⟨by omega,by omega,by omega,by omega,by omega⟩
   ·dsimp only
    rcases m2 x hx with rfl|⟨h1,h2⟩
    ·exact ⟨x3,x6,by omega,by omega,Ne.symm x10⟩
    ·exact ⟨by omega,by omega,by omega,by omega,by omega⟩
   ·rcases m1 x hx with rfl|⟨h1,h2⟩ <;> rcases m2 y hy with rfl|⟨h3,h4⟩
    ·exact x8
    ·omega
    ·omega
    ·omega
  refine ⟨⟨_,getH_here _ _ _⟩,⟨d2,(hs (Ne.symm x1) (by omega)).trans ((fB fi (by omega) x6).trans ((fA fi f1 x5).trans r2))⟩,⟨.any,?_⟩,⟨.any,?_⟩,⟨d5,(hs (Ne.symm x4) (by omega)).trans ((fB la (by omega) (Ne.symm x10)).trans ((fA la l1 (Ne.symm x9)).trans r5))⟩,?_,?_,rfl,rfl,by simp [g0],by simp [g0],by simp [WS,g0],fun y hy => ?_,RLay.nodup_mk hap q1.nodup q2.nodup⟩
  ·rw [getH_skipEq (by show n + o.mem.length + o.cores.length ≠ gg;omega),getH_skipEq (by show n + o.mem.length + o.cores.length ≠ _;omega),getH_skipEq (by show n + o.mem.length + o.cores.length ≠ gg;omega),getH_here]
   rfl
  ·rw [getH_skipEq (by show n + o.mem.length + o.cores.length + 1 ≠ gg;omega),getH_here]
   rfl
  ·show QAt _ _ 1 _ _ (SI (List.replicate o.mem.length [])) _
   rw [e1]
   refine q1.keep fun y hy => ?_
   have hg:=hap.af y hy
   rcases m1 y hy with rfl|⟨h1,h2⟩
   ·exact (hs (Ne.symm x2) (by omega)).trans (fB _ (by omega) x8)
   ·exact (hs (Ne.symm hg.1) (by omega)).trans (fB _ (by omega) (by omega))
  ·rw [e2]
   refine q2.keep fun y hy => ?_
   have hg:=hap.w y hy
   exact hs (Ne.symm hg.1) (by rcases m2 y hy with rfl|⟨h1,h2⟩ <;> omega)
  ·have hy:y ∈ gg :: fi :: (n + o.mem.length + o.cores.length) :: (n + o.mem.length + o.cores.length + 1) :: la :: ((af :: (List.range o.mem.length).map (n + ·)) ++ (w :: (List.range o.cores.length).map (n + o.mem.length + ·))):=hy
   rw [List.mem_cons,List.mem_cons,List.mem_cons,List.mem_cons,List.mem_cons,List.mem_append] at hy
   rcases hy with rfl|rfl|rfl|rfl|rfl|hy|hy
   ·omega
   ·omega
   ·omega
   ·omega
   ·omega
   ·rcases m1 y hy with rfl|⟨h1,h2⟩ <;> omega
   ·rcases m2 y hy with rfl|⟨h1,h2⟩ <;> omega
 ·have hy:y ∈ gg :: fi :: (n + o.mem.length + o.cores.length) :: (n + o.mem.length + o.cores.length + 1) :: la :: ((af :: (List.range o.mem.length).map (n + ·)) ++ (w :: (List.range o.cores.length).map (n + o.mem.length + ·))):=hy
  simp only [List.mem_cons,List.mem_append,List.mem_map,List.mem_range] at hy
  rcases hy with rfl|rfl|rfl|rfl|rfl|(rfl|⟨i,_,rfl⟩)|(rfl|⟨i,_,rfl⟩) <;> first|exact .inr (by omega)|exact .inl (by simp)
 ·rw [getH_skipEq h1,getH_skipEq (by omega),getH_skipEq h1,getH_skipEq (by omega)]
  exact (fB b (by omega) h3).trans (fA b hb h2)
theorem rborn_to {o:V.Obj} {H:Hp} {n gg fi af w la lo:Nat} {d1 d3 d4:AV} {C:Hp→Nat→Prop} (r1:getH H gg = some (.row 54 6 d1 [.agg [.sl fi o.mem.length,.sc (.slice none 0 0),.sc (.slice none 0 0),.sl af o.mem.length,.sl la o.mem.length,.sl w o.cores.length]]))
  (r2:∃ d,getH H fi = some (.row 2 1 d (o.mem.map i64))) (r3:getH H af = some (.row 28 1 d3 (List.replicate o.mem.length (.sc (.slice none 0 0))))) (r4:getH H w = some (.row 66 1 d4 (List.replicate o.cores.length (.sc (.slice none 0 0))))) (r5:∃ d,getH H la = some (.row 3 1 d ((List.replicate o.mem.length (-1)).map i64)))
  (hlt:∀ y ∈ [gg,fi,af,w,la],y < n∧lo ≤ y) (hnd:[gg,fi,af,w,la].Nodup) (hlo:lo ≤ n)
  (hC:∀ H2 n2 L,n ≤ n2→RRow o.mem.length o.cores.length o.mem (g0 o) (WS (g0 o)) L H2 n2→L.g = gg→(∀ y ∈ L.own,y ∈ [gg,fi,af,w,la] ∨ n ≤ y)→(∀ b,b < n→b ≠ gg→b ≠ af→b ≠ w→getH H2 b = getH H b)→C H2 n2):∃ H2 n2,Wk .any H n .any H2 n2∧C H2 n2:=by
 obtain ⟨H2,n2,L,k1,k2,k3,k4,k5,k6⟩:=rborn r1 r2 r3 r4 r5 hlt hnd hlo
 exact ⟨H2,n2,k1,hC H2 n2 L k2 k3 k4 k5 k6⟩
end Go.Proofs.YtflicfkgbjmffaaGreat
end
section
/- A core looked at. -/
namespace Go.Proofs.YtflicfkgbjmffaaGreat.V
open Go Go.Abs Go.Proofs
set_option linter.unusedSimpArgs false
set_option linter.unusedVariables false
end Go.Proofs.YtflicfkgbjmffaaGreat.V
end
section
/- A machine that is looked at alone: its parts; lists that are the same. -/
namespace Go.Proofs.YtflicfkgbjmffaaGreat.V
open Go Go.Abs Go.Proofs
set_option linter.unusedSimpArgs false
set_option linter.unusedVariables false
@[simp] theorem fit_coreF (c:CoreS):fitL 0 (c.cells (.im 3 .any (c.buf.map StoreS.av))):=by simp [CoreS.cells,fitL,fitA,fitL_map]
theorem frozen_at {s:Mach} {q:Nat} (hq:q < s.cores.length) (d:AV):(s.cores.map CoreS.frozen).getD q d = (s.core q).frozen:=getD_av _ _ _ _ hq
structure Lookable (s:Mach):Prop where
 cores:s.cores.length ≤ 8
 mem:s.mem.length ≤ 4096
 prints:s.prints.length * 16 ≤ 140737488355328
 buf:∀ q,q < s.cores.length→(s.core q).buf.length < 1000
theorem Good.lookable {o:Obj} {s:Mach} (g:Good o s) (ok:ObjOk o) (hp:s.prints.length * 16 ≤ 140737488355328):Lookable s :=
 ⟨by rw [g.n];exact ok.cores,by rw [g.mem];exact ok.mem,hp,fun q hq => by have:=g.buf q hq;have:=ok.buffer;omega⟩
end Go.Proofs.YtflicfkgbjmffaaGreat.V
end
section
/- The document's machine as a value: what it begins as, what waits, what a load sees. -/
namespace Go.Proofs.YtflicfkgbjmffaaGreat.V
open Go Go.Abs Go.Proofs
set_option linter.unusedSimpArgs false
set_option linter.unusedVariables false
abbrev stAv (o:Obj) (s:Mach):AV:=.agg [.im 1 .any (o.mem.map i64),i64 o.shared,i64 o.locks,i64 o.buffer,.im 2 .any (o.cores.map Core.av),.im 19 .any (s.cores.map CoreS.frozen),.im 1 .any (s.mem.map i64),.im 2 .any (s.prints.map PrintS.av)]
theorem fit_st (n:Nat) (o:Obj) (s:Mach):fitA n (stAv o s):=by
 simp [stAv,fitA,fitL,fitL_map,CoreS.cells]
theorem drains_pure (k:Int):Pure Tryz.prog 80 [u8 k] (fun r => r = bl (decide (k = 5) || decide (k = 6) || decide (k = 7))):=by
 refine Go.pureL lf80 rfl ?_
 repeat' (first|((with_reducible refine Go.red ?_);conv => whnf)|refine aG ?_|exact aC|with_reducible refine Go.and ?_ ?_|(apply Go.elem;(·exact aElem))|refine aH ?_|((with_reducible refine Go.bool ?_ ?_) <;> intro hc <;> (try simp only [List.length_map,ne_eq,hcs] at hc) <;> try (exfalso;omega)))
 all_goals (congr 2;rw [Bool.eq_iff_iff];simp <;> omega)
theorem stalls_eq (o:Obj) (s:Mach) (q:Nat) (i:Instr):(if (if (decide (i.kind = 5) || decide (i.kind = 6) || decide (i.kind = 7)) = true then decide ((0:Int) < (List.map StoreS.av (s.core q).buf).length) else false) = true then true else if decide (i.kind = 4) = true then decide (o.buffer ≤ (List.map StoreS.av (s.core q).buf).length) else false) = stallsF o s q i:=by
 simp only [stallsF,List.length_map]
 by_cases k4:i.kind = 4
 ·simp [k4]
 ·rw [if_neg k4]
  by_cases k5:i.kind = 5 ∨ i.kind = 6 ∨ i.kind = 7
  ·rw [if_pos k5]
   have h9:(decide (i.kind = 5) || decide (i.kind = 6) || decide (i.kind = 7)) = true:=by rw [Bool.eq_iff_iff];simp;omega
   simp only [h9,if_true]
   simp [k4]
  ·rw [if_neg k5]
   have h9:(decide (i.kind = 5) || decide (i.kind = 6) || decide (i.kind = 7)) = false:=by
    rw [Bool.eq_false_iff];intro h;apply k5;simpa [or_assoc] using h
   simp [h9,k4]
theorem waits_pure {o:Obj} {s:Mach} (g:Good o s) (ok:ObjOk o) (q:Nat) (hq:q < s.cores.length):Pure Tryz.prog 55 [stAv o s,i64 q] (fun r => r = bl (stallsF o s q (instrAt o s q))):=by
 refine Go.pureL lf55 rfl ?_
 have hqo:q < o.cores.length:=by rw [← g.n];exact hq
 have hpc:=g.pc q hq
 have hpc2:(s.core q).pc.toNat < (o.core q).code.length:=by omega
 have hpc3:0 ≤ (s.core q).pc:=hpc.1
 repeat' (first|((with_reducible refine Go.red ?_);conv => whnf)|refine aG ?_|exact aC|with_reducible refine Go.and ?_ ?_|(apply Go.elem;(·(first|exact frozen_at hq _|exact getD_av _ _ _ _ hpc2|exact aElem)))|((with_reducible refine Go.callW (drains_pure _) ?_ ?_);(·exact aFit))|((with_reducible refine Go.callJ (fun _ => drains_pure _) ?_ ?_);(·exact aFit))|((with_reducible refine Go.callE (drains_pure _) ?_ ?_);(·exact aFit))|((with_reducible refine Go.callF (fun _ => drains_pure _) ?_ ?_);(·exact aFit))|refine aH ?_|((with_reducible refine Go.bool ?_ ?_) <;> intro hc <;> (try simp only [List.length_map,ne_eq,hcs] at hc) <;> try (exfalso;omega)))
 exact congrArg (fun b => bl b) (stalls_eq o s q (instrAt o s q))
theorem seenF_none {a:Int}:∀ {t:List StoreS} {r:Int × Bool},(∀ j,j < t.length→(t.getD j default).addr ≠ a)→seenF a t r = r
 | [],_,_ => rfl
 | y :: t,r,h => by
  rw [seenF,if_neg (by simpa using h 0 (by simp))]
  exact seenF_none fun j hj => by simpa using h (j + 1) (by simpa using hj)
theorem seenF_last {a:Int}:∀ {l:List StoreS} {r:Int × Bool} {i:Nat},i < l.length→(l.getD i default).addr = a→(∀ j,i < j→j < l.length→(l.getD j default).addr ≠ a)→seenF a l r = ((l.getD i default).word,true)
 | [],_,_,h,_,_ => by simp at h
 | x :: t,r,0,_,ha,h => by
  rw [seenF,if_pos (by simpa using ha)]
  rw [seenF_none fun j hj => by simpa using h (j + 1) (by omega) (by simpa using hj)]
  simp
 | x :: t,r,i + 1,hi,ha,h => by
  rw [seenF]
  simpa using seenF_last (l:=t) (r:=if x.addr = a then (x.word,true) else r) (i:=i) (by simpa using hi) (by simpa using ha) fun j h1 h2 => by simpa using h (j + 1) (by omega) (by simpa using h2)
theorem seen_pure (o:Obj) (s:Mach) (c:CoreS) (addr:Int) (ha:0 ≤ addr∧addr < s.mem.length) (hb:c.buf.length < 1000):Pure Tryz.prog 59 [stAv o s,c.frozen,i64 addr] (fun r => r = .tup [i64 (seenF addr c.buf (s.mem.getD addr.toNat 0,false)).1,bl (seenF addr c.buf (s.mem.getD addr.toNat 0,false)).2]):=by
 refine Go.pureL lf59 rfl ?_
 repeat' (first|((with_reducible refine Go.red ?_);conv => whnf)|refine aG ?_|exact aC|with_reducible refine Go.and ?_ ?_|(apply Go.elem;(·exact aElem))|refine aH ?_|((with_reducible refine Go.bool ?_ ?_) <;> intro hc <;> (try simp only [List.length_map,ne_eq,hcs] at hc) <;> try (exfalso;omega)))
 refine Go.loop (fun p:Nat => [(2,i64 addr),(3,.pt 0 1 0 0),(4,.pt 1 1 0 0),(8,i64 ((p:Int) - 1))]) (fun p H' n => p ≤ c.buf.length∧2 ≤ n∧getH H' 0 = some (.row 58 8 .any [stAv o s])∧getH H' 1 = some (.row 126 19 .any [c.frozen])∧∀ j,p ≤ j→j < c.buf.length→(c.buf.getD j default).addr ≠ addr) (fun p => p) c.buf.length ?_ ⟨Nat.le_refl _,aNx,aRow,aRow,fun j h1 h2 => by omega⟩ ?_
 ·rw [show (c.buf.length:Int) = (c.buf.map StoreS.av).length by simp];exact aLess
 rintro p H' n ⟨hp,hn,r0,r1,hno⟩
 repeat' (first|((with_reducible refine Go.red ?_);conv => whnf)|refine aG ?_|exact aC|with_reducible refine Go.and ?_ ?_|(apply Go.elem;(·exact aElem))|refine aH ?_|((with_reducible refine Go.bool ?_ ?_) <;> intro hc <;> (try simp only [List.length_map,ne_eq,hcs] at hc) <;> try (exfalso;omega)))
 ·have h9:((p:Int) - 1).toNat = p - 1:=by omega
  rw [h9] at hc
  have hlast:=seenF_last (a:=addr) (l:=c.buf) (r:=(s.mem.getD addr.toNat 0,false)) (i:=p - 1) (by omega) hc (fun j h1 h2 => hno j (by omega) h2)
  rw [hlast,h9]
 ·refine ⟨p - 1,by omega,?_,by omega,aNx,aRow,aRow,fun j h1 h2 => ?_⟩
  ·have h9:(((p - 1:Nat):Int) - 1) = (p:Int) - 1 - 1:=by omega
   rw [h9];exact aLess
  ·by_cases hj:j = p - 1
   ·subst hj
    have h9:((p:Int) - 1).toNat = p - 1:=by omega
    rw [h9] at hc;exact hc
   ·exact hno j (by omega) h2
 ·rw [seenF_none fun j hj => hno j (by omega) hj]
  rfl
end Go.Proofs.YtflicfkgbjmffaaGreat.V
end
section
/- A fork of a machine. -/
namespace Go.Proofs.YtflicfkgbjmffaaGreat.V
open Go Go.Abs Go.Proofs
set_option linter.unusedSimpArgs false
set_option linter.unusedVariables false
def Far (A B:Lay):Prop:=∀ b ∈ A.ids,b ∉ B.ids
theorem Far.symm {A B:Lay} (h:Far A B):Far B A:=fun b hb hm => h b hm hb
theorem Far.moves {A A' B:Lay} {n:Nat} (h:Far A B) (hm:∀ b,b ∈ A'.ids→b ∈ A.ids ∨ n ≤ b) (hl:∀ b ∈ B.ids,b < n):Far A' B:=fun b hb hB => (hm b hb).elim (fun h1 => h b h1 hB) (fun h1 => by have:=hl b hB;omega)
abbrev mixed (s:Mach) (B:List Nat):List AV:=List.zipWith CoreS.av s.cores B
theorem mixed_len {s:Mach} {B:List Nat} (h:B.length = s.cores.length):(mixed s B).length = s.cores.length:=by simp [mixed,h]
theorem mixed_at {s:Mach} {B:List Nat} (h:B.length = s.cores.length) {q:Nat} (hq:q < s.cores.length) (d:AV):(mixed s B).getD q d = (s.core q).av (B.getD q 0):=by
 have h2:q < B.length:=by rw [h];exact hq
 have h3:q < (mixed s B).length:=by rw [mixed_len h];exact hq
 rw [List.getD,List.getElem?_eq_getElem h3]
 simp [mixed,List.getD,hq,h2]
structure Mixed (L:Lay) (s:Mach) (H:Hp) (B:List Nat) (i lo n:Nat):Prop where
 len:B.length = s.cores.length
 old:∀ j,i ≤ j→j < s.cores.length→B.getD j 0 = L.bufs.getD j 0
 new:∀ j,j < i→j < s.cores.length→lo ≤ B.getD j 0∧B.getD j 0 < n∧∃ d,getH H (B.getD j 0) = some (.row 135 3 d ((s.core j).buf.map StoreS.av))
 apart:∀ j k,j < k→k < i→k < s.cores.length→B.getD j 0 ≠ B.getD k 0
theorem Mixed.next {L:Lay} {s:Mach} {H H':Hp} {B:List Nat} {i lo n n' b:Nat} (h:Mixed L s H B i lo n) (hi:i < s.cores.length) (hb:n ≤ b∧b < n') (hlo:lo ≤ n) (hr:∃ d,getH H' b = some (.row 135 3 d ((s.core i).buf.map StoreS.av))) (hf:∀ x,lo ≤ x→x < n→getH H' x = getH H x):Mixed L s H' (B.set i b) (i + 1) lo n':=by
 have hib:i < B.length:=by rw [h.len];exact hi
 have same:(B.set i b).getD i 0 = b:=by simp [List.getD,hib]
 have ne:∀ j,j ≠ i→(B.set i b).getD j 0 = B.getD j 0:=fun j hj => by simp [List.getD,List.getElem?_set_ne (Ne.symm hj)]
 refine ⟨by rw [List.length_set];exact h.len,fun j h1 h2 => by rw [ne j (by omega)];exact h.old j (by omega) h2,fun j h1 h2 => ?_,fun j k h1 h2 h3 => ?_⟩
 ·by_cases hj:j = i
  ·subst hj;rw [same];exact ⟨by omega,by omega,hr⟩
  ·obtain ⟨g1,g2,d,g3⟩:=h.new j (by omega) h2
   rw [ne j hj]
   exact ⟨g1,by omega,d,(hf _ g1 g2).trans g3⟩
 ·by_cases hk:k = i
  ·subst hk
   rw [same,ne j (by omega)]
   have:=(h.new j (by omega) (by omega)).2.1
   omega
  ·rw [ne k hk,ne j (by omega)]
   exact h.apart j k h1 (by omega) h3
theorem Mixed.keep {L:Lay} {s:Mach} {H H':Hp} {B:List Nat} {i lo n n':Nat} (h:Mixed L s H B i lo n) (hn:n ≤ n') (hf:∀ x,lo ≤ x→x < n→getH H' x = getH H x):Mixed L s H' B i lo n' :=
 ⟨h.len,h.old,fun j h1 h2 => by obtain ⟨g1,g2,d,g3⟩:=h.new j h1 h2;exact ⟨g1,by omega,d,(hf _ g1 g2).trans g3⟩,h.apart⟩
theorem Mixed.mem {L:Lay} {s:Mach} {H:Hp} {B:List Nat} {i lo n:Nat} (h:Mixed L s H B i lo n) (hi:s.cores.length ≤ i) {b:Nat} (hb:b ∈ B):lo ≤ b∧b < n:=by
 obtain ⟨j,hj,rfl⟩:=List.mem_iff_getElem.1 hb
 have hj2:j < s.cores.length:=by rw [← h.len];exact hj
 obtain ⟨g1,g2,_⟩:=h.new j (by omega) hj2
 have e:B.getD j 0 = B[j]:=by simp [List.getD,hj]
 rw [e] at g1 g2
 exact ⟨g1,g2⟩
theorem Mixed.nodup {L:Lay} {s:Mach} {H:Hp} {B:List Nat} {i lo n:Nat} (h:Mixed L s H B i lo n) (hi:s.cores.length ≤ i):B.Nodup:=by
 refine List.pairwise_iff_getElem.2 fun j k hj hk hjk => ?_
 have hk2:k < s.cores.length:=by rw [← h.len];exact hk
 have:=h.apart j k hjk (by omega) hk2
 simpa [List.getD,hj,hk] using this
end Go.Proofs.YtflicfkgbjmffaaGreat.V
end
section
/- A state of its own. -/
namespace Go.Proofs.YtflicfkgbjmffaaGreat.V
open Go Go.Abs Go.Proofs
set_option linter.unusedSimpArgs false
set_option linter.unusedVariables false
structure RLay where
 c:Nat
 mem:Nat
 pr:Nat
 bufs:List Nat
def RLay.ids (K:RLay):List Nat:=K.c :: K.mem :: K.pr :: K.bufs
abbrev copyAv (o:Obj) (s:Mach) (K:RLay):AV:=.agg [.im 1 .any (o.mem.map i64),i64 o.shared,i64 o.locks,i64 o.buffer,.im 2 .any (o.cores.map Core.av),.sl K.c s.cores.length,.sl K.mem s.mem.length,.sl K.pr s.prints.length]
structure RAt (s:Mach) (K:RLay) (H:Hp) (lo n:Nat):Prop where
 c:∃ d,getH H K.c = some (.row 126 19 d (mixed s K.bufs))
 mem:∃ d,getH H K.mem = some (.row 2 1 d (s.mem.map i64))
 pr:∃ d,getH H K.pr = some (.row 137 2 d (s.prints.map PrintS.av))
 bufs:∀ i,i < s.cores.length→∃ d,getH H (K.bufs.getD i 0) = some (.row 135 3 d ((s.core i).buf.map StoreS.av))
 lens:K.bufs.length = s.cores.length
 lt:∀ b ∈ K.ids,lo ≤ b∧b < n
 nodup:K.ids.Nodup
structure Part (s:Mach) (H:Hp) (B:List Nat) (i lo n:Nat):Prop where
 len:B.length = i
 new:∀ j,j < i→lo ≤ B.getD j 0∧B.getD j 0 < n∧∃ d,getH H (B.getD j 0) = some (.row 135 3 d ((s.core j).buf.map StoreS.av))
 apart:∀ j k,j < k→k < i→B.getD j 0 ≠ B.getD k 0
theorem Part.next {s:Mach} {H H':Hp} {B:List Nat} {i lo n n' b:Nat} (h:Part s H B i lo n) (hb:n ≤ b∧b < n') (hlo:lo ≤ n) (hr:∃ d,getH H' b = some (.row 135 3 d ((s.core i).buf.map StoreS.av))) (hf:∀ x,lo ≤ x→x < n→x ∈ B→getH H' x = getH H x):Part s H' (B ++ [b]) (i + 1) lo n':=by
 have same:(B ++ [b]).getD i 0 = b:=by simp [List.getD,← h.len]
 have ne:∀ j,j < i→(B ++ [b]).getD j 0 = B.getD j 0:=fun j hj => by simp [List.getD,List.getElem?_append,h.len,hj]
 refine ⟨by simp [h.len],fun j h1 => ?_,fun j k h1 h2 => ?_⟩
 ·by_cases hj:j = i
  ·subst hj;rw [same];exact ⟨by omega,by omega,hr⟩
  ·obtain ⟨g1,g2,d,g3⟩:=h.new j (by omega)
   rw [ne j (by omega)]
   exact ⟨g1,by omega,d,(hf _ g1 g2 (getD_mem (by rw [h.len];omega))).trans g3⟩
 ·by_cases hk:k = i
  ·subst hk
   rw [same,ne j (by omega)]
   have:=(h.new j (by omega)).2.1
   omega
  ·rw [ne k (by omega),ne j (by omega)]
   exact h.apart j k h1 (by omega)
theorem zip_next {s:Mach} {B:List Nat} {i:Nat} (hB:B.length = i) (hi:i < s.cores.length) (b:Nat):List.zipWith CoreS.av (s.cores.take (i + 1)) (B ++ [b]) = List.zipWith CoreS.av (s.cores.take i) B ++ [(s.core i).av b]:=by
 rw [List.take_succ_eq_append_getElem hi,List.zipWith_append (by rw [List.length_take,hB];omega)]
 simp [List.getD,hi]
def Copied (o:Obj) (s:Mach) (H:Hp) (nx:Nat):AV→Hp→Nat→Prop:=fun r H' n => ∃ K,r = copyAv o s K∧RAt s K H' nx n∧nx ≤ n∧∀ b,b < nx→getH H' b = getH H b
set_option maxHeartbeats 4000000 in
theorem copy_call (o:Obj) {s:Mach} (h:Lookable s) (h0:0 < s.cores.length) {H:Hp} {nx:Nat}:CallN Tryz.prog 56 [stAv o s] H nx (Copied o s H nx):=by
 refine Go.fnL lf56 rfl ?_
 have hc8:=h.cores
 have hm:=h.mem
 have hp:=h.prints
 repeat' (first|((with_reducible refine Go.red ?_);conv => whnf)|refine aG ?_|exact aC|with_reducible refine Go.and ?_ ?_|(apply Go.elem;(·exact aElem))|refine aH ?_|((with_reducible refine Go.bool ?_ ?_) <;> intro hc <;> (try simp only [List.length_map,ne_eq,hcs] at hc) <;> try (exfalso;omega)))
 refine Go.loop (fun p:Nat × AV => [(1,.pt nx 1 0 0),(2,.pt (nx + 1) 1 0 0),(3,p.2),(4,i64 p.1)]) (fun p H9 n9 => p.1 ≤ s.cores.length∧nx + 16 ≤ n9∧(∃ d,getH H9 nx = some (.row 58 8 d [.agg [.im 1 .any (o.mem.map i64),i64 o.shared,i64 o.locks,i64 o.buffer,.im 2 .any (o.cores.map Core.av),.im 19 .any (s.cores.map CoreS.frozen),.sl (nx + 2) (0 + (s.mem.map i64).length),.sl (nx + 8) (0 + (s.prints.map PrintS.av).length)]])) ∧
   (∃ d e,getH H9 (nx + 1) = some (.row 58 8 d [.agg e])∧e.length = 8)∧(∃ d,getH H9 (nx + 2) = some (.row 2 1 d (s.mem.map i64)))∧(∃ d,getH H9 (nx + 8) = some (.row 137 2 d (s.prints.map PrintS.av)))∧(∀ b,b < nx→getH H9 b = getH H b) ∧
   ((p.1 = 0∧p.2 = .sc (.slice none 0 0)) ∨ ∃ cb B d es,0 < p.1∧p.2 = .sl cb p.1∧nx + 16 ≤ cb∧cb < n9∧getH H9 cb = some (.row 126 19 d es)∧es = List.zipWith CoreS.av (s.cores.take p.1) B∧Part s H9 B p.1 (nx + 16) n9∧cb ∉ B))
  (fun p => s.cores.length - p.1) (0,.sc (.slice none 0 0)) aLess ⟨Nat.zero_le _,aNx,⟨_,aRow⟩,⟨_,_,aRow,rfl⟩,⟨_,aRow⟩,⟨_,aRow⟩,fun b hb => aSkip,.inl ⟨rfl,rfl⟩⟩ ?_
 rintro ⟨i,v⟩ H9 n9 ⟨hi,hn,⟨d1,r1⟩,⟨d2,e2,r2,he2⟩,⟨d3,r3⟩,⟨d4,r4⟩,hfr,hv⟩
 simp only at hi hv
 dsimp only
 rcases hv with ⟨rfl,rfl⟩|⟨cb,B,d5,es,hi0,rfl,hcb1,hcb2,rcb,hes,hB,hcbB⟩
 ·have hb0:=h.buf 0 h0
  repeat' (first|((with_reducible refine Go.red ?_);conv => whnf)|refine aG ?_|exact aC|with_reducible refine Go.and ?_ ?_|(apply Go.elem;(·(first|exact frozen_at h0 _|exact aElem)))|refine aH ?_|((with_reducible refine Go.bool ?_ ?_) <;> intro hc <;> (try simp only [List.length_map,ne_eq,hcs] at hc) <;> try (exfalso;omega)))
  refine ⟨(1,.sl (n9 + 21) 1),by show s.cores.length - 1 < s.cores.length - 0;omega,aLess,by show 1 ≤ s.cores.length;omega,aNx,⟨_,aRow⟩,⟨_,_,aRow,he2⟩,⟨_,aRow⟩,⟨_,aRow⟩,fun b hb => (aSkip:_ = getH H9 b).trans (hfr b hb),.inr ⟨n9 + 21,[n9 + 12],_,_,by show 0 < 1;omega,rfl,by omega,aNx,aRow,?_,?_,by simp⟩⟩
  ·show _ = List.zipWith CoreS.av (s.cores.take (0 + 1)) ([] ++ [n9 + 12])
   rw [zip_next (B:=[]) (i:=0) rfl h0]
   simp [CoreS.cells]
  ·exact Part.next (B:=[]) (i:=0) (⟨rfl,fun j hj => by omega,fun j k _ hk => by omega⟩:Part s H9 [] 0 (nx + 16) n9) ⟨aNx,aNx⟩ hn ⟨_,aRow⟩ (fun x _ _ hx => by simp at hx)
 ·by_cases hi2:i < s.cores.length
  ·have hbi:=h.buf i hi2
   have hel:es.length = i:=by rw [hes];simp [hB.len];omega
   repeat' (first|((with_reducible refine Go.red ?_);conv => whnf)|refine aG ?_|exact aC|with_reducible refine Go.and ?_ ?_|(apply Go.elem;(·(first|exact frozen_at hi2 _|exact aElem)))|refine aH ?_|((with_reducible refine Go.bool ?_ ?_) <;> intro hc <;> (try simp only [List.length_map,ne_eq,hcs] at hc) <;> try (exfalso;omega)))
   refine ⟨(i + 1,.sl cb (i + 1)),by show s.cores.length - (i + 1) < s.cores.length - i;omega,aLess,by show i + 1 ≤ s.cores.length;omega,aNx,⟨_,aRow⟩,⟨_,_,aRow,he2⟩,⟨_,aRow⟩,⟨_,aRow⟩,fun b hb => (aSkip:_ = getH H9 b).trans (hfr b hb),.inr ⟨cb,B ++ [n9 + 12],_,_,by show 0 < i + 1;omega,rfl,hcb1,by exact Nat.lt_of_lt_of_le hcb2 aNx,aRow,?_,?_,?_⟩⟩
   ·show _ = List.zipWith CoreS.av (s.cores.take (i + 1)) (B ++ [n9 + 12])
    rw [zip_next hB.len hi2,← hes]
    congr 1
    simp [CoreS.cells]
   ·exact hB.next ⟨aNx,aNx⟩ hn ⟨_,aRow⟩ (fun x h1 h2 h3 => by have h4:x ≠ cb:=fun he => hcbB (he ▸ h3);exact aSkip)
   ·simp only [List.mem_append,List.mem_singleton,not_or]
    exact ⟨hcbB,by omega⟩
  ·repeat' (first|((with_reducible refine Go.red ?_);conv => whnf)|refine aG ?_|exact aC|with_reducible refine Go.and ?_ ?_|(apply Go.elem;(·exact aElem))|refine aH ?_|((with_reducible refine Go.bool ?_ ?_) <;> intro hc <;> (try simp only [List.length_map,ne_eq,hcs] at hc) <;> try (exfalso;omega)))
   have hin:i = s.cores.length:=by omega
   subst hin
   have ht:s.cores.take s.cores.length = s.cores:=List.take_of_length_le (Nat.le_refl _)
   rw [ht] at hes
   have rcb2:getH H9 cb = some (.row 126 19 d5 (mixed s B)):=by rw [rcb,hes]
   clear rcb
   refine ⟨⟨⟨cb,nx + 2,nx + 8,B⟩,?_,⟨⟨d5,aRow⟩,⟨_,aRow⟩,⟨_,aRow⟩,fun j hj => ?_,hB.len,fun b hb => ?_,?_⟩,aNx,fun b hb => (aSkip:_ = getH H9 b).trans (hfr b hb)⟩⟩
   ·simp [copyAv]
   ·obtain ⟨g1,g2,d,g3⟩:=hB.new j hj
    have h4:B.getD j 0 ≠ cb:=fun he => hcbB (he ▸ getD_mem (by rw [hB.len];exact hj))
    exact ⟨d,(aSkip:_ = getH H9 _).trans g3⟩
   ·simp only [RLay.ids,List.mem_cons] at hb
    rcases hb with rfl|rfl|rfl|hb
    ·exact ⟨by omega,Nat.lt_of_lt_of_le hcb2 aNx⟩
    ·exact ⟨by omega,aNx⟩
    ·exact ⟨by omega,aNx⟩
    ·obtain ⟨j,hj,rfl⟩:=List.mem_iff_getElem.1 hb
     obtain ⟨g1,g2,_⟩:=hB.new j (by rw [← hB.len];exact hj)
     have e:B.getD j 0 = B[j]:=by simp [List.getD,hj]
     rw [e] at g1 g2
     exact ⟨by omega,Nat.lt_of_lt_of_le g2 aNx⟩
   ·have hmB:∀ x ∈ B,nx + 16 ≤ x:=fun x hx => by
     obtain ⟨j,hj,rfl⟩:=List.mem_iff_getElem.1 hx
     have g1:=(hB.new j (by rw [← hB.len];exact hj)).1
     have e:B.getD j 0 = B[j]:=by simp [List.getD,hj]
     rw [e] at g1;exact g1
    simp only [RLay.ids,List.nodup_cons,List.mem_cons,not_or]
    refine ⟨⟨by omega,by omega,hcbB⟩,⟨by omega,fun hm => by have:=hmB _ hm;omega⟩,fun hm => by have:=hmB _ hm;omega,List.pairwise_iff_getElem.2 fun j k hj hk hjk => ?_⟩
    have:=hB.apart j k hjk (by rw [← hB.len];exact hk)
    simpa [List.getD,hj,hk] using this
end Go.Proofs.YtflicfkgbjmffaaGreat.V
end
