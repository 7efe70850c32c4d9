import Derived.Test.YtflicfkgbjmffaaGreatM23
import Derived.Test.YtflicfkgbjmffaaGreatM14
import Derived.Test.YtflicfkgbjmffaaGreatM19
section
/- Fences between: tso is plain. One thread: coherent is plain. -/
namespace Go.Proofs.YtflicfkgbjmffaaGreat
open Go Go.Abs Go.Proofs
set_option linter.unusedSimpArgs false
set_option linter.unusedVariables false
inductive Way (M:Mat):Nat→Nat→Prop where
 | one {a b:Nat} (h:M a b = true):Way M a b
 | more {a b c:Nat} (h:M a b = true) (w:Way M b c):Way M a c
theorem Way.trans {M:Mat} {a b c:Nat} (h:Way M a b) (h2:Way M b c):Way M a c:=by
 induction h with
 | one h => exact .more h h2
 | more h _ ih => exact .more h (ih h2)
theorem Way.lt {M:Mat} (hM:∀ a b,M a b = true→a < b) {a b:Nat} (h:Way M a b):a < b:=by
 induction h with
 | one h => exact hM _ _ h
 | more h _ ih => exact Nat.lt_trans (hM _ _ h) ih
theorem Way.fst {M:Mat} {n:Nat} (hM:∀ a b,M a b = true→a < n∧b < n) {a b:Nat} (h:Way M a b):a < n:=by
 cases h with
 | one h => exact (hM _ _ h).1
 | more h _ => exact (hM _ _ h).1
end Go.Proofs.YtflicfkgbjmffaaGreat
end
section
/- Letters, digits, names. -/
namespace Go.Proofs.YtflicfkgbjmffaaGreat.V
open Go Go.Abs Go.Proofs
set_option linter.unusedSimpArgs false
def isDigit (c:Int):Bool:=decide (48 ≤ c) && decide (c ≤ 57)
def isLetter (c:Int):Bool:=decide (97 ≤ c) && decide (c ≤ 122) || decide (65 ≤ c) && decide (c ≤ 90) || decide (c = 95)
theorem digit_pure (c:Int):Pure Tryz.prog 67 [.sc (.int .u8 c)] (fun r => r = .sc (.bool (isDigit c))):=by
 refine Go.pureL lf67 rfl ?_
 repeat' (first|((with_reducible refine Go.red ?_);conv => whnf)|refine aG ?_|exact aC|with_reducible refine Go.and ?_ ?_|(apply Go.elem;(·exact aElem))|refine aH ?_|((with_reducible refine Go.bool ?_ ?_) <;> intro hc <;> (try simp only [List.length_map,ne_eq,hcs] at hc) <;> try (exfalso;omega)))
 all_goals simp [isDigit]
theorem letter_pure (c:Int):Pure Tryz.prog 69 [.sc (.int .u8 c)] (fun r => r = .sc (.bool (isLetter c))):=by
 refine Go.pureL lf69 rfl ?_
 repeat' (first|((with_reducible refine Go.red ?_);conv => whnf)|refine aG ?_|exact aC|with_reducible refine Go.and ?_ ?_|(apply Go.elem;(·exact aElem))|refine aH ?_|((with_reducible refine Go.bool ?_ ?_) <;> intro hc <;> (try simp only [List.length_map,ne_eq,hcs] at hc) <;> try (exfalso;omega)))
 all_goals simp [isLetter]
def isWord (s:ByteArray):Bool:=s == ⟨#[115,104,97,114,101,100]⟩ || s == ⟨#[108,111,99,107]⟩ || s == ⟨#[116,104,114,101,97,100]⟩ || s == ⟨#[108,111,99,97,108]⟩ || s == ⟨#[105,102]⟩ || s == ⟨#[101,108,115,101]⟩ || s == ⟨#[119,104,105,108,101]⟩ || s == ⟨#[112,114,105,110,116]⟩ || s == ⟨#[115,107,105,112]⟩ || s == ⟨#[115,119,97,112]⟩
theorem word_pure (s:ByteArray):Pure Tryz.prog 68 [.sc (.string s)] (fun r => r = .sc (.bool (isWord s))):=by
 refine Go.pureL lf68 rfl ?_
 repeat' (first|((with_reducible refine Go.red ?_);conv => whnf)|refine aG ?_|exact aC|with_reducible refine Go.and ?_ ?_|(apply Go.elem;(·exact aElem))|refine aH ?_|((with_reducible refine Go.bool ?_ ?_) <;> intro hc <;> (try simp only [List.length_map,ne_eq,hcs] at hc) <;> try (exfalso;omega)))
 all_goals simp_all [isWord]
end Go.Proofs.YtflicfkgbjmffaaGreat.V
/- Names. -/
namespace Go.Proofs.YtflicfkgbjmffaaGreat.V
open Go Go.Abs Go.Proofs
set_option linter.unusedSimpArgs false
def okChar (c:UInt8):Bool:=isLetter c.toNat || isDigit c.toNat
def isName (s:ByteArray):Bool:=!(s == ⟨#[]⟩) && !decide ((32:Int) < s.size) && !isDigit (s.data.toList.getD 0 0).toNat && !isWord s && s.data.toList.all okChar
theorem size_pos {s:ByteArray} (h:(s == ⟨#[]⟩) = false):0 < s.size:=by
 rcases Nat.eq_zero_or_pos s.size with h0|h0
 ·exfalso
  obtain ⟨a⟩:=s
  have:a = #[]:=Array.eq_empty_of_size_eq_zero h0
  subst this
  have:((⟨#[]⟩:ByteArray) == ⟨#[]⟩) = true:=rfl
  rw [this] at h;cases h
 ·exact h0
theorem all_getD {α:Type} {p:α→Bool} {l:List α} (d:α) (h:∀ j,j < l.length→p (l.getD j d) = true):l.all p = true:=by
 rw [List.all_eq_true]
 intro x hx
 obtain ⟨i,hi,rfl⟩:=List.mem_iff_getElem.1 hx
 have:=h i hi
 simpa [List.getD,hi] using this
theorem all_getD_false {α:Type} {p:α→Bool} {l:List α} (d:α) {j:Nat} (hj:j < l.length) (h:p (l.getD j d) = false):l.all p = false:=by
 rw [List.all_eq_false]
 refine ⟨l[j],List.getElem_mem hj,?_⟩
 simp [List.getD,hj] at h
 simp [h]
theorem name_pure (s:ByteArray) (hs:s.size ≤ 140737488351232):Pure Tryz.prog 44 [.sc (.string s)] (fun r => r = .sc (.bool (isName s))):=by
 refine Go.pureL lf44 rfl ?_
 repeat' (first|((with_reducible refine Go.red ?_);conv => whnf)|refine aG ?_|exact aC|with_reducible refine Go.and ?_ ?_|(apply Go.elem;(·exact aElem))|((with_reducible refine Go.callW (digit_pure _) ?_ ?_);(·exact aFit))|((with_reducible refine Go.callJ (fun _ => digit_pure _) ?_ ?_);(·exact aFit))|((with_reducible refine Go.callE (digit_pure _) ?_ ?_);(·exact aFit))|((with_reducible refine Go.callF (fun _ => digit_pure _) ?_ ?_);(·exact aFit))|((with_reducible refine Go.callW (letter_pure _) ?_ ?_);(·exact aFit))|((with_reducible refine Go.callJ (fun _ => letter_pure _) ?_ ?_);(·exact aFit))|((with_reducible refine Go.callE (letter_pure _) ?_ ?_);(·exact aFit))|((with_reducible refine Go.callF (fun _ => letter_pure _) ?_ ?_);(·exact aFit))|((with_reducible refine Go.callW (word_pure _) ?_ ?_);(·exact aFit))|((with_reducible refine Go.callJ (fun _ => word_pure _) ?_ ?_);(·exact aFit))|((with_reducible refine Go.callE (word_pure _) ?_ ?_);(·exact aFit))|((with_reducible refine Go.callF (fun _ => word_pure _) ?_ ?_);(·exact aFit))|refine aH ?_|((with_reducible refine Go.bool ?_ ?_) <;> intro hc <;> (try simp only [List.length_map,ne_eq,hcs] at hc) <;> try (exfalso;omega)))
 ·refine ⟨fun h => ?_⟩
  simp only [List.length_map,ne_eq,hcs] at h
  have:=size_pos h.1
  omega
 ·congr 2
  simp only [isName]
  grind
 ·refine Go.loop (fun i:Nat => [(22,.sc (.int .i64 i)),(21,.sc (.int .i64 s.size)),(0,.sc (.string s))]) (fun i _ _ => i ≤ s.size∧∀ j,j < i→okChar (s.data.toList.getD j 0) = true) (fun i => s.size - i) 0 ⟨rfl,rfl,rfl,trivial⟩ ⟨Nat.zero_le _,fun j hj => by omega⟩ ?_
  intro i H nx ⟨hi,hok⟩
  repeat' (first|((with_reducible refine Go.red ?_);conv => whnf)|refine aG ?_|exact aC|with_reducible refine Go.and ?_ ?_|(apply Go.elem;(·exact aElem))|((with_reducible refine Go.callW (digit_pure _) ?_ ?_);(·exact aFit))|((with_reducible refine Go.callJ (fun _ => digit_pure _) ?_ ?_);(·exact aFit))|((with_reducible refine Go.callE (digit_pure _) ?_ ?_);(·exact aFit))|((with_reducible refine Go.callF (fun _ => digit_pure _) ?_ ?_);(·exact aFit))|((with_reducible refine Go.callW (letter_pure _) ?_ ?_);(·exact aFit))|((with_reducible refine Go.callJ (fun _ => letter_pure _) ?_ ?_);(·exact aFit))|((with_reducible refine Go.callE (letter_pure _) ?_ ?_);(·exact aFit))|((with_reducible refine Go.callF (fun _ => letter_pure _) ?_ ?_);(·exact aFit))|((with_reducible refine Go.callW (word_pure _) ?_ ?_);(·exact aFit))|((with_reducible refine Go.callJ (fun _ => word_pure _) ?_ ?_);(·exact aFit))|((with_reducible refine Go.callE (word_pure _) ?_ ?_);(·exact aFit))|((with_reducible refine Go.callF (fun _ => word_pure _) ?_ ?_);(·exact aFit))|refine aH ?_|((with_reducible refine Go.bool ?_ ?_) <;> intro hc <;> (try simp only [List.length_map,ne_eq,hcs] at hc) <;> try (exfalso;omega)))
  ·congr 2
   have h1:s.data.toList.all okChar = false:=all_getD_false 0 (j:=i) (by simp;omega) (by simpa [okChar] using hc)
   simp [isName,h1]
  ·refine ⟨i + 1,by omega,aLess,by omega,fun j hj => ?_⟩
   by_cases h:j = i
   ·subst h;simp only [okChar];grind
   ·exact hok j (by omega)
  ·congr 2
   have h1:s.data.toList.all okChar = true:=all_getD 0 fun j hj => hok j (by simp at hj;omega)
   simp only [isName,h1]
   grind
end Go.Proofs.YtflicfkgbjmffaaGreat.V
/- The types of the machine's programs as plain data. -/
namespace Go.Proofs.YtflicfkgbjmffaaGreat.V
open Go Go.Abs Go.Proofs
set_option linter.unusedSimpArgs false
abbrev i64 (n:Int):AV:=.sc (.int .i64 n)
abbrev u8 (n:Int):AV:=.sc (.int .u8 n)
abbrev bl (b:Bool):AV:=.sc (.bool b)
structure Instr where
 kind:Int
 op:Int
 d:Int
 a:Int
 b:Int
 addr:Int
 to:Int
 word:Int
 fr:Int
 deriving Inhabited
def Instr.cells (i:Instr):List AV:=[u8 i.kind,u8 i.op,i64 i.d,i64 i.a,i64 i.b,i64 i.addr,i64 i.to,i64 i.word,i64 i.fr]
abbrev Instr.av (i:Instr):AV:=.agg i.cells
@[simp] theorem fit_instr (n:Nat) (i:Instr):fitL n i.cells:=by simp [Instr.cells,fitL,fitA]
def wf64 (n:Int):Prop:=-9223372036854775808 ≤ n∧n < 9223372036854775808
structure Instr.Wf (i:Instr):Prop where
 kind:0 ≤ i.kind∧i.kind < 256
 op:0 ≤ i.op∧i.op < 256
 d:wf64 i.d
 a:wf64 i.a
 b:wf64 i.b
 addr:wf64 i.addr
 to:wf64 i.to
 word:wf64 i.word
 fr:wf64 i.fr
structure Core where
 name:ByteArray
 code:List Instr
 deriving Inhabited
def Core.cells (c:Core):List AV:=[.sc (.string c.name),.im 9 .any (c.code.map Instr.av)]
@[simp] theorem fit_core (n:Nat) (c:Core):fitL n c.cells:=by simp [Core.cells,fitL,fitA,fitL_map]
abbrev Core.av (c:Core):AV:=.agg c.cells
structure Core.Wf (c:Core):Prop where
 name:c.name.size ≤ 140737488351232
 code:∀ i ∈ c.code,i.Wf
 len:c.code.length * 64 ≤ 140737488351232
structure Obj where
 mem:List Int
 shared:Int
 locks:Int
 buffer:Int
 cores:List Core
 deriving Inhabited
def Obj.cells (o:Obj):List AV:=[.im 1 .any (o.mem.map i64),i64 o.shared,i64 o.locks,i64 o.buffer,.im 2 .any (o.cores.map Core.av)]
@[simp] theorem fit_obj (n:Nat) (o:Obj):fitL n o.cells:=by simp [Obj.cells,fitL,fitA,fitL_map]
abbrev Obj.av (o:Obj):AV:=.agg o.cells
structure Obj.Wf (o:Obj):Prop where
 mem:∀ x ∈ o.mem,wf64 x
 memlen:o.mem.length * 8 ≤ 140737488351232
 shared:wf64 o.shared
 locks:wf64 o.locks
 buffer:wf64 o.buffer
 cores:∀ c ∈ o.cores,c.Wf
 corelen:o.cores.length * 40 ≤ 140737488351232
theorem run_pure2 {f:FuncId} {args:List AV} {u:AV} (hu:fitA 0 u) (h:(xcall TT 30 f args [] 0).map (fun q => frz q.2.1 6 q.1) = some u):Pure Tryz.prog f args (fun r => r = u):=by
 simp only [Option.map_eq_some_iff] at h
 obtain ⟨⟨r,H',nx'⟩,h1,h2⟩:=h
 simp only at h2
 have h0:=xcall_spec hTT 30 _ _ _ _ _ _ _ h1
 have h3:=CallN.pure (H':=H') (h0.mono fun r H n ⟨h1,h2,_⟩ => ⟨h1,h2⟩) (by rw [h2];exact hu)
 exact h3.mono fun r hr => by rw [hr,h2]
def two (op:Int):Bool:=decide (0 < op) && decide (op < 19) && decide (op ≠ 17) && decide (op ≠ 18)
theorem known_pure (c:Int):Pure Tryz.prog 86 [.sc (.int .u8 c)] (fun r => r = .sc (.bool (decide (0 < c) && decide (c < 19)))):=by
 refine Go.pureL lf86 rfl ?_
 repeat' (first|((with_reducible refine Go.red ?_);conv => whnf)|refine aG ?_|exact aC|with_reducible refine Go.and ?_ ?_|(apply Go.elem;(·exact aElem))|refine aH ?_|((with_reducible refine Go.bool ?_ ?_) <;> intro hc <;> (try simp only [List.length_map,ne_eq,hcs] at hc) <;> try (exfalso;omega)))
 all_goals simp
theorem two_pure (c:Int):Pure Tryz.prog 72 [.sc (.int .u8 c)] (fun r => r = .sc (.bool (two c))):=by
 refine Go.pureL lf72 rfl ?_
 repeat' (first|((with_reducible refine Go.red ?_);conv => whnf)|refine aG ?_|exact aC|with_reducible refine Go.and ?_ ?_|(apply Go.elem;(·exact aElem))|((with_reducible refine Go.callW (known_pure _) ?_ ?_);(·exact aFit))|((with_reducible refine Go.callJ (fun _ => known_pure _) ?_ ?_);(·exact aFit))|((with_reducible refine Go.callE (known_pure _) ?_ ?_);(·exact aFit))|((with_reducible refine Go.callF (fun _ => known_pure _) ?_ ?_);(·exact aFit))|refine aH ?_|((with_reducible refine Go.bool ?_ ?_) <;> intro hc <;> (try simp only [List.length_map,ne_eq,hcs] at hc) <;> try (exfalso;omega)))
 all_goals simp [two,Bool.and_assoc]
def mask (k op:Int):Int:=if k = 1 then 66 else if k = 2 then (if two op then 15 else 7) else if k = 3 then 18 else if k = 4 then 20 else if k = 5 then 18 else if k = 7 then 4 else if k = 8 then 32 else if k = 9 then 36 else 0
set_option maxRecDepth 100000 in
theorem forms_other (k:Int) (h0:0 ≤ k) (h1:k < 256) (hk:k = 0 ∨ 10 < k):Pure Tryz.prog 71 [.sc (.int .u8 k)] (fun r => r = .tup [.agg [.sc (.string ⟨#[]⟩),u8 0,u8 0,u8 0,u8 0],.sc (.bool false)]):=by
 refine Go.pureL lf71 rfl ?_
 repeat' (first|((with_reducible refine Go.red ?_);conv => whnf)|refine aG ?_|exact aC|with_reducible refine Go.and ?_ ?_|(apply Go.elem;(·exact aElem))|refine aH ?_|((with_reducible refine Go.bool ?_ ?_) <;> intro hc <;> (try simp only [List.length_map,ne_eq,hcs] at hc) <;> try (exfalso;omega)))
 all_goals kernel_rfl
theorem forms2:Pure Tryz.prog 71 [.sc (.int .u8 2)] (fun r => r = .tup [.agg [.sc (.string ⟨#[]⟩),u8 1,u8 2,u8 4,u8 8],.sc (.bool true)]):=run_pure2 (by simp [fitA,fitL]) (by kernel_rfl)
set_option maxRecDepth 100000 in
theorem used_pure (i:Instr) (hi:i.Wf):Pure Tryz.prog 46 [i.av] (fun r => r = .tup [u8 (mask i.kind i.op),.sc (.bool (decide (1 ≤ i.kind) && decide (i.kind ≤ 10)))]):=by
 obtain ⟨h0,h1⟩:=hi.kind
 obtain ⟨kind,op,d,a,b,addr,to,word,fr⟩:=i
 simp only at h0 h1
 have hk:kind = 1 ∨ kind = 2 ∨ kind = 3 ∨ kind = 4 ∨ kind = 5 ∨ kind = 6 ∨ kind = 7 ∨ kind = 8 ∨ kind = 9 ∨ kind = 10 ∨ (kind = 0 ∨ 10 < kind):=by omega
 rcases hk with rfl|rfl|rfl|rfl|rfl|rfl|rfl|rfl|rfl|rfl|hk
 ·exact run_pure2 (by simp [fitA,fitL]) (by kernel_rfl)
 ·refine Go.pureL lf46 rfl ?_
  repeat' (first|((with_reducible refine Go.red ?_);conv => whnf)|refine aG ?_|exact aC|with_reducible refine Go.and ?_ ?_|(apply Go.elem;(·exact aElem))|refine aK (forms2) ?_|refine aH ?_|((with_reducible refine Go.bool ?_ ?_) <;> intro hc <;> (try simp only [List.length_map,ne_eq,hcs] at hc) <;> try (exfalso;omega)))
  refine Go.head ?_
  repeat' (first|((with_reducible refine Go.red ?_);conv => whnf)|refine aG ?_|exact aC|with_reducible refine Go.and ?_ ?_|(apply Go.elem;(·exact aElem))|((with_reducible refine Go.callW (two_pure _) ?_ ?_);(·exact aFit))|((with_reducible refine Go.callJ (fun _ => two_pure _) ?_ ?_);(·exact aFit))|((with_reducible refine Go.callE (two_pure _) ?_ ?_);(·exact aFit))|((with_reducible refine Go.callF (fun _ => two_pure _) ?_ ?_);(·exact aFit))|refine aH ?_|((with_reducible refine Go.bool ?_ ?_) <;> intro hc <;> (try simp only [List.length_map,ne_eq,hcs] at hc) <;> try (exfalso;omega)))
  ·simp at hc
   simp only [show mask 2 op = 7 by simp [mask,hc]]
   kernel_rfl
  ·simp at hc
   simp only [show mask 2 op = 15 by simp [mask,hc]]
   kernel_rfl
 iterate 8 exact run_pure2 (by simp [fitA,fitL]) (by kernel_rfl)
 have hm:mask kind op = 0:=by
  unfold mask
  repeat rw [if_neg (by omega)]
 have hB:(decide (1 ≤ kind) && decide (kind ≤ 10)) = false:=by
  rcases hk with rfl|hk
  ·rfl
  ·rw [decide_eq_false (p:=kind ≤ 10) (by omega)];simp
 simp only [hm,hB]
 refine Go.pureL lf46 rfl ?_
 repeat' (first|((with_reducible refine Go.red ?_);conv => whnf)|refine aG ?_|exact aC|with_reducible refine Go.and ?_ ?_|(apply Go.elem;(·exact aElem))|((with_reducible refine Go.callW (forms_other kind (by omega) (by omega) hk) ?_ ?_);(·exact aFit))|((with_reducible refine Go.callJ (fun _ => forms_other kind (by omega) (by omega) hk) ?_ ?_);(·exact aFit))|((with_reducible refine Go.callE (forms_other kind (by omega) (by omega) hk) ?_ ?_);(·exact aFit))|((with_reducible refine Go.callF (fun _ => forms_other kind (by omega) (by omega) hk) ?_ ?_);(·exact aFit))|refine aH ?_|((with_reducible refine Go.bool ?_ ?_) <;> intro hc <;> (try simp only [List.length_map,ne_eq,hcs] at hc) <;> try (exfalso;omega)))
 refine Go.head ?_
 repeat' (first|((with_reducible refine Go.red ?_);conv => whnf)|refine aG ?_|exact aC|with_reducible refine Go.and ?_ ?_|(apply Go.elem;(·exact aElem))|((with_reducible refine Go.callW (two_pure _) ?_ ?_);(·exact aFit))|((with_reducible refine Go.callJ (fun _ => two_pure _) ?_ ?_);(·exact aFit))|((with_reducible refine Go.callE (two_pure _) ?_ ?_);(·exact aFit))|((with_reducible refine Go.callF (fun _ => two_pure _) ?_ ?_);(·exact aFit))|refine aH ?_|((with_reducible refine Go.bool ?_ ?_) <;> intro hc <;> (try simp only [List.length_map,ne_eq,hcs] at hc) <;> try (exfalso;omega)))
 kernel_rfl
def bitOf (m u:Int):Int:=IntKind.u8.wrap (BitVec.ofInt IntKind.u8.bits m &&& BitVec.ofInt IntKind.u8.bits u).toNat
def within (u:Bool) (n most:Int):Bool:=!u && decide (n = 0) || u && decide (0 ≤ n) && decide (n < most)
theorem within_call (n u most m:Int) (b:Nat) (H:Hp) (nx:Nat) (e:TypeId) (d:AV) (hb:getH H b = some (.row e 1 d [u8 m])):Look Tryz.prog 47 [i64 n,u8 u,i64 most,.pt b 1 0 0] H nx (.sc (.bool (within (decide (bitOf m u ≠ 0)) n most))):=by
 refine Go.lookAtL lf47 rfl ?_
 repeat' (first|((with_reducible refine Go.red ?_);conv => whnf)|refine aG ?_|exact aC|with_reducible refine Go.and ?_ ?_|(apply Go.elem;(·exact aElem))|refine aH ?_|((with_reducible refine Go.bool ?_ ?_) <;> intro hc <;> (try simp only [List.length_map,ne_eq,hcs] at hc) <;> try (exfalso;omega)))
 refine ResN.look ?_ aKeep
 simp only [show IntKind.u8.wrap (BitVec.ofInt IntKind.u8.bits m &&& BitVec.ofInt IntKind.u8.bits u).toNat = bitOf m u from rfl,within]
 by_cases h1:bitOf m u = 0 <;> by_cases h2:n = 0 <;> by_cases h3:0 ≤ n <;> by_cases h4:n < most <;> simp [h1,h2,h3,h4]
def opStrs:List ByteArray:=[⟨#[]⟩,⟨#[97,100,100]⟩,⟨#[115,117,98]⟩,⟨#[109,117,108]⟩,⟨#[100,105,118]⟩,⟨#[114,101,109]⟩,⟨#[97,110,100]⟩,⟨#[111,114]⟩,⟨#[120,111,114]⟩,⟨#[115,104,108]⟩,⟨#[115,104,114]⟩,⟨#[105,115]⟩,⟨#[105,115,110,111,116]⟩,⟨#[108,101,115,115]⟩,⟨#[109,111,115,116]⟩,⟨#[97,98,111,118,101]⟩,⟨#[108,101,97,115,116]⟩,⟨#[109,105,110,117,115]⟩,⟨#[110,111,116]⟩]
def opStr (op:Int):ByteArray:=opStrs.getD op.toNat ⟨#[]⟩
theorem opStr_none (op:Int) (h0:0 ≤ op):(opStr op == ⟨#[]⟩) = !(decide (1 ≤ op) && decide (op ≤ 18)):=by
 have hk:op = 0 ∨ op = 1 ∨ op = 2 ∨ op = 3 ∨ op = 4 ∨ op = 5 ∨ op = 6 ∨ op = 7 ∨ op = 8 ∨ op = 9 ∨ op = 10 ∨ op = 11 ∨ op = 12 ∨ op = 13 ∨ op = 14 ∨ op = 15 ∨ op = 16 ∨ op = 17 ∨ op = 18 ∨ 18 < op:=by omega
 rcases hk with rfl|rfl|rfl|rfl|rfl|rfl|rfl|rfl|rfl|rfl|rfl|rfl|rfl|rfl|rfl|rfl|rfl|rfl|rfl|hk
 iterate 19 rfl
 have:opStr op = ⟨#[]⟩:=by
  unfold opStr
  rw [List.getD,List.getElem?_eq_none (by simp [opStrs];omega)]
  rfl
 rw [this,decide_eq_false (p:=op ≤ 18) (by omega)]
 simp
 rfl
theorem operator_pure (op:Int) (h0:0 ≤ op) (h1:op < 256):Pure Tryz.prog 48 [.sc (.int .u8 op)] (fun r => r = .sc (.string (opStr op))):=by
 have hk:op = 0 ∨ op = 1 ∨ op = 2 ∨ op = 3 ∨ op = 4 ∨ op = 5 ∨ op = 6 ∨ op = 7 ∨ op = 8 ∨ op = 9 ∨ op = 10 ∨ op = 11 ∨ op = 12 ∨ op = 13 ∨ op = 14 ∨ op = 15 ∨ op = 16 ∨ op = 17 ∨ op = 18 ∨ 18 < op:=by omega
 rcases hk with rfl|rfl|rfl|rfl|rfl|rfl|rfl|rfl|rfl|rfl|rfl|rfl|rfl|rfl|rfl|rfl|rfl|rfl|rfl|hk
 iterate 19 exact run_pure2 (by simp [fitA]) (by kernel_rfl)
 have:opStr op = ⟨#[]⟩:=by
  unfold opStr
  rw [List.getD,List.getElem?_eq_none (by simp [opStrs];omega)]
  rfl
 rw [this]
 refine Go.pureL lf48 rfl ?_
 repeat' (first|((with_reducible refine Go.red ?_);conv => whnf)|refine aG ?_|exact aC|with_reducible refine Go.and ?_ ?_|(apply Go.elem;(·exact aElem))|refine aH ?_|((with_reducible refine Go.bool ?_ ?_) <;> intro hc <;> (try simp only [List.length_map,ne_eq,hcs] at hc) <;> try (exfalso;omega)))
 all_goals kernel_rfl
def kindOk (k:Int):Bool:=decide (1 ≤ k) && decide (k ≤ 10)
def instrOk (i:Instr) (code mem:Int):Bool :=
 kindOk i.kind && decide (0 ≤ i.fr) && decide (i.fr ≤ 4096) && (bif decide (i.kind = 2) then decide (1 ≤ i.op) && decide (i.op ≤ 18) else decide (i.op = 0)) &&
 within (decide (bitOf (mask i.kind i.op) 2 ≠ 0)) i.d 16 && within (decide (bitOf (mask i.kind i.op) 4 ≠ 0)) i.a 16 && within (decide (bitOf (mask i.kind i.op) 8 ≠ 0)) i.b 16 &&
 within (decide (bitOf (mask i.kind i.op) 16 ≠ 0)) i.addr mem && within (decide (bitOf (mask i.kind i.op) 32 ≠ 0)) i.to code && (decide (i.kind = 1) || decide (i.word = 0))
theorem bitOf_eq (m u:Int):IntKind.u8.wrap (BitVec.ofInt IntKind.u8.bits m &&& BitVec.ofInt IntKind.u8.bits u).toNat = bitOf m u:=rfl
theorem mask_bits (k op:Int) (h:1 ≤ k∧k ≤ 10):(bitOf (mask k op) 1 = 0 ↔ ¬ k = 2)∧(bitOf (mask k op) 64 = 0 ↔ ¬ k = 1):=by
 have hk:k = 1 ∨ k = 2 ∨ k = 3 ∨ k = 4 ∨ k = 5 ∨ k = 6 ∨ k = 7 ∨ k = 8 ∨ k = 9 ∨ k = 10:=by omega
 rcases hk with rfl|rfl|rfl|rfl|rfl|rfl|rfl|rfl|rfl|rfl
 ·exact (show (bitOf 66 1 = 0 ↔ ¬ (1:Int) = 2)∧(bitOf 66 64 = 0 ↔ ¬ (1:Int) = 1) by decide)
 ·cases ht:two op with
  | false => rw [show mask 2 op = 7 by simp [mask,ht]];exact (show (bitOf 7 1 = 0 ↔ ¬ (2:Int) = 2)∧(bitOf 7 64 = 0 ↔ ¬ (2:Int) = 1) by decide)
  | true => rw [show mask 2 op = 15 by simp [mask,ht]];exact (show (bitOf 15 1 = 0 ↔ ¬ (2:Int) = 2)∧(bitOf 15 64 = 0 ↔ ¬ (2:Int) = 1) by decide)
 ·exact (show (bitOf 18 1 = 0 ↔ ¬ (3:Int) = 2)∧(bitOf 18 64 = 0 ↔ ¬ (3:Int) = 1) by decide)
 ·exact (show (bitOf 20 1 = 0 ↔ ¬ (4:Int) = 2)∧(bitOf 20 64 = 0 ↔ ¬ (4:Int) = 1) by decide)
 ·exact (show (bitOf 18 1 = 0 ↔ ¬ (5:Int) = 2)∧(bitOf 18 64 = 0 ↔ ¬ (5:Int) = 1) by decide)
 ·exact (show (bitOf 0 1 = 0 ↔ ¬ (6:Int) = 2)∧(bitOf 0 64 = 0 ↔ ¬ (6:Int) = 1) by decide)
 ·exact (show (bitOf 4 1 = 0 ↔ ¬ (7:Int) = 2)∧(bitOf 4 64 = 0 ↔ ¬ (7:Int) = 1) by decide)
 ·exact (show (bitOf 32 1 = 0 ↔ ¬ (8:Int) = 2)∧(bitOf 32 64 = 0 ↔ ¬ (8:Int) = 1) by decide)
 ·exact (show (bitOf 36 1 = 0 ↔ ¬ (9:Int) = 2)∧(bitOf 36 64 = 0 ↔ ¬ (9:Int) = 1) by decide)
 ·exact (show (bitOf 0 1 = 0 ↔ ¬ (10:Int) = 2)∧(bitOf 0 64 = 0 ↔ ¬ (10:Int) = 1) by decide)
theorem Right_pure (i:Instr) (hi:i.Wf) (code mem:Int):Pure Tryz.prog 24 [i.av,i64 code,i64 mem] (fun r => r = bl (instrOk i code mem)):=by
 refine Go.pureL lf24 rfl ?_
 repeat' (first|((with_reducible refine Go.red ?_);conv => whnf)|refine aG ?_|exact aC|with_reducible refine Go.and ?_ ?_|(apply Go.elem;(·exact aElem))|refine aK (used_pure i hi) ?_|((with_reducible refine Go.callW (operator_pure _ hi.op.1 hi.op.2) ?_ ?_);(·exact aFit))|((with_reducible refine Go.callJ (fun _ => operator_pure _ hi.op.1 hi.op.2) ?_ ?_);(·exact aFit))|((with_reducible refine Go.callE (operator_pure _ hi.op.1 hi.op.2) ?_ ?_);(·exact aFit))|((with_reducible refine Go.callF (fun _ => operator_pure _ hi.op.1 hi.op.2) ?_ ?_);(·exact aFit))|((refine Go.lookW (within_call _ _ _ _ _ _ _ _ _ (by exact rfl)) ?_ ?_);(·exact True.intro))|((refine Go.lookJ (fun _ => within_call _ _ _ _ _ _ _ _ _ (by exact rfl)) ?_ ?_);(·exact True.intro))|refine aH ?_|((with_reducible refine Go.bool ?_ ?_) <;> intro hc <;> (try simp only [List.length_map,ne_eq,hcs] at hc) <;> try (exfalso;omega)))
 ·congr 2
  simp only [instrOk,kindOk]
  grind
 ·congr 2
  obtain ⟨hc1,hc2⟩:=hc
  have hk:1 ≤ i.kind∧i.kind ≤ 10:=by omega
  obtain ⟨e1,e2⟩:=mask_bits i.kind i.op hk
  have h3:0 ≤ i.fr:=by omega
  have h0:=hi.op.1
  simp only [bitOf_eq,e1,e2,ne_eq,Decidable.not_not,bne,opStr_none _ h0,Bool.not_not]
  simp only [instrOk,kindOk,hk.1,hk.2,h3,hc2,decide_true,Bool.true_and,ne_eq,Bool.if_true_left,Bool.if_false_right,Bool.decide_eq_true]
  by_cases hk2:i.kind = 2 <;> by_cases hk1:i.kind = 1 <;> simp [hk1,hk2,Bool.and_assoc]
end Go.Proofs.YtflicfkgbjmffaaGreat.V
end
