import Derived.Test.YtlonbgdonffcbaaGreatDoorM14
import Derived.Test.YtlonbgdonffcbaaGreatDoorM20
import Derived.Test.YtlonbgdonffcbaaGreatDoorM16
import Derived.Test.YtlonbgdonffcbaaGreatDoorRows
import Derived.Test.YtlonbgdonffcbaaGreatDoorTie
import Derived.Test.YtlonbgdonffcbaaGreatDoorCards
import Derived.LaidMore
import Derived.OpenShut
import Derived.SevenTiedAt
section
/- Letters, digits, names. -/
namespace Go.Proofs.YtlonbgdonffcbaaGreatDoor
open Go Go.cY Go.Proofs
set_option linter.unusedSimpArgs false
def isDigit (c:Int):Bool:=decide (48≤c)&&decide (c≤57)
def qi (c:Int):Bool:=decide (97≤c)&&decide (c≤122)||decide (65≤c)&&decide (c≤90)||decide (c=95)
theorem fK (c:Int):Pure Tryz.prog 103 [.sc (.int .u8 c)] (fun r=>r= .sc (.bool (isDigit c))):=by
 refine aI ve rfl ?_
 repeat' (first|((with_reducible refine aF ?_);conv=>whnf)|refine aG ?_|exact aC|with_reducible refine aD ?_ ?_|(apply aA;(·exact cF))|refine aH ?_|((with_reducible refine aB ?_ ?_)<;>intro hc<;>(try simp only[List.length_map,ne_eq,dW] at hc)<;>try(exfalso;omega)))
 all_goals simp[isDigit]
theorem ee (c:Int):Pure Tryz.prog 105 [.sc (.int .u8 c)] (fun r=>r= .sc (.bool (qi c))):=by
 refine aI vh rfl ?_
 repeat' (first|((with_reducible refine aF ?_);conv=>whnf)|refine aG ?_|exact aC|with_reducible refine aD ?_ ?_|(apply aA;(·exact cF))|refine aH ?_|((with_reducible refine aB ?_ ?_)<;>intro hc<;>(try simp only[List.length_map,ne_eq,dW] at hc)<;>try(exfalso;omega)))
 all_goals simp[qi]
def isWord (s:ByteArray):Bool:=s==⟨#[115,104,97,114,101,100]⟩||s==⟨#[108,111,99,107]⟩||s==⟨#[116,104,114,101,97,100]⟩||s==⟨#[108,111,99,97,108]⟩||s==⟨#[105,102]⟩||s==⟨#[101,108,115,101]⟩||s==⟨#[119,104,105,108,101]⟩||s==⟨#[112,114,105,110,116]⟩||s==⟨#[115,107,105,112]⟩||s==⟨#[115,119,97,112]⟩
theorem fw (s:ByteArray):Pure Tryz.prog 104 [.sc (.string s)] (fun r=>r= .sc (.bool (isWord s))):=by
 refine aI vg rfl ?_
 repeat' (first|((with_reducible refine aF ?_);conv=>whnf)|refine aG ?_|exact aC|with_reducible refine aD ?_ ?_|(apply aA;(·exact cF))|refine aH ?_|((with_reducible refine aB ?_ ?_)<;>intro hc<;>(try simp only[List.length_map,ne_eq,dW] at hc)<;>try(exfalso;omega)))
 all_goals simp_all[isWord]
end Go.Proofs.YtlonbgdonffcbaaGreatDoor
/- Names. -/
namespace Go.Proofs.YtlonbgdonffcbaaGreatDoor
open Go Go.cY Go.Proofs
set_option linter.unusedSimpArgs false
def oS (c:UInt8):Bool:=qi c.toNat||isDigit c.toNat
def isName (s:ByteArray):Bool:= !(s==⟨#[]⟩)&& !decide ((32:Int)<s.size)&& !isDigit (s.data.toList.getD 0 0).toNat&& !isWord s&&s.data.toList.all oS
theorem size_pos {s:ByteArray} (h:(s==⟨#[]⟩)=false):0<s.size:=by
 rcases Nat.eq_zero_or_pos s.size with h0|h0
 ·exfalso
  obtain⟨a⟩:=s
  have:a=#[]:=Array.eq_empty_of_size_eq_zero h0
  subst this
  have:((⟨#[]⟩:ByteArray)==⟨#[]⟩)=true:=rfl
  rw[this] at h;cases h
 ·exact h0
theorem DD {α:Type} {p:α→Bool} {l:List α} (d:α) (h:∀j,j<l.length→p (l.getD j d)=true):l.all p=true:=by
 rw[List.all_eq_true]
 intro x hx
 obtain⟨i,hi,rfl⟩:=List.mem_iff_getElem.1 hx
 have:=h i hi
 simpa[List.getD,hi] using this
theorem qA {α:Type} {p:α→Bool} {l:List α} (d:α) {j:Nat} (hj:j<l.length) (h:p (l.getD j d)=false):l.all p=false:=by
 rw[List.all_eq_false]
 refine⟨l[j],List.getElem_mem hj, ?_⟩
 simp[List.getD,hj] at h
 simp[h]
theorem l8 (s:ByteArray) (hs:s.size≤140737488351232):Pure Tryz.prog 73 [.sc (.string s)] (fun r=>r= .sc (.bool (isName s))):=by
 refine aI GI rfl ?_
 repeat' (first|((with_reducible refine aF ?_);conv=>whnf)|refine aG ?_|exact aC|with_reducible refine aD ?_ ?_|(apply aA;(·exact cF))|((with_reducible refine aN (fK _) ?_ ?_);(·exact bn))|((with_reducible refine aM (fun _=>fK _) ?_ ?_);(·exact bn))|((with_reducible refine aJ (fK _) ?_ ?_);(·exact bn))|((with_reducible refine aL (fun _=>fK _) ?_ ?_);(·exact bn))|((with_reducible refine aN (ee _) ?_ ?_);(·exact bn))|((with_reducible refine aM (fun _=>ee _) ?_ ?_);(·exact bn))|((with_reducible refine aJ (ee _) ?_ ?_);(·exact bn))|((with_reducible refine aL (fun _=>ee _) ?_ ?_);(·exact bn))|((with_reducible refine aN (fw _) ?_ ?_);(·exact bn))|((with_reducible refine aM (fun _=>fw _) ?_ ?_);(·exact bn))|((with_reducible refine aJ (fw _) ?_ ?_);(·exact bn))|((with_reducible refine aL (fun _=>fw _) ?_ ?_);(·exact bn))|refine aH ?_|((with_reducible refine aB ?_ ?_)<;>intro hc<;>(try simp only[List.length_map,ne_eq,dW] at hc)<;>try(exfalso;omega)))
 ·refine⟨fun h=> ?_⟩
  simp only[List.length_map,ne_eq,dW] at h
  have:=size_pos h.1
  omega
 ·congr 2
  simp only[isName]
  grind
 ·refine aT (fun i:Nat=>[(22, .sc (.int .i64 i)),(21, .sc (.int .i64 s.size)),(0, .sc (.string s))]) (fun i _ _=>i≤s.size∧∀j,j<i→oS (s.data.toList.getD j 0)=true) (fun i=>s.size - i) 0 ⟨rfl,rfl,rfl,trivial⟩ ⟨Nat.zero_le _,fun j hj=>by omega⟩ ?_
  intro i H nx ⟨hi,hok⟩
  repeat' (first|((with_reducible refine aF ?_);conv=>whnf)|refine aG ?_|exact aC|with_reducible refine aD ?_ ?_|(apply aA;(·exact cF))|((with_reducible refine aN (fK _) ?_ ?_);(·exact bn))|((with_reducible refine aM (fun _=>fK _) ?_ ?_);(·exact bn))|((with_reducible refine aJ (fK _) ?_ ?_);(·exact bn))|((with_reducible refine aL (fun _=>fK _) ?_ ?_);(·exact bn))|((with_reducible refine aN (ee _) ?_ ?_);(·exact bn))|((with_reducible refine aM (fun _=>ee _) ?_ ?_);(·exact bn))|((with_reducible refine aJ (ee _) ?_ ?_);(·exact bn))|((with_reducible refine aL (fun _=>ee _) ?_ ?_);(·exact bn))|((with_reducible refine aN (fw _) ?_ ?_);(·exact bn))|((with_reducible refine aM (fun _=>fw _) ?_ ?_);(·exact bn))|((with_reducible refine aJ (fw _) ?_ ?_);(·exact bn))|((with_reducible refine aL (fun _=>fw _) ?_ ?_);(·exact bn))|refine aH ?_|((with_reducible refine aB ?_ ?_)<;>intro hc<;>(try simp only[List.length_map,ne_eq,dW] at hc)<;>try(exfalso;omega)))
  ·congr 2
   have h1:s.data.toList.all oS=false:=qA 0 (j:=i) (by simp;omega) (by simpa[oS] using hc)
   simp[isName,h1]
  ·refine⟨i+1,by omega,cG,by omega,fun j hj=> ?_⟩
   by_cases h:j=i
   ·subst h;simp only[oS];grind
   ·exact hok j (by omega)
  ·congr 2
   have h1:s.data.toList.all oS=true:=DD 0 fun j hj=>hok j (by simp at hj;omega)
   simp only[isName,h1]
   grind
end Go.Proofs.YtlonbgdonffcbaaGreatDoor
/- The types of the machine's programs as plain data. -/
namespace Go.Proofs.YtlonbgdonffcbaaGreatDoor
open Go Go.cY Go.Proofs
set_option linter.unusedSimpArgs false
abbrev i64 (n:Int):AV:= .sc (.int .i64 n)
abbrev u8 (n:Int):AV:= .sc (.int .u8 n)
abbrev bl (b:Bool):AV:= .sc (.bool b)
structure Instr where
 kind:Int
 op:Int
 d:Int
 a:Int
 b:Int
 addr:Int
 to:Int
 word:Int
 fr:Int
 deriving Inhabited
def Instr.cells (i:Instr):List AV:=[u8 i.kind,u8 i.op,i64 i.d,i64 i.a,i64 i.b,i64 i.addr,i64 i.to,i64 i.word,i64 i.fr]
abbrev Instr.av (i:Instr):AV:= .agg i.cells
@[simp] theorem N6 (n:Nat) (i:Instr):cJ n i.cells:=by simp[Instr.cells,cJ,cB]
def dE (n:Int):Prop:=-9223372036854775808≤n∧n<9223372036854775808
structure Instr.Wf (i:Instr):Prop where
 kind:0≤i.kind∧i.kind<256
 op:0≤i.op∧i.op<256
 d:dE i.d
 a:dE i.a
 b:dE i.b
 addr:dE i.addr
 to:dE i.to
 word:dE i.word
 fr:dE i.fr
structure Core where
 name:ByteArray
 code:List Instr
 deriving Inhabited
def Core.cells (c:Core):List AV:=[.sc (.string c.name), .im 9 .any (c.code.map Instr.av)]
@[simp] theorem OT (n:Nat) (c:Core):cJ n c.cells:=by simp[Core.cells,cJ,cB,cI]
abbrev Core.av (c:Core):AV:= .agg c.cells
structure Core.Wf (c:Core):Prop where
 name:c.name.size≤140737488351232
 code:∀i∈c.code,i.Wf
 len:c.code.length * 64≤140737488351232
structure Obj where
 mem:List Int
 shared:Int
 iG:Int
 buffer:Int
 bg:List Core
 deriving Inhabited
def Obj.cells (o:Obj):List AV:=[.im 1 .any (o.mem.map i64),i64 o.shared,i64 o.iG,i64 o.buffer, .im 2 .any (o.bg.map Core.av)]
@[simp] theorem PU (n:Nat) (o:Obj):cJ n o.cells:=by simp[Obj.cells,cJ,cB,cI]
abbrev Obj.av (o:Obj):AV:= .agg o.cells
structure Obj.Wf (o:Obj):Prop where
 mem:∀x∈o.mem,dE x
 G4:o.mem.length * 8≤140737488351232
 shared:dE o.shared
 iG:dE o.iG
 buffer:dE o.buffer
 bg:∀c∈o.bg,c.Wf
 mu:o.bg.length * 40≤140737488351232
theorem fq {f:FuncId} {args:List AV} {u:AV} (hu:cB 0 u) (h:(tR TT 30 f args [] 0).map (fun q=>eM q.2.1 6 q.1)=some u):Pure Tryz.prog f args (fun r=>r=u):=by
 simp only[Option.map_eq_some_iff] at h
 obtain⟨⟨r,H',nx'⟩,h1,h2⟩:=h
 simp only at h2
 have h0:=mT QY 30 _ _ _ _ _ _ _ h1
 have h3:=bz.pure (H':=H') (h0.mono fun r H n ⟨h1,h2,_⟩=>⟨h1,h2⟩) (by rw[h2];exact hu)
 exact h3.mono fun r hr=>by rw[hr,h2]
def two (op:Int):Bool:=decide (0<op)&&decide (op<19)&&decide (op≠17)&&decide (op≠18)
theorem fO (c:Int):Pure Tryz.prog 117 [.sc (.int .u8 c)] (fun r=>r= .sc (.bool (decide (0<c)&&decide (c<19)))):=by
 refine aI vn rfl ?_
 repeat' (first|((with_reducible refine aF ?_);conv=>whnf)|refine aG ?_|exact aC|with_reducible refine aD ?_ ?_|(apply aA;(·exact cF))|refine aH ?_|((with_reducible refine aB ?_ ?_)<;>intro hc<;>(try simp only[List.length_map,ne_eq,dW] at hc)<;>try(exfalso;omega)))
 all_goals simp
theorem dQ (c:Int):Pure Tryz.prog 108 [.sc (.int .u8 c)] (fun r=>r= .sc (.bool (two c))):=by
 refine aI vk rfl ?_
 repeat' (first|((with_reducible refine aF ?_);conv=>whnf)|refine aG ?_|exact aC|with_reducible refine aD ?_ ?_|(apply aA;(·exact cF))|((with_reducible refine aN (fO _) ?_ ?_);(·exact bn))|((with_reducible refine aM (fun _=>fO _) ?_ ?_);(·exact bn))|((with_reducible refine aJ (fO _) ?_ ?_);(·exact bn))|((with_reducible refine aL (fun _=>fO _) ?_ ?_);(·exact bn))|refine aH ?_|((with_reducible refine aB ?_ ?_)<;>intro hc<;>(try simp only[List.length_map,ne_eq,dW] at hc)<;>try(exfalso;omega)))
 all_goals simp[two,Bool.and_assoc]
def mask (k op:Int):Int:=if k=1 then 66 else if k=2 then(if two op then 15 else 7) else if k=3 then 18 else if k=4 then 20 else if k=5 then 18 else if k=7 then 4 else if k=8 then 32 else if k=9 then 36 else 0
set_option maxRecDepth 100000 in
theorem jL (k:Int) (h0:0≤k) (h1:k<256) (hk:k=0∨10<k):Pure Tryz.prog 107 [.sc (.int .u8 k)] (fun r=>r= .dB [.agg [.sc (.string ⟨#[]⟩),u8 0,u8 0,u8 0,u8 0], .sc (.bool false)]):=by
 refine aI vj rfl ?_
 repeat' (first|((with_reducible refine aF ?_);conv=>whnf)|refine aG ?_|exact aC|with_reducible refine aD ?_ ?_|(apply aA;(·exact cF))|refine aH ?_|((with_reducible refine aB ?_ ?_)<;>intro hc<;>(try simp only[List.length_map,ne_eq,dW] at hc)<;>try(exfalso;omega)))
 all_goals kernel_rfl
theorem MP:Pure Tryz.prog 107 [.sc (.int .u8 2)] (fun r=>r= .dB [.agg [.sc (.string ⟨#[]⟩),u8 1,u8 2,u8 4,u8 8], .sc (.bool true)]):=fq (by simp[cB,cJ]) (by kernel_rfl)
set_option maxRecDepth 100000 in
theorem CV (i:Instr) (hi:i.Wf):Pure Tryz.prog 75 [i.av] (fun r=>r= .dB [u8 (mask i.kind i.op), .sc (.bool (decide (1≤i.kind)&&decide (i.kind≤10)))]):=by
 obtain⟨h0,h1⟩:=hi.kind
 obtain⟨kind,op,d,a,b,addr,to,word,fr⟩:=i
 simp only at h0 h1
 have hk:kind=1∨kind=2∨kind=3∨kind=4∨kind=5∨kind=6∨kind=7∨kind=8∨kind=9∨kind=10∨(kind=0∨10<kind):=by omega
 rcases hk with rfl|rfl|rfl|rfl|rfl|rfl|rfl|rfl|rfl|rfl|hk
 ·exact fq (by simp[cB,cJ]) (by kernel_rfl)
 ·refine aI BU rfl ?_
  repeat' (first|((with_reducible refine aF ?_);conv=>whnf)|refine aG ?_|exact aC|with_reducible refine aD ?_ ?_|(apply aA;(·exact cF))|refine aK (MP) ?_|refine aH ?_|((with_reducible refine aB ?_ ?_)<;>intro hc<;>(try simp only[List.length_map,ne_eq,dW] at hc)<;>try(exfalso;omega)))
  refine ah ?_
  repeat' (first|((with_reducible refine aF ?_);conv=>whnf)|refine aG ?_|exact aC|with_reducible refine aD ?_ ?_|(apply aA;(·exact cF))|((with_reducible refine aN (dQ _) ?_ ?_);(·exact bn))|((with_reducible refine aM (fun _=>dQ _) ?_ ?_);(·exact bn))|((with_reducible refine aJ (dQ _) ?_ ?_);(·exact bn))|((with_reducible refine aL (fun _=>dQ _) ?_ ?_);(·exact bn))|refine aH ?_|((with_reducible refine aB ?_ ?_)<;>intro hc<;>(try simp only[List.length_map,ne_eq,dW] at hc)<;>try(exfalso;omega)))
  ·simp at hc
   simp only[show mask 2 op=7 by simp[mask,hc]]
   kernel_rfl
  ·simp at hc
   simp only[show mask 2 op=15 by simp[mask,hc]]
   kernel_rfl
 iterate 8 exact fq (by simp[cB,cJ]) (by kernel_rfl)
 have hm:mask kind op=0:=by
  unfold mask
  repeat rw[if_neg (by omega)]
 have hB:(decide (1≤kind)&&decide (kind≤10))=false:=by
  rcases hk with rfl|hk
  ·rfl
  ·rw[decide_eq_false (p:=kind≤10) (by omega)];simp
 simp only[hm,hB]
 refine aI BU rfl ?_
 repeat' (first|((with_reducible refine aF ?_);conv=>whnf)|refine aG ?_|exact aC|with_reducible refine aD ?_ ?_|(apply aA;(·exact cF))|((with_reducible refine aN (jL kind (by omega) (by omega) hk) ?_ ?_);(·exact bn))|((with_reducible refine aM (fun _=>jL kind (by omega) (by omega) hk) ?_ ?_);(·exact bn))|((with_reducible refine aJ (jL kind (by omega) (by omega) hk) ?_ ?_);(·exact bn))|((with_reducible refine aL (fun _=>jL kind (by omega) (by omega) hk) ?_ ?_);(·exact bn))|refine aH ?_|((with_reducible refine aB ?_ ?_)<;>intro hc<;>(try simp only[List.length_map,ne_eq,dW] at hc)<;>try(exfalso;omega)))
 refine ah ?_
 repeat' (first|((with_reducible refine aF ?_);conv=>whnf)|refine aG ?_|exact aC|with_reducible refine aD ?_ ?_|(apply aA;(·exact cF))|((with_reducible refine aN (dQ _) ?_ ?_);(·exact bn))|((with_reducible refine aM (fun _=>dQ _) ?_ ?_);(·exact bn))|((with_reducible refine aJ (dQ _) ?_ ?_);(·exact bn))|((with_reducible refine aL (fun _=>dQ _) ?_ ?_);(·exact bn))|refine aH ?_|((with_reducible refine aB ?_ ?_)<;>intro hc<;>(try simp only[List.length_map,ne_eq,dW] at hc)<;>try(exfalso;omega)))
 kernel_rfl
def da (m u:Int):Int:=IntKind.u8.wrap (BitVec.ofInt IntKind.u8.bits m&&& BitVec.ofInt IntKind.u8.bits u).toNat
def within (u:Bool) (n most:Int):Bool:= !u&&decide (n=0)||u&&decide (0≤n)&&decide (n<most)
theorem pC (n u most m:Int) (b:Nat) (H:Hp) (nx:Nat) (e:TypeId) (d:AV) (hb:bf H b=some (.row e 1 d [u8 m])):jB Tryz.prog 76 [i64 n,u8 u,i64 most, .pt b 1 0 0] H nx (.sc (.bool (within (decide (da m u≠0)) n most))):=by
 refine aS GK rfl ?_
 repeat' (first|((with_reducible refine aF ?_);conv=>whnf)|refine aG ?_|exact aC|with_reducible refine aD ?_ ?_|(apply aA;(·exact cF))|refine aH ?_|((with_reducible refine aB ?_ ?_)<;>intro hc<;>(try simp only[List.length_map,ne_eq,dW] at hc)<;>try(exfalso;omega)))
 refine pn.look ?_ dH
 simp only[show IntKind.u8.wrap (BitVec.ofInt IntKind.u8.bits m&&& BitVec.ofInt IntKind.u8.bits u).toNat=da m u from rfl,within]
 by_cases h1:da m u=0<;>by_cases h2:n=0<;>by_cases h3:0≤n<;>by_cases h4:n<most<;>simp[h1,h2,h3,h4]
def yK:List ByteArray:=[⟨#[]⟩,⟨#[97,100,100]⟩,⟨#[115,117,98]⟩,⟨#[109,117,108]⟩,⟨#[100,105,118]⟩,⟨#[114,101,109]⟩,⟨#[97,110,100]⟩,⟨#[111,114]⟩,⟨#[120,111,114]⟩,⟨#[115,104,108]⟩,⟨#[115,104,114]⟩,⟨#[105,115]⟩,⟨#[105,115,110,111,116]⟩,⟨#[108,101,115,115]⟩,⟨#[109,111,115,116]⟩,⟨#[97,98,111,118,101]⟩,⟨#[108,101,97,115,116]⟩,⟨#[109,105,110,117,115]⟩,⟨#[110,111,116]⟩]
def tH (op:Int):ByteArray:=yK.getD op.toNat ⟨#[]⟩
theorem yJ (op:Int) (h0:0≤op):(tH op==⟨#[]⟩)= !(decide (1≤op)&&decide (op≤18)):=by
 have hk:op=0∨op=1∨op=2∨op=3∨op=4∨op=5∨op=6∨op=7∨op=8∨op=9∨op=10∨op=11∨op=12∨op=13∨op=14∨op=15∨op=16∨op=17∨op=18∨18<op:=by omega
 rcases hk with rfl|rfl|rfl|rfl|rfl|rfl|rfl|rfl|rfl|rfl|rfl|rfl|rfl|rfl|rfl|rfl|rfl|rfl|rfl|hk
 iterate 19 rfl
 have:tH op=⟨#[]⟩:=by
  unfold tH
  rw[List.getD,List.getElem?_eq_none (by simp[yK];omega)]
  rfl
 rw[this,decide_eq_false (p:=op≤18) (by omega)]
 simp
 rfl
theorem gu (op:Int) (h0:0≤op) (h1:op<256):Pure Tryz.prog 77 [.sc (.int .u8 op)] (fun r=>r= .sc (.string (tH op))):=by
 have hk:op=0∨op=1∨op=2∨op=3∨op=4∨op=5∨op=6∨op=7∨op=8∨op=9∨op=10∨op=11∨op=12∨op=13∨op=14∨op=15∨op=16∨op=17∨op=18∨18<op:=by omega
 rcases hk with rfl|rfl|rfl|rfl|rfl|rfl|rfl|rfl|rfl|rfl|rfl|rfl|rfl|rfl|rfl|rfl|rfl|rfl|rfl|hk
 iterate 19 exact fq (by simp[cB]) (by kernel_rfl)
 have:tH op=⟨#[]⟩:=by
  unfold tH
  rw[List.getD,List.getElem?_eq_none (by simp[yK];omega)]
  rfl
 rw[this]
 refine aI GL rfl ?_
 repeat' (first|((with_reducible refine aF ?_);conv=>whnf)|refine aG ?_|exact aC|with_reducible refine aD ?_ ?_|(apply aA;(·exact cF))|refine aH ?_|((with_reducible refine aB ?_ ?_)<;>intro hc<;>(try simp only[List.length_map,ne_eq,dW] at hc)<;>try(exfalso;omega)))
 all_goals kernel_rfl
def kindOk (k:Int):Bool:=decide (1≤k)&&decide (k≤10)
def iI (i:Instr) (code mem:Int):Bool:=
 kindOk i.kind&&decide (0≤i.fr)&&decide (i.fr≤4096)&&(bif decide (i.kind=2) then decide (1≤i.op)&&decide (i.op≤18) else decide (i.op=0))&&
 within (decide (da (mask i.kind i.op) 2≠0)) i.d 16&&within (decide (da (mask i.kind i.op) 4≠0)) i.a 16&&within (decide (da (mask i.kind i.op) 8≠0)) i.b 16&&
 within (decide (da (mask i.kind i.op) 16≠0)) i.addr mem&&within (decide (da (mask i.kind i.op) 32≠0)) i.to code&&(decide (i.kind=1)||decide (i.word=0))
theorem DM (m u:Int):IntKind.u8.wrap (BitVec.ofInt IntKind.u8.bits m&&& BitVec.ofInt IntKind.u8.bits u).toNat=da m u:=rfl
theorem BX (k op:Int) (h:1≤k∧k≤10):(da (mask k op) 1=0↔¬k=2)∧(da (mask k op) 64=0↔¬k=1):=by
 have hk:k=1∨k=2∨k=3∨k=4∨k=5∨k=6∨k=7∨k=8∨k=9∨k=10:=by omega
 rcases hk with rfl|rfl|rfl|rfl|rfl|rfl|rfl|rfl|rfl|rfl
 ·exact(show(da 66 1=0↔¬(1:Int)=2)∧(da 66 64=0↔¬(1:Int)=1) by decide)
 ·cases ht:two op with
  |false=>rw[show mask 2 op=7 by simp[mask,ht]];exact(show(da 7 1=0↔¬(2:Int)=2)∧(da 7 64=0↔¬(2:Int)=1) by decide)
  |true=>rw[show mask 2 op=15 by simp[mask,ht]];exact(show(da 15 1=0↔¬(2:Int)=2)∧(da 15 64=0↔¬(2:Int)=1) by decide)
 ·exact(show(da 18 1=0↔¬(3:Int)=2)∧(da 18 64=0↔¬(3:Int)=1) by decide)
 ·exact(show(da 20 1=0↔¬(4:Int)=2)∧(da 20 64=0↔¬(4:Int)=1) by decide)
 ·exact(show(da 18 1=0↔¬(5:Int)=2)∧(da 18 64=0↔¬(5:Int)=1) by decide)
 ·exact(show(da 0 1=0↔¬(6:Int)=2)∧(da 0 64=0↔¬(6:Int)=1) by decide)
 ·exact(show(da 4 1=0↔¬(7:Int)=2)∧(da 4 64=0↔¬(7:Int)=1) by decide)
 ·exact(show(da 32 1=0↔¬(8:Int)=2)∧(da 32 64=0↔¬(8:Int)=1) by decide)
 ·exact(show(da 36 1=0↔¬(9:Int)=2)∧(da 36 64=0↔¬(9:Int)=1) by decide)
 ·exact(show(da 0 1=0↔¬(10:Int)=2)∧(da 0 64=0↔¬(10:Int)=1) by decide)
theorem jx (i:Instr) (hi:i.Wf) (code mem:Int):Pure Tryz.prog 57 [i.av,i64 code,i64 mem] (fun r=>r=bl (iI i code mem)):=by
 refine aI F8 rfl ?_
 repeat' (first|((with_reducible refine aF ?_);conv=>whnf)|refine aG ?_|exact aC|with_reducible refine aD ?_ ?_|(apply aA;(·exact cF))|refine aK (CV i hi) ?_|((with_reducible refine aN (gu _ hi.op.1 hi.op.2) ?_ ?_);(·exact bn))|((with_reducible refine aM (fun _=>gu _ hi.op.1 hi.op.2) ?_ ?_);(·exact bn))|((with_reducible refine aJ (gu _ hi.op.1 hi.op.2) ?_ ?_);(·exact bn))|((with_reducible refine aL (fun _=>gu _ hi.op.1 hi.op.2) ?_ ?_);(·exact bn))|((refine aR (pC _ _ _ _ _ _ _ _ _ (by exact rfl)) ?_ ?_);(·exact True.intro))|((refine aV (fun _=>pC _ _ _ _ _ _ _ _ _ (by exact rfl)) ?_ ?_);(·exact True.intro))|refine aH ?_|((with_reducible refine aB ?_ ?_)<;>intro hc<;>(try simp only[List.length_map,ne_eq,dW] at hc)<;>try(exfalso;omega)))
 ·congr 2
  simp only[iI,kindOk]
  grind
 ·congr 2
  obtain⟨hc1,hc2⟩:=hc
  have hk:1≤i.kind∧i.kind≤10:=by omega
  obtain⟨e1,e2⟩:=BX i.kind i.op hk
  have h3:0≤i.fr:=by omega
  have h0:=hi.op.1
  simp only[DM,e1,e2,ne_eq,Decidable.not_not,bne,yJ _ h0,Bool.not_not]
  simp only[iI,kindOk,hk.1,hk.2,h3,hc2,decide_true,Bool.true_and,ne_eq,Bool.if_true_left,Bool.if_false_right,Bool.decide_eq_true]
  by_cases hk2:i.kind=2<;>by_cases hk1:i.kind=1<;>simp[hk1,hk2,Bool.and_assoc]
end Go.Proofs.YtlonbgdonffcbaaGreatDoor
end
section
/- What objects and lists read as. -/
namespace Go.Proofs.YtlonbgdonffcbaaGreatDoor
open Go Go.cY Go.Proofs Go.RowKit Go.ChangeShapes Go.WideShapes Go.ChangeAt
theorem fP {n:Int} (h:(Lit.int .i64 n).wf=true):dE n:=by
 simp only[Lit.wf,Bool.and_eq_true,decide_eq_true_eq] at h
 have e1:IntKind.i64.min=-9223372036854775808:=by decide
 have e2:IntKind.i64.max=9223372036854775807:=by decide
 unfold dE
 omega
theorem zd {n:Int} (h:(Lit.int .u8 n).wf=true):0≤n∧n<256:=by
 simp only[Lit.wf,Bool.and_eq_true,decide_eq_true_eq] at h
 have e1:IntKind.u8.min=0:=by decide
 have e2:IntKind.u8.max=255:=by decide
 omega
theorem wX:eh Tryz.prog 63 Instr.cells Instr.Wf:=by
 refine eh.map (α:=Int×Int×Int×Int×Int×Int×Int×Int×Int×Unit) (fun p=>(⟨p.1,p.2.1,p.2.2.1,p.2.2.2.1,p.2.2.2.2.1,p.2.2.2.2.2.1,p.2.2.2.2.2.2.1,p.2.2.2.2.2.2.2.1,p.2.2.2.2.2.2.2.2.1⟩:Instr))
  (kM (k:=9) Tryz.underlying63 (by kernel_rfl)
   (cu (k:=1) rfl (by kernel_rfl) (du Tryz.underlying60) (cu (k:=1) rfl (by kernel_rfl) (du Tryz.underlying61) (cu (k:=1) rfl (by kernel_rfl) (du Tryz.underlying3) (cu (k:=1) rfl (by kernel_rfl) (du Tryz.underlying3) (cu (k:=1) rfl (by kernel_rfl) (du Tryz.underlying3) (cu (k:=1) rfl (by kernel_rfl) (du Tryz.underlying3) (cu (k:=1) rfl (by kernel_rfl) (du Tryz.underlying3) (cu (k:=1) rfl (by kernel_rfl) (du Tryz.underlying2) (cu (k:=1) rfl (by kernel_rfl) (du Tryz.underlying3) mP)))))))))) ?_ ?_
 ·intro a _;rfl
 ·intro a h
  obtain⟨h1,h2,h3,h4,h5,h6,h7,h8,h9,_⟩:=h
  exact⟨zd h1,zd h2,fP h3,fP h4,fP h5,fP h6,fP h7,fP h8,fP h9⟩
theorem yN {t e:TypeId} (ht:Tryz.prog.underlying t=some (.slice e)) (he:Tryz.prog.underlying e=some (.int .i64)) (hsz:Tryz.prog.cellsOf e=1) (hb:Tryz.prog.bytesOf e=8):eh Tryz.prog t (fun l:List Int=>[.im 1 .any (l.map i64)]) (fun l=>(∀x∈l,dE x)∧l.length * 8≤140737488351232):=by
 refine(lD (ag:=false) (sz:=1) .any ht hsz (by omega) (du he) (fun _=>rfl) (fun _ _=>rfl) (fun _=>rfl)).map (fun l=>l) (fun _ _=>rfl) ?_
 rintro l ⟨h1,h2⟩
 rw[hb] at h2
 exact⟨fun x hx=>fP (h1 x hx),h2⟩
theorem yL:eh Tryz.prog 64 (fun l:List Instr=>[.im 9 .any (l.map Instr.av)]) (fun l=>(∀x∈l,x.Wf)∧l.length * 64≤140737488351232):=by
 have hb:Tryz.prog.bytesOf 63=64:=by kernel_rfl
 refine(lD (ag:=true) (sz:=9) .any Tryz.underlying64 (by kernel_rfl) (by omega) wX (fun _=>rfl) (fun _ _=>rfl) (fun h=>by cases h)).map (fun l=>l) (fun _ _=>rfl) ?_
 rintro l ⟨h1,h2⟩
 rw[hb] at h2
 exact⟨h1,h2⟩
theorem yM:eh Tryz.prog 66 Core.cells Core.Wf:=by
 refine eh.map (α:=ByteArray×List Instr×Unit) (fun p=>(⟨p.1,p.2.1⟩:Core))
  (kM (k:=2) Tryz.underlying66 (by kernel_rfl) (cu (k:=1) rfl (by kernel_rfl) (uL Tryz.underlying9) (cu (k:=1) rfl (by kernel_rfl) yL mP))) ?_ ?_
 ·intro a _;rfl
 ·intro a h
  exact⟨h.1,h.2.1.1,h.2.1.2⟩
theorem wW:eh Tryz.prog 23 (fun l:List Core=>[.im 2 .any (l.map Core.av)]) (fun l=>(∀x∈l,x.Wf)∧l.length * 40≤140737488351232):=by
 have hb:Tryz.prog.bytesOf 66=40:=by kernel_rfl
 refine(lD (ag:=true) (sz:=2) .any Tryz.underlying23 (by kernel_rfl) (by omega) yM (fun _=>rfl) (fun _ _=>rfl) (fun h=>by cases h)).map (fun l=>l) (fun _ _=>rfl) ?_
 rintro l ⟨h1,h2⟩
 rw[hb] at h2
 exact⟨h1,h2⟩
theorem B6:eh Tryz.prog 25 Obj.cells Obj.Wf:=by
 refine eh.map (α:=List Int×Int×Int×Int×List Core×Unit) (fun p=>(⟨p.1,p.2.1,p.2.2.1,p.2.2.2.1,p.2.2.2.2.1⟩:Obj))
  (kM (k:=5) Tryz.underlying25 (by kernel_rfl) (cu (k:=1) rfl (by kernel_rfl) (yN Tryz.underlying22 Tryz.underlying2 (by kernel_rfl) (by kernel_rfl))
   (cu (k:=1) rfl (by kernel_rfl) (du Tryz.underlying3) (cu (k:=1) rfl (by kernel_rfl) (du Tryz.underlying3) (cu (k:=1) rfl (by kernel_rfl) (du Tryz.underlying3) (cu (k:=1) rfl (by kernel_rfl) wW mP)))))) ?_ ?_
 ·intro a _;rfl
 ·intro a h
  obtain⟨⟨h1,h2⟩,h3,h4,h5,⟨h6,h7⟩,_⟩:=h
  exact⟨h1,h2,fP h3,fP h4,fP h5,h6,h7⟩
structure cC where
 kind:Int
 core:Int
 deriving Inhabited,DecidableEq
def cC.cells (s:cC):List AV:=[u8 s.kind,i64 s.core]
abbrev cC.av (s:cC):AV:= .agg s.cells
@[simp] theorem N7 (n:Nat) (i:cC):cJ n i.cells:=by simp[cC.cells,cJ,cB]
structure cC.Wf (s:cC):Prop where
 kind:0≤s.kind∧s.kind<256
 core:dE s.core
theorem own:ownKnob Tryz.prog.godebug=none:=by kernel_rfl
theorem laidOut:laidOutB Tryz.prog=true:=by kernel_rfl
end Go.Proofs.YtlonbgdonffcbaaGreatDoor
end
section
/- What the library's tables read as; none of them is read here. -/
namespace Go.Proofs.YtlonbgdonffcbaaGreatDoor
open Go Go.cY Go.Proofs Go.RowKit Go.ChangeShapes Go.WideShapes Go.ChangeAt
abbrev vd:List (String×DataW Unit):=[("math/bits.deBruijn32tab",Rows.laid_math_bits_deBruijn32tab),("math/bits.deBruijn64tab",Rows.laid_math_bits_deBruijn64tab),("internal/strconv.uint64pow10",Rows.laid_internal_strconv_uint64pow10)]
theorem D1 (os:Os) (args:Array Value):laidMetH Tryz.prog vd ((World.doorLaid Tryz.prog 400 os).forCall (fun _ _=>0) ⟨#[],args,[]⟩).memory:=
 laidMetH_of_parts3 (fuel:=8) (laidMet_of_run' 8 (by kernel_rfl) (by kernel_rfl)) (by kernel_rfl) (by kernel_rfl)
theorem J5 {W:World} (_:laidMetH Tryz.prog vd W):u9 W emp:=⟨fun _ h=>h.elim,fun t ht=>by cases ht⟩
end Go.Proofs.YtlonbgdonffcbaaGreatDoor
end
