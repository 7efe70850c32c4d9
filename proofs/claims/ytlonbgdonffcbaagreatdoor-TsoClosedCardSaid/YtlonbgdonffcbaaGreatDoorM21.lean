import Derived.Test.YtlonbgdonffcbaaGreatDoorM14
import Derived.Test.YtlonbgdonffcbaaGreatDoorM20
import Derived.Test.YtlonbgdonffcbaaGreatDoorM16
import Derived.Test.YtlonbgdonffcbaaGreatDoorRows
import Derived.Test.YtlonbgdonffcbaaGreatDoorTie
import Derived.Test.YtlonbgdonffcbaaGreatDoorCards
import Derived.LaidMore
import Derived.OpenShut
import Derived.SevenTiedAt
section
/- Letters, digits, names. -/
namespace Go.Proofs.YtlonbgdonffcbaaGreatDoor
open Go Go.cW Go.Proofs
set_option linter.unusedSimpArgs false
def isDigit (c:Int):Bool:=decide (48≤c)&&decide (c≤57)
def qQ (c:Int):Bool:=decide (97≤c)&&decide (c≤122)||decide (65≤c)&&decide (c≤90)||decide (c=95)
theorem fH (c:Int):Pure Tryz.prog 103 [.sc (.int .u8 c)] (fun r=>r= .sc (.bool (isDigit c))):=by
 refine aI vF rfl ?_
 repeat' (first|((with_reducible refine aF ?_);conv=>whnf)|refine aG ?_|exact aC|with_reducible refine aD ?_ ?_|(apply aA;(·exact cA))|refine aH ?_|((with_reducible refine aB ?_ ?_)<;>intro hc<;>(try simp only[List.length_map,ne_eq,dP] at hc)<;>try(exfalso;omega)))
 all_goals simp[isDigit]
theorem e9 (c:Int):Pure Tryz.prog 105 [.sc (.int .u8 c)] (fun r=>r= .sc (.bool (qQ c))):=by
 refine aI vH rfl ?_
 repeat' (first|((with_reducible refine aF ?_);conv=>whnf)|refine aG ?_|exact aC|with_reducible refine aD ?_ ?_|(apply aA;(·exact cA))|refine aH ?_|((with_reducible refine aB ?_ ?_)<;>intro hc<;>(try simp only[List.length_map,ne_eq,dP] at hc)<;>try(exfalso;omega)))
 all_goals simp[qQ]
def isWord (s:ByteArray):Bool:=s==⟨#[115,104,97,114,101,100]⟩||s==⟨#[108,111,99,107]⟩||s==⟨#[116,104,114,101,97,100]⟩||s==⟨#[108,111,99,97,108]⟩||s==⟨#[105,102]⟩||s==⟨#[101,108,115,101]⟩||s==⟨#[119,104,105,108,101]⟩||s==⟨#[112,114,105,110,116]⟩||s==⟨#[115,107,105,112]⟩||s==⟨#[115,119,97,112]⟩
theorem fm (s:ByteArray):Pure Tryz.prog 104 [.sc (.string s)] (fun r=>r= .sc (.bool (isWord s))):=by
 refine aI vG rfl ?_
 repeat' (first|((with_reducible refine aF ?_);conv=>whnf)|refine aG ?_|exact aC|with_reducible refine aD ?_ ?_|(apply aA;(·exact cA))|refine aH ?_|((with_reducible refine aB ?_ ?_)<;>intro hc<;>(try simp only[List.length_map,ne_eq,dP] at hc)<;>try(exfalso;omega)))
 all_goals simp_all[isWord]
end Go.Proofs.YtlonbgdonffcbaaGreatDoor
/- Names. -/
namespace Go.Proofs.YtlonbgdonffcbaaGreatDoor
open Go Go.cW Go.Proofs
set_option linter.unusedSimpArgs false
def nv (c:UInt8):Bool:=qQ c.toNat||isDigit c.toNat
def isName (s:ByteArray):Bool:= !(s==⟨#[]⟩)&& !decide ((32:Int)<s.size)&& !isDigit (s.data.toList.getD 0 0).toNat&& !isWord s&&s.data.toList.all nv
theorem size_pos {s:ByteArray} (h:(s==⟨#[]⟩)=false):0<s.size:=by
 rcases Nat.eq_zero_or_pos s.size with h0|h0
 ·exfalso
  obtain⟨a⟩:=s
  have:a=#[]:=Array.eq_empty_of_size_eq_zero h0
  subst this
  have:((⟨#[]⟩:ByteArray)==⟨#[]⟩)=true:=rfl
  rw[this] at h;cases h
 ·exact h0
theorem CH {α:Type} {p:α→Bool} {l:List α} (d:α) (h:∀j,j<l.length→p (l.getD j d)=true):l.all p=true:=by
 rw[List.all_eq_true]
 intro x hx
 obtain⟨i,hi,rfl⟩:=List.mem_iff_getElem.1 hx
 have:=h i hi
 simpa[List.getD,hi] using this
theorem pT {α:Type} {p:α→Bool} {l:List α} (d:α) {j:Nat} (hj:j<l.length) (h:p (l.getD j d)=false):l.all p=false:=by
 rw[List.all_eq_false]
 refine⟨l[j],List.getElem_mem hj, ?_⟩
 simp[List.getD,hj] at h
 simp[h]
theorem lT (s:ByteArray) (hs:s.size≤140737488351232):Pure Tryz.prog 73 [.sc (.string s)] (fun r=>r= .sc (.bool (isName s))):=by
 refine aI FM rfl ?_
 repeat' (first|((with_reducible refine aF ?_);conv=>whnf)|refine aG ?_|exact aC|with_reducible refine aD ?_ ?_|(apply aA;(·exact cA))|((with_reducible refine aN (fH _) ?_ ?_);(·exact bj))|((with_reducible refine aM (fun _=>fH _) ?_ ?_);(·exact bj))|((with_reducible refine aJ (fH _) ?_ ?_);(·exact bj))|((with_reducible refine aL (fun _=>fH _) ?_ ?_);(·exact bj))|((with_reducible refine aN (e9 _) ?_ ?_);(·exact bj))|((with_reducible refine aM (fun _=>e9 _) ?_ ?_);(·exact bj))|((with_reducible refine aJ (e9 _) ?_ ?_);(·exact bj))|((with_reducible refine aL (fun _=>e9 _) ?_ ?_);(·exact bj))|((with_reducible refine aN (fm _) ?_ ?_);(·exact bj))|((with_reducible refine aM (fun _=>fm _) ?_ ?_);(·exact bj))|((with_reducible refine aJ (fm _) ?_ ?_);(·exact bj))|((with_reducible refine aL (fun _=>fm _) ?_ ?_);(·exact bj))|refine aH ?_|((with_reducible refine aB ?_ ?_)<;>intro hc<;>(try simp only[List.length_map,ne_eq,dP] at hc)<;>try(exfalso;omega)))
 ·refine⟨fun h=> ?_⟩
  simp only[List.length_map,ne_eq,dP] at h
  have:=size_pos h.1
  omega
 ·congr 2
  simp only[isName]
  grind
 ·refine aT (fun i:Nat=>[(22, .sc (.int .i64 i)),(21, .sc (.int .i64 s.size)),(0, .sc (.string s))]) (fun i _ _=>i≤s.size∧∀j,j<i→nv (s.data.toList.getD j 0)=true) (fun i=>s.size - i) 0 ⟨rfl,rfl,rfl,trivial⟩ ⟨Nat.zero_le _,fun j hj=>by omega⟩ ?_
  intro i H nx ⟨hi,hok⟩
  repeat' (first|((with_reducible refine aF ?_);conv=>whnf)|refine aG ?_|exact aC|with_reducible refine aD ?_ ?_|(apply aA;(·exact cA))|((with_reducible refine aN (fH _) ?_ ?_);(·exact bj))|((with_reducible refine aM (fun _=>fH _) ?_ ?_);(·exact bj))|((with_reducible refine aJ (fH _) ?_ ?_);(·exact bj))|((with_reducible refine aL (fun _=>fH _) ?_ ?_);(·exact bj))|((with_reducible refine aN (e9 _) ?_ ?_);(·exact bj))|((with_reducible refine aM (fun _=>e9 _) ?_ ?_);(·exact bj))|((with_reducible refine aJ (e9 _) ?_ ?_);(·exact bj))|((with_reducible refine aL (fun _=>e9 _) ?_ ?_);(·exact bj))|((with_reducible refine aN (fm _) ?_ ?_);(·exact bj))|((with_reducible refine aM (fun _=>fm _) ?_ ?_);(·exact bj))|((with_reducible refine aJ (fm _) ?_ ?_);(·exact bj))|((with_reducible refine aL (fun _=>fm _) ?_ ?_);(·exact bj))|refine aH ?_|((with_reducible refine aB ?_ ?_)<;>intro hc<;>(try simp only[List.length_map,ne_eq,dP] at hc)<;>try(exfalso;omega)))
  ·congr 2
   have h1:s.data.toList.all nv=false:=pT 0 (j:=i) (by simp;omega) (by simpa[nv] using hc)
   simp[isName,h1]
  ·refine⟨i+1,by omega,cH,by omega,fun j hj=> ?_⟩
   by_cases h:j=i
   ·subst h;simp only[nv];grind
   ·exact hok j (by omega)
  ·congr 2
   have h1:s.data.toList.all nv=true:=CH 0 fun j hj=>hok j (by simp at hj;omega)
   simp only[isName,h1]
   grind
end Go.Proofs.YtlonbgdonffcbaaGreatDoor
/- The types of the machine's programs as plain data. -/
namespace Go.Proofs.YtlonbgdonffcbaaGreatDoor
open Go Go.cW Go.Proofs
set_option linter.unusedSimpArgs false
abbrev i64 (n:Int):AV:= .sc (.int .i64 n)
abbrev u8 (n:Int):AV:= .sc (.int .u8 n)
abbrev bl (b:Bool):AV:= .sc (.bool b)
structure Instr where
 kind:Int
 op:Int
 d:Int
 a:Int
 b:Int
 addr:Int
 to:Int
 word:Int
 fr:Int
 deriving Inhabited
def Instr.cells (i:Instr):List AV:=[u8 i.kind,u8 i.op,i64 i.d,i64 i.a,i64 i.b,i64 i.addr,i64 i.to,i64 i.word,i64 i.fr]
abbrev Instr.av (i:Instr):AV:= .agg i.cells
@[simp] theorem M6 (n:Nat) (i:Instr):cG n i.cells:=by simp[Instr.cells,cG,cC]
def cy (n:Int):Prop:=-9223372036854775808≤n∧n<9223372036854775808
structure Instr.Wf (i:Instr):Prop where
 kind:0≤i.kind∧i.kind<256
 op:0≤i.op∧i.op<256
 d:cy i.d
 a:cy i.a
 b:cy i.b
 addr:cy i.addr
 to:cy i.to
 word:cy i.word
 fr:cy i.fr
structure Core where
 name:ByteArray
 code:List Instr
 deriving Inhabited
def Core.cells (c:Core):List AV:=[.sc (.string c.name), .im 9 .any (c.code.map Instr.av)]
@[simp] theorem NU (n:Nat) (c:Core):cG n c.cells:=by simp[Core.cells,cG,cC,cF]
abbrev Core.av (c:Core):AV:= .agg c.cells
structure Core.Wf (c:Core):Prop where
 name:c.name.size≤140737488351232
 code:∀i∈c.code,i.Wf
 len:c.code.length * 64≤140737488351232
structure Obj where
 mem:List Int
 shared:Int
 gu:Int
 buffer:Int
 bf:List Core
 deriving Inhabited
def Obj.cells (o:Obj):List AV:=[.im 1 .any (o.mem.map i64),i64 o.shared,i64 o.gu,i64 o.buffer, .im 2 .any (o.bf.map Core.av)]
@[simp] theorem OQ (n:Nat) (o:Obj):cG n o.cells:=by simp[Obj.cells,cG,cC,cF]
abbrev Obj.av (o:Obj):AV:= .agg o.cells
structure Obj.Wf (o:Obj):Prop where
 mem:∀x∈o.mem,cy x
 F8:o.mem.length * 8≤140737488351232
 shared:cy o.shared
 gu:cy o.gu
 buffer:cy o.buffer
 bf:∀c∈o.bf,c.Wf
 mU:o.bf.length * 40≤140737488351232
theorem fi {f:FuncId} {args:List AV} {u:AV} (hu:cC 0 u) (h:(sf TT 30 f args [] 0).map (fun q=>eH q.2.1 6 q.1)=some u):Pure Tryz.prog f args (fun r=>r=u):=by
 simp only[Option.map_eq_some_iff] at h
 obtain⟨⟨r,H',nx'⟩,h1,h2⟩:=h
 simp only at h2
 have h0:=mD PV 30 _ _ _ _ _ _ _ h1
 have h3:=bw.pure (H':=H') (h0.mono fun r H n ⟨h1,h2,_⟩=>⟨h1,h2⟩) (by rw[h2];exact hu)
 exact h3.mono fun r hr=>by rw[hr,h2]
def two (op:Int):Bool:=decide (0<op)&&decide (op<19)&&decide (op≠17)&&decide (op≠18)
theorem fM (c:Int):Pure Tryz.prog 117 [.sc (.int .u8 c)] (fun r=>r= .sc (.bool (decide (0<c)&&decide (c<19)))):=by
 refine aI vN rfl ?_
 repeat' (first|((with_reducible refine aF ?_);conv=>whnf)|refine aG ?_|exact aC|with_reducible refine aD ?_ ?_|(apply aA;(·exact cA))|refine aH ?_|((with_reducible refine aB ?_ ?_)<;>intro hc<;>(try simp only[List.length_map,ne_eq,dP] at hc)<;>try(exfalso;omega)))
 all_goals simp
theorem dM (c:Int):Pure Tryz.prog 108 [.sc (.int .u8 c)] (fun r=>r= .sc (.bool (two c))):=by
 refine aI vK rfl ?_
 repeat' (first|((with_reducible refine aF ?_);conv=>whnf)|refine aG ?_|exact aC|with_reducible refine aD ?_ ?_|(apply aA;(·exact cA))|((with_reducible refine aN (fM _) ?_ ?_);(·exact bj))|((with_reducible refine aM (fun _=>fM _) ?_ ?_);(·exact bj))|((with_reducible refine aJ (fM _) ?_ ?_);(·exact bj))|((with_reducible refine aL (fun _=>fM _) ?_ ?_);(·exact bj))|refine aH ?_|((with_reducible refine aB ?_ ?_)<;>intro hc<;>(try simp only[List.length_map,ne_eq,dP] at hc)<;>try(exfalso;omega)))
 all_goals simp[two,Bool.and_assoc]
def mask (k op:Int):Int:=if k=1 then 66 else if k=2 then(if two op then 15 else 7) else if k=3 then 18 else if k=4 then 20 else if k=5 then 18 else if k=7 then 4 else if k=8 then 32 else if k=9 then 36 else 0
set_option maxRecDepth 100000 in
theorem jB (k:Int) (h0:0≤k) (h1:k<256) (hk:k=0∨10<k):Pure Tryz.prog 107 [.sc (.int .u8 k)] (fun r=>r= .dD [.agg [.sc (.string ⟨#[]⟩),u8 0,u8 0,u8 0,u8 0], .sc (.bool false)]):=by
 refine aI vJ rfl ?_
 repeat' (first|((with_reducible refine aF ?_);conv=>whnf)|refine aG ?_|exact aC|with_reducible refine aD ?_ ?_|(apply aA;(·exact cA))|refine aH ?_|((with_reducible refine aB ?_ ?_)<;>intro hc<;>(try simp only[List.length_map,ne_eq,dP] at hc)<;>try(exfalso;omega)))
 all_goals kernel_rfl
theorem LO:Pure Tryz.prog 107 [.sc (.int .u8 2)] (fun r=>r= .dD [.agg [.sc (.string ⟨#[]⟩),u8 1,u8 2,u8 4,u8 8], .sc (.bool true)]):=fi (by simp[cC,cG]) (by kernel_rfl)
set_option maxRecDepth 100000 in
theorem B0 (i:Instr) (hi:i.Wf):Pure Tryz.prog 75 [i.av] (fun r=>r= .dD [u8 (mask i.kind i.op), .sc (.bool (decide (1≤i.kind)&&decide (i.kind≤10)))]):=by
 obtain⟨h0,h1⟩:=hi.kind
 obtain⟨kind,op,d,a,b,addr,to,word,fr⟩:=i
 simp only at h0 h1
 have hk:kind=1∨kind=2∨kind=3∨kind=4∨kind=5∨kind=6∨kind=7∨kind=8∨kind=9∨kind=10∨(kind=0∨10<kind):=by omega
 rcases hk with rfl|rfl|rfl|rfl|rfl|rfl|rfl|rfl|rfl|rfl|hk
 ·exact fi (by simp[cC,cG]) (by kernel_rfl)
 ·refine aI AZ rfl ?_
  repeat' (first|((with_reducible refine aF ?_);conv=>whnf)|refine aG ?_|exact aC|with_reducible refine aD ?_ ?_|(apply aA;(·exact cA))|refine aK (LO) ?_|refine aH ?_|((with_reducible refine aB ?_ ?_)<;>intro hc<;>(try simp only[List.length_map,ne_eq,dP] at hc)<;>try(exfalso;omega)))
  refine af ?_
  repeat' (first|((with_reducible refine aF ?_);conv=>whnf)|refine aG ?_|exact aC|with_reducible refine aD ?_ ?_|(apply aA;(·exact cA))|((with_reducible refine aN (dM _) ?_ ?_);(·exact bj))|((with_reducible refine aM (fun _=>dM _) ?_ ?_);(·exact bj))|((with_reducible refine aJ (dM _) ?_ ?_);(·exact bj))|((with_reducible refine aL (fun _=>dM _) ?_ ?_);(·exact bj))|refine aH ?_|((with_reducible refine aB ?_ ?_)<;>intro hc<;>(try simp only[List.length_map,ne_eq,dP] at hc)<;>try(exfalso;omega)))
  ·simp at hc
   simp only[show mask 2 op=7 by simp[mask,hc]]
   kernel_rfl
  ·simp at hc
   simp only[show mask 2 op=15 by simp[mask,hc]]
   kernel_rfl
 iterate 8 exact fi (by simp[cC,cG]) (by kernel_rfl)
 have hm:mask kind op=0:=by
  unfold mask
  repeat rw[if_neg (by omega)]
 have hB:(decide (1≤kind)&&decide (kind≤10))=false:=by
  rcases hk with rfl|hk
  ·rfl
  ·rw[decide_eq_false (p:=kind≤10) (by omega)];simp
 simp only[hm,hB]
 refine aI AZ rfl ?_
 repeat' (first|((with_reducible refine aF ?_);conv=>whnf)|refine aG ?_|exact aC|with_reducible refine aD ?_ ?_|(apply aA;(·exact cA))|((with_reducible refine aN (jB kind (by omega) (by omega) hk) ?_ ?_);(·exact bj))|((with_reducible refine aM (fun _=>jB kind (by omega) (by omega) hk) ?_ ?_);(·exact bj))|((with_reducible refine aJ (jB kind (by omega) (by omega) hk) ?_ ?_);(·exact bj))|((with_reducible refine aL (fun _=>jB kind (by omega) (by omega) hk) ?_ ?_);(·exact bj))|refine aH ?_|((with_reducible refine aB ?_ ?_)<;>intro hc<;>(try simp only[List.length_map,ne_eq,dP] at hc)<;>try(exfalso;omega)))
 refine af ?_
 repeat' (first|((with_reducible refine aF ?_);conv=>whnf)|refine aG ?_|exact aC|with_reducible refine aD ?_ ?_|(apply aA;(·exact cA))|((with_reducible refine aN (dM _) ?_ ?_);(·exact bj))|((with_reducible refine aM (fun _=>dM _) ?_ ?_);(·exact bj))|((with_reducible refine aJ (dM _) ?_ ?_);(·exact bj))|((with_reducible refine aL (fun _=>dM _) ?_ ?_);(·exact bj))|refine aH ?_|((with_reducible refine aB ?_ ?_)<;>intro hc<;>(try simp only[List.length_map,ne_eq,dP] at hc)<;>try(exfalso;omega)))
 kernel_rfl
def dX (m u:Int):Int:=IntKind.u8.wrap (BitVec.ofInt IntKind.u8.bits m&&& BitVec.ofInt IntKind.u8.bits u).toNat
def within (u:Bool) (n most:Int):Bool:= !u&&decide (n=0)||u&&decide (0≤n)&&decide (n<most)
theorem oZ (n u most m:Int) (b:Nat) (H:Hp) (nx:Nat) (e:TypeId) (d:AV) (hb:bd H b=some (.row e 1 d [u8 m])):ij Tryz.prog 76 [i64 n,u8 u,i64 most, .pt b 1 0 0] H nx (.sc (.bool (within (decide (dX m u≠0)) n most))):=by
 refine aS FO rfl ?_
 repeat' (first|((with_reducible refine aF ?_);conv=>whnf)|refine aG ?_|exact aC|with_reducible refine aD ?_ ?_|(apply aA;(·exact cA))|refine aH ?_|((with_reducible refine aB ?_ ?_)<;>intro hc<;>(try simp only[List.length_map,ne_eq,dP] at hc)<;>try(exfalso;omega)))
 refine pO.look ?_ dA
 simp only[show IntKind.u8.wrap (BitVec.ofInt IntKind.u8.bits m&&& BitVec.ofInt IntKind.u8.bits u).toNat=dX m u from rfl,within]
 by_cases h1:dX m u=0<;>by_cases h2:n=0<;>by_cases h3:0≤n<;>by_cases h4:n<most<;>simp[h1,h2,h3,h4]
def xb:List ByteArray:=[⟨#[]⟩,⟨#[97,100,100]⟩,⟨#[115,117,98]⟩,⟨#[109,117,108]⟩,⟨#[100,105,118]⟩,⟨#[114,101,109]⟩,⟨#[97,110,100]⟩,⟨#[111,114]⟩,⟨#[120,111,114]⟩,⟨#[115,104,108]⟩,⟨#[115,104,114]⟩,⟨#[105,115]⟩,⟨#[105,115,110,111,116]⟩,⟨#[108,101,115,115]⟩,⟨#[109,111,115,116]⟩,⟨#[97,98,111,118,101]⟩,⟨#[108,101,97,115,116]⟩,⟨#[109,105,110,117,115]⟩,⟨#[110,111,116]⟩]
def s4 (op:Int):ByteArray:=xb.getD op.toNat ⟨#[]⟩
theorem x9 (op:Int) (h0:0≤op):(s4 op==⟨#[]⟩)= !(decide (1≤op)&&decide (op≤18)):=by
 have hk:op=0∨op=1∨op=2∨op=3∨op=4∨op=5∨op=6∨op=7∨op=8∨op=9∨op=10∨op=11∨op=12∨op=13∨op=14∨op=15∨op=16∨op=17∨op=18∨18<op:=by omega
 rcases hk with rfl|rfl|rfl|rfl|rfl|rfl|rfl|rfl|rfl|rfl|rfl|rfl|rfl|rfl|rfl|rfl|rfl|rfl|rfl|hk
 iterate 19 rfl
 have:s4 op=⟨#[]⟩:=by
  unfold s4
  rw[List.getD,List.getElem?_eq_none (by simp[xb];omega)]
  rfl
 rw[this,decide_eq_false (p:=op≤18) (by omega)]
 simp
 rfl
theorem gX (op:Int) (h0:0≤op) (h1:op<256):Pure Tryz.prog 77 [.sc (.int .u8 op)] (fun r=>r= .sc (.string (s4 op))):=by
 have hk:op=0∨op=1∨op=2∨op=3∨op=4∨op=5∨op=6∨op=7∨op=8∨op=9∨op=10∨op=11∨op=12∨op=13∨op=14∨op=15∨op=16∨op=17∨op=18∨18<op:=by omega
 rcases hk with rfl|rfl|rfl|rfl|rfl|rfl|rfl|rfl|rfl|rfl|rfl|rfl|rfl|rfl|rfl|rfl|rfl|rfl|rfl|hk
 iterate 19 exact fi (by simp[cC]) (by kernel_rfl)
 have:s4 op=⟨#[]⟩:=by
  unfold s4
  rw[List.getD,List.getElem?_eq_none (by simp[xb];omega)]
  rfl
 rw[this]
 refine aI FP rfl ?_
 repeat' (first|((with_reducible refine aF ?_);conv=>whnf)|refine aG ?_|exact aC|with_reducible refine aD ?_ ?_|(apply aA;(·exact cA))|refine aH ?_|((with_reducible refine aB ?_ ?_)<;>intro hc<;>(try simp only[List.length_map,ne_eq,dP] at hc)<;>try(exfalso;omega)))
 all_goals kernel_rfl
def kindOk (k:Int):Bool:=decide (1≤k)&&decide (k≤10)
def gw (i:Instr) (code mem:Int):Bool:=
 kindOk i.kind&&decide (0≤i.fr)&&decide (i.fr≤4096)&&(bif decide (i.kind=2) then decide (1≤i.op)&&decide (i.op≤18) else decide (i.op=0))&&
 within (decide (dX (mask i.kind i.op) 2≠0)) i.d 16&&within (decide (dX (mask i.kind i.op) 4≠0)) i.a 16&&within (decide (dX (mask i.kind i.op) 8≠0)) i.b 16&&
 within (decide (dX (mask i.kind i.op) 16≠0)) i.addr mem&&within (decide (dX (mask i.kind i.op) 32≠0)) i.to code&&(decide (i.kind=1)||decide (i.word=0))
theorem CR (m u:Int):IntKind.u8.wrap (BitVec.ofInt IntKind.u8.bits m&&& BitVec.ofInt IntKind.u8.bits u).toNat=dX m u:=rfl
theorem A2 (k op:Int) (h:1≤k∧k≤10):(dX (mask k op) 1=0↔¬k=2)∧(dX (mask k op) 64=0↔¬k=1):=by
 have hk:k=1∨k=2∨k=3∨k=4∨k=5∨k=6∨k=7∨k=8∨k=9∨k=10:=by omega
 rcases hk with rfl|rfl|rfl|rfl|rfl|rfl|rfl|rfl|rfl|rfl
 ·exact(show(dX 66 1=0↔¬(1:Int)=2)∧(dX 66 64=0↔¬(1:Int)=1) by decide)
 ·cases ht:two op with
  |false=>rw[show mask 2 op=7 by simp[mask,ht]];exact(show(dX 7 1=0↔¬(2:Int)=2)∧(dX 7 64=0↔¬(2:Int)=1) by decide)
  |true=>rw[show mask 2 op=15 by simp[mask,ht]];exact(show(dX 15 1=0↔¬(2:Int)=2)∧(dX 15 64=0↔¬(2:Int)=1) by decide)
 ·exact(show(dX 18 1=0↔¬(3:Int)=2)∧(dX 18 64=0↔¬(3:Int)=1) by decide)
 ·exact(show(dX 20 1=0↔¬(4:Int)=2)∧(dX 20 64=0↔¬(4:Int)=1) by decide)
 ·exact(show(dX 18 1=0↔¬(5:Int)=2)∧(dX 18 64=0↔¬(5:Int)=1) by decide)
 ·exact(show(dX 0 1=0↔¬(6:Int)=2)∧(dX 0 64=0↔¬(6:Int)=1) by decide)
 ·exact(show(dX 4 1=0↔¬(7:Int)=2)∧(dX 4 64=0↔¬(7:Int)=1) by decide)
 ·exact(show(dX 32 1=0↔¬(8:Int)=2)∧(dX 32 64=0↔¬(8:Int)=1) by decide)
 ·exact(show(dX 36 1=0↔¬(9:Int)=2)∧(dX 36 64=0↔¬(9:Int)=1) by decide)
 ·exact(show(dX 0 1=0↔¬(10:Int)=2)∧(dX 0 64=0↔¬(10:Int)=1) by decide)
theorem jn (i:Instr) (hi:i.Wf) (code mem:Int):Pure Tryz.prog 57 [i.av,i64 code,i64 mem] (fun r=>r=bl (gw i code mem)):=by
 refine aI FD rfl ?_
 repeat' (first|((with_reducible refine aF ?_);conv=>whnf)|refine aG ?_|exact aC|with_reducible refine aD ?_ ?_|(apply aA;(·exact cA))|refine aK (B0 i hi) ?_|((with_reducible refine aN (gX _ hi.op.1 hi.op.2) ?_ ?_);(·exact bj))|((with_reducible refine aM (fun _=>gX _ hi.op.1 hi.op.2) ?_ ?_);(·exact bj))|((with_reducible refine aJ (gX _ hi.op.1 hi.op.2) ?_ ?_);(·exact bj))|((with_reducible refine aL (fun _=>gX _ hi.op.1 hi.op.2) ?_ ?_);(·exact bj))|((refine aQ (oZ _ _ _ _ _ _ _ _ _ (by exact rfl)) ?_ ?_);(·exact True.intro))|((refine aV (fun _=>oZ _ _ _ _ _ _ _ _ _ (by exact rfl)) ?_ ?_);(·exact True.intro))|refine aH ?_|((with_reducible refine aB ?_ ?_)<;>intro hc<;>(try simp only[List.length_map,ne_eq,dP] at hc)<;>try(exfalso;omega)))
 ·congr 2
  simp only[gw,kindOk]
  grind
 ·congr 2
  obtain⟨hc1,hc2⟩:=hc
  have hk:1≤i.kind∧i.kind≤10:=by omega
  obtain⟨e1,e2⟩:=A2 i.kind i.op hk
  have h3:0≤i.fr:=by omega
  have h0:=hi.op.1
  simp only[CR,e1,e2,ne_eq,Decidable.not_not,bne,x9 _ h0,Bool.not_not]
  simp only[gw,kindOk,hk.1,hk.2,h3,hc2,decide_true,Bool.true_and,ne_eq,Bool.if_true_left,Bool.if_false_right,Bool.decide_eq_true]
  by_cases hk2:i.kind=2<;>by_cases hk1:i.kind=1<;>simp[hk1,hk2,Bool.and_assoc]
end Go.Proofs.YtlonbgdonffcbaaGreatDoor
end
section
/- What objects and lists read as. -/
namespace Go.Proofs.YtlonbgdonffcbaaGreatDoor
open Go Go.cW Go.Proofs Go.RowKit Go.ChangeShapes Go.WideShapes Go.ChangeAt
theorem eu {n:Int} (h:(Lit.int .i64 n).wf=true):cy n:=by
 simp only[Lit.wf,Bool.and_eq_true,decide_eq_true_eq] at h
 have e1:IntKind.i64.min=-9223372036854775808:=by decide
 have e2:IntKind.i64.max=9223372036854775807:=by decide
 unfold cy
 omega
theorem tP {n:Int} (h:(Lit.int .u8 n).wf=true):0≤n∧n<256:=by
 simp only[Lit.wf,Bool.and_eq_true,decide_eq_true_eq] at h
 have e1:IntKind.u8.min=0:=by decide
 have e2:IntKind.u8.max=255:=by decide
 omega
theorem vy:eF Tryz.prog 63 Instr.cells Instr.Wf:=by
 refine eF.map (α:=Int×Int×Int×Int×Int×Int×Int×Int×Int×Unit) (fun p=>(⟨p.1,p.2.1,p.2.2.1,p.2.2.2.1,p.2.2.2.2.1,p.2.2.2.2.2.1,p.2.2.2.2.2.2.1,p.2.2.2.2.2.2.2.1,p.2.2.2.2.2.2.2.2.1⟩:Instr))
  (gz (k:=9) Tryz.underlying63 (by kernel_rfl)
   (cm (k:=1) rfl (by kernel_rfl) (dW Tryz.underlying60) (cm (k:=1) rfl (by kernel_rfl) (dW Tryz.underlying61) (cm (k:=1) rfl (by kernel_rfl) (dW Tryz.underlying3) (cm (k:=1) rfl (by kernel_rfl) (dW Tryz.underlying3) (cm (k:=1) rfl (by kernel_rfl) (dW Tryz.underlying3) (cm (k:=1) rfl (by kernel_rfl) (dW Tryz.underlying3) (cm (k:=1) rfl (by kernel_rfl) (dW Tryz.underlying3) (cm (k:=1) rfl (by kernel_rfl) (dW Tryz.underlying2) (cm (k:=1) rfl (by kernel_rfl) (dW Tryz.underlying3) kD)))))))))) ?_ ?_
 ·intro a _;rfl
 ·intro a h
  obtain⟨h1,h2,h3,h4,h5,h6,h7,h8,h9,_⟩:=h
  exact⟨tP h1,tP h2,eu h3,eu h4,eu h5,eu h6,eu h7,eu h8,eu h9⟩
theorem xe {t e:TypeId} (ht:Tryz.prog.underlying t=some (.slice e)) (he:Tryz.prog.underlying e=some (.int .i64)) (hsz:Tryz.prog.cellsOf e=1) (hb:Tryz.prog.bytesOf e=8):eF Tryz.prog t (fun l:List Int=>[.im 1 .any (l.map i64)]) (fun l=>(∀x∈l,cy x)∧l.length * 8≤140737488351232):=by
 refine(jH (ag:=false) (sz:=1) .any ht hsz (by omega) (dW he) (fun _=>rfl) (fun _ _=>rfl) (fun _=>rfl)).map (fun l=>l) (fun _ _=>rfl) ?_
 rintro l ⟨h1,h2⟩
 rw[hb] at h2
 exact⟨fun x hx=>eu (h1 x hx),h2⟩
theorem xc:eF Tryz.prog 64 (fun l:List Instr=>[.im 9 .any (l.map Instr.av)]) (fun l=>(∀x∈l,x.Wf)∧l.length * 64≤140737488351232):=by
 have hb:Tryz.prog.bytesOf 63=64:=by kernel_rfl
 refine(jH (ag:=true) (sz:=9) .any Tryz.underlying64 (by kernel_rfl) (by omega) vy (fun _=>rfl) (fun _ _=>rfl) (fun h=>by cases h)).map (fun l=>l) (fun _ _=>rfl) ?_
 rintro l ⟨h1,h2⟩
 rw[hb] at h2
 exact⟨h1,h2⟩
theorem xd:eF Tryz.prog 66 Core.cells Core.Wf:=by
 refine eF.map (α:=ByteArray×List Instr×Unit) (fun p=>(⟨p.1,p.2.1⟩:Core))
  (gz (k:=2) Tryz.underlying66 (by kernel_rfl) (cm (k:=1) rfl (by kernel_rfl) (tV Tryz.underlying9) (cm (k:=1) rfl (by kernel_rfl) xc kD))) ?_ ?_
 ·intro a _;rfl
 ·intro a h
  exact⟨h.1,h.2.1.1,h.2.1.2⟩
theorem vx:eF Tryz.prog 23 (fun l:List Core=>[.im 2 .any (l.map Core.av)]) (fun l=>(∀x∈l,x.Wf)∧l.length * 40≤140737488351232):=by
 have hb:Tryz.prog.bytesOf 66=40:=by kernel_rfl
 refine(jH (ag:=true) (sz:=2) .any Tryz.underlying23 (by kernel_rfl) (by omega) xd (fun _=>rfl) (fun _ _=>rfl) (fun h=>by cases h)).map (fun l=>l) (fun _ _=>rfl) ?_
 rintro l ⟨h1,h2⟩
 rw[hb] at h2
 exact⟨h1,h2⟩
theorem BC:eF Tryz.prog 25 Obj.cells Obj.Wf:=by
 refine eF.map (α:=List Int×Int×Int×Int×List Core×Unit) (fun p=>(⟨p.1,p.2.1,p.2.2.1,p.2.2.2.1,p.2.2.2.2.1⟩:Obj))
  (gz (k:=5) Tryz.underlying25 (by kernel_rfl) (cm (k:=1) rfl (by kernel_rfl) (xe Tryz.underlying22 Tryz.underlying2 (by kernel_rfl) (by kernel_rfl))
   (cm (k:=1) rfl (by kernel_rfl) (dW Tryz.underlying3) (cm (k:=1) rfl (by kernel_rfl) (dW Tryz.underlying3) (cm (k:=1) rfl (by kernel_rfl) (dW Tryz.underlying3) (cm (k:=1) rfl (by kernel_rfl) vx kD)))))) ?_ ?_
 ·intro a _;rfl
 ·intro a h
  obtain⟨⟨h1,h2⟩,h3,h4,h5,⟨h6,h7⟩,_⟩:=h
  exact⟨h1,h2,eu h3,eu h4,eu h5,h6,h7⟩
structure cM where
 kind:Int
 core:Int
 deriving Inhabited,DecidableEq
def cM.cells (s:cM):List AV:=[u8 s.kind,i64 s.core]
abbrev cM.av (s:cM):AV:= .agg s.cells
@[simp] theorem M7 (n:Nat) (i:cM):cG n i.cells:=by simp[cM.cells,cG,cC]
structure cM.Wf (s:cM):Prop where
 kind:0≤s.kind∧s.kind<256
 core:cy s.core
theorem vz:eF Tryz.prog 42 cM.cells cM.Wf:=by
 refine eF.map (α:=Int×Int×Unit) (fun p=>(⟨p.1,p.2.1⟩:cM)) (gz (k:=2) Tryz.underlying42 (by kernel_rfl) (cm (k:=1) rfl (by kernel_rfl) (dW Tryz.underlying40) (cm (k:=1) rfl (by kernel_rfl) (dW Tryz.underlying3) kD))) ?_ ?_
 ·intro a _;rfl
 ·intro a h;exact⟨tP h.1,eu h.2.1⟩
theorem wA:eF Tryz.prog 26 (fun l:List cM=>[.im 2 .any (l.map cM.av)]) (fun l=>(∀x∈l,x.Wf)∧l.length * 16≤140737488351232):=by
 have hb:Tryz.prog.bytesOf 42=16:=by kernel_rfl
 refine(jH (ag:=true) (sz:=2) .any Tryz.underlying26 (by kernel_rfl) (by omega) vz (fun _=>rfl) (fun _ _=>rfl) (fun h=>by cases h)).map (fun l=>l) (fun _ _=>rfl) ?_
 rintro l ⟨h1,h2⟩
 rw[hb] at h2
 exact⟨h1,h2⟩
theorem own:ownKnob Tryz.prog.godebug=none:=by kernel_rfl
theorem laidOut:laidOutB Tryz.prog=true:=by kernel_rfl
end Go.Proofs.YtlonbgdonffcbaaGreatDoor
end
section
/- What the library's tables read as; none of them is read here. -/
namespace Go.Proofs.YtlonbgdonffcbaaGreatDoor
open Go Go.cW Go.Proofs Go.RowKit Go.ChangeShapes Go.WideShapes Go.ChangeAt
abbrev vE:List (String×DataW Unit):=[("math/bits.deBruijn32tab",Rows.laid_math_bits_deBruijn32tab),("math/bits.deBruijn64tab",Rows.laid_math_bits_deBruijn64tab),("internal/strconv.uint64pow10",Rows.laid_internal_strconv_uint64pow10)]
theorem C7 (os:Os) (args:Array Value):laidMetH Tryz.prog vE ((World.doorLaid Tryz.prog 400 os).forCall (fun _ _=>0) ⟨#[],args,[]⟩).memory:=
 laidMetH_of_parts3 (fuel:=8) (laidMet_of_run' 8 (by kernel_rfl) (by kernel_rfl)) (by kernel_rfl) (by kernel_rfl)
theorem I8 {W:World} (_:laidMetH Tryz.prog vE W):tz W emp:=⟨fun _ h=>h.elim,fun t ht=>by cases ht⟩
end Go.Proofs.YtlonbgdonffcbaaGreatDoor
end
