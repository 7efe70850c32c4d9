import Derived.Test.YtekfmjjmihomlaaGreatM32
import Derived.LoopTactic
import Derived.Lib.ItoaMem
import Derived.Test.YtekfmjjmihomlaaGreatM30
import Derived.Test.YtekfmjjmihomlaaGreatM31
section
/- A word in decimals: the code's Print walked. -/
namespace Go.Proofs.YtekfmjjmihomlaaGreat
open Go Go.cV Go.Proofs Go.RowKit
set_option linter.unusedVariables false
set_option linter.unusedSimpArgs false
open Go.Lib (decDigits itoa)
theorem xc (n:Int):IntKind.u64.wrap n=n%18446744073709551616:=by simp[IntKind.wrap,IntKind.bits,IntKind.signed]
theorem pX:∀(k u:Nat),u<10^(k+1)→(decDigits u).length≤k+1
 |k,u,h=>by
  rw[decDigits]
  split
  ·simp
  ·rename_i hu
   cases k with
   |zero=>omega
   |succ k=>
    have:=pX k (u /10) (by rw[Nat.pow_succ] at h;omega)
    simp only[List.length_append,List.length_cons,List.length_nil]
    omega
theorem zr (u:Nat):0<(decDigits u).length:=by
 rw[decDigits]
 split<;>simp
def iI (l:List UInt8):Array Value:=(List.replicate (20 - l.length) (Value.int .u8 0)++l.map fun b=>Value.int .u8 (b.toNat:Int)).toArray
theorem zm {l:List UInt8} {k:Nat} (h:k+l.length=19):(iI l)[k]?=some (.int .u8 0):=by
 simp only[iI,List.getElem?_toArray]
 rw[List.getElem?_append_left (by simp;omega),List.getElem?_replicate,if_pos (by omega)]
theorem zn {l:List UInt8} {k:Nat} (h:k+l.length=19) (d:UInt8):(iI l).setIfInBounds k (.int .u8 (d.toNat:Int))=iI (d::l):=by
 have h1:20 - l.length=k+1:=by omega
 have h2:20 - (d::l).length=k:=by simp;omega
 unfold iI
 rw[h1,h2,List.replicate_succ',List.setIfInBounds_toArray]
 congr 1
 rw[List.append_assoc,List.set_append_right _ _ (by simp)]
 simp
theorem M3 {l:List UInt8} {k i:Nat} (h:k+l.length=20) (hi:i<l.length):(iI l)[k+i]?=some (.int .u8 ((l.getD i 0).toNat:Int)):=by
 have h1:20 - l.length=k:=by omega
 simp only[iI,h1,List.getElem?_toArray]
 rw[List.getElem?_append_right (by simp)]
 simp[List.getD,List.getElem?_eq_getElem hi]
theorem zq (W:World) (b j:Nat) (z:Int) (hz:z=(j:Int)) (h:j<20):
 (Instr.sliceAt 189 (.pointer (some ⟨b,0,none⟩)) (some (.int .i64 z)) none none).run Tryz.prog W= .ok (.slice (some ⟨b,j,none⟩) (20 - j) (20 - j)) W:=by
 subst hz
 have al:Tryz.prog.arrayLen 189=20:=by kernel_rfl
 have el:Tryz.prog.elem 189=5:=by kernel_rfl
 rw[run_sliceAt_array_l W 189 ⟨b,0,none⟩ (by rw[al,el];exact Tryz.underlying189) .i64 (j:Int) (by omega) (by rw[al];omega),el,al]
 rw[show(sizeOf 5).run Tryz.prog W= .ok 1 W by kernel_rfl]
 simp only[Result.andThen,slicedAt,Int.toNat_natCast,Nat.mul_one]
 rw[if_neg (by omega),Go.Lib.add_plain,Nat.zero_add]
theorem x6 (w:World) (j:Nat) (l:List UInt8) (h:j+l.length=20):
 (convert 147 9 (.slice (some ⟨w.heap.size,j,none⟩) (20 - j) (20 - j))).run Tryz.prog (w.alloc (.cells (iI l) 189))= .ok (.string ⟨l.toArray⟩) (w.alloc (.cells (iI l) 189)):=by
 rw[run_convert_bytes_arg _ 147 5 Tryz.underlying147 Tryz.underlying5 w.heap.size j (20 - j) (20 - j) (l.map fun b=>(b.toNat:Int)) (by simp;omega) (fun i hi=> ?_) 9 Tryz.underlying9]
 ·congr 2
  simp[strOfNums,Function.comp_def]
 ·rw[World.cell?_alloc_new,M3 h (by omega)]
  congr 2
  simp[List.getD]
  cases hh:l[i]?<;>simp
set_option maxHeartbeats 1000000 in
set_option maxRecDepth 100000 in
theorem yx (x:Int) (h1:-9223372036854775808≤x) (h2:x≤9223372036854775807) (w:World):
 Calls Tryz.prog 93 #[.int .i64 x] w fun e w'=>e= .returned (.string ⟨(itoa x).toArray⟩)∧Below w.heap.size w w':=by
 have t1:=Tryz.underlying189
 have t2:=Tryz.underlying2
 have t3:=Tryz.underlying3
 have t4:=Tryz.underlying173
 have t5:=Tryz.underlying5
 have t6:=Tryz.underlying9
 have t7:=Tryz.underlying147
 have hu19:(decDigits x.natAbs).length≤19:=pX 18 _ (by omega)
 go_enter Tryz.func93,Tryz.ntmps93
 go_wp2
 all_goals
  go_loopw [4,5] (fun va vn wr=>∃(k n:Nat) (l:List UInt8),va= .int .i64 ((k+1:Nat):Int)∧vn= .int .u64 n∧k+l.length=19∧n≤9223372036854775808∧decDigits x.natAbs=decDigits n++l∧wr=w.alloc (.cells (iI l) 189)) (fun va _ _=>(RowKit.intOf va).toNat)
  case atStart=>
   refine⟨19,x.natAbs,[],rfl, ?_,rfl,by omega,by simp,rfl⟩
   simp only[xc]
   congr 1
   omega
  case round=>
   obtain⟨k,n,l,rfl,rfl,hk,hn,hd,rfl⟩:=hrel
   have hn0:=zr n
   have hlen:=congrArg List.length hd
   rw[List.length_append] at hlen
   have hk1:1≤k:=by omega
   have hk2:k≤19:=by omega
   have hg:=zm hk
   have hq:IntKind.u64.wrap ((n:Int) /10)=((n /10:Nat):Int):=by rw[xc];omega
   obtain⟨d,hde⟩:∃d:UInt8,UInt8.ofNat (48+n%10)=d:=⟨_,rfl⟩
   have hset:(iI l).setIfInBounds k (.int .u8 (48+(n:Int)%10))=iI (d::l):=by
    rw[←zn hk,←hde,UInt8.toNat_ofNat']
    congr 2
    omega
   have hg2:(iI (d::l))[k - 1]?=some (.int .u8 0):=zm (by simp;omega)
   have hset2:(iI (d::l)).setIfInBounds (k - 1) (.int .u8 45)=iI (45::d::l):=zn (by simp;omega) 45
   have hs1:=zq (w.alloc (.cells (iI (d::l)) 189)) w.heap.size k (k:Int) rfl (by omega)
   have hs2:=zq (w.alloc (.cells (iI (45::d::l)) 189)) w.heap.size (k - 1) ((k:Int) - 1) (by omega) (by omega)
   have hc1:=x6 w k (d::l) (by simp;omega)
   have hc2:=x6 w (k - 1) (45::d::l) (by simp;omega)
   go_wp2
   case roundEnd=>
    rename_i hz
    have hz:¬n<10:=by simp at hz;omega
    refine⟨⟨k - 1,n /10,d::l,by congr 1;omega,by simp,by simp;omega,Nat.le_trans (Nat.div_le_self _ _) hn, ?_,rfl⟩,by simp[RowKit.intOf]⟩
    rw[hd,decDigits,dif_neg hz,←hde,List.append_assoc];rfl
   all_goals
    have hz:((n:Int) /10==0)=true:=by assumption
    have hz:n<10:=by simp at hz;omega
    have hd2:decDigits x.natAbs=d::l:=by
     rw[hd,decDigits.eq_def n,dif_pos hz,←hde,Nat.mod_eq_of_lt hz];rfl
    go_ret
    refine⟨?_,(Below.refl _ _).alloc (Nat.le_refl _) _⟩
    rw[itoa]
    first
    |(rw[if_pos (by assumption),hd2];rfl)
    |(rw[if_neg (by omega),show x.toNat=x.natAbs by omega,hd2];rfl)
theorem yw (x:Int) (h1:-9223372036854775808≤x) (h2:x≤9223372036854775807):Pure Tryz.prog 93 [.sc (.int .i64 x)] (fun r=>r= .sc (.string ⟨(itoa x).toArray⟩)):=by
 refine⟨⟨_,Tryz.func93,by kernel_rfl,by kernel_rfl⟩,fun M w vs hM hv=> ?_⟩
 rw[c8] at hv
 obtain⟨v,vs',rfl,h3,h4⟩:=hv
 rw[VR] at h3
 rw[c8] at h4
 subst h3
 subst h4
 refine(yx x h1 h2 w).mono ?_
 rintro e w' ⟨rfl,hb⟩
 exact⟨_,_,rfl,rfl,by simp[bw],by rw[VR],hb⟩
end Go.Proofs.YtekfmjjmihomlaaGreat
end
section
/- The library's text builder: what is written comes behind what stands. -/
namespace Go.Proofs.YtekfmjjmihomlaaGreat
open Go Go.cV Go.Proofs
set_option linter.unusedSimpArgs false
set_option linter.unusedVariables false
abbrev eL (l:List UInt8):ByteArray:=⟨l.toArray⟩
theorem sK (l k:List UInt8):cF (eL l)++cF (eL k)=cF (eL (l++k)):=by simp[cF,eL]
theorem jC (l:List UInt8):(cF (eL l)).length=l.length:=by simp[cF,eL]
def Bd (b:Nat) (l:List UInt8) (H:Hp) (n:Nat):Prop:=∃A d,(A= .sc (.pointer none)∨A= .pt b 1 0 0)∧
 ((l=[]∧bd H b=some (.row 149 2 d [.agg [A, .sc (.slice none 0 0)]]))∨
   ∃q d2,q<n∧q≠b∧bd H b=some (.row 149 2 d [.agg [A, .sl q l.length]])∧bd H q=some (.row 5 1 d2 (cF (eL l))))
def QK (b n:Nat) (H H2:Hp):Prop:=∀y,y<n→y≠b→(∀d es,bd H y≠some (.row 5 1 d es))→bd H2 y=bd H y
theorem xb {b nx:Nat} {l k:List UInt8} {H:Hp} (hB:Bd b l H nx) (hb:b<nx) (hk:k≠[]) (hsz:l.length+k.length≤140737488355328):
 cJ Tryz.prog 92 [.pt b 1 0 0, .sc (.string (eL k))] H nx (fun r H2 n2=>nx≤n2∧Bd b (l++k) H2 n2∧QK b nx H H2):=by
 obtain⟨A,d,hA,⟨rfl,hr⟩|⟨q,d2,hq,hqb,hr,hr2⟩⟩:=hB
 ·refine aQ CT rfl ?_
  refine cN ?_
  refine aL (l7 hr hA) ?_
  rintro _ H2 n2 ⟨rfl,rfl,rfl⟩
  have a0:(cF (eL k)).length * 1≤iR:=by rw[jC];simp at hsz;show _≤140737488355328;omega
  refine cN ?_
  rw[List.nil_append]
  have e1:=jC k
  exact⟨cU,⟨_,d, .inr rfl, .inr ⟨nx+9,_,by omega,by omega,by rw[←e1];exact bf,bf⟩⟩,fun y h1 h2 h3=>br⟩
 ·refine aQ CT rfl ?_
  refine cN ?_
  refine aL (l7 hr hA) ?_
  rintro _ H2 n2 ⟨rfl,rfl,rfl⟩
  have a0:(cF (eL l)).length=l.length∧5=5∧1=1:=⟨jC l,rfl,rfl⟩
  have a1:(l.length+(cF (eL k)).length) * 1≤iR:=by rw[jC];show _≤140737488355328;omega
  refine cN ?_
  have e1:(l++k).length=l.length+(cF (eL k)).length:=by rw[jC,List.length_append]
  exact⟨cU,⟨_,d, .inr rfl, .inr ⟨q,_,by omega,hqb,by rw[e1];exact bf,by rw[←sK];exact bf⟩⟩,fun y h1 h2 h3=>by
   have hyq:y≠q:=fun e=>by subst e;exact h3 _ _ hr2
   exact br⟩
theorem lY {b nx:Nat} {l:List UInt8} {c:UInt8} {H:Hp} (hB:Bd b l H nx) (hb:b<nx) (hsz:l.length+1≤140737488355328):
 cJ Tryz.prog 94 [.pt b 1 0 0, .sc (.int .u8 (c.toNat:Int))] H nx (fun r H2 n2=>nx≤n2∧Bd b (l++[c]) H2 n2∧QK b nx H H2):=by
 obtain⟨A,d,hA,⟨rfl,hr⟩|⟨q,d2,hq,hqb,hr,hr2⟩⟩:=hB
 ·refine aQ CU rfl ?_
  refine cN ?_
  refine aL (l7 hr hA) ?_
  rintro _ H2 n2 ⟨rfl,rfl,rfl⟩
  refine cN ?_
  exact⟨cU,⟨_,d, .inr rfl, .inr ⟨nx+9,fU false [.int .u8 0],by omega,by omega,bf,show _=some (eT.row _ _ _ [.sc (.int .u8 (c.toNat:Int))]) from bf⟩⟩,fun y h1 h2 h3=>br⟩
 ·refine aQ CU rfl ?_
  refine cN ?_
  refine aL (l7 hr hA) ?_
  rintro _ H2 n2 ⟨rfl,rfl,rfl⟩
  have a0:(cF (eL l)).length=l.length∧5=5∧1=1:=⟨jC l,rfl,rfl⟩
  refine cN ?_
  exact⟨cU,⟨_,d, .inr rfl, .inr ⟨q,_,by omega,hqb,by rw[List.length_append];exact bf,by rw[←sK];exact bf⟩⟩,fun y h1 h2 h3=>by
   have hyq:y≠q:=fun e=>by subst e;exact h3 _ _ hr2
   exact br⟩
theorem Bd.skip {b n n2:Nat} {l:List UInt8} {H H2:Hp} (h:Bd b l H n) (hn:n≤n2) (hk:∀y,y<n→bd H2 y=bd H y) (hb:b<n:=by omega):Bd b l H2 n2:=by
 obtain⟨A,d,hA,⟨h0,hr⟩|⟨q,d2,hq,hqb,hr,hr2⟩⟩:=h
 ·exact⟨A,d,hA, .inl ⟨h0,(hk b hb).trans hr⟩⟩
 ·exact⟨A,d,hA, .inr ⟨q,d2,by omega,hqb,(hk b hb).trans hr,(hk q hq).trans hr2⟩⟩
theorem vh (x:Int):0<(Go.Lib.itoa x).length:=by
 unfold Go.Lib.itoa
 split
 ·simp
 ·exact zr _
def cz (x:Int) (e:List UInt8):List UInt8:=Go.Lib.itoa x++e
theorem kA {b nx:Nat} {l e:List UInt8} {x:Int} {H:Hp} (hB:Bd b l H nx) (hb:b<nx) (h1:-9223372036854775808≤x) (h2:x≤9223372036854775807) (hsz:l.length+(cz x e).length≤140737488355328):
 cJ Tryz.prog 91 [.sc (.int .i64 x), .sc (.string (eL e)), .pt b 1 0 0] H nx (fun r H2 n2=>nx≤n2∧Bd b (l++cz x e) H2 n2∧QK b nx H H2):=by
 have c0:Pure Tryz.prog 93 [.sc (.int .i64 x)] (fun r=>r= .sc (.string (eL (Go.Lib.itoa x)))):=yw x h1 h2
 have he:eL (Go.Lib.itoa x)++eL e=eL (cz x e):=by
  apply ByteArray.ext
  simp[eL,cz]
 have hl:(cz x e).length=(Go.Lib.itoa x).length+e.length:=by simp[cz]
 have a0:(eL (Go.Lib.itoa x)).size+(eL e).size≤9223372036854775807:=by
  show(Go.Lib.itoa x).toArray.size+e.toArray.size≤_
  simp only[List.size_toArray]
  omega
 have hne:cz x e≠[]:=by
  have:=vh x
  intro h
  rw[h] at hl
  simp at hl
  omega
 refine aQ HF rfl ?_
 refine cN ?_
 rw[he]
 refine aL (xb (hB.skip (by omega) ?_) (by omega) hne hsz) ?_
 ·exact fun y hy=>br
 rintro _ H2 n2 ⟨hn,hB2,ho⟩
 refine cN ?_
 exact⟨by omega,hB2.skip (Nat.le_refl _) fun y hy=>br,fun y q1 q2 q3=>Eq.trans br (by rw[ho y (by omega) q2 (by rw[show bd _ y=bd H y from br];exact q3)];exact br)⟩
end Go.Proofs.YtekfmjjmihomlaaGreat
end
section
/- The document's Print of a word. -/
namespace Go.Proofs.YtekfmjjmihomlaaGreat
open Go Go.cV Go.Proofs
set_option linter.unusedSimpArgs false
set_option linter.unusedVariables false
open Go.Lib (decDigits itoa)
theorem RC (n:Int):IntKind.u8.wrap n=n%256:=by simp[IntKind.wrap,IntKind.bits,IntKind.signed]
theorem vG (n:Nat) (hn:n<18446744073709551616):Pure Tryz.prog 135 [.sc (.int .u64 (n:Int))] (fun r=>r= .sc (.string (eL (decDigits n)))):=by
 induction n using Nat.strongRecOn with
 |_ n ih=>
  have r0:IntKind.u8.wrap (IntKind.u64.wrap (48+(n:Int)%10))=48+(n:Int)%10:=by rw[xc,RC];omega
  by_cases h:n<10
  ·have r1:IntKind.u8.wrap (IntKind.u64.wrap (48+(n:Int)))=48+(n:Int):=by rw[xc,RC];omega
   refine aI tA rfl ?_
   refine cN ?_
   rw[decDigits,dif_pos h]
   refine congrArg (fun s=>AV.sc (.string s)) ?_
   apply ByteArray.ext
   show #[UInt8.ofNat (48+(n:Int)).toNat]=_
   rw[show(48+(n:Int)).toNat=48+n by omega]
  ·have c0:=ih (n /10) (by omega) (by omega)
   have r1:IntKind.u64.wrap ((n:Int).tdiv 10)=((n /10:Nat):Int):=by rw[xc,Int.tdiv_eq_ediv_of_nonneg (by omega)];omega
   have r2:(n:Int).tmod 10=(n:Int)%10:=Int.tmod_eq_emod_of_nonneg (by omega)
   have a0:(eL (decDigits (n /10))).size+(DQ [48+(n:Int)%10]).size≤9223372036854775807:=by
    have:=pX 19 (n /10) (by omega)
    show(decDigits (n /10)).toArray.size+1≤_
    simp only[List.size_toArray]
    omega
   refine aI tA rfl ?_
   refine cN ?_
   rw[decDigits.eq_def n,dif_neg h]
   refine congrArg (fun s=>AV.sc (.string s)) ?_
   apply ByteArray.ext
   rw[ByteArray.data_append,show(DQ [48+(n:Int)%10]).data=#[UInt8.ofNat (48+(n:Int)%10).toNat] from rfl,show(48+(n:Int)%10).toNat=48+n%10 by omega]
   simp[eL]
theorem gL (x:Int) (h1:-9223372036854775808≤x) (h2:x≤9223372036854775807):Pure Tryz.prog 99 [.sc (.int .i64 x)] (fun r=>r= .sc (.string (eL (itoa x)))):=by
 have c0:=vG x.natAbs (by omega)
 by_cases h:0≤x
 ·have r1:IntKind.u64.wrap x=(x.natAbs:Int):=by rw[xc];omega
  refine aI CV rfl ?_
  refine cN ?_
  rw[itoa,if_neg (by omega),show x.toNat=x.natAbs by omega]
 ·have r1:IntKind.u64.wrap (0 - IntKind.u64.wrap x)=(x.natAbs:Int):=by rw[xc,xc];omega
  have a0:(ByteArray.mk [45].toArray).size+(eL (decDigits x.natAbs)).size≤9223372036854775807:=by
   have:=pX 19 x.natAbs (by omega)
   show 1+(decDigits x.natAbs).toArray.size≤_
   simp only[List.size_toArray]
   omega
  refine aI CV rfl ?_
  refine cN ?_
  rw[itoa,if_pos (by omega)]
  refine congrArg (fun s=>AV.sc (.string s)) ?_
  apply ByteArray.ext
  simp[eL]
end Go.Proofs.YtekfmjjmihomlaaGreat
end
section
/- The key of a situation. -/
namespace Go.Proofs.YtekfmjjmihomlaaGreat
open Go Go.cV Go.Proofs
set_option linter.unusedSimpArgs false
set_option linter.unusedVariables false
def lV (m:MS) (t:Nat):List UInt8:=cz (m.at_.getD t 0) [44]++(m.bg.getD t []).flatMap (fun w=>cz w [44])++[124]
def rW (p:cM):List UInt8:=cz p.cS [58]++cz p.word [44]
def eW (m:MS):List UInt8:=(List.range m.at_.length).flatMap (lV m)++m.mem.flatMap (fun w=>cz w [44])++[124]++m.hold.flatMap (fun w=>cz w [44])++[124]++m.bk.flatMap rW
structure QJ (m:MS):Prop where
 aw:∀w∈m.at_,dz w
 sl:m.bg.length=m.at_.length
 sw:∀l∈m.bg,∀w∈l,dz w
 mw:∀w∈m.mem,dz w
 hw:∀w∈m.hold,dz w
 pw:∀p∈m.bk,dz p.cS∧dz p.word
 sz:(eW m).length≤140737488355328
theorem LR {α:Type} (f:α→List UInt8) (l:List α) (j:Nat):((l.take j).flatMap f).length≤(l.flatMap f).length:=by
 conv=>rhs;rw[←List.take_append_drop j l,List.flatMap_append,List.length_append]
 omega
theorem fH {α:Type} (f:α→List UInt8) {l:List α} {j:Nat} (h:j<l.length) (d:α):(l.take (j+1)).flatMap f=(l.take j).flatMap f++f (l.getD j d):=by
 rw[List.take_succ_eq_append_getElem h,List.flatMap_append]
 simp[List.getD,List.getElem?_eq_getElem h]
theorem iF {α:Type} (f:α→List UInt8) {l:List α} {j:Nat} (h:j<l.length) (d:α):((l.take j).flatMap f).length+(f (l.getD j d)).length≤(l.flatMap f).length:=by
 have:=LR f l (j+1)
 rw[fH f h d,List.length_append] at this
 exact this
theorem j7 {l:List Int} (h:∀w∈l,dz w) {j:Nat} (hj:j<l.length):dz (l.getD j 0):=h _ (cX 0 hj)
theorem p9 (m:MS):(eW m).length=((List.range m.at_.length).flatMap (lV m)).length+(m.mem.flatMap (fun w=>cz w [44])).length+1+(m.hold.flatMap (fun w=>cz w [44])).length+1+(m.bk.flatMap rW).length:=by
 simp only[eW,List.length_append,List.length_cons,List.length_nil]
theorem xG {n i:Nat} (h:i<n):(List.range n).getD i 0=i:=by simp[List.getD,h]
theorem gT {α:Type} (f:α→List UInt8) (hf:∀a,0<(f a).length):∀l:List α,l.length≤(l.flatMap f).length
 |[]=>Nat.zero_le _
 |a::l=>by
  have h1:=gT f hf l
  have h2:=hf a
  rw[List.flatMap_cons,List.length_append,List.length_cons]
  omega
theorem jO (x:Int) (e:List UInt8):0<(cz x e).length:=by
 have:=vh x
 unfold cz
 rw[List.length_append]
 omega
theorem BB (m:MS) (t:Nat):0<(lV m t).length:=by
 unfold lV
 rw[List.length_append]
 simp
theorem A4 (p:cM):0<(rW p).length:=by
 have:=jO p.cS [58]
 unfold rW
 rw[List.length_append]
 omega
set_option maxHeartbeats 2000000 in
theorem uC (u:bj) (m:MS) (h:QJ m):Pure Tryz.prog 64 [m.fz u] (fun r=>r= .sc (.string (eL (eW m)))):=by
 have hsz:=h.sz
 rw[p9] at hsz
 have g1:=gT (lV m) (BB m) (List.range m.at_.length)
 have g2:=gT (fun w=>cz w [44]) (fun w=>jO w _) m.mem
 have g3:=gT (fun w=>cz w [44]) (fun w=>jO w _) m.hold
 have g4:=gT rW A4 m.bk
 rw[List.length_range] at g1
 refine dP ?_ (by simp[bw])
 refine aQ GS rfl ?_
 refine cN ?_
 rw[List.length_map]
 refine aP (fun i:Nat=>[(0,m.fz u),(3, .pt 3 1 0 0),(4, .fn (.func 91) [] [.pt 3 1 0 0]),(21,cW m.at_),(22,i64 m.at_.length),(23,i64 i)])
  (fun i H n=>i≤m.at_.length∧4≤n∧Bd 3 (((List.range m.at_.length).take i).flatMap (lV m)) H n) (fun i=>m.at_.length - i) 0 cC ⟨Nat.zero_le _,cU,⟨.sc (.pointer none),_, .inl rfl, .inl ⟨rfl,bf⟩⟩⟩ ?_
 rintro i H n ⟨hi,hn,hB⟩
 by_cases hil:i<m.at_.length
 ·have e0:=fun d=>eG (l:=m.at_) hil d
  have e1:∀d,(m.bg.map cW).getD ((i:Int)).toNat d=cW (m.bg.getD i []):=fun d=>by rw[Int.toNat_natCast];exact cu cW m.bg i d (by rw[h.sl];exact hil)
  have a0:(m.at_.map i64).length=m.at_.length:=by simp
  have a1:(m.bg.map cW).length=m.at_.length:=by simp[h.sl]
  have hle:=iF (lV m) (l:=List.range m.at_.length) (j:=i) (by simpa using hil) 0
  have hnx:=fH (lV m) (l:=List.range m.at_.length) (j:=i) (by simpa using hil) 0
  rw[xG hil] at hle hnx
  have hw:=j7 h.aw hil
  have hth:(lV m i).length=(cz (m.at_.getD i 0) [44]).length+((m.bg.getD i []).flatMap (fun w=>cz w [44])).length+1:=by simp only[lV,List.length_append,List.length_cons,List.length_nil]
  have hthe:lV m i=cz (m.at_.getD i 0) [44]++(m.bg.getD i []).flatMap (fun w=>cz w [44])++[124]:=rfl
  have hsw:=h.sw _ (cX (l:=m.bg) [] (by rw[h.sl];exact hil))
  refine cN ?_
  refine aL (kA (e:=[44]) (hB.skip (by omega) ?_) (by omega) hw.1 (by have:=hw.2;omega) (by omega)) ?_
  ·exact fun y hy=>br
  rintro _ H2 n2 ⟨hn2,hB2,_⟩
  refine cN ?_
  generalize m.bg.getD i []=sl at *
  have g5:=gT (fun w=>cz w [44]) (fun w=>jO w _) sl
  rw[List.length_map]
  refine aP (fun j:Nat=>[(0,m.fz u),(3, .pt 3 1 0 0),(4, .fn (.func 91) [] [.pt 3 1 0 0]),(5,i64 i),(21,cW m.at_),(22,i64 m.at_.length),(23,i64 i),(37,cW sl),(38,i64 (sl).length),(39,i64 j)])
   (fun j H n=>j≤(sl).length∧4≤n∧Bd 3 ((((List.range m.at_.length).take i).flatMap (lV m)++cz (m.at_.getD i 0) [44])++((sl).take j).flatMap (fun w=>cz w [44])) H n) (fun j=>(sl).length - j) 0 cC ⟨Nat.zero_le _,cU,by rw[List.take_zero,List.flatMap_nil,List.append_nil];exact hB2.skip (by omega) fun y hy=>br⟩ ?_
  clear hB2
  rintro j H n ⟨hj,hn,hB⟩
  by_cases hjl:j<(sl).length
  ·have e2:=fun d=>eG (l:=sl) hjl d
   have a2:((sl).map i64).length=(sl).length:=by simp
   have hle2:=iF (fun w=>cz w [44]) hjl 0
   have hnx2:=fH (fun w=>cz w [44]) hjl 0
   have hw2:=j7 hsw hjl
   refine cN ?_
   refine aL (kA (e:=[44]) (hB.skip (by omega) ?_) (by omega) hw2.1 (by have:=hw2.2;omega) (by rw[List.length_append,List.length_append];omega)) ?_
   ·exact fun y hy=>br
   rintro _ H3 n3 ⟨hn3,hB3,_⟩
   refine cN ?_
   exact⟨j+1,by omega,cC,by omega,by omega,by rw[hnx2,←List.append_assoc];exact hB3.skip (by omega) fun y hy=>br⟩
  ·obtain rfl:j=sl.length:=by omega
   rw[List.take_length] at hB
   refine cN ?_
   refine aL (lY (c:=124) (hB.skip (by omega) ?_) (by omega) (by rw[List.length_append,List.length_append];omega)) ?_
   ·exact fun y hy=>br
   rintro _ H3 n3 ⟨hn3,hB3,_⟩
   refine cN ?_
   exact⟨i+1,by omega,cC,by omega,by omega,by rw[hnx,hthe,←List.append_assoc,←List.append_assoc];exact hB3.skip (by omega) fun y hy=>br⟩
 ·obtain rfl:i=m.at_.length:=by omega
  rw[show(List.range m.at_.length).take m.at_.length=List.range m.at_.length from List.take_of_length_le (by simp)] at hB
  refine cN ?_
  rw[List.length_map]
  refine aP (fun j:Nat=>[(0,m.fz u),(3, .pt 3 1 0 0),(4, .fn (.func 91) [] [.pt 3 1 0 0]),(52,cW m.mem),(53,i64 (m.mem).length),(54,i64 j)])
   (fun j H n=>j≤(m.mem).length∧4≤n∧Bd 3 (((List.range m.at_.length).flatMap (lV m))++((m.mem).take j).flatMap (fun w=>cz w [44])) H n) (fun j=>(m.mem).length - j) 0 cC ⟨Nat.zero_le _,cU,by rw[List.take_zero,List.flatMap_nil,List.append_nil];exact hB.skip (by omega) fun y hy=>br⟩ ?_
  clear hB
  rintro j H n ⟨hj,hn,hB⟩
  by_cases hjl:j<(m.mem).length
  ·have e2:=fun d=>eG (l:=m.mem) hjl d
   have a2:((m.mem).map i64).length=(m.mem).length:=by simp
   have hle2:=iF (fun w=>cz w [44]) hjl 0
   have hnx2:=fH (fun w=>cz w [44]) hjl 0
   have hw2:=j7 h.mw hjl
   refine cN ?_
   refine aL (kA (e:=[44]) (hB.skip (by omega) ?_) (by omega) hw2.1 (by have:=hw2.2;omega) (by rw[List.length_append];omega)) ?_
   ·exact fun y hy=>br
   rintro _ H3 n3 ⟨hn3,hB3,_⟩
   refine cN ?_
   exact⟨j+1,by omega,cC,by omega,by omega,by rw[hnx2,←List.append_assoc];exact hB3.skip (by omega) fun y hy=>br⟩
  ·obtain rfl:j=(m.mem).length:=by omega
   rw[List.take_length] at hB
   refine cN ?_
   refine aL (lY (c:=124) (hB.skip (by omega) ?_) (by omega) (by rw[List.length_append];omega)) ?_
   ·exact fun y hy=>br
   rintro _ H3 n3 ⟨hn3,hB3,_⟩
   clear hB hj hjl
   refine cN ?_
   rw[List.length_map]
   refine aP (fun j:Nat=>[(0,m.fz u),(3, .pt 3 1 0 0),(4, .fn (.func 91) [] [.pt 3 1 0 0]),(66,cW m.hold),(67,i64 (m.hold).length),(68,i64 j)])
    (fun j H n=>j≤(m.hold).length∧4≤n∧Bd 3 (((List.range m.at_.length).flatMap (lV m)++m.mem.flatMap (fun w=>cz w [44])++[124])++((m.hold).take j).flatMap (fun w=>cz w [44])) H n) (fun j=>(m.hold).length - j) 0 cC ⟨Nat.zero_le _,cU,by rw[List.take_zero,List.flatMap_nil,List.append_nil];exact hB3.skip (by omega) fun y hy=>br⟩ ?_
   clear hB3
   rintro j H n ⟨hj,hn,hB⟩
   by_cases hjl:j<(m.hold).length
   ·have e2:=fun d=>eG (l:=m.hold) hjl d
    have a2:((m.hold).map i64).length=(m.hold).length:=by simp
    have hle2:=iF (fun w=>cz w [44]) hjl 0
    have hnx2:=fH (fun w=>cz w [44]) hjl 0
    have hw2:=j7 h.hw hjl
    refine cN ?_
    refine aL (kA (e:=[44]) (hB.skip (by omega) ?_) (by omega) hw2.1 (by have:=hw2.2;omega) (by simp only[List.length_append,List.length_cons,List.length_nil];omega)) ?_
    ·exact fun y hy=>br
    rintro _ H3 n3 ⟨hn3,hB3,_⟩
    refine cN ?_
    exact⟨j+1,by omega,cC,by omega,by omega,by rw[hnx2,←List.append_assoc];exact hB3.skip (by omega) fun y hy=>br⟩
   ·obtain rfl:j=(m.hold).length:=by omega
    rw[List.take_length] at hB
    refine cN ?_
    refine aL (lY (c:=124) (hB.skip (by omega) ?_) (by omega) (by simp only[List.length_append,List.length_cons,List.length_nil];omega)) ?_
    ·exact fun y hy=>br
    rintro _ H3 n3 ⟨hn3,hB3,_⟩
    clear hB hj hjl
    refine cN ?_
    rw[List.length_map]
    refine aP (fun j:Nat=>[(0,m.fz u),(3, .pt 3 1 0 0),(4, .fn (.func 91) [] [.pt 3 1 0 0]),(80,dE m.bk),(81,i64 m.bk.length),(82,i64 j)])
     (fun j H n=>j≤m.bk.length∧4≤n∧Bd 3 (((List.range m.at_.length).flatMap (lV m)++m.mem.flatMap (fun w=>cz w [44])++[124]++m.hold.flatMap (fun w=>cz w [44])++[124])++(m.bk.take j).flatMap rW) H n) (fun j=>m.bk.length - j) 0 cC ⟨Nat.zero_le _,cU,by rw[List.take_zero,List.flatMap_nil,List.append_nil];exact hB3.skip (by omega) fun y hy=>br⟩ ?_
    clear hB3
    rintro j H n ⟨hj,hn,hB⟩
    by_cases hjl:j<m.bk.length
    ·have e2:∀d,(m.bk.map cM.av).getD ((j:Int)).toNat d=(m.bk.getD j default).av:=fun d=>by rw[Int.toNat_natCast];exact cu cM.av m.bk j d hjl
     have a2:(m.bk.map cM.av).length=m.bk.length:=by simp
     have hle2:=iF rW hjl default
     have hnx2:=fH rW hjl default
     obtain⟨hw2,hw3⟩:=h.pw _ (cX default hjl)
     generalize m.bk.getD j default=p at *
     have hpl:(rW p).length=(cz p.cS [58]).length+(cz p.word [44]).length:=by simp[rW]
     refine cN ?_
     refine aL (kA (e:=[58]) (hB.skip (by omega) ?_) (by omega) hw2.1 (by have:=hw2.2;omega) (by simp only[List.length_append,List.length_cons,List.length_nil];omega)) ?_
     ·exact fun y hy=>br
     rintro _ H3 n3 ⟨hn3,hB3,ho⟩
     have hr:bd H3 (n+1+1+1)=some (.row 89 2 (fU true [.int .i64 0, .int .i64 0]) [.agg p.cells]):=(ho _ (by omega) (by omega) (by
      intro d es
      rw[show bd _ (n+1+1+1)=some (eT.row 89 2 (fU true [.int .i64 0, .int .i64 0]) [.agg p.cells]) from bf]
      simp)).trans bf
     refine cN ?_
     refine aL (kA (e:=[44]) (hB3.skip (by omega) ?_) (by omega) hw3.1 (by have:=hw3.2;omega) (by simp only[List.length_append,List.length_cons,List.length_nil];omega)) ?_
     ·exact fun y hy=>br
     rintro _ H4 n4 ⟨hn4,hB4,_⟩
     refine cN ?_
     exact⟨j+1,by omega,cC,by omega,by omega,by rw[hnx2,rW,←List.append_assoc,←List.append_assoc];exact hB4.skip (by omega) fun y hy=>br⟩
    ·obtain rfl:j=m.bk.length:=by omega
     rw[List.take_length] at hB
     have hne:eW m≠[]:=by
      intro e
      have:=congrArg List.length e
      rw[p9] at this
      simp at this
     change Bd 3 (eW m) H n at hB
     obtain⟨A,d,hA,⟨h0,_⟩|⟨q,d2,hq,hqb,hr,hr2⟩⟩:=hB
     ·exact absurd h0 hne
     refine cN ?_
     refine aL (xW (q:=q) (d:=d) (d2:=d2) (A:=A) (l:=eW m) ?_ ?_ hne) ?_
     ·exact bf
     ·exact bf
     rintro _ H4 n4 ⟨rfl,rfl,rfl⟩
     refine cN ?_
     exact⟨rfl⟩
end Go.Proofs.YtekfmjjmihomlaaGreat
end
section
/- The document's key of a situation. -/
namespace Go.Proofs.YtekfmjjmihomlaaGreat
open Go Go.cV Go.Proofs
set_option linter.unusedSimpArgs false
set_option linter.unusedVariables false
open Go.Lib (itoa)
abbrev MS.av (u:bj) (m:MS):AV:= .agg (m.cells u)
theorem j6 (l k:List UInt8):eL l++eL k=eL (l++k):=by
 apply ByteArray.ext
 simp[eL]
theorem gA (l:List UInt8):(eL l).size=l.length:=by simp[eL,ByteArray.size]
theorem l5 (cur:List UInt8) (x:Int) {c c':UInt8} (hc:c=c'):eL cur++eL (itoa x)++(⟨⟨[c]⟩⟩:ByteArray)=eL (cur++cz x [c']):=by
 subst hc
 rw[show(⟨⟨[c]⟩⟩:ByteArray)=eL [c] from rfl,j6,j6,cz,List.append_assoc]
theorem tZ (cur:List UInt8) {c c':UInt8} (hc:c=c'):eL cur++(⟨⟨[c]⟩⟩:ByteArray)=eL (cur++[c']):=by
 subst hc
 rw[show(⟨⟨[c]⟩⟩:ByteArray)=eL [c] from rfl,j6]
theorem JD {cur:List UInt8} {x:Int} (h:cur.length+(cz x [44]).length≤140737488355328):(eL cur).size+(eL (itoa x)).size≤9223372036854775807:=by
 have:(cz x [44]).length=(itoa x).length+1:=by simp[cz]
 rw[gA,gA];omega
theorem JE {cur:List UInt8} {x:Int} (h:cur.length+(cz x [44]).length≤140737488355328):(eL cur++eL (itoa x)).size+(eL [44]).size≤9223372036854775807:=by
 have:(cz x [44]).length=(itoa x).length+1:=by simp[cz]
 rw[j6,gA,gA,List.length_append];show _+1≤_;omega
theorem M4 {cur:List UInt8} (h:cur.length+1≤140737488355328):(eL cur).size+(eL [124]).size≤9223372036854775807:=by
 rw[gA,gA];show _+1≤_;omega
set_option maxHeartbeats 2000000 in
theorem tH (u:bj) (m:MS) (h:QJ m):Pure Tryz.prog 68 [m.av u] (fun r=>r= .sc (.string (eL (eW m)))):=by
 have hsz:=h.sz
 rw[p9] at hsz
 have g1:=gT (lV m) (BB m) (List.range m.at_.length)
 have g2:=gT (fun w=>cz w [44]) (fun w=>jO w _) m.mem
 have g3:=gT (fun w=>cz w [44]) (fun w=>jO w _) m.hold
 have g4:=gT rW A4 m.bk
 rw[List.length_range] at g1
 refine aI GX rfl ?_
 refine cN ?_
 rw[List.length_map]
 refine aP (fun i:Nat=>[(1, .pt 0 1 0 0),(3, .sc (.string (eL (((List.range m.at_.length).take i).flatMap (lV m))))),(15,i64 m.at_.length),(16,i64 i)])
  (fun i H n=>i≤m.at_.length∧1≤n∧∃d,bd H 0=some (.row 80 8 d [m.av u])) (fun i=>m.at_.length - i) 0 cC ⟨Nat.zero_le _,cU,⟨_,bf⟩⟩ ?_
 rintro i H n ⟨hi,hn,⟨d,hr⟩⟩
 by_cases hil:i<m.at_.length
 ·have e0:=fun d=>eG (l:=m.at_) hil d
  have e1:∀d,(m.bg.map cW).getD ((i:Int)).toNat d=cW (m.bg.getD i []):=fun d=>by rw[Int.toNat_natCast];exact cu cW m.bg i d (by rw[h.sl];exact hil)
  have a0:(m.at_.map i64).length=m.at_.length:=by simp
  have a1:(m.bg.map cW).length=m.at_.length:=by simp[h.sl]
  have hle:=iF (lV m) (l:=List.range m.at_.length) (j:=i) (by simpa using hil) 0
  have hnx:=fH (lV m) (l:=List.range m.at_.length) (j:=i) (by simpa using hil) 0
  rw[xG hil] at hle hnx
  have hw:=j7 h.aw hil
  have hth:(lV m i).length=(cz (m.at_.getD i 0) [44]).length+((m.bg.getD i []).flatMap (fun w=>cz w [44])).length+1:=by simp only[lV,List.length_append,List.length_cons,List.length_nil]
  have hthe:lV m i=cz (m.at_.getD i 0) [44]++(m.bg.getD i []).flatMap (fun w=>cz w [44])++[124]:=rfl
  have hsw:=h.sw _ (cX (l:=m.bg) [] (by rw[h.sl];exact hil))
  have c0:Pure Tryz.prog 99 [.sc (.int .i64 (m.at_.getD i 0))] (fun r=>r= .sc (.string (eL (itoa (m.at_.getD i 0))))):=gL _ hw.1 (by have:=hw.2;omega)
  generalize m.bg.getD i []=sl at *
  generalize ((List.range m.at_.length).take i).flatMap (lV m)=cur at *
  generalize m.at_.getD i 0=x at *
  have g5:=gT (fun w=>cz w [44]) (fun w=>jO w _) sl
  have hcx:cur.length+(cz x [44]).length≤140737488355328:=by omega
  have a2:=JD hcx
  have a3:=JE hcx
  refine cN ?_
  rw[l5 cur x (c':=44) (hc:= ?hc)]
  case hc=>rfl
  clear c0 a2 a3 e0
  rw[List.length_map]
  refine aP (fun j:Nat=>[(1, .pt 0 1 0 0),(15,i64 m.at_.length),(16,i64 i),(3, .sc (.string (eL ((cur++cz x [44])++(sl.take j).flatMap (fun w=>cz w [44]))))),(32,cW sl),(33,i64 sl.length),(34,i64 j)])
   (fun j H n=>j≤sl.length∧1≤n∧∃d,bd H 0=some (.row 80 8 d [m.av u])) (fun j=>sl.length - j) 0 (by rw[List.take_zero,List.flatMap_nil,List.append_nil];exact cC) ⟨Nat.zero_le _,cU,⟨_,bf⟩⟩ ?_
  clear hr hn
  rintro j H n ⟨hj,hn,⟨d,hr⟩⟩
  by_cases hjl:j<sl.length
  ·have e2:=fun d=>eG (l:=sl) hjl d
   have b2:(sl.map i64).length=sl.length:=by simp
   have hle2:=iF (fun w=>cz w [44]) hjl 0
   have hnx2:=fH (fun w=>cz w [44]) hjl 0
   have hw2:=j7 hsw hjl
   generalize (sl.take j).flatMap (fun w=>cz w [44])=cur2 at *
   generalize sl.getD j 0=y at *
   have hln:((cur++cz x [44])++cur2).length+(cz y [44]).length≤140737488355328:=by simp only[List.length_append,List.length_cons,List.length_nil];omega
   have a2:=JD hln
   have a3:=JE hln
   have c1:Pure Tryz.prog 99 [.sc (.int .i64 y)] (fun r=>r= .sc (.string (eL (itoa y)))):=gL _ hw2.1 (by have:=hw2.2;omega)
   refine cN ?_
   rw[l5 _ y (c':=44) (hc:= ?hc)]
   case hc=>rfl
   exact⟨j+1,by omega,by rw[hnx2,←List.append_assoc];exact cC,by omega,by omega,⟨_,bf⟩⟩
  ·obtain rfl:j=sl.length:=by omega
   rw[List.take_length]
   have a4:(eL ((cur++cz x [44])++sl.flatMap (fun w=>cz w [44]))).size+(eL [124]).size≤9223372036854775807:=M4 (by simp only[List.length_append,List.length_cons,List.length_nil];omega)
   refine cN ?_
   rw[tZ _ (c':=124) (hc:= ?hc)]
   case hc=>rfl
   exact⟨i+1,by omega,by rw[hnx,hthe,←List.append_assoc,←List.append_assoc];exact cC,by omega,by omega,⟨_,bf⟩⟩
 ·obtain rfl:i=m.at_.length:=by omega
  rw[show(List.range m.at_.length).take m.at_.length=List.range m.at_.length from List.take_of_length_le (by simp)]
  refine cN ?_
  rw[List.length_map]
  refine aP (fun j:Nat=>[(1, .pt 0 1 0 0),(3, .sc (.string (eL (((List.range m.at_.length).flatMap (lV m))++(m.mem.take j).flatMap (fun w=>cz w [44]))))),(48,cW m.mem),(49,i64 m.mem.length),(50,i64 j)])
   (fun j H n=>j≤m.mem.length∧1≤n∧∃d,bd H 0=some (.row 80 8 d [m.av u])) (fun j=>m.mem.length - j) 0 (by rw[List.take_zero,List.flatMap_nil,List.append_nil];exact cC) ⟨Nat.zero_le _,cU,⟨_,bf⟩⟩ ?_
  clear hr hn
  rintro j H n ⟨hj,hn,⟨d,hr⟩⟩
  by_cases hjl:j<m.mem.length
  ·have e2:=fun d=>eG (l:=m.mem) hjl d
   have b2:(m.mem.map i64).length=m.mem.length:=by simp
   have hle2:=iF (fun w=>cz w [44]) hjl 0
   have hnx2:=fH (fun w=>cz w [44]) hjl 0
   have hw2:=j7 h.mw hjl
   generalize (m.mem.take j).flatMap (fun w=>cz w [44])=cur2 at *
   generalize m.mem.getD j 0=y at *
   have hln:(((List.range m.at_.length).flatMap (lV m))++cur2).length+(cz y [44]).length≤140737488355328:=by simp only[List.length_append,List.length_cons,List.length_nil];omega
   have a2:=JD hln
   have a3:=JE hln
   have c1:Pure Tryz.prog 99 [.sc (.int .i64 y)] (fun r=>r= .sc (.string (eL (itoa y)))):=gL _ hw2.1 (by have:=hw2.2;omega)
   refine cN ?_
   rw[l5 _ y (c':=44) (hc:= ?hc)]
   case hc=>rfl
   exact⟨j+1,by omega,by rw[hnx2,←List.append_assoc];exact cC,by omega,by omega,⟨_,bf⟩⟩
  ·obtain rfl:j=m.mem.length:=by omega
   rw[List.take_length]
   have a4:(eL (((List.range m.at_.length).flatMap (lV m))++m.mem.flatMap (fun w=>cz w [44]))).size+(eL [124]).size≤9223372036854775807:=M4 (by simp only[List.length_append,List.length_cons,List.length_nil];omega)
   refine cN ?_
   rw[tZ _ (c':=124) (hc:= ?hc)]
   case hc=>rfl
   clear a4
   rw[List.length_map]
   refine aP (fun j:Nat=>[(1, .pt 0 1 0 0),(3, .sc (.string (eL (((List.range m.at_.length).flatMap (lV m)++m.mem.flatMap (fun w=>cz w [44])++[124])++(m.hold.take j).flatMap (fun w=>cz w [44]))))),(63,cW m.hold),(64,i64 m.hold.length),(65,i64 j)])
    (fun j H n=>j≤m.hold.length∧1≤n∧∃d,bd H 0=some (.row 80 8 d [m.av u])) (fun j=>m.hold.length - j) 0 (by rw[List.take_zero,List.flatMap_nil,List.append_nil];exact cC) ⟨Nat.zero_le _,cU,⟨_,bf⟩⟩ ?_
   clear hr hn
   rintro j H n ⟨hj,hn,⟨d,hr⟩⟩
   by_cases hjl:j<m.hold.length
   ·have e2:=fun d=>eG (l:=m.hold) hjl d
    have b2:(m.hold.map i64).length=m.hold.length:=by simp
    have hle2:=iF (fun w=>cz w [44]) hjl 0
    have hnx2:=fH (fun w=>cz w [44]) hjl 0
    have hw2:=j7 h.hw hjl
    generalize (m.hold.take j).flatMap (fun w=>cz w [44])=cur2 at *
    generalize m.hold.getD j 0=y at *
    have hln:(((List.range m.at_.length).flatMap (lV m)++m.mem.flatMap (fun w=>cz w [44])++[124])++cur2).length+(cz y [44]).length≤140737488355328:=by simp only[List.length_append,List.length_cons,List.length_nil];omega
    have a2:=JD hln
    have a3:=JE hln
    have c1:Pure Tryz.prog 99 [.sc (.int .i64 y)] (fun r=>r= .sc (.string (eL (itoa y)))):=gL _ hw2.1 (by have:=hw2.2;omega)
    refine cN ?_
    rw[l5 _ y (c':=44) (hc:= ?hc)]
    case hc=>rfl
    exact⟨j+1,by omega,by rw[hnx2,←List.append_assoc];exact cC,by omega,by omega,⟨_,bf⟩⟩
   ·obtain rfl:j=m.hold.length:=by omega
    rw[List.take_length]
    have a4:(eL (((List.range m.at_.length).flatMap (lV m)++m.mem.flatMap (fun w=>cz w [44])++[124])++m.hold.flatMap (fun w=>cz w [44]))).size+(eL [124]).size≤9223372036854775807:=M4 (by simp only[List.length_append,List.length_cons,List.length_nil];omega)
    refine cN ?_
    rw[tZ _ (c':=124) (hc:= ?hc)]
    case hc=>rfl
    clear a4
    rw[List.length_map]
    refine aP (fun j:Nat=>[(1, .pt 0 1 0 0),(3, .sc (.string (eL (((List.range m.at_.length).flatMap (lV m)++m.mem.flatMap (fun w=>cz w [44])++[124]++m.hold.flatMap (fun w=>cz w [44])++[124])++(m.bk.take j).flatMap rW)))),(78,dE m.bk),(79,i64 m.bk.length),(80,i64 j)])
     (fun j H n=>j≤m.bk.length∧1≤n∧∃d,bd H 0=some (.row 80 8 d [m.av u])) (fun j=>m.bk.length - j) 0 (by rw[List.take_zero,List.flatMap_nil,List.append_nil];exact cC) ⟨Nat.zero_le _,cU,⟨_,bf⟩⟩ ?_
    clear hr hn
    rintro j H n ⟨hj,hn,⟨d,hr⟩⟩
    by_cases hjl:j<m.bk.length
    ·have e2:∀d,(m.bk.map cM.av).getD ((j:Int)).toNat d=(m.bk.getD j default).av:=fun d=>by rw[Int.toNat_natCast];exact cu cM.av m.bk j d hjl
     have b2:(m.bk.map cM.av).length=m.bk.length:=by simp
     have hle2:=iF rW hjl default
     have hnx2:=fH rW hjl default
     obtain⟨hw2,hw3⟩:=h.pw _ (cX default hjl)
     generalize (m.bk.take j).flatMap rW=cur2 at *
     generalize m.bk.getD j default=p at *
     have hpl:(rW p).length=(itoa p.cS).length+1+(itoa p.word).length+1:=by simp[rW,cz];omega
     have hln:((List.range m.at_.length).flatMap (lV m)++m.mem.flatMap (fun w=>cz w [44])++[124]++m.hold.flatMap (fun w=>cz w [44])++[124]++cur2).length+(rW p).length≤140737488355328:=by simp only[List.length_append,List.length_cons,List.length_nil];omega
     rw[rW,←List.append_assoc] at hnx2
     generalize (List.range m.at_.length).flatMap (lV m)++m.mem.flatMap (fun w=>cz w [44])++[124]++m.hold.flatMap (fun w=>cz w [44])++[124]=F at *
     rw[List.length_append] at hln
     have a2:(eL (F++cur2)).size+(eL (itoa p.cS)).size≤9223372036854775807:=by simp only[j6,gA,List.length_append];omega
     have a3:(eL (F++cur2)++eL (itoa p.cS)).size+(eL [58]).size≤9223372036854775807:=by simp only[j6,gA,List.length_append,List.length_cons,List.length_nil];omega
     have a4:(eL (F++cur2)++eL (itoa p.cS)++eL [58]).size+(eL (itoa p.word)).size≤9223372036854775807:=by simp only[j6,gA,List.length_append,List.length_cons,List.length_nil];omega
     have a5:(eL (F++cur2)++eL (itoa p.cS)++eL [58]++eL (itoa p.word)).size+(eL [44]).size≤9223372036854775807:=by simp only[j6,gA,List.length_append,List.length_cons,List.length_nil];omega
     have c0:Pure Tryz.prog 99 [.sc (.int .i64 p.cS)] (fun r=>r= .sc (.string (eL (itoa p.cS)))):=gL _ hw2.1 (by have:=hw2.2;omega)
     have c1:Pure Tryz.prog 99 [.sc (.int .i64 p.word)] (fun r=>r= .sc (.string (eL (itoa p.word)))):=gL _ hw3.1 (by have:=hw3.2;omega)
     refine cN ?_
     rw[l5 _ p.cS (c':=58) (hc:= ?hc),l5 _ p.word (c':=44) (hc:= ?hd)]
     case hc=>rfl
     case hd=>rfl
     exact⟨j+1,by omega,by rw[hnx2,←List.append_assoc,←List.append_assoc];exact cC,by omega,by omega,⟨_,bf⟩⟩
    ·obtain rfl:j=m.bk.length:=by omega
     rw[List.take_length]
     refine cN ?_
     exact rfl
end Go.Proofs.YtekfmjjmihomlaaGreat
end
section
/- Exploring in plain data. -/
namespace Go.Proofs.YtekfmjjmihomlaaGreat
open Go Go.cV Go.Proofs
set_option linter.unusedSimpArgs false
set_option linter.unusedVariables false
structure cH where
 m:MS
 from_:Int
 cS:Int
 deriving Inhabited,DecidableEq
abbrev gq (l:List cH):List (List UInt8):=l.map fun f=>eW f.m
def rJ (u:bj) (most k t:Nat) (l:List cH):Option (List cH):=
 if(l.getD k default).m.mC u t≠0 then some l
 else if eW ((l.getD k default).m.step u t).1∈gq l then some l
 else if l.length=most then none
 else some (l++[⟨((l.getD k default).m.step u t).1,k,t⟩])
def rl (u:bj) (most k:Nat):List Nat→List cH→Option (List cH)
 |[],l=>some l
 |t::ts,l=>match rJ u most k t l with
  |none=>none
  |some l'=>rl u most k ts l'
def pM (u:bj) (most:Nat):Nat→Nat→List cH→Option (List cH)
 |0,_,l=>some l
 |n+1,k,l=>if k<l.length then(match rl u most k (List.range u.bh.length) l with
  |none=>none
  |some l'=>pM u most n (k+1) l') else some l
def jI (u:bj):List cH:=[⟨cq u,-1,0⟩]
def fp (u:bj) (most:Nat):Option (List cH):=pM u most most 0 (jI u)
structure gR (u:bj) (l:List cH):Prop where
 pos:0<l.length
 first:l.getD 0 default=⟨cq u,-1,0⟩
 ok:∀i,i<l.length→eN u (l.getD i default).m∧(l.getD i default).m.bk.length≤i
 JH:∀i,0<i→i<l.length→∃k t:Nat,k<i∧t<u.bh.length∧(l.getD k default).m.mC u t=0∧l.getD i default=⟨((l.getD k default).m.step u t).1,k,t⟩
 keys:(gq l).Nodup
theorem lT (u:bj) (m:MS) (t:Nat):(m.step u t).1.bk.length≤m.bk.length+1:=by
 show((m.act t (m.node u t)).1).bk.length≤_
 generalize m.node u t=n
 unfold MS.act
 repeat' split
 all_goals first
  |exact Nat.le_succ _
  |(simp only[List.length_append,List.length_cons,List.length_nil];exact Nat.le_refl _)
theorem ew {α:Type} {l:List α} {x d:α} {i:Nat} (h:i<l.length):(l++[x]).getD i d=l.getD i d:=by simp[List.getD,List.getElem?_append,h]
theorem mW {α:Type} {l:List α} {x d:α}:(l++[x]).getD l.length d=x:=by simp[List.getD]
theorem gR.init (u:bj) (hu:u.Wf) (hr:ct u):gR u (jI u) where
 pos:=by simp[jI]
 first:=rfl
 ok:=fun i hi=>by
  have:i=0:=by simp[jI] at hi;omega
  subst this
  exact⟨KV u hr (fun d hd=>(hu.shared d hd).word) fun t ht=>(hr.gr ht).len.1,Nat.le_refl _⟩
 JH:=fun i hi h=>by simp[jI] at h;omega
 keys:=by simp[gq,jI]
theorem gR.add {u:bj} {l:List cH} (hu:u.Wf) (hr:ct u) (h:gR u l) {k t:Nat} (hk:k<l.length) (ht:t<u.bh.length) (hb:(l.getD k default).m.mC u t=0) (hn:eW ((l.getD k default).m.step u t).1∉gq l):gR u (l++[⟨((l.getD k default).m.step u t).1,k,t⟩]) where
 pos:=by simp
 first:=by rw[ew h.pos];exact h.first
 ok:=fun i hi=>by
  rw[List.length_append] at hi
  by_cases e:i<l.length
  ·rw[ew e];exact h.ok i e
  ·have:i=l.length:=by simp at hi;omega
   subst this
   rw[mW]
   obtain⟨h1,h2⟩:=h.ok k hk
   refine⟨u0 hu hr h1 ht (lA h1 ht hb).1, ?_⟩
   have:=lT u (l.getD k default).m t
   dsimp only
   omega
 JH:=fun i h0 hi=>by
  rw[List.length_append] at hi
  by_cases e:i<l.length
  ·obtain⟨k',t',h1,h2,h3,h4⟩:=h.JH i h0 e
   refine⟨k',t',h1,h2, ?_, ?_⟩
   ·rw[ew (by omega)];exact h3
   ·rw[ew e,ew (by omega)];exact h4
  ·have:i=l.length:=by simp at hi;omega
   subst this
   refine⟨k,t,hk,ht, ?_, ?_⟩
   ·rw[ew hk];exact hb
   ·rw[mW,ew hk]
 keys:=by
  simp only[gq,List.map_append,List.map_cons,List.map_nil]
  refine List.nodup_append.2 ⟨h.keys,by simp,fun a ha b hb2=> ?_⟩
  simp only[List.mem_cons,List.not_mem_nil,or_false] at hb2
  subst hb2
  intro e
  exact hn (e▸ha)
theorem LU {u:bj} {l l':List cH} {most k t:Nat} (hu:u.Wf) (hr:ct u) (h:gR u l) (hl:l.length≤most) (hk:k<l.length) (ht:t<u.bh.length) (he:rJ u most k t l=some l'):gR u l'∧l'.length≤most∧l<+:l':=by
 unfold rJ at he
 split at he
 ·cases he;exact⟨h,hl,List.prefix_refl _⟩
 rename_i h1
 split at he
 ·cases he;exact⟨h,hl,List.prefix_refl _⟩
 rename_i h2
 split at he
 ·cases he
 ·cases he
  refine⟨h.add hu hr hk ht (by omega) h2, ?_,List.prefix_append _ _⟩
  simp only[List.length_append,List.length_cons,List.length_nil];omega
theorem BA {u:bj} {most k:Nat} (hu:u.Wf) (hr:ct u):∀{ts:List Nat} {l l':List cH},gR u l→l.length≤most→k<l.length→(∀t∈ts,t<u.bh.length)→rl u most k ts l=some l'→gR u l'∧l'.length≤most∧l<+:l'
 |[],l,l',h,hl,hk,ht,he=>by cases he;exact⟨h,hl,List.prefix_refl _⟩
 |t::ts,l,l',h,hl,hk,ht,he=>by
  rw[rl] at he
  split at he
  ·cases he
  ·rename_i l2 h2
   obtain⟨g1,g2,g3⟩:=LU hu hr h hl hk (ht t (by simp)) h2
   obtain⟨q1,q2,q3⟩:=BA hu hr g1 g2 (Nat.lt_of_lt_of_le hk g3.length_le) (fun x hx=>ht x (by simp[hx])) he
   exact⟨q1,q2,g3.trans q3⟩
theorem zl {u:bj} {most:Nat} (hu:u.Wf) (hr:ct u):∀{n k:Nat} {l l':List cH},gR u l→l.length≤most→pM u most n k l=some l'→gR u l'∧l'.length≤most∧l<+:l'
 |0,k,l,l',h,hl,he=>by cases he;exact⟨h,hl,List.prefix_refl _⟩
 |n+1,k,l,l',h,hl,he=>by
  rw[pM] at he
  split at he
  ·rename_i hk
   split at he
   ·cases he
   ·rename_i l2 h2
    obtain⟨g1,g2,g3⟩:=BA hu hr h hl hk (fun t ht=>List.mem_range.1 ht) h2
    obtain⟨q1,q2,q3⟩:=zl hu hr g1 g2 he
    exact⟨q1,q2,g3.trans q3⟩
  ·cases he;exact⟨h,hl,List.prefix_refl _⟩
theorem nM {u:bj} {most:Nat} {l:List cH} (hu:u.Wf) (hr:ct u) (hm:1≤most) (h:fp u most=some l):gR u l∧l.length≤most∧jI u<+:l:=zl hu hr (gR.init u hu hr) hm h
end Go.Proofs.YtekfmjjmihomlaaGreat
end
