import Derived.Test.YtekfmjjmihomlaaGreatM32
import Derived.LoopTactic
import Derived.Lib.ItoaMem
import Derived.Test.YtekfmjjmihomlaaGreatM30
import Derived.Test.YtekfmjjmihomlaaGreatM31
section
/- A word in decimals: the code's Print walked. -/
namespace Go.Proofs.YtekfmjjmihomlaaGreat
open Go Go.cZ Go.Proofs Go.RowKit
set_option linter.unusedVariables false
set_option linter.unusedSimpArgs false
open Go.Lib (decDigits itoa)
theorem yM (n:Int):IntKind.u64.wrap n=n%18446744073709551616:=by simp[IntKind.wrap,IntKind.bits,IntKind.signed]
theorem qK:∀(k u:Nat),u<10^(k+1)→(decDigits u).length≤k+1
 |k,u,h=>by
  rw[decDigits]
  split
  ·simp
  ·rename_i hu
   cases k with
   |zero=>omega
   |succ k=>
    have:=qK k (u /10) (by rw[Nat.pow_succ] at h;omega)
    simp only[List.length_append,List.length_cons,List.length_nil]
    omega
theorem A4 (u:Nat):0<(decDigits u).length:=by
 rw[decDigits]
 split<;>simp
def iL (l:List UInt8):Array Value:=(List.replicate (20 - l.length) (Value.int .u8 0)++l.map fun b=>Value.int .u8 (b.toNat:Int)).toArray
theorem AY {l:List UInt8} {k:Nat} (h:k+l.length=19):(iL l)[k]?=some (.int .u8 0):=by
 simp only[iL,List.getElem?_toArray]
 rw[List.getElem?_append_left (by simp;omega),List.getElem?_replicate,if_pos (by omega)]
theorem AZ {l:List UInt8} {k:Nat} (h:k+l.length=19) (d:UInt8):(iL l).setIfInBounds k (.int .u8 (d.toNat:Int))=iL (d::l):=by
 have h1:20 - l.length=k+1:=by omega
 have h2:20 - (d::l).length=k:=by simp;omega
 unfold iL
 rw[h1,h2,List.replicate_succ',List.setIfInBounds_toArray]
 congr 1
 rw[List.append_assoc,List.set_append_right _ _ (by simp)]
 simp
theorem OB {l:List UInt8} {k i:Nat} (h:k+l.length=20) (hi:i<l.length):(iL l)[k+i]?=some (.int .u8 ((l.getD i 0).toNat:Int)):=by
 have h1:20 - l.length=k:=by omega
 simp only[iL,h1,List.getElem?_toArray]
 rw[List.getElem?_append_right (by simp)]
 simp[List.getD,List.getElem?_eq_getElem hi]
theorem A2 (W:World) (b j:Nat) (z:Int) (hz:z=(j:Int)) (h:j<20):
 (Instr.sliceAt 189 (.pointer (some ⟨b,0,none⟩)) (some (.int .i64 z)) none none).run Tryz.prog W= .ok (.slice (some ⟨b,j,none⟩) (20 - j) (20 - j)) W:=by
 subst hz
 have al:Tryz.prog.arrayLen 189=20:=by kernel_rfl
 have el:Tryz.prog.elem 189=5:=by kernel_rfl
 rw[run_sliceAt_array_l W 189 ⟨b,0,none⟩ (by rw[al,el];exact Tryz.underlying189) .i64 (j:Int) (by omega) (by rw[al];omega),el,al]
 rw[show(sizeOf 5).run Tryz.prog W= .ok 1 W by kernel_rfl]
 simp only[Result.andThen,slicedAt,Int.toNat_natCast,Nat.mul_one]
 rw[if_neg (by omega),Go.Lib.add_plain,Nat.zero_add]
theorem yI (w:World) (j:Nat) (l:List UInt8) (h:j+l.length=20):
 (convert 147 9 (.slice (some ⟨w.heap.size,j,none⟩) (20 - j) (20 - j))).run Tryz.prog (w.alloc (.cells (iL l) 189))= .ok (.string ⟨l.toArray⟩) (w.alloc (.cells (iL l) 189)):=by
 rw[run_convert_bytes_arg _ 147 5 Tryz.underlying147 Tryz.underlying5 w.heap.size j (20 - j) (20 - j) (l.map fun b=>(b.toNat:Int)) (by simp;omega) (fun i hi=> ?_) 9 Tryz.underlying9]
 ·congr 2
  simp[strOfNums,Function.comp_def]
 ·rw[World.cell?_alloc_new,OB h (by omega)]
  congr 2
  simp[List.getD]
  cases hh:l[i]?<;>simp
set_option maxHeartbeats 1000000 in
set_option maxRecDepth 100000 in
theorem zf (x:Int) (h1:-9223372036854775808≤x) (h2:x≤9223372036854775807) (w:World):
 Calls Tryz.prog 93 #[.int .i64 x] w fun e w'=>e= .returned (.string ⟨(itoa x).toArray⟩)∧Below w.heap.size w w':=by
 have t1:=Tryz.underlying189
 have t2:=Tryz.underlying2
 have t3:=Tryz.underlying3
 have t4:=Tryz.underlying173
 have t5:=Tryz.underlying5
 have t6:=Tryz.underlying9
 have t7:=Tryz.underlying147
 have hu19:(decDigits x.natAbs).length≤19:=qK 18 _ (by omega)
 go_enter Tryz.func93,Tryz.ntmps93
 go_wp2
 all_goals
  go_loopw [4,5] (fun va vn wr=>∃(k n:Nat) (l:List UInt8),va= .int .i64 ((k+1:Nat):Int)∧vn= .int .u64 n∧k+l.length=19∧n≤9223372036854775808∧decDigits x.natAbs=decDigits n++l∧wr=w.alloc (.cells (iL l) 189)) (fun va _ _=>(RowKit.intOf va).toNat)
  case atStart=>
   refine⟨19,x.natAbs,[],rfl, ?_,rfl,by omega,by simp,rfl⟩
   simp only[yM]
   congr 1
   omega
  case round=>
   obtain⟨k,n,l,rfl,rfl,hk,hn,hd,rfl⟩:=hrel
   have hn0:=A4 n
   have hlen:=congrArg List.length hd
   rw[List.length_append] at hlen
   have hk1:1≤k:=by omega
   have hk2:k≤19:=by omega
   have hg:=AY hk
   have hq:IntKind.u64.wrap ((n:Int) /10)=((n /10:Nat):Int):=by rw[yM];omega
   obtain⟨d,hde⟩:∃d:UInt8,UInt8.ofNat (48+n%10)=d:=⟨_,rfl⟩
   have hset:(iL l).setIfInBounds k (.int .u8 (48+(n:Int)%10))=iL (d::l):=by
    rw[←AZ hk,←hde,UInt8.toNat_ofNat']
    congr 2
    omega
   have hg2:(iL (d::l))[k - 1]?=some (.int .u8 0):=AY (by simp;omega)
   have hset2:(iL (d::l)).setIfInBounds (k - 1) (.int .u8 45)=iL (45::d::l):=AZ (by simp;omega) 45
   have hs1:=A2 (w.alloc (.cells (iL (d::l)) 189)) w.heap.size k (k:Int) rfl (by omega)
   have hs2:=A2 (w.alloc (.cells (iL (45::d::l)) 189)) w.heap.size (k - 1) ((k:Int) - 1) (by omega) (by omega)
   have hc1:=yI w k (d::l) (by simp;omega)
   have hc2:=yI w (k - 1) (45::d::l) (by simp;omega)
   go_wp2
   case roundEnd=>
    rename_i hz
    have hz:¬n<10:=by simp at hz;omega
    refine⟨⟨k - 1,n /10,d::l,by congr 1;omega,by simp,by simp;omega,Nat.le_trans (Nat.div_le_self _ _) hn, ?_,rfl⟩,by simp[RowKit.intOf]⟩
    rw[hd,decDigits,dif_neg hz,←hde,List.append_assoc];rfl
   all_goals
    have hz:((n:Int) /10==0)=true:=by assumption
    have hz:n<10:=by simp at hz;omega
    have hd2:decDigits x.natAbs=d::l:=by
     rw[hd,decDigits.eq_def n,dif_pos hz,←hde,Nat.mod_eq_of_lt hz];rfl
    go_ret
    refine⟨?_,(Below.refl _ _).alloc (Nat.le_refl _) _⟩
    rw[itoa]
    first
    |(rw[if_pos (by assumption),hd2];rfl)
    |(rw[if_neg (by omega),show x.toNat=x.natAbs by omega,hd2];rfl)
theorem ze (x:Int) (h1:-9223372036854775808≤x) (h2:x≤9223372036854775807):Pure Tryz.prog 93 [.sc (.int .i64 x)] (fun r=>r= .sc (.string ⟨(itoa x).toArray⟩)):=by
 refine⟨⟨_,Tryz.func93,by kernel_rfl,by kernel_rfl⟩,fun M w vs hM hv=> ?_⟩
 rw[cd] at hv
 obtain⟨v,vs',rfl,h3,h4⟩:=hv
 rw[VR] at h3
 rw[cd] at h4
 subst h3
 subst h4
 refine(zf x h1 h2 w).mono ?_
 rintro e w' ⟨rfl,hb⟩
 exact⟨_,_,rfl,rfl,by simp[cE],by rw[VR],hb⟩
end Go.Proofs.YtekfmjjmihomlaaGreat
end
section
/- The library's text builder: what is written comes behind what stands. -/
namespace Go.Proofs.YtekfmjjmihomlaaGreat
open Go Go.cZ Go.Proofs
set_option linter.unusedSimpArgs false
set_option linter.unusedVariables false
abbrev eR (l:List UInt8):ByteArray:=⟨l.toArray⟩
theorem sy (l k:List UInt8):cM (eR l)++cM (eR k)=cM (eR (l++k)):=by simp[cM,eR]
theorem jF (l:List UInt8):(cM (eR l)).length=l.length:=by simp[cM,eR]
def Bd (b:Nat) (l:List UInt8) (H:Hp) (n:Nat):Prop:=∃A d,(A= .sc (.pointer none)∨A= .pt b 1 0 0)∧
 ((l=[]∧bn H b=some (.row 149 2 d [.agg [A, .sc (.slice none 0 0)]]))∨
   ∃q d2,q<n∧q≠b∧bn H b=some (.row 149 2 d [.agg [A, .sl q l.length]])∧bn H q=some (.row 5 1 d2 (cM (eR l))))
def RU (b n:Nat) (H H2:Hp):Prop:=∀y,y<n→y≠b→(∀d es,bn H y≠some (.row 5 1 d es))→bn H2 y=bn H y
theorem yL {b nx:Nat} {l k:List UInt8} {H:Hp} (hB:Bd b l H nx) (hb:b<nx) (hk:k≠[]) (hsz:l.length+k.length≤140737488355328):
 cP Tryz.prog 92 [.pt b 1 0 0, .sc (.string (eR k))] H nx (fun r H2 n2=>nx≤n2∧Bd b (l++k) H2 n2∧RU b nx H H2):=by
 obtain⟨A,d,hA,⟨rfl,hr⟩|⟨q,d2,hq,hqb,hr,hr2⟩⟩:=hB
 ·refine aQ DU rfl ?_
  refine cV ?_
  refine aO (lz hr hA) ?_
  rintro _ H2 n2 ⟨rfl,rfl,rfl⟩
  have a0:(cM (eR k)).length * 1≤iV:=by rw[jF];simp at hsz;show _≤140737488355328;omega
  refine cV ?_
  rw[List.nil_append]
  have e1:=jF k
  exact⟨c8,⟨_,d, .inr rfl, .inr ⟨nx+9,_,by omega,by omega,by rw[←e1];exact bq,bq⟩⟩,fun y h1 h2 h3=>cB⟩
 ·refine aQ DU rfl ?_
  refine cV ?_
  refine aO (lz hr hA) ?_
  rintro _ H2 n2 ⟨rfl,rfl,rfl⟩
  have a0:(cM (eR l)).length=l.length∧5=5∧1=1:=⟨jF l,rfl,rfl⟩
  have a1:(l.length+(cM (eR k)).length) * 1≤iV:=by rw[jF];show _≤140737488355328;omega
  refine cV ?_
  have e1:(l++k).length=l.length+(cM (eR k)).length:=by rw[jF,List.length_append]
  exact⟨c8,⟨_,d, .inr rfl, .inr ⟨q,_,by omega,hqb,by rw[e1];exact bq,by rw[←sy];exact bq⟩⟩,fun y h1 h2 h3=>by
   have hyq:y≠q:=fun e=>by subst e;exact h3 _ _ hr2
   exact cB⟩
theorem lq {b nx:Nat} {l:List UInt8} {c:UInt8} {H:Hp} (hB:Bd b l H nx) (hb:b<nx) (hsz:l.length+1≤140737488355328):
 cP Tryz.prog 94 [.pt b 1 0 0, .sc (.int .u8 (c.toNat:Int))] H nx (fun r H2 n2=>nx≤n2∧Bd b (l++[c]) H2 n2∧RU b nx H H2):=by
 obtain⟨A,d,hA,⟨rfl,hr⟩|⟨q,d2,hq,hqb,hr,hr2⟩⟩:=hB
 ·refine aQ DV rfl ?_
  refine cV ?_
  refine aO (lz hr hA) ?_
  rintro _ H2 n2 ⟨rfl,rfl,rfl⟩
  refine cV ?_
  exact⟨c8,⟨_,d, .inr rfl, .inr ⟨nx+9,fZ false [.int .u8 0],by omega,by omega,bq,show _=some (eV.row _ _ _ [.sc (.int .u8 (c.toNat:Int))]) from bq⟩⟩,fun y h1 h2 h3=>cB⟩
 ·refine aQ DV rfl ?_
  refine cV ?_
  refine aO (lz hr hA) ?_
  rintro _ H2 n2 ⟨rfl,rfl,rfl⟩
  have a0:(cM (eR l)).length=l.length∧5=5∧1=1:=⟨jF l,rfl,rfl⟩
  refine cV ?_
  exact⟨c8,⟨_,d, .inr rfl, .inr ⟨q,_,by omega,hqb,by rw[List.length_append];exact bq,by rw[←sy];exact bq⟩⟩,fun y h1 h2 h3=>by
   have hyq:y≠q:=fun e=>by subst e;exact h3 _ _ hr2
   exact cB⟩
theorem Bd.skip {b n n2:Nat} {l:List UInt8} {H H2:Hp} (h:Bd b l H n) (hn:n≤n2) (hk:∀y,y<n→bn H2 y=bn H y) (hb:b<n:=by omega):Bd b l H2 n2:=by
 obtain⟨A,d,hA,⟨h0,hr⟩|⟨q,d2,hq,hqb,hr,hr2⟩⟩:=h
 ·exact⟨A,d,hA, .inl ⟨h0,(hk b hb).trans hr⟩⟩
 ·exact⟨A,d,hA, .inr ⟨q,d2,by omega,hqb,(hk b hb).trans hr,(hk q hq).trans hr2⟩⟩
theorem wS (x:Int):0<(Go.Lib.itoa x).length:=by
 unfold Go.Lib.itoa
 split
 ·simp
 ·exact A4 _
def dH (x:Int) (e:List UInt8):List UInt8:=Go.Lib.itoa x++e
theorem kL {b nx:Nat} {l e:List UInt8} {x:Int} {H:Hp} (hB:Bd b l H nx) (hb:b<nx) (h1:-9223372036854775808≤x) (h2:x≤9223372036854775807) (hsz:l.length+(dH x e).length≤140737488355328):
 cP Tryz.prog 91 [.sc (.int .i64 x), .sc (.string (eR e)), .pt b 1 0 0] H nx (fun r H2 n2=>nx≤n2∧Bd b (l++dH x e) H2 n2∧RU b nx H H2):=by
 have c0:Pure Tryz.prog 93 [.sc (.int .i64 x)] (fun r=>r= .sc (.string (eR (Go.Lib.itoa x)))):=ze x h1 h2
 have he:eR (Go.Lib.itoa x)++eR e=eR (dH x e):=by
  apply ByteArray.ext
  simp[eR,dH]
 have hl:(dH x e).length=(Go.Lib.itoa x).length+e.length:=by simp[dH]
 have a0:(eR (Go.Lib.itoa x)).size+(eR e).size≤9223372036854775807:=by
  show(Go.Lib.itoa x).toArray.size+e.toArray.size≤_
  simp only[List.size_toArray]
  omega
 have hne:dH x e≠[]:=by
  have:=wS x
  intro h
  rw[h] at hl
  simp at hl
  omega
 refine aQ IT rfl ?_
 refine cV ?_
 rw[he]
 refine aO (yL (hB.skip (by omega) ?_) (by omega) hne hsz) ?_
 ·exact fun y hy=>cB
 rintro _ H2 n2 ⟨hn,hB2,ho⟩
 refine cV ?_
 exact⟨by omega,hB2.skip (Nat.le_refl _) fun y hy=>cB,fun y q1 q2 q3=>Eq.trans cB (by rw[ho y (by omega) q2 (by rw[show bn _ y=bn H y from cB];exact q3)];exact cB)⟩
end Go.Proofs.YtekfmjjmihomlaaGreat
end
section
/- The document's Print of a word. -/
namespace Go.Proofs.YtekfmjjmihomlaaGreat
open Go Go.cZ Go.Proofs
set_option linter.unusedSimpArgs false
set_option linter.unusedVariables false
open Go.Lib (decDigits itoa)
theorem SO (n:Int):IntKind.u8.wrap n=n%256:=by simp[IntKind.wrap,IntKind.bits,IntKind.signed]
theorem vr (n:Nat) (hn:n<18446744073709551616):Pure Tryz.prog 135 [.sc (.int .u64 (n:Int))] (fun r=>r= .sc (.string (eR (decDigits n)))):=by
 induction n using Nat.strongRecOn with
 |_ n ih=>
  have r0:IntKind.u8.wrap (IntKind.u64.wrap (48+(n:Int)%10))=48+(n:Int)%10:=by rw[yM,SO];omega
  by_cases h:n<10
  ·have r1:IntKind.u8.wrap (IntKind.u64.wrap (48+(n:Int)))=48+(n:Int):=by rw[yM,SO];omega
   refine aI tk rfl ?_
   refine cV ?_
   rw[decDigits,dif_pos h]
   refine congrArg (fun s=>AV.sc (.string s)) ?_
   apply ByteArray.ext
   show #[UInt8.ofNat (48+(n:Int)).toNat]=_
   rw[show(48+(n:Int)).toNat=48+n by omega]
  ·have c0:=ih (n /10) (by omega) (by omega)
   have r1:IntKind.u64.wrap ((n:Int).tdiv 10)=((n /10:Nat):Int):=by rw[yM,Int.tdiv_eq_ediv_of_nonneg (by omega)];omega
   have r2:(n:Int).tmod 10=(n:Int)%10:=Int.tmod_eq_emod_of_nonneg (by omega)
   have a0:(eR (decDigits (n /10))).size+(ER [48+(n:Int)%10]).size≤9223372036854775807:=by
    have:=qK 19 (n /10) (by omega)
    show(decDigits (n /10)).toArray.size+1≤_
    simp only[List.size_toArray]
    omega
   refine aI tk rfl ?_
   refine cV ?_
   rw[decDigits.eq_def n,dif_neg h]
   refine congrArg (fun s=>AV.sc (.string s)) ?_
   apply ByteArray.ext
   rw[ByteArray.data_append,show(ER [48+(n:Int)%10]).data=#[UInt8.ofNat (48+(n:Int)%10).toNat] from rfl,show(48+(n:Int)%10).toNat=48+n%10 by omega]
   simp[eR]
theorem gV (x:Int) (h1:-9223372036854775808≤x) (h2:x≤9223372036854775807):Pure Tryz.prog 99 [.sc (.int .i64 x)] (fun r=>r= .sc (.string (eR (itoa x)))):=by
 have c0:=vr x.natAbs (by omega)
 by_cases h:0≤x
 ·have r1:IntKind.u64.wrap x=(x.natAbs:Int):=by rw[yM];omega
  refine aI DW rfl ?_
  refine cV ?_
  rw[itoa,if_neg (by omega),show x.toNat=x.natAbs by omega]
 ·have r1:IntKind.u64.wrap (0 - IntKind.u64.wrap x)=(x.natAbs:Int):=by rw[yM,yM];omega
  have a0:(ByteArray.mk [45].toArray).size+(eR (decDigits x.natAbs)).size≤9223372036854775807:=by
   have:=qK 19 x.natAbs (by omega)
   show 1+(decDigits x.natAbs).toArray.size≤_
   simp only[List.size_toArray]
   omega
  refine aI DW rfl ?_
  refine cV ?_
  rw[itoa,if_pos (by omega)]
  refine congrArg (fun s=>AV.sc (.string s)) ?_
  apply ByteArray.ext
  simp[eR]
end Go.Proofs.YtekfmjjmihomlaaGreat
end
section
/- The key of a situation. -/
namespace Go.Proofs.YtekfmjjmihomlaaGreat
open Go Go.cZ Go.Proofs
set_option linter.unusedSimpArgs false
set_option linter.unusedVariables false
def ll (m:MS) (t:Nat):List UInt8:=dH (m.at_.getD t 0) [44]++(m.br.getD t []).flatMap (fun w=>dH w [44])++[124]
def sN (p:cg):List UInt8:=dH p.ch [58]++dH p.word [44]
def ee (m:MS):List UInt8:=(List.range m.at_.length).flatMap (ll m)++m.mem.flatMap (fun w=>dH w [44])++[124]++m.hold.flatMap (fun w=>dH w [44])++[124]++m.bu.flatMap sN
structure RT (m:MS):Prop where
 aw:∀w∈m.at_,eM w
 sl:m.br.length=m.at_.length
 sw:∀l∈m.br,∀w∈l,eM w
 mw:∀w∈m.mem,eM w
 hw:∀w∈m.hold,eM w
 pw:∀p∈m.bu,eM p.ch∧eM p.word
 sz:(ee m).length≤140737488355328
theorem M3 {α:Type} (f:α→List UInt8) (l:List α) (j:Nat):((l.take j).flatMap f).length≤(l.flatMap f).length:=by
 conv=>rhs;rw[←List.take_append_drop j l,List.flatMap_append,List.length_append]
 omega
theorem fO {α:Type} (f:α→List UInt8) {l:List α} {j:Nat} (h:j<l.length) (d:α):(l.take (j+1)).flatMap f=(l.take j).flatMap f++f (l.getD j d):=by
 rw[List.take_succ_eq_append_getElem h,List.flatMap_append]
 simp[List.getD,List.getElem?_eq_getElem h]
theorem iJ {α:Type} (f:α→List UInt8) {l:List α} {j:Nat} (h:j<l.length) (d:α):((l.take j).flatMap f).length+(f (l.getD j d)).length≤(l.flatMap f).length:=by
 have:=M3 f l (j+1)
 rw[fO f h d,List.length_append] at this
 exact this
theorem je {l:List Int} (h:∀w∈l,eM w) {j:Nat} (hj:j<l.length):eM (l.getD j 0):=h _ (cW 0 hj)
theorem qP (m:MS):(ee m).length=((List.range m.at_.length).flatMap (ll m)).length+(m.mem.flatMap (fun w=>dH w [44])).length+1+(m.hold.flatMap (fun w=>dH w [44])).length+1+(m.bu.flatMap sN).length:=by
 simp only[ee,List.length_append,List.length_cons,List.length_nil]
theorem xl {n i:Nat} (h:i<n):(List.range n).getD i 0=i:=by simp[List.getD,h]
theorem gb {α:Type} (f:α→List UInt8) (hf:∀a,0<(f a).length):∀l:List α,l.length≤(l.flatMap f).length
 |[]=>Nat.zero_le _
 |a::l=>by
  have h1:=gb f hf l
  have h2:=hf a
  rw[List.flatMap_cons,List.length_append,List.length_cons]
  omega
theorem jT (x:Int) (e:List UInt8):0<(dH x e).length:=by
 have:=wS x
 unfold dH
 rw[List.length_append]
 omega
theorem CA (m:MS) (t:Nat):0<(ll m t).length:=by
 unfold ll
 rw[List.length_append]
 simp
theorem B3 (p:cg):0<(sN p).length:=by
 have:=jT p.ch [58]
 unfold sN
 rw[List.length_append]
 omega
set_option maxHeartbeats 2000000 in
theorem uh (u:bt) (m:MS) (h:RT m):Pure Tryz.prog 64 [m.fz u] (fun r=>r= .sc (.string (eR (ee m)))):=by
 have hsz:=h.sz
 rw[qP] at hsz
 have g1:=gb (ll m) (CA m) (List.range m.at_.length)
 have g2:=gb (fun w=>dH w [44]) (fun w=>jT w _) m.mem
 have g3:=gb (fun w=>dH w [44]) (fun w=>jT w _) m.hold
 have g4:=gb sN B3 m.bu
 rw[List.length_range] at g1
 refine dY ?_ (by simp[cE])
 refine aQ H5 rfl ?_
 refine cV ?_
 rw[List.length_map]
 refine aP (fun i:Nat=>[(0,m.fz u),(3, .pt 3 1 0 0),(4, .fn (.func 91) [] [.pt 3 1 0 0]),(21,cm m.at_),(22,i64 m.at_.length),(23,i64 i)])
  (fun i H n=>i≤m.at_.length∧4≤n∧Bd 3 (((List.range m.at_.length).take i).flatMap (ll m)) H n) (fun i=>m.at_.length - i) 0 cI ⟨Nat.zero_le _,c8,⟨.sc (.pointer none),_, .inl rfl, .inl ⟨rfl,bq⟩⟩⟩ ?_
 rintro i H n ⟨hi,hn,hB⟩
 by_cases hil:i<m.at_.length
 ·have e0:=fun d=>eX (l:=m.at_) hil d
  have e1:∀d,(m.br.map cm).getD ((i:Int)).toNat d=cm (m.br.getD i []):=fun d=>by rw[Int.toNat_natCast];exact dB cm m.br i d (by rw[h.sl];exact hil)
  have a0:(m.at_.map i64).length=m.at_.length:=by simp
  have a1:(m.br.map cm).length=m.at_.length:=by simp[h.sl]
  have hle:=iJ (ll m) (l:=List.range m.at_.length) (j:=i) (by simpa using hil) 0
  have hnx:=fO (ll m) (l:=List.range m.at_.length) (j:=i) (by simpa using hil) 0
  rw[xl hil] at hle hnx
  have hw:=je h.aw hil
  have hth:(ll m i).length=(dH (m.at_.getD i 0) [44]).length+((m.br.getD i []).flatMap (fun w=>dH w [44])).length+1:=by simp only[ll,List.length_append,List.length_cons,List.length_nil]
  have hthe:ll m i=dH (m.at_.getD i 0) [44]++(m.br.getD i []).flatMap (fun w=>dH w [44])++[124]:=rfl
  have hsw:=h.sw _ (cW (l:=m.br) [] (by rw[h.sl];exact hil))
  refine cV ?_
  refine aO (kL (e:=[44]) (hB.skip (by omega) ?_) (by omega) hw.1 (by have:=hw.2;omega) (by omega)) ?_
  ·exact fun y hy=>cB
  rintro _ H2 n2 ⟨hn2,hB2,_⟩
  refine cV ?_
  generalize m.br.getD i []=sl at *
  have g5:=gb (fun w=>dH w [44]) (fun w=>jT w _) sl
  rw[List.length_map]
  refine aP (fun j:Nat=>[(0,m.fz u),(3, .pt 3 1 0 0),(4, .fn (.func 91) [] [.pt 3 1 0 0]),(5,i64 i),(21,cm m.at_),(22,i64 m.at_.length),(23,i64 i),(37,cm sl),(38,i64 (sl).length),(39,i64 j)])
   (fun j H n=>j≤(sl).length∧4≤n∧Bd 3 ((((List.range m.at_.length).take i).flatMap (ll m)++dH (m.at_.getD i 0) [44])++((sl).take j).flatMap (fun w=>dH w [44])) H n) (fun j=>(sl).length - j) 0 cI ⟨Nat.zero_le _,c8,by rw[List.take_zero,List.flatMap_nil,List.append_nil];exact hB2.skip (by omega) fun y hy=>cB⟩ ?_
  clear hB2
  rintro j H n ⟨hj,hn,hB⟩
  by_cases hjl:j<(sl).length
  ·have e2:=fun d=>eX (l:=sl) hjl d
   have a2:((sl).map i64).length=(sl).length:=by simp
   have hle2:=iJ (fun w=>dH w [44]) hjl 0
   have hnx2:=fO (fun w=>dH w [44]) hjl 0
   have hw2:=je hsw hjl
   refine cV ?_
   refine aO (kL (e:=[44]) (hB.skip (by omega) ?_) (by omega) hw2.1 (by have:=hw2.2;omega) (by rw[List.length_append,List.length_append];omega)) ?_
   ·exact fun y hy=>cB
   rintro _ H3 n3 ⟨hn3,hB3,_⟩
   refine cV ?_
   exact⟨j+1,by omega,cI,by omega,by omega,by rw[hnx2,←List.append_assoc];exact hB3.skip (by omega) fun y hy=>cB⟩
  ·obtain rfl:j=sl.length:=by omega
   rw[List.take_length] at hB
   refine cV ?_
   refine aO (lq (c:=124) (hB.skip (by omega) ?_) (by omega) (by rw[List.length_append,List.length_append];omega)) ?_
   ·exact fun y hy=>cB
   rintro _ H3 n3 ⟨hn3,hB3,_⟩
   refine cV ?_
   exact⟨i+1,by omega,cI,by omega,by omega,by rw[hnx,hthe,←List.append_assoc,←List.append_assoc];exact hB3.skip (by omega) fun y hy=>cB⟩
 ·obtain rfl:i=m.at_.length:=by omega
  rw[show(List.range m.at_.length).take m.at_.length=List.range m.at_.length from List.take_of_length_le (by simp)] at hB
  refine cV ?_
  rw[List.length_map]
  refine aP (fun j:Nat=>[(0,m.fz u),(3, .pt 3 1 0 0),(4, .fn (.func 91) [] [.pt 3 1 0 0]),(52,cm m.mem),(53,i64 (m.mem).length),(54,i64 j)])
   (fun j H n=>j≤(m.mem).length∧4≤n∧Bd 3 (((List.range m.at_.length).flatMap (ll m))++((m.mem).take j).flatMap (fun w=>dH w [44])) H n) (fun j=>(m.mem).length - j) 0 cI ⟨Nat.zero_le _,c8,by rw[List.take_zero,List.flatMap_nil,List.append_nil];exact hB.skip (by omega) fun y hy=>cB⟩ ?_
  clear hB
  rintro j H n ⟨hj,hn,hB⟩
  by_cases hjl:j<(m.mem).length
  ·have e2:=fun d=>eX (l:=m.mem) hjl d
   have a2:((m.mem).map i64).length=(m.mem).length:=by simp
   have hle2:=iJ (fun w=>dH w [44]) hjl 0
   have hnx2:=fO (fun w=>dH w [44]) hjl 0
   have hw2:=je h.mw hjl
   refine cV ?_
   refine aO (kL (e:=[44]) (hB.skip (by omega) ?_) (by omega) hw2.1 (by have:=hw2.2;omega) (by rw[List.length_append];omega)) ?_
   ·exact fun y hy=>cB
   rintro _ H3 n3 ⟨hn3,hB3,_⟩
   refine cV ?_
   exact⟨j+1,by omega,cI,by omega,by omega,by rw[hnx2,←List.append_assoc];exact hB3.skip (by omega) fun y hy=>cB⟩
  ·obtain rfl:j=(m.mem).length:=by omega
   rw[List.take_length] at hB
   refine cV ?_
   refine aO (lq (c:=124) (hB.skip (by omega) ?_) (by omega) (by rw[List.length_append];omega)) ?_
   ·exact fun y hy=>cB
   rintro _ H3 n3 ⟨hn3,hB3,_⟩
   clear hB hj hjl
   refine cV ?_
   rw[List.length_map]
   refine aP (fun j:Nat=>[(0,m.fz u),(3, .pt 3 1 0 0),(4, .fn (.func 91) [] [.pt 3 1 0 0]),(66,cm m.hold),(67,i64 (m.hold).length),(68,i64 j)])
    (fun j H n=>j≤(m.hold).length∧4≤n∧Bd 3 (((List.range m.at_.length).flatMap (ll m)++m.mem.flatMap (fun w=>dH w [44])++[124])++((m.hold).take j).flatMap (fun w=>dH w [44])) H n) (fun j=>(m.hold).length - j) 0 cI ⟨Nat.zero_le _,c8,by rw[List.take_zero,List.flatMap_nil,List.append_nil];exact hB3.skip (by omega) fun y hy=>cB⟩ ?_
   clear hB3
   rintro j H n ⟨hj,hn,hB⟩
   by_cases hjl:j<(m.hold).length
   ·have e2:=fun d=>eX (l:=m.hold) hjl d
    have a2:((m.hold).map i64).length=(m.hold).length:=by simp
    have hle2:=iJ (fun w=>dH w [44]) hjl 0
    have hnx2:=fO (fun w=>dH w [44]) hjl 0
    have hw2:=je h.hw hjl
    refine cV ?_
    refine aO (kL (e:=[44]) (hB.skip (by omega) ?_) (by omega) hw2.1 (by have:=hw2.2;omega) (by simp only[List.length_append,List.length_cons,List.length_nil];omega)) ?_
    ·exact fun y hy=>cB
    rintro _ H3 n3 ⟨hn3,hB3,_⟩
    refine cV ?_
    exact⟨j+1,by omega,cI,by omega,by omega,by rw[hnx2,←List.append_assoc];exact hB3.skip (by omega) fun y hy=>cB⟩
   ·obtain rfl:j=(m.hold).length:=by omega
    rw[List.take_length] at hB
    refine cV ?_
    refine aO (lq (c:=124) (hB.skip (by omega) ?_) (by omega) (by simp only[List.length_append,List.length_cons,List.length_nil];omega)) ?_
    ·exact fun y hy=>cB
    rintro _ H3 n3 ⟨hn3,hB3,_⟩
    clear hB hj hjl
    refine cV ?_
    rw[List.length_map]
    refine aP (fun j:Nat=>[(0,m.fz u),(3, .pt 3 1 0 0),(4, .fn (.func 91) [] [.pt 3 1 0 0]),(80,ez m.bu),(81,i64 m.bu.length),(82,i64 j)])
     (fun j H n=>j≤m.bu.length∧4≤n∧Bd 3 (((List.range m.at_.length).flatMap (ll m)++m.mem.flatMap (fun w=>dH w [44])++[124]++m.hold.flatMap (fun w=>dH w [44])++[124])++(m.bu.take j).flatMap sN) H n) (fun j=>m.bu.length - j) 0 cI ⟨Nat.zero_le _,c8,by rw[List.take_zero,List.flatMap_nil,List.append_nil];exact hB3.skip (by omega) fun y hy=>cB⟩ ?_
    clear hB3
    rintro j H n ⟨hj,hn,hB⟩
    by_cases hjl:j<m.bu.length
    ·have e2:∀d,(m.bu.map cg.av).getD ((j:Int)).toNat d=(m.bu.getD j default).av:=fun d=>by rw[Int.toNat_natCast];exact dB cg.av m.bu j d hjl
     have a2:(m.bu.map cg.av).length=m.bu.length:=by simp
     have hle2:=iJ sN hjl default
     have hnx2:=fO sN hjl default
     obtain⟨hw2,hw3⟩:=h.pw _ (cW default hjl)
     generalize m.bu.getD j default=p at *
     have hpl:(sN p).length=(dH p.ch [58]).length+(dH p.word [44]).length:=by simp[sN]
     refine cV ?_
     refine aO (kL (e:=[58]) (hB.skip (by omega) ?_) (by omega) hw2.1 (by have:=hw2.2;omega) (by simp only[List.length_append,List.length_cons,List.length_nil];omega)) ?_
     ·exact fun y hy=>cB
     rintro _ H3 n3 ⟨hn3,hB3,ho⟩
     have hr:bn H3 (n+1+1+1)=some (.row 89 2 (fZ true [.int .i64 0, .int .i64 0]) [.agg p.cells]):=(ho _ (by omega) (by omega) (by
      intro d es
      rw[show bn _ (n+1+1+1)=some (eV.row 89 2 (fZ true [.int .i64 0, .int .i64 0]) [.agg p.cells]) from bq]
      simp)).trans bq
     refine cV ?_
     refine aO (kL (e:=[44]) (hB3.skip (by omega) ?_) (by omega) hw3.1 (by have:=hw3.2;omega) (by simp only[List.length_append,List.length_cons,List.length_nil];omega)) ?_
     ·exact fun y hy=>cB
     rintro _ H4 n4 ⟨hn4,hB4,_⟩
     refine cV ?_
     exact⟨j+1,by omega,cI,by omega,by omega,by rw[hnx2,sN,←List.append_assoc,←List.append_assoc];exact hB4.skip (by omega) fun y hy=>cB⟩
    ·obtain rfl:j=m.bu.length:=by omega
     rw[List.take_length] at hB
     have hne:ee m≠[]:=by
      intro e
      have:=congrArg List.length e
      rw[qP] at this
      simp at this
     change Bd 3 (ee m) H n at hB
     obtain⟨A,d,hA,⟨h0,_⟩|⟨q,d2,hq,hqb,hr,hr2⟩⟩:=hB
     ·exact absurd h0 hne
     refine cV ?_
     refine aO (yE (q:=q) (d:=d) (d2:=d2) (A:=A) (l:=ee m) ?_ ?_ hne) ?_
     ·exact bq
     ·exact bq
     rintro _ H4 n4 ⟨rfl,rfl,rfl⟩
     refine cV ?_
     exact⟨rfl⟩
end Go.Proofs.YtekfmjjmihomlaaGreat
end
section
/- The document's key of a situation. -/
namespace Go.Proofs.YtekfmjjmihomlaaGreat
open Go Go.cZ Go.Proofs
set_option linter.unusedSimpArgs false
set_option linter.unusedVariables false
open Go.Lib (itoa)
abbrev MS.av (u:bt) (m:MS):AV:= .agg (m.cells u)
theorem jd (l k:List UInt8):eR l++eR k=eR (l++k):=by
 apply ByteArray.ext
 simp[eR]
theorem gI (l:List UInt8):(eR l).size=l.length:=by simp[eR,ByteArray.size]
theorem lx (cur:List UInt8) (x:Int) {c c':UInt8} (hc:c=c'):eR cur++eR (itoa x)++(⟨⟨[c]⟩⟩:ByteArray)=eR (cur++dH x [c']):=by
 subst hc
 rw[show(⟨⟨[c]⟩⟩:ByteArray)=eR [c] from rfl,jd,jd,dH,List.append_assoc]
theorem uS (cur:List UInt8) {c c':UInt8} (hc:c=c'):eR cur++(⟨⟨[c]⟩⟩:ByteArray)=eR (cur++[c']):=by
 subst hc
 rw[show(⟨⟨[c]⟩⟩:ByteArray)=eR [c] from rfl,jd]
theorem KL {cur:List UInt8} {x:Int} (h:cur.length+(dH x [44]).length≤140737488355328):(eR cur).size+(eR (itoa x)).size≤9223372036854775807:=by
 have:(dH x [44]).length=(itoa x).length+1:=by simp[dH]
 rw[gI,gI];omega
theorem KM {cur:List UInt8} {x:Int} (h:cur.length+(dH x [44]).length≤140737488355328):(eR cur++eR (itoa x)).size+(eR [44]).size≤9223372036854775807:=by
 have:(dH x [44]).length=(itoa x).length+1:=by simp[dH]
 rw[jd,gI,gI,List.length_append];show _+1≤_;omega
theorem OC {cur:List UInt8} (h:cur.length+1≤140737488355328):(eR cur).size+(eR [124]).size≤9223372036854775807:=by
 rw[gI,gI];show _+1≤_;omega
set_option maxHeartbeats 2000000 in
theorem tw (u:bt) (m:MS) (h:RT m):Pure Tryz.prog 68 [m.av u] (fun r=>r= .sc (.string (eR (ee m)))):=by
 have hsz:=h.sz
 rw[qP] at hsz
 have g1:=gb (ll m) (CA m) (List.range m.at_.length)
 have g2:=gb (fun w=>dH w [44]) (fun w=>jT w _) m.mem
 have g3:=gb (fun w=>dH w [44]) (fun w=>jT w _) m.hold
 have g4:=gb sN B3 m.bu
 rw[List.length_range] at g1
 refine aI H9 rfl ?_
 refine cV ?_
 rw[List.length_map]
 refine aP (fun i:Nat=>[(1, .pt 0 1 0 0),(3, .sc (.string (eR (((List.range m.at_.length).take i).flatMap (ll m))))),(15,i64 m.at_.length),(16,i64 i)])
  (fun i H n=>i≤m.at_.length∧1≤n∧∃d,bn H 0=some (.row 80 8 d [m.av u])) (fun i=>m.at_.length - i) 0 cI ⟨Nat.zero_le _,c8,⟨_,bq⟩⟩ ?_
 rintro i H n ⟨hi,hn,⟨d,hr⟩⟩
 by_cases hil:i<m.at_.length
 ·have e0:=fun d=>eX (l:=m.at_) hil d
  have e1:∀d,(m.br.map cm).getD ((i:Int)).toNat d=cm (m.br.getD i []):=fun d=>by rw[Int.toNat_natCast];exact dB cm m.br i d (by rw[h.sl];exact hil)
  have a0:(m.at_.map i64).length=m.at_.length:=by simp
  have a1:(m.br.map cm).length=m.at_.length:=by simp[h.sl]
  have hle:=iJ (ll m) (l:=List.range m.at_.length) (j:=i) (by simpa using hil) 0
  have hnx:=fO (ll m) (l:=List.range m.at_.length) (j:=i) (by simpa using hil) 0
  rw[xl hil] at hle hnx
  have hw:=je h.aw hil
  have hth:(ll m i).length=(dH (m.at_.getD i 0) [44]).length+((m.br.getD i []).flatMap (fun w=>dH w [44])).length+1:=by simp only[ll,List.length_append,List.length_cons,List.length_nil]
  have hthe:ll m i=dH (m.at_.getD i 0) [44]++(m.br.getD i []).flatMap (fun w=>dH w [44])++[124]:=rfl
  have hsw:=h.sw _ (cW (l:=m.br) [] (by rw[h.sl];exact hil))
  have c0:Pure Tryz.prog 99 [.sc (.int .i64 (m.at_.getD i 0))] (fun r=>r= .sc (.string (eR (itoa (m.at_.getD i 0))))):=gV _ hw.1 (by have:=hw.2;omega)
  generalize m.br.getD i []=sl at *
  generalize ((List.range m.at_.length).take i).flatMap (ll m)=cur at *
  generalize m.at_.getD i 0=x at *
  have g5:=gb (fun w=>dH w [44]) (fun w=>jT w _) sl
  have hcx:cur.length+(dH x [44]).length≤140737488355328:=by omega
  have a2:=KL hcx
  have a3:=KM hcx
  refine cV ?_
  rw[lx cur x (c':=44) (hc:= ?hc)]
  case hc=>rfl
  clear c0 a2 a3 e0
  rw[List.length_map]
  refine aP (fun j:Nat=>[(1, .pt 0 1 0 0),(15,i64 m.at_.length),(16,i64 i),(3, .sc (.string (eR ((cur++dH x [44])++(sl.take j).flatMap (fun w=>dH w [44]))))),(32,cm sl),(33,i64 sl.length),(34,i64 j)])
   (fun j H n=>j≤sl.length∧1≤n∧∃d,bn H 0=some (.row 80 8 d [m.av u])) (fun j=>sl.length - j) 0 (by rw[List.take_zero,List.flatMap_nil,List.append_nil];exact cI) ⟨Nat.zero_le _,c8,⟨_,bq⟩⟩ ?_
  clear hr hn
  rintro j H n ⟨hj,hn,⟨d,hr⟩⟩
  by_cases hjl:j<sl.length
  ·have e2:=fun d=>eX (l:=sl) hjl d
   have b2:(sl.map i64).length=sl.length:=by simp
   have hle2:=iJ (fun w=>dH w [44]) hjl 0
   have hnx2:=fO (fun w=>dH w [44]) hjl 0
   have hw2:=je hsw hjl
   generalize (sl.take j).flatMap (fun w=>dH w [44])=cur2 at *
   generalize sl.getD j 0=y at *
   have hln:((cur++dH x [44])++cur2).length+(dH y [44]).length≤140737488355328:=by simp only[List.length_append,List.length_cons,List.length_nil];omega
   have a2:=KL hln
   have a3:=KM hln
   have c1:Pure Tryz.prog 99 [.sc (.int .i64 y)] (fun r=>r= .sc (.string (eR (itoa y)))):=gV _ hw2.1 (by have:=hw2.2;omega)
   refine cV ?_
   rw[lx _ y (c':=44) (hc:= ?hc)]
   case hc=>rfl
   exact⟨j+1,by omega,by rw[hnx2,←List.append_assoc];exact cI,by omega,by omega,⟨_,bq⟩⟩
  ·obtain rfl:j=sl.length:=by omega
   rw[List.take_length]
   have a4:(eR ((cur++dH x [44])++sl.flatMap (fun w=>dH w [44]))).size+(eR [124]).size≤9223372036854775807:=OC (by simp only[List.length_append,List.length_cons,List.length_nil];omega)
   refine cV ?_
   rw[uS _ (c':=124) (hc:= ?hc)]
   case hc=>rfl
   exact⟨i+1,by omega,by rw[hnx,hthe,←List.append_assoc,←List.append_assoc];exact cI,by omega,by omega,⟨_,bq⟩⟩
 ·obtain rfl:i=m.at_.length:=by omega
  rw[show(List.range m.at_.length).take m.at_.length=List.range m.at_.length from List.take_of_length_le (by simp)]
  refine cV ?_
  rw[List.length_map]
  refine aP (fun j:Nat=>[(1, .pt 0 1 0 0),(3, .sc (.string (eR (((List.range m.at_.length).flatMap (ll m))++(m.mem.take j).flatMap (fun w=>dH w [44]))))),(48,cm m.mem),(49,i64 m.mem.length),(50,i64 j)])
   (fun j H n=>j≤m.mem.length∧1≤n∧∃d,bn H 0=some (.row 80 8 d [m.av u])) (fun j=>m.mem.length - j) 0 (by rw[List.take_zero,List.flatMap_nil,List.append_nil];exact cI) ⟨Nat.zero_le _,c8,⟨_,bq⟩⟩ ?_
  clear hr hn
  rintro j H n ⟨hj,hn,⟨d,hr⟩⟩
  by_cases hjl:j<m.mem.length
  ·have e2:=fun d=>eX (l:=m.mem) hjl d
   have b2:(m.mem.map i64).length=m.mem.length:=by simp
   have hle2:=iJ (fun w=>dH w [44]) hjl 0
   have hnx2:=fO (fun w=>dH w [44]) hjl 0
   have hw2:=je h.mw hjl
   generalize (m.mem.take j).flatMap (fun w=>dH w [44])=cur2 at *
   generalize m.mem.getD j 0=y at *
   have hln:(((List.range m.at_.length).flatMap (ll m))++cur2).length+(dH y [44]).length≤140737488355328:=by simp only[List.length_append,List.length_cons,List.length_nil];omega
   have a2:=KL hln
   have a3:=KM hln
   have c1:Pure Tryz.prog 99 [.sc (.int .i64 y)] (fun r=>r= .sc (.string (eR (itoa y)))):=gV _ hw2.1 (by have:=hw2.2;omega)
   refine cV ?_
   rw[lx _ y (c':=44) (hc:= ?hc)]
   case hc=>rfl
   exact⟨j+1,by omega,by rw[hnx2,←List.append_assoc];exact cI,by omega,by omega,⟨_,bq⟩⟩
  ·obtain rfl:j=m.mem.length:=by omega
   rw[List.take_length]
   have a4:(eR (((List.range m.at_.length).flatMap (ll m))++m.mem.flatMap (fun w=>dH w [44]))).size+(eR [124]).size≤9223372036854775807:=OC (by simp only[List.length_append,List.length_cons,List.length_nil];omega)
   refine cV ?_
   rw[uS _ (c':=124) (hc:= ?hc)]
   case hc=>rfl
   clear a4
   rw[List.length_map]
   refine aP (fun j:Nat=>[(1, .pt 0 1 0 0),(3, .sc (.string (eR (((List.range m.at_.length).flatMap (ll m)++m.mem.flatMap (fun w=>dH w [44])++[124])++(m.hold.take j).flatMap (fun w=>dH w [44]))))),(63,cm m.hold),(64,i64 m.hold.length),(65,i64 j)])
    (fun j H n=>j≤m.hold.length∧1≤n∧∃d,bn H 0=some (.row 80 8 d [m.av u])) (fun j=>m.hold.length - j) 0 (by rw[List.take_zero,List.flatMap_nil,List.append_nil];exact cI) ⟨Nat.zero_le _,c8,⟨_,bq⟩⟩ ?_
   clear hr hn
   rintro j H n ⟨hj,hn,⟨d,hr⟩⟩
   by_cases hjl:j<m.hold.length
   ·have e2:=fun d=>eX (l:=m.hold) hjl d
    have b2:(m.hold.map i64).length=m.hold.length:=by simp
    have hle2:=iJ (fun w=>dH w [44]) hjl 0
    have hnx2:=fO (fun w=>dH w [44]) hjl 0
    have hw2:=je h.hw hjl
    generalize (m.hold.take j).flatMap (fun w=>dH w [44])=cur2 at *
    generalize m.hold.getD j 0=y at *
    have hln:(((List.range m.at_.length).flatMap (ll m)++m.mem.flatMap (fun w=>dH w [44])++[124])++cur2).length+(dH y [44]).length≤140737488355328:=by simp only[List.length_append,List.length_cons,List.length_nil];omega
    have a2:=KL hln
    have a3:=KM hln
    have c1:Pure Tryz.prog 99 [.sc (.int .i64 y)] (fun r=>r= .sc (.string (eR (itoa y)))):=gV _ hw2.1 (by have:=hw2.2;omega)
    refine cV ?_
    rw[lx _ y (c':=44) (hc:= ?hc)]
    case hc=>rfl
    exact⟨j+1,by omega,by rw[hnx2,←List.append_assoc];exact cI,by omega,by omega,⟨_,bq⟩⟩
   ·obtain rfl:j=m.hold.length:=by omega
    rw[List.take_length]
    have a4:(eR (((List.range m.at_.length).flatMap (ll m)++m.mem.flatMap (fun w=>dH w [44])++[124])++m.hold.flatMap (fun w=>dH w [44]))).size+(eR [124]).size≤9223372036854775807:=OC (by simp only[List.length_append,List.length_cons,List.length_nil];omega)
    refine cV ?_
    rw[uS _ (c':=124) (hc:= ?hc)]
    case hc=>rfl
    clear a4
    rw[List.length_map]
    refine aP (fun j:Nat=>[(1, .pt 0 1 0 0),(3, .sc (.string (eR (((List.range m.at_.length).flatMap (ll m)++m.mem.flatMap (fun w=>dH w [44])++[124]++m.hold.flatMap (fun w=>dH w [44])++[124])++(m.bu.take j).flatMap sN)))),(78,ez m.bu),(79,i64 m.bu.length),(80,i64 j)])
     (fun j H n=>j≤m.bu.length∧1≤n∧∃d,bn H 0=some (.row 80 8 d [m.av u])) (fun j=>m.bu.length - j) 0 (by rw[List.take_zero,List.flatMap_nil,List.append_nil];exact cI) ⟨Nat.zero_le _,c8,⟨_,bq⟩⟩ ?_
    clear hr hn
    rintro j H n ⟨hj,hn,⟨d,hr⟩⟩
    by_cases hjl:j<m.bu.length
    ·have e2:∀d,(m.bu.map cg.av).getD ((j:Int)).toNat d=(m.bu.getD j default).av:=fun d=>by rw[Int.toNat_natCast];exact dB cg.av m.bu j d hjl
     have b2:(m.bu.map cg.av).length=m.bu.length:=by simp
     have hle2:=iJ sN hjl default
     have hnx2:=fO sN hjl default
     obtain⟨hw2,hw3⟩:=h.pw _ (cW default hjl)
     generalize (m.bu.take j).flatMap sN=cur2 at *
     generalize m.bu.getD j default=p at *
     have hpl:(sN p).length=(itoa p.ch).length+1+(itoa p.word).length+1:=by simp[sN,dH];omega
     have hln:((List.range m.at_.length).flatMap (ll m)++m.mem.flatMap (fun w=>dH w [44])++[124]++m.hold.flatMap (fun w=>dH w [44])++[124]++cur2).length+(sN p).length≤140737488355328:=by simp only[List.length_append,List.length_cons,List.length_nil];omega
     rw[sN,←List.append_assoc] at hnx2
     generalize (List.range m.at_.length).flatMap (ll m)++m.mem.flatMap (fun w=>dH w [44])++[124]++m.hold.flatMap (fun w=>dH w [44])++[124]=F at *
     rw[List.length_append] at hln
     have a2:(eR (F++cur2)).size+(eR (itoa p.ch)).size≤9223372036854775807:=by simp only[jd,gI,List.length_append];omega
     have a3:(eR (F++cur2)++eR (itoa p.ch)).size+(eR [58]).size≤9223372036854775807:=by simp only[jd,gI,List.length_append,List.length_cons,List.length_nil];omega
     have a4:(eR (F++cur2)++eR (itoa p.ch)++eR [58]).size+(eR (itoa p.word)).size≤9223372036854775807:=by simp only[jd,gI,List.length_append,List.length_cons,List.length_nil];omega
     have a5:(eR (F++cur2)++eR (itoa p.ch)++eR [58]++eR (itoa p.word)).size+(eR [44]).size≤9223372036854775807:=by simp only[jd,gI,List.length_append,List.length_cons,List.length_nil];omega
     have c0:Pure Tryz.prog 99 [.sc (.int .i64 p.ch)] (fun r=>r= .sc (.string (eR (itoa p.ch)))):=gV _ hw2.1 (by have:=hw2.2;omega)
     have c1:Pure Tryz.prog 99 [.sc (.int .i64 p.word)] (fun r=>r= .sc (.string (eR (itoa p.word)))):=gV _ hw3.1 (by have:=hw3.2;omega)
     refine cV ?_
     rw[lx _ p.ch (c':=58) (hc:= ?hc),lx _ p.word (c':=44) (hc:= ?hd)]
     case hc=>rfl
     case hd=>rfl
     exact⟨j+1,by omega,by rw[hnx2,←List.append_assoc,←List.append_assoc];exact cI,by omega,by omega,⟨_,bq⟩⟩
    ·obtain rfl:j=m.bu.length:=by omega
     rw[List.take_length]
     refine cV ?_
     exact rfl
end Go.Proofs.YtekfmjjmihomlaaGreat
end
section
/- Exploring in plain data. -/
namespace Go.Proofs.YtekfmjjmihomlaaGreat
open Go Go.cZ Go.Proofs
set_option linter.unusedSimpArgs false
set_option linter.unusedVariables false
structure cQ where
 m:MS
 from_:Int
 ch:Int
 deriving Inhabited,DecidableEq
abbrev gz (l:List cQ):List (List UInt8):=l.map fun f=>ee f.m
def sG (u:bt) (most k t:Nat) (l:List cQ):Option (List cQ):=
 if(l.getD k default).m.mQ u t≠0 then some l
 else if ee ((l.getD k default).m.step u t).1∈gz l then some l
 else if l.length=most then none
 else some (l++[⟨((l.getD k default).m.step u t).1,k,t⟩])
def sY (u:bt) (most k:Nat):List Nat→List cQ→Option (List cQ)
 |[],l=>some l
 |t::ts,l=>match sG u most k t l with
  |none=>none
  |some l'=>sY u most k ts l'
def pq (u:bt) (most:Nat):Nat→Nat→List cQ→Option (List cQ)
 |0,_,l=>some l
 |n+1,k,l=>if k<l.length then(match sY u most k (List.range u.bo.length) l with
  |none=>none
  |some l'=>pq u most n (k+1) l') else some l
def jM (u:bt):List cQ:=[⟨dA u,-1,0⟩]
def gN (u:bt) (most:Nat):Option (List cQ):=pq u most most 0 (jM u)
structure gw (u:bt) (l:List cQ):Prop where
 pos:0<l.length
 first:l.getD 0 default=⟨dA u,-1,0⟩
 ok:∀i,i<l.length→eU u (l.getD i default).m∧(l.getD i default).m.bu.length≤i
 KQ:∀i,0<i→i<l.length→∃k t:Nat,k<i∧t<u.bo.length∧(l.getD k default).m.mQ u t=0∧l.getD i default=⟨((l.getD k default).m.step u t).1,k,t⟩
 keys:(gz l).Nodup
theorem lh (u:bt) (m:MS) (t:Nat):(m.step u t).1.bu.length≤m.bu.length+1:=by
 show((m.act t (m.node u t)).1).bu.length≤_
 generalize m.node u t=n
 unfold MS.act
 repeat' split
 all_goals first
  |exact Nat.le_succ _
  |(simp only[List.length_append,List.length_cons,List.length_nil];exact Nat.le_refl _)
theorem fF {α:Type} {l:List α} {x d:α} {i:Nat} (h:i<l.length):(l++[x]).getD i d=l.getD i d:=by simp[List.getD,List.getElem?_append,h]
theorem nB {α:Type} {l:List α} {x d:α}:(l++[x]).getD l.length d=x:=by simp[List.getD]
theorem gw.init (u:bt) (hu:u.Wf) (hr:dC u):gw u (jM u) where
 pos:=by simp[jM]
 first:=rfl
 ok:=fun i hi=>by
  have:i=0:=by simp[jM] at hi;omega
  subst this
  exact⟨L7 u hr (fun d hd=>(hu.shared d hd).word) fun t ht=>(hr.gr ht).len.1,Nat.le_refl _⟩
 KQ:=fun i hi h=>by simp[jM] at h;omega
 keys:=by simp[gz,jM]
theorem gw.add {u:bt} {l:List cQ} (hu:u.Wf) (hr:dC u) (h:gw u l) {k t:Nat} (hk:k<l.length) (ht:t<u.bo.length) (hb:(l.getD k default).m.mQ u t=0) (hn:ee ((l.getD k default).m.step u t).1∉gz l):gw u (l++[⟨((l.getD k default).m.step u t).1,k,t⟩]) where
 pos:=by simp
 first:=by rw[fF h.pos];exact h.first
 ok:=fun i hi=>by
  rw[List.length_append] at hi
  by_cases e:i<l.length
  ·rw[fF e];exact h.ok i e
  ·have:i=l.length:=by simp at hi;omega
   subst this
   rw[nB]
   obtain⟨h1,h2⟩:=h.ok k hk
   refine⟨vK hu hr h1 ht (lN h1 ht hb).1, ?_⟩
   have:=lh u (l.getD k default).m t
   dsimp only
   omega
 KQ:=fun i h0 hi=>by
  rw[List.length_append] at hi
  by_cases e:i<l.length
  ·obtain⟨k',t',h1,h2,h3,h4⟩:=h.KQ i h0 e
   refine⟨k',t',h1,h2, ?_, ?_⟩
   ·rw[fF (by omega)];exact h3
   ·rw[fF e,fF (by omega)];exact h4
  ·have:i=l.length:=by simp at hi;omega
   subst this
   refine⟨k,t,hk,ht, ?_, ?_⟩
   ·rw[fF hk];exact hb
   ·rw[nB,fF hk]
 keys:=by
  simp only[gz,List.map_append,List.map_cons,List.map_nil]
  refine List.nodup_append.2 ⟨h.keys,by simp,fun a ha b hb2=> ?_⟩
  simp only[List.mem_cons,List.not_mem_nil,or_false] at hb2
  subst hb2
  intro e
  exact hn (e▸ha)
theorem M5 {u:bt} {l l':List cQ} {most k t:Nat} (hu:u.Wf) (hr:dC u) (h:gw u l) (hl:l.length≤most) (hk:k<l.length) (ht:t<u.bo.length) (he:sG u most k t l=some l'):gw u l'∧l'.length≤most∧l<+:l':=by
 unfold sG at he
 split at he
 ·cases he;exact⟨h,hl,List.prefix_refl _⟩
 rename_i h1
 split at he
 ·cases he;exact⟨h,hl,List.prefix_refl _⟩
 rename_i h2
 split at he
 ·cases he
 ·cases he
  refine⟨h.add hu hr hk ht (by omega) h2, ?_,List.prefix_append _ _⟩
  simp only[List.length_append,List.length_cons,List.length_nil];omega
theorem B9 {u:bt} {most k:Nat} (hu:u.Wf) (hr:dC u):∀{ts:List Nat} {l l':List cQ},gw u l→l.length≤most→k<l.length→(∀t∈ts,t<u.bo.length)→sY u most k ts l=some l'→gw u l'∧l'.length≤most∧l<+:l'
 |[],l,l',h,hl,hk,ht,he=>by cases he;exact⟨h,hl,List.prefix_refl _⟩
 |t::ts,l,l',h,hl,hk,ht,he=>by
  rw[sY] at he
  split at he
  ·cases he
  ·rename_i l2 h2
   obtain⟨g1,g2,g3⟩:=M5 hu hr h hl hk (ht t (by simp)) h2
   obtain⟨q1,q2,q3⟩:=B9 hu hr g1 g2 (Nat.lt_of_lt_of_le hk g3.length_le) (fun x hx=>ht x (by simp[hx])) he
   exact⟨q1,q2,g3.trans q3⟩
theorem AX {u:bt} {most:Nat} (hu:u.Wf) (hr:dC u):∀{n k:Nat} {l l':List cQ},gw u l→l.length≤most→pq u most n k l=some l'→gw u l'∧l'.length≤most∧l<+:l'
 |0,k,l,l',h,hl,he=>by cases he;exact⟨h,hl,List.prefix_refl _⟩
 |n+1,k,l,l',h,hl,he=>by
  rw[pq] at he
  split at he
  ·rename_i hk
   split at he
   ·cases he
   ·rename_i l2 h2
    obtain⟨g1,g2,g3⟩:=B9 hu hr h hl hk (fun t ht=>List.mem_range.1 ht) h2
    obtain⟨q1,q2,q3⟩:=AX hu hr g1 g2 he
    exact⟨q1,q2,g3.trans q3⟩
  ·cases he;exact⟨h,hl,List.prefix_refl _⟩
theorem qE {u:bt} {most:Nat} {l:List cQ} (hu:u.Wf) (hr:dC u) (hm:1≤most) (h:gN u most=some l):gw u l∧l.length≤most∧jM u<+:l:=AX hu hr (gw.init u hu hr) hm h
end Go.Proofs.YtekfmjjmihomlaaGreat
end
