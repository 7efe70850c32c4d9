import Derived.Test.YtekfmjjmihomlaaGreatM32
import Derived.LoopTactic
import Derived.Lib.ItoaMem
import Derived.Test.YtekfmjjmihomlaaGreatM30
import Derived.Test.YtekfmjjmihomlaaGreatM31
section
/- A word in decimals: the code's Print walked. -/
namespace Go.Proofs.YtekfmjjmihomlaaGreat
open Go Go.cO Go.Proofs Go.RowKit
set_option linter.unusedVariables false
set_option linter.unusedSimpArgs false
open Go.Lib (decDigits itoa)
theorem L1 (n:Int):IntKind.u64.wrap n=n%18446744073709551616:=by simp[IntKind.wrap,IntKind.bits,IntKind.signed]
theorem xY:∀(k u:Nat),u<10^(k+1)→(decDigits u).length≤k+1
 |k,u,h=>by
  rw[decDigits]
  split
  ·simp
  ·rename_i hu
   cases k with
   |zero=>omega
   |succ k=>
    have:=xY k (u /10) (by rw[Nat.pow_succ] at h;omega)
    simp only[List.length_append,List.length_cons,List.length_nil]
    omega
theorem xZ (u:Nat):0<(decDigits u).length:=by
 rw[decDigits]
 split<;>simp
def gD (l:List UInt8):Array Value:=(List.replicate (20 - l.length) (Value.int .u8 0)++l.map fun b=>Value.int .u8 (b.toNat:Int)).toArray
theorem xT {l:List UInt8} {k:Nat} (h:k+l.length=19):(gD l)[k]?=some (.int .u8 0):=by
 simp only[gD,List.getElem?_toArray]
 rw[List.getElem?_append_left (by simp;omega),List.getElem?_replicate,if_pos (by omega)]
theorem xU {l:List UInt8} {k:Nat} (h:k+l.length=19) (d:UInt8):(gD l).setIfInBounds k (.int .u8 (d.toNat:Int))=gD (d::l):=by
 have h1:20 - l.length=k+1:=by omega
 have h2:20 - (d::l).length=k:=by simp;omega
 unfold gD
 rw[h1,h2,List.replicate_succ',List.setIfInBounds_toArray]
 congr 1
 rw[List.append_assoc,List.set_append_right _ _ (by simp)]
 simp
theorem I1 {l:List UInt8} {k i:Nat} (h:k+l.length=20) (hi:i<l.length):(gD l)[k+i]?=some (.int .u8 ((l.getD i 0).toNat:Int)):=by
 have h1:20 - l.length=k:=by omega
 simp only[gD,h1,List.getElem?_toArray]
 rw[List.getElem?_append_right (by simp)]
 simp[List.getD,List.getElem?_eq_getElem hi]
theorem xW (W:World) (b j:Nat) (z:Int) (hz:z=(j:Int)) (h:j<20):
 (Instr.sliceAt 189 (.pointer (some ⟨b,0,none⟩)) (some (.int .i64 z)) none none).run Tryz.prog W= .ok (.slice (some ⟨b,j,none⟩) (20 - j) (20 - j)) W:=by
 subst hz
 have al:Tryz.prog.arrayLen 189=20:=by kernel_rfl
 have el:Tryz.prog.elem 189=5:=by kernel_rfl
 rw[run_sliceAt_array_l W 189 ⟨b,0,none⟩ (by rw[al,el];exact Tryz.underlying189) .i64 (j:Int) (by omega) (by rw[al];omega),el,al]
 rw[show(sizeOf 5).run Tryz.prog W= .ok 1 W by kernel_rfl]
 simp only[Result.andThen,slicedAt,Int.toNat_natCast,Nat.mul_one]
 rw[if_neg (by omega),Go.Lib.add_plain,Nat.zero_add]
theorem vL (w:World) (j:Nat) (l:List UInt8) (h:j+l.length=20):
 (convert 147 9 (.slice (some ⟨w.heap.size,j,none⟩) (20 - j) (20 - j))).run Tryz.prog (w.alloc (.cells (gD l) 189))= .ok (.string ⟨l.toArray⟩) (w.alloc (.cells (gD l) 189)):=by
 rw[run_convert_bytes_arg _ 147 5 Tryz.underlying147 Tryz.underlying5 w.heap.size j (20 - j) (20 - j) (l.map fun b=>(b.toNat:Int)) (by simp;omega) (fun i hi=> ?_) 9 Tryz.underlying9]
 ·congr 2
  simp[strOfNums,Function.comp_def]
 ·rw[World.cell?_alloc_new,I1 h (by omega)]
  congr 2
  simp[List.getD]
  cases hh:l[i]?<;>simp
set_option maxHeartbeats 1000000 in
set_option maxRecDepth 100000 in
theorem wc (x:Int) (h1:-9223372036854775808≤x) (h2:x≤9223372036854775807) (w:World):
 Calls Tryz.prog 93 #[.int .i64 x] w fun e w'=>e= .returned (.string ⟨(itoa x).toArray⟩)∧Below w.heap.size w w':=by
 have t1:=Tryz.underlying189
 have t2:=Tryz.underlying2
 have t3:=Tryz.underlying3
 have t4:=Tryz.underlying173
 have t5:=Tryz.underlying5
 have t6:=Tryz.underlying9
 have t7:=Tryz.underlying147
 have hu19:(decDigits x.natAbs).length≤19:=xY 18 _ (by omega)
 go_enter Tryz.func93,Tryz.ntmps93
 go_wp2
 all_goals
  go_loopw [4,5] (fun va vn wr=>∃(k n:Nat) (l:List UInt8),va= .int .i64 ((k+1:Nat):Int)∧vn= .int .u64 n∧k+l.length=19∧n≤9223372036854775808∧decDigits x.natAbs=decDigits n++l∧wr=w.alloc (.cells (gD l) 189)) (fun va _ _=>(RowKit.intOf va).toNat)
  case atStart=>
   refine⟨19,x.natAbs,[],rfl, ?_,rfl,by omega,by simp,rfl⟩
   simp only[L1]
   congr 1
   omega
  case round=>
   obtain⟨k,n,l,rfl,rfl,hk,hn,hd,rfl⟩:=hrel
   have hn0:=xZ n
   have hlen:=congrArg List.length hd
   rw[List.length_append] at hlen
   have hk1:1≤k:=by omega
   have hk2:k≤19:=by omega
   have hg:=xT hk
   have hq:IntKind.u64.wrap ((n:Int) /10)=((n /10:Nat):Int):=by rw[L1];omega
   obtain⟨d,hde⟩:∃d:UInt8,UInt8.ofNat (48+n%10)=d:=⟨_,rfl⟩
   have hset:(gD l).setIfInBounds k (.int .u8 (48+(n:Int)%10))=gD (d::l):=by
    rw[←xU hk,←hde,UInt8.toNat_ofNat']
    congr 2
    omega
   have hg2:(gD (d::l))[k - 1]?=some (.int .u8 0):=xT (by simp;omega)
   have hset2:(gD (d::l)).setIfInBounds (k - 1) (.int .u8 45)=gD (45::d::l):=xU (by simp;omega) 45
   have hs1:=xW (w.alloc (.cells (gD (d::l)) 189)) w.heap.size k (k:Int) rfl (by omega)
   have hs2:=xW (w.alloc (.cells (gD (45::d::l)) 189)) w.heap.size (k - 1) ((k:Int) - 1) (by omega) (by omega)
   have hc1:=vL w k (d::l) (by simp;omega)
   have hc2:=vL w (k - 1) (45::d::l) (by simp;omega)
   go_wp2
   case roundEnd=>
    rename_i hz
    have hz:¬n<10:=by simp at hz;omega
    refine⟨⟨k - 1,n /10,d::l,by congr 1;omega,by simp,by simp;omega,Nat.le_trans (Nat.div_le_self _ _) hn, ?_,rfl⟩,by simp[RowKit.intOf]⟩
    rw[hd,decDigits,dif_neg hz,←hde,List.append_assoc];rfl
   all_goals
    have hz:((n:Int) /10==0)=true:=by assumption
    have hz:n<10:=by simp at hz;omega
    have hd2:decDigits x.natAbs=d::l:=by
     rw[hd,decDigits.eq_def n,dif_pos hz,←hde,Nat.mod_eq_of_lt hz];rfl
    go_ret
    refine⟨?_,(Below.refl _ _).alloc (Nat.le_refl _) _⟩
    rw[itoa]
    first
    |(rw[if_pos (by assumption),hd2];rfl)
    |(rw[if_neg (by omega),show x.toNat=x.natAbs by omega,hd2];rfl)
theorem wa (x:Int) (h1:-9223372036854775808≤x) (h2:x≤9223372036854775807):Pure Tryz.prog 93 [.sc (.int .i64 x)] (fun r=>r= .sc (.string ⟨(itoa x).toArray⟩)):=by
 refine⟨⟨_,Tryz.func93,by kernel_rfl,by kernel_rfl⟩,fun M w vs hM hv=> ?_⟩
 rw[cP] at hv
 obtain⟨v,vs',rfl,h3,h4⟩:=hv
 rw[VR] at h3
 rw[cP] at h4
 subst h3
 subst h4
 refine(wc x h1 h2 w).mono ?_
 rintro e w' ⟨rfl,hb⟩
 exact⟨_,_,rfl,rfl,by simp[bx],by rw[VR],hb⟩
end Go.Proofs.YtekfmjjmihomlaaGreat
end
section
/- The library's text builder: what is written comes behind what stands. -/
namespace Go.Proofs.YtekfmjjmihomlaaGreat
open Go Go.cO Go.Proofs
set_option linter.unusedSimpArgs false
set_option linter.unusedVariables false
abbrev jL (l:List UInt8):ByteArray:=⟨l.toArray⟩
theorem qO (l k:List UInt8):bu (jL l)++bu (jL k)=bu (jL (l++k)):=by simp[bu,jL]
theorem gk (l:List UInt8):(bu (jL l)).length=l.length:=by simp[bu,jL]
def Bd (b:Nat) (l:List UInt8) (H:Hp) (n:Nat):Prop:=∃A d,(A= .sc (.pointer none)∨A= .pt b 1 0 0)∧
 ((l=[]∧bd H b=some (.row 149 2 d [.agg [A, .sc (.slice none 0 0)]]))∨
   ∃q d2,q<n∧q≠b∧bd H b=some (.row 149 2 d [.agg [A, .sl q l.length]])∧bd H q=some (.row 5 1 d2 (bu (jL l))))
def MO (b n:Nat) (H H2:Hp):Prop:=∀y,y<n→y≠b→(∀d es,bd H y≠some (.row 5 1 d es))→bd H2 y=bd H y
theorem vQ {b nx:Nat} {l k:List UInt8} {H:Hp} (hB:Bd b l H nx) (hb:b<nx) (hk:k≠[]) (hsz:l.length+k.length≤140737488355328):
 cD Tryz.prog 92 [.pt b 1 0 0, .sc (.string (jL k))] H nx (fun r H2 n2=>nx≤n2∧Bd b (l++k) H2 n2∧MO b nx H H2):=by
 obtain⟨A,d,hA,⟨rfl,hr⟩|⟨q,d2,hq,hqb,hr,hr2⟩⟩:=hB
 ·refine aQ zi rfl ?_
  refine cM ?_
  refine aJ (kN hr hA) ?_
  rintro _ H2 n2 ⟨rfl,rfl,rfl⟩
  have a0:(bu (jL k)).length * 1≤gI:=by rw[gk];simp at hsz;show _≤140737488355328;omega
  refine cM ?_
  rw[List.nil_append]
  have e1:=gk k
  exact⟨cW,⟨_,d, .inr rfl, .inr ⟨nx+9,_,by omega,by omega,by rw[←e1];exact bg,bg⟩⟩,fun y h1 h2 h3=>bq⟩
 ·refine aQ zi rfl ?_
  refine cM ?_
  refine aJ (kN hr hA) ?_
  rintro _ H2 n2 ⟨rfl,rfl,rfl⟩
  have a0:(bu (jL l)).length=l.length∧5=5∧1=1:=⟨gk l,rfl,rfl⟩
  have a1:(l.length+(bu (jL k)).length) * 1≤gI:=by rw[gk];show _≤140737488355328;omega
  refine cM ?_
  have e1:(l++k).length=l.length+(bu (jL k)).length:=by rw[gk,List.length_append]
  exact⟨cW,⟨_,d, .inr rfl, .inr ⟨q,_,by omega,hqb,by rw[e1];exact bg,by rw[←qO];exact bg⟩⟩,fun y h1 h2 h3=>by
   have hyq:y≠q:=fun e=>by subst e;exact h3 _ _ hr2
   exact bq⟩
theorem kH {b nx:Nat} {l:List UInt8} {c:UInt8} {H:Hp} (hB:Bd b l H nx) (hb:b<nx) (hsz:l.length+1≤140737488355328):
 cD Tryz.prog 94 [.pt b 1 0 0, .sc (.int .u8 (c.toNat:Int))] H nx (fun r H2 n2=>nx≤n2∧Bd b (l++[c]) H2 n2∧MO b nx H H2):=by
 obtain⟨A,d,hA,⟨rfl,hr⟩|⟨q,d2,hq,hqb,hr,hr2⟩⟩:=hB
 ·refine aQ zj rfl ?_
  refine cM ?_
  refine aJ (kN hr hA) ?_
  rintro _ H2 n2 ⟨rfl,rfl,rfl⟩
  refine cM ?_
  exact⟨cW,⟨_,d, .inr rfl, .inr ⟨nx+9,fI false [.int .u8 0],by omega,by omega,bg,show _=some (dv.row _ _ _ [.sc (.int .u8 (c.toNat:Int))]) from bg⟩⟩,fun y h1 h2 h3=>bq⟩
 ·refine aQ zj rfl ?_
  refine cM ?_
  refine aJ (kN hr hA) ?_
  rintro _ H2 n2 ⟨rfl,rfl,rfl⟩
  have a0:(bu (jL l)).length=l.length∧5=5∧1=1:=⟨gk l,rfl,rfl⟩
  refine cM ?_
  exact⟨cW,⟨_,d, .inr rfl, .inr ⟨q,_,by omega,hqb,by rw[List.length_append];exact bg,by rw[←qO];exact bg⟩⟩,fun y h1 h2 h3=>by
   have hyq:y≠q:=fun e=>by subst e;exact h3 _ _ hr2
   exact bq⟩
theorem Bd.skip {b n n2:Nat} {l:List UInt8} {H H2:Hp} (h:Bd b l H n) (hn:n≤n2) (hk:∀y,y<n→bd H2 y=bd H y) (hb:b<n:=by omega):Bd b l H2 n2:=by
 obtain⟨A,d,hA,⟨h0,hr⟩|⟨q,d2,hq,hqb,hr,hr2⟩⟩:=h
 ·exact⟨A,d,hA, .inl ⟨h0,(hk b hb).trans hr⟩⟩
 ·exact⟨A,d,hA, .inr ⟨q,d2,by omega,hqb,(hk b hb).trans hr,(hk q hq).trans hr2⟩⟩
theorem tj (x:Int):0<(Go.Lib.itoa x).length:=by
 unfold Go.Lib.itoa
 split
 ·simp
 ·exact xZ _
def eB (x:Int) (e:List UInt8):List UInt8:=Go.Lib.itoa x++e
theorem jF {b nx:Nat} {l e:List UInt8} {x:Int} {H:Hp} (hB:Bd b l H nx) (hb:b<nx) (h1:-9223372036854775808≤x) (h2:x≤9223372036854775807) (hsz:l.length+(eB x e).length≤140737488355328):
 cD Tryz.prog 91 [.sc (.int .i64 x), .sc (.string (jL e)), .pt b 1 0 0] H nx (fun r H2 n2=>nx≤n2∧Bd b (l++eB x e) H2 n2∧MO b nx H H2):=by
 have c0:Pure Tryz.prog 93 [.sc (.int .i64 x)] (fun r=>r= .sc (.string (jL (Go.Lib.itoa x)))):=wa x h1 h2
 have he:jL (Go.Lib.itoa x)++jL e=jL (eB x e):=by
  apply ByteArray.ext
  simp[jL,eB]
 have hl:(eB x e).length=(Go.Lib.itoa x).length+e.length:=by simp[eB]
 have a0:(jL (Go.Lib.itoa x)).size+(jL e).size≤9223372036854775807:=by
  show(Go.Lib.itoa x).toArray.size+e.toArray.size≤_
  simp only[List.size_toArray]
  omega
 have hne:eB x e≠[]:=by
  have:=tj x
  intro h
  rw[h] at hl
  simp at hl
  omega
 refine aQ DN rfl ?_
 refine cM ?_
 rw[he]
 refine aJ (vQ (hB.skip (by omega) ?_) (by omega) hne hsz) ?_
 ·exact fun y hy=>bq
 rintro _ H2 n2 ⟨hn,hB2,ho⟩
 refine cM ?_
 exact⟨by omega,hB2.skip (Nat.le_refl _) fun y hy=>bq,fun y q1 q2 q3=>Eq.trans bq (by rw[ho y (by omega) q2 (by rw[show bd _ y=bd H y from bq];exact q3)];exact bq)⟩
end Go.Proofs.YtekfmjjmihomlaaGreat
end
section
/- The document's Print of a word. -/
namespace Go.Proofs.YtekfmjjmihomlaaGreat
open Go Go.cO Go.Proofs
set_option linter.unusedSimpArgs false
set_option linter.unusedVariables false
open Go.Lib (decDigits itoa)
end Go.Proofs.YtekfmjjmihomlaaGreat
end
section
/- The key of a situation. -/
namespace Go.Proofs.YtekfmjjmihomlaaGreat
open Go Go.cO Go.Proofs
set_option linter.unusedSimpArgs false
set_option linter.unusedVariables false
def sZ (m:MS) (t:Nat):List UInt8:=eB (m.at_.getD t 0) [44]++(m.bj.getD t []).flatMap (fun w=>eB w [44])++[124]
def zt (p:cL):List UInt8:=eB p.cR [58]++eB p.word [44]
def fb (m:MS):List UInt8:=(List.range m.at_.length).flatMap (sZ m)++m.mem.flatMap (fun w=>eB w [44])++[124]++m.hold.flatMap (fun w=>eB w [44])++[124]++m.bh.flatMap zt
structure NC (m:MS):Prop where
 aw:∀w∈m.at_,di w
 sl:m.bj.length=m.at_.length
 sw:∀l∈m.bj,∀w∈l,di w
 mw:∀w∈m.mem,di w
 hw:∀w∈m.hold,di w
 pw:∀p∈m.bh,di p.cR∧di p.word
 sz:(fb m).length≤140737488355328
theorem HR {α:Type} (f:α→List UInt8) (l:List α) (j:Nat):((l.take j).flatMap f).length≤(l.flatMap f).length:=by
 conv=>rhs;rw[←List.take_append_drop j l,List.flatMap_append,List.length_append]
 omega
theorem gn {α:Type} (f:α→List UInt8) {l:List α} {j:Nat} (h:j<l.length) (d:α):(l.take (j+1)).flatMap f=(l.take j).flatMap f++f (l.getD j d):=by
 rw[List.take_succ_eq_append_getElem h,List.flatMap_append]
 simp[List.getD,List.getElem?_eq_getElem h]
theorem mE {α:Type} (f:α→List UInt8) {l:List α} {j:Nat} (h:j<l.length) (d:α):((l.take j).flatMap f).length+(f (l.getD j d)).length≤(l.flatMap f).length:=by
 have:=HR f l (j+1)
 rw[gn f h d,List.length_append] at this
 exact this
theorem oJ {l:List Int} (h:∀w∈l,di w) {j:Nat} (hj:j<l.length):di (l.getD j 0):=h _ (cU 0 hj)
theorem sC (m:MS):(fb m).length=((List.range m.at_.length).flatMap (sZ m)).length+(m.mem.flatMap (fun w=>eB w [44])).length+1+(m.hold.flatMap (fun w=>eB w [44])).length+1+(m.bh.flatMap zt).length:=by
 simp only[fb,List.length_append,List.length_cons,List.length_nil]
theorem D0 {n i:Nat} (h:i<n):(List.range n).getD i 0=i:=by simp[List.getD,h]
theorem kQ {α:Type} (f:α→List UInt8) (hf:∀a,0<(f a).length):∀l:List α,l.length≤(l.flatMap f).length
 |[]=>Nat.zero_le _
 |a::l=>by
  have h1:=kQ f hf l
  have h2:=hf a
  rw[List.flatMap_cons,List.length_append,List.length_cons]
  omega
theorem mO (x:Int) (e:List UInt8):0<(eB x e).length:=by
 have:=tj x
 unfold eB
 rw[List.length_append]
 omega
theorem HT (m:MS) (t:Nat):0<(sZ m t).length:=by
 unfold sZ
 rw[List.length_append]
 simp
theorem G1 (p:cL):0<(zt p).length:=by
 have:=mO p.cR [58]
 unfold zt
 rw[List.length_append]
 omega
set_option maxHeartbeats 2000000 in
theorem sB (u:bf) (m:MS) (h:NC m):Pure Tryz.prog 64 [m.fz u] (fun r=>r= .sc (.string (jL (fb m)))):=by
 have hsz:=h.sz
 rw[sC] at hsz
 have g1:=kQ (sZ m) (HT m) (List.range m.at_.length)
 have g2:=kQ (fun w=>eB w [44]) (fun w=>mO w _) m.mem
 have g3:=kQ (fun w=>eB w [44]) (fun w=>mO w _) m.hold
 have g4:=kQ zt G1 m.bh
 rw[List.length_range] at g1
 refine eX ?_ (by simp[bx])
 refine aQ C8 rfl ?_
 refine cM ?_
 rw[List.length_map]
 refine aR (fun i:Nat=>[(0,m.fz u),(3, .pt 3 1 0 0),(4, .fn (.func 91) [] [.pt 3 1 0 0]),(21,cr m.at_),(22,i64 m.at_.length),(23,i64 i)])
  (fun i H n=>i≤m.at_.length∧4≤n∧Bd 3 (((List.range m.at_.length).take i).flatMap (sZ m)) H n) (fun i=>m.at_.length - i) 0 cJ ⟨Nat.zero_le _,cW,⟨.sc (.pointer none),_, .inl rfl, .inl ⟨rfl,bg⟩⟩⟩ ?_
 rintro i H n ⟨hi,hn,hB⟩
 by_cases hil:i<m.at_.length
 ·have e0:=fun d=>eV (l:=m.at_) hil d
  have e1:∀d,(m.bj.map cr).getD ((i:Int)).toNat d=cr (m.bj.getD i []):=fun d=>by rw[Int.toNat_natCast];exact dJ cr m.bj i d (by rw[h.sl];exact hil)
  have a0:(m.at_.map i64).length=m.at_.length:=by simp
  have a1:(m.bj.map cr).length=m.at_.length:=by simp[h.sl]
  have hle:=mE (sZ m) (l:=List.range m.at_.length) (j:=i) (by simpa using hil) 0
  have hnx:=gn (sZ m) (l:=List.range m.at_.length) (j:=i) (by simpa using hil) 0
  rw[D0 hil] at hle hnx
  have hw:=oJ h.aw hil
  have hth:(sZ m i).length=(eB (m.at_.getD i 0) [44]).length+((m.bj.getD i []).flatMap (fun w=>eB w [44])).length+1:=by simp only[sZ,List.length_append,List.length_cons,List.length_nil]
  have hthe:sZ m i=eB (m.at_.getD i 0) [44]++(m.bj.getD i []).flatMap (fun w=>eB w [44])++[124]:=rfl
  have hsw:=h.sw _ (cU (l:=m.bj) [] (by rw[h.sl];exact hil))
  refine cM ?_
  refine aJ (jF (e:=[44]) (hB.skip (by omega) ?_) (by omega) hw.1 (by have:=hw.2;omega) (by omega)) ?_
  ·exact fun y hy=>bq
  rintro _ H2 n2 ⟨hn2,hB2,_⟩
  refine cM ?_
  generalize m.bj.getD i []=sl at *
  have g5:=kQ (fun w=>eB w [44]) (fun w=>mO w _) sl
  rw[List.length_map]
  refine aR (fun j:Nat=>[(0,m.fz u),(3, .pt 3 1 0 0),(4, .fn (.func 91) [] [.pt 3 1 0 0]),(5,i64 i),(21,cr m.at_),(22,i64 m.at_.length),(23,i64 i),(37,cr sl),(38,i64 (sl).length),(39,i64 j)])
   (fun j H n=>j≤(sl).length∧4≤n∧Bd 3 ((((List.range m.at_.length).take i).flatMap (sZ m)++eB (m.at_.getD i 0) [44])++((sl).take j).flatMap (fun w=>eB w [44])) H n) (fun j=>(sl).length - j) 0 cJ ⟨Nat.zero_le _,cW,by rw[List.take_zero,List.flatMap_nil,List.append_nil];exact hB2.skip (by omega) fun y hy=>bq⟩ ?_
  clear hB2
  rintro j H n ⟨hj,hn,hB⟩
  by_cases hjl:j<(sl).length
  ·have e2:=fun d=>eV (l:=sl) hjl d
   have a2:((sl).map i64).length=(sl).length:=by simp
   have hle2:=mE (fun w=>eB w [44]) hjl 0
   have hnx2:=gn (fun w=>eB w [44]) hjl 0
   have hw2:=oJ hsw hjl
   refine cM ?_
   refine aJ (jF (e:=[44]) (hB.skip (by omega) ?_) (by omega) hw2.1 (by have:=hw2.2;omega) (by rw[List.length_append,List.length_append];omega)) ?_
   ·exact fun y hy=>bq
   rintro _ H3 n3 ⟨hn3,hB3,_⟩
   refine cM ?_
   exact⟨j+1,by omega,cJ,by omega,by omega,by rw[hnx2,←List.append_assoc];exact hB3.skip (by omega) fun y hy=>bq⟩
  ·obtain rfl:j=sl.length:=by omega
   rw[List.take_length] at hB
   refine cM ?_
   refine aJ (kH (c:=124) (hB.skip (by omega) ?_) (by omega) (by rw[List.length_append,List.length_append];omega)) ?_
   ·exact fun y hy=>bq
   rintro _ H3 n3 ⟨hn3,hB3,_⟩
   refine cM ?_
   exact⟨i+1,by omega,cJ,by omega,by omega,by rw[hnx,hthe,←List.append_assoc,←List.append_assoc];exact hB3.skip (by omega) fun y hy=>bq⟩
 ·obtain rfl:i=m.at_.length:=by omega
  rw[show(List.range m.at_.length).take m.at_.length=List.range m.at_.length from List.take_of_length_le (by simp)] at hB
  refine cM ?_
  rw[List.length_map]
  refine aR (fun j:Nat=>[(0,m.fz u),(3, .pt 3 1 0 0),(4, .fn (.func 91) [] [.pt 3 1 0 0]),(52,cr m.mem),(53,i64 (m.mem).length),(54,i64 j)])
   (fun j H n=>j≤(m.mem).length∧4≤n∧Bd 3 (((List.range m.at_.length).flatMap (sZ m))++((m.mem).take j).flatMap (fun w=>eB w [44])) H n) (fun j=>(m.mem).length - j) 0 cJ ⟨Nat.zero_le _,cW,by rw[List.take_zero,List.flatMap_nil,List.append_nil];exact hB.skip (by omega) fun y hy=>bq⟩ ?_
  clear hB
  rintro j H n ⟨hj,hn,hB⟩
  by_cases hjl:j<(m.mem).length
  ·have e2:=fun d=>eV (l:=m.mem) hjl d
   have a2:((m.mem).map i64).length=(m.mem).length:=by simp
   have hle2:=mE (fun w=>eB w [44]) hjl 0
   have hnx2:=gn (fun w=>eB w [44]) hjl 0
   have hw2:=oJ h.mw hjl
   refine cM ?_
   refine aJ (jF (e:=[44]) (hB.skip (by omega) ?_) (by omega) hw2.1 (by have:=hw2.2;omega) (by rw[List.length_append];omega)) ?_
   ·exact fun y hy=>bq
   rintro _ H3 n3 ⟨hn3,hB3,_⟩
   refine cM ?_
   exact⟨j+1,by omega,cJ,by omega,by omega,by rw[hnx2,←List.append_assoc];exact hB3.skip (by omega) fun y hy=>bq⟩
  ·obtain rfl:j=(m.mem).length:=by omega
   rw[List.take_length] at hB
   refine cM ?_
   refine aJ (kH (c:=124) (hB.skip (by omega) ?_) (by omega) (by rw[List.length_append];omega)) ?_
   ·exact fun y hy=>bq
   rintro _ H3 n3 ⟨hn3,hB3,_⟩
   clear hB hj hjl
   refine cM ?_
   rw[List.length_map]
   refine aR (fun j:Nat=>[(0,m.fz u),(3, .pt 3 1 0 0),(4, .fn (.func 91) [] [.pt 3 1 0 0]),(66,cr m.hold),(67,i64 (m.hold).length),(68,i64 j)])
    (fun j H n=>j≤(m.hold).length∧4≤n∧Bd 3 (((List.range m.at_.length).flatMap (sZ m)++m.mem.flatMap (fun w=>eB w [44])++[124])++((m.hold).take j).flatMap (fun w=>eB w [44])) H n) (fun j=>(m.hold).length - j) 0 cJ ⟨Nat.zero_le _,cW,by rw[List.take_zero,List.flatMap_nil,List.append_nil];exact hB3.skip (by omega) fun y hy=>bq⟩ ?_
   clear hB3
   rintro j H n ⟨hj,hn,hB⟩
   by_cases hjl:j<(m.hold).length
   ·have e2:=fun d=>eV (l:=m.hold) hjl d
    have a2:((m.hold).map i64).length=(m.hold).length:=by simp
    have hle2:=mE (fun w=>eB w [44]) hjl 0
    have hnx2:=gn (fun w=>eB w [44]) hjl 0
    have hw2:=oJ h.hw hjl
    refine cM ?_
    refine aJ (jF (e:=[44]) (hB.skip (by omega) ?_) (by omega) hw2.1 (by have:=hw2.2;omega) (by simp only[List.length_append,List.length_cons,List.length_nil];omega)) ?_
    ·exact fun y hy=>bq
    rintro _ H3 n3 ⟨hn3,hB3,_⟩
    refine cM ?_
    exact⟨j+1,by omega,cJ,by omega,by omega,by rw[hnx2,←List.append_assoc];exact hB3.skip (by omega) fun y hy=>bq⟩
   ·obtain rfl:j=(m.hold).length:=by omega
    rw[List.take_length] at hB
    refine cM ?_
    refine aJ (kH (c:=124) (hB.skip (by omega) ?_) (by omega) (by simp only[List.length_append,List.length_cons,List.length_nil];omega)) ?_
    ·exact fun y hy=>bq
    rintro _ H3 n3 ⟨hn3,hB3,_⟩
    clear hB hj hjl
    refine cM ?_
    rw[List.length_map]
    refine aR (fun j:Nat=>[(0,m.fz u),(3, .pt 3 1 0 0),(4, .fn (.func 91) [] [.pt 3 1 0 0]),(80,dH m.bh),(81,i64 m.bh.length),(82,i64 j)])
     (fun j H n=>j≤m.bh.length∧4≤n∧Bd 3 (((List.range m.at_.length).flatMap (sZ m)++m.mem.flatMap (fun w=>eB w [44])++[124]++m.hold.flatMap (fun w=>eB w [44])++[124])++(m.bh.take j).flatMap zt) H n) (fun j=>m.bh.length - j) 0 cJ ⟨Nat.zero_le _,cW,by rw[List.take_zero,List.flatMap_nil,List.append_nil];exact hB3.skip (by omega) fun y hy=>bq⟩ ?_
    clear hB3
    rintro j H n ⟨hj,hn,hB⟩
    by_cases hjl:j<m.bh.length
    ·have e2:∀d,(m.bh.map cL.av).getD ((j:Int)).toNat d=(m.bh.getD j default).av:=fun d=>by rw[Int.toNat_natCast];exact dJ cL.av m.bh j d hjl
     have a2:(m.bh.map cL.av).length=m.bh.length:=by simp
     have hle2:=mE zt hjl default
     have hnx2:=gn zt hjl default
     obtain⟨hw2,hw3⟩:=h.pw _ (cU default hjl)
     generalize m.bh.getD j default=p at *
     have hpl:(zt p).length=(eB p.cR [58]).length+(eB p.word [44]).length:=by simp[zt]
     refine cM ?_
     refine aJ (jF (e:=[58]) (hB.skip (by omega) ?_) (by omega) hw2.1 (by have:=hw2.2;omega) (by simp only[List.length_append,List.length_cons,List.length_nil];omega)) ?_
     ·exact fun y hy=>bq
     rintro _ H3 n3 ⟨hn3,hB3,ho⟩
     have hr:bd H3 (n+1+1+1)=some (.row 89 2 (fI true [.int .i64 0, .int .i64 0]) [.agg p.cells]):=(ho _ (by omega) (by omega) (by
      intro d es
      rw[show bd _ (n+1+1+1)=some (dv.row 89 2 (fI true [.int .i64 0, .int .i64 0]) [.agg p.cells]) from bg]
      simp)).trans bg
     refine cM ?_
     refine aJ (jF (e:=[44]) (hB3.skip (by omega) ?_) (by omega) hw3.1 (by have:=hw3.2;omega) (by simp only[List.length_append,List.length_cons,List.length_nil];omega)) ?_
     ·exact fun y hy=>bq
     rintro _ H4 n4 ⟨hn4,hB4,_⟩
     refine cM ?_
     exact⟨j+1,by omega,cJ,by omega,by omega,by rw[hnx2,zt,←List.append_assoc,←List.append_assoc];exact hB4.skip (by omega) fun y hy=>bq⟩
    ·obtain rfl:j=m.bh.length:=by omega
     rw[List.take_length] at hB
     have hne:fb m≠[]:=by
      intro e
      have:=congrArg List.length e
      rw[sC] at this
      simp at this
     change Bd 3 (fb m) H n at hB
     obtain⟨A,d,hA,⟨h0,_⟩|⟨q,d2,hq,hqb,hr,hr2⟩⟩:=hB
     ·exact absurd h0 hne
     refine cM ?_
     refine aJ (vH (q:=q) (d:=d) (d2:=d2) (A:=A) (l:=fb m) ?_ ?_ hne) ?_
     ·exact bg
     ·exact bg
     rintro _ H4 n4 ⟨rfl,rfl,rfl⟩
     refine cM ?_
     exact⟨rfl⟩
end Go.Proofs.YtekfmjjmihomlaaGreat
end
section
/- The document's key of a situation. -/
namespace Go.Proofs.YtekfmjjmihomlaaGreat
open Go Go.cO Go.Proofs
set_option linter.unusedSimpArgs false
set_option linter.unusedVariables false
open Go.Lib (itoa)
abbrev MS.av (u:bf) (m:MS):AV:= .agg (m.cells u)
end Go.Proofs.YtekfmjjmihomlaaGreat
end
section
/- Exploring in plain data. -/
namespace Go.Proofs.YtekfmjjmihomlaaGreat
open Go Go.cO Go.Proofs
set_option linter.unusedSimpArgs false
set_option linter.unusedVariables false
structure cA where
 m:MS
 from_:Int
 cR:Int
 deriving Inhabited,DecidableEq
abbrev gy (l:List cA):List (List UInt8):=l.map fun f=>fb f.m
def xK (u:bf) (most k t:Nat) (l:List cA):Option (List cA):=
 if(l.getD k default).m.pj u t≠0 then some l
 else if fb ((l.getD k default).m.step u t).1∈gy l then some l
 else if l.length=most then none
 else some (l++[⟨((l.getD k default).m.step u t).1,k,t⟩])
def wv (u:bf) (most k:Nat):List Nat→List cA→Option (List cA)
 |[],l=>some l
 |t::ts,l=>match xK u most k t l with
  |none=>none
  |some l'=>wv u most k ts l'
def si (u:bf) (most:Nat):Nat→Nat→List cA→Option (List cA)
 |0,_,l=>some l
 |n+1,k,l=>if k<l.length then(match wv u most k (List.range u.bk.length) l with
  |none=>none
  |some l'=>si u most n (k+1) l') else some l
def iW (u:bf):List cA:=[⟨dK u,-1,0⟩]
def ft (u:bf) (most:Nat):Option (List cA):=si u most most 0 (iW u)
structure fm (u:bf) (l:List cA):Prop where
 pos:0<l.length
 first:l.getD 0 default=⟨dK u,-1,0⟩
 ok:∀i,i<l.length→eG u (l.getD i default).m∧(l.getD i default).m.bh.length≤i
 yq:∀i,0<i→i<l.length→∃k t:Nat,k<i∧t<u.bk.length∧(l.getD k default).m.pj u t=0∧l.getD i default=⟨((l.getD k default).m.step u t).1,k,t⟩
 keys:(gy l).Nodup
theorem nf (u:bf) (m:MS) (t:Nat):(m.step u t).1.bh.length≤m.bh.length+1:=by
 show((m.act t (m.node u t)).1).bh.length≤_
 generalize m.node u t=n
 unfold MS.act
 repeat' split
 all_goals first
  |exact Nat.le_succ _
  |(simp only[List.length_append,List.length_cons,List.length_nil];exact Nat.le_refl _)
theorem ep {α:Type} {l:List α} {x d:α} {i:Nat} (h:i<l.length):(l++[x]).getD i d=l.getD i d:=by simp[List.getD,List.getElem?_append,h]
theorem ox {α:Type} {l:List α} {x d:α}:(l++[x]).getD l.length d=x:=by simp[List.getD]
theorem fm.init (u:bf) (hu:u.Wf) (hr:ch u):fm u (iW u) where
 pos:=by simp[iW]
 first:=rfl
 ok:=fun i hi=>by
  have:i=0:=by simp[iW] at hi;omega
  subst this
  exact⟨GV u hr (fun d hd=>(hu.shared d hd).word) fun t ht=>(hr.gr ht).len.1,Nat.le_refl _⟩
 yq:=fun i hi h=>by simp[iW] at h;omega
 keys:=by simp[gy,iW]
theorem fm.add {u:bf} {l:List cA} (hu:u.Wf) (hr:ch u) (h:fm u l) {k t:Nat} (hk:k<l.length) (ht:t<u.bk.length) (hb:(l.getD k default).m.pj u t=0) (hn:fb ((l.getD k default).m.step u t).1∉gy l):fm u (l++[⟨((l.getD k default).m.step u t).1,k,t⟩]) where
 pos:=by simp
 first:=by rw[ep h.pos];exact h.first
 ok:=fun i hi=>by
  rw[List.length_append] at hi
  by_cases e:i<l.length
  ·rw[ep e];exact h.ok i e
  ·have:i=l.length:=by simp at hi;omega
   subst this
   rw[ox]
   obtain⟨h1,h2⟩:=h.ok k hk
   refine⟨yc hu hr h1 ht (oZ h1 ht hb).1, ?_⟩
   have:=nf u (l.getD k default).m t
   dsimp only
   omega
 yq:=fun i h0 hi=>by
  rw[List.length_append] at hi
  by_cases e:i<l.length
  ·obtain⟨k',t',h1,h2,h3,h4⟩:=h.yq i h0 e
   refine⟨k',t',h1,h2, ?_, ?_⟩
   ·rw[ep (by omega)];exact h3
   ·rw[ep e,ep (by omega)];exact h4
  ·have:i=l.length:=by simp at hi;omega
   subst this
   refine⟨k,t,hk,ht, ?_, ?_⟩
   ·rw[ep hk];exact hb
   ·rw[ox,ep hk]
 keys:=by
  simp only[gy,List.map_append,List.map_cons,List.map_nil]
  refine List.nodup_append.2 ⟨h.keys,by simp,fun a ha b hb2=> ?_⟩
  simp only[List.mem_cons,List.not_mem_nil,or_false] at hb2
  subst hb2
  intro e
  exact hn (e▸ha)
theorem HV {u:bf} {l l':List cA} {most k t:Nat} (hu:u.Wf) (hr:ch u) (h:fm u l) (hl:l.length≤most) (hk:k<l.length) (ht:t<u.bk.length) (he:xK u most k t l=some l'):fm u l'∧l'.length≤most∧l<+:l':=by
 unfold xK at he
 split at he
 ·cases he;exact⟨h,hl,List.prefix_refl _⟩
 rename_i h1
 split at he
 ·cases he;exact⟨h,hl,List.prefix_refl _⟩
 rename_i h2
 split at he
 ·cases he
 ·cases he
  refine⟨h.add hu hr hk ht (by omega) h2, ?_,List.prefix_append _ _⟩
  simp only[List.length_append,List.length_cons,List.length_nil];omega
theorem y9 {u:bf} {most k:Nat} (hu:u.Wf) (hr:ch u):∀{ts:List Nat} {l l':List cA},fm u l→l.length≤most→k<l.length→(∀t∈ts,t<u.bk.length)→wv u most k ts l=some l'→fm u l'∧l'.length≤most∧l<+:l'
 |[],l,l',h,hl,hk,ht,he=>by cases he;exact⟨h,hl,List.prefix_refl _⟩
 |t::ts,l,l',h,hl,hk,ht,he=>by
  rw[wv] at he
  split at he
  ·cases he
  ·rename_i l2 h2
   obtain⟨g1,g2,g3⟩:=HV hu hr h hl hk (ht t (by simp)) h2
   obtain⟨q1,q2,q3⟩:=y9 hu hr g1 g2 (Nat.lt_of_lt_of_le hk g3.length_le) (fun x hx=>ht x (by simp[hx])) he
   exact⟨q1,q2,g3.trans q3⟩
theorem xS {u:bf} {most:Nat} (hu:u.Wf) (hr:ch u):∀{n k:Nat} {l l':List cA},fm u l→l.length≤most→si u most n k l=some l'→fm u l'∧l'.length≤most∧l<+:l'
 |0,k,l,l',h,hl,he=>by cases he;exact⟨h,hl,List.prefix_refl _⟩
 |n+1,k,l,l',h,hl,he=>by
  rw[si] at he
  split at he
  ·rename_i hk
   split at he
   ·cases he
   ·rename_i l2 h2
    obtain⟨g1,g2,g3⟩:=y9 hu hr h hl hk (fun t ht=>List.mem_range.1 ht) h2
    obtain⟨q1,q2,q3⟩:=xS hu hr g1 g2 he
    exact⟨q1,q2,g3.trans q3⟩
  ·cases he;exact⟨h,hl,List.prefix_refl _⟩
theorem l8 {u:bf} {most:Nat} {l:List cA} (hu:u.Wf) (hr:ch u) (hm:1≤most) (h:ft u most=some l):fm u l∧l.length≤most∧iW u<+:l:=xS hu hr (fm.init u hu hr) hm h
end Go.Proofs.YtekfmjjmihomlaaGreat
end
