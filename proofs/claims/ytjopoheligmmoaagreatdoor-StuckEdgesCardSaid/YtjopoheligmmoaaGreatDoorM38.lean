import Derived.Shelf.Spec.TrailingZeros
import Derived.Test.YtjopoheligmmoaaGreatDoorProg
import Derived.Test.YtjopoheligmmoaaGreatDoorM23
import Derived.Test.YtjopoheligmmoaaGreatDoorM27
import Derived.Test.YtjopoheligmmoaaGreatDoorM37
import Derived.Test.YtjopoheligmmoaaGreatDoorM24
import Derived.Test.YtjopoheligmmoaaGreatDoorM26
import Derived.Test.YtjopoheligmmoaaGreatDoorM36
import Derived.Laws.IdiomRangeMap
import Derived.Shelf.SortM.Plain
import Derived.Shelf.SortM.SortNone
import Derived.Test.YtjopoheligmmoaaGreatDoorM5
import Derived.Test.YtjopoheligmmoaaGreatDoorM15
import Derived.Test.YtjopoheligmmoaaGreatDoorM35
namespace Go.Proofs
open Go.Shelf
def Tryz.DD:Go.Shelf.Ren:=⟨fun|28=>123|n=>n,fun|27=>132|3=>3|4=>4|25=>142|53=>229|0=>0|5=>5|n=>n,fun|0=>0|n=>n⟩
theorem Tryz.TU:Go.Proofs.Lays7.n28 Tryz.prog Tryz.DD:={
 mixed:=by kernel_rfl
 f28:=Tryz.func123.trans (congrArg some (by kernel_rfl))
 t0:=Tryz.underlying0
 a0:=Tryz.isAgg0
 z0:=Tryz.sizeOf0
 v0:=Tryz.zeroValue0
 i0:=by kernel_rfl
 t3:=Tryz.underlying3
 a3:=Tryz.isAgg3
 z3:=Tryz.sizeOf3
 v3:=Tryz.zeroValue3
 i3:=by kernel_rfl
 t4:=Tryz.underlying4
 a4:=Tryz.isAgg4
 z4:=Tryz.sizeOf4
 v4:=Tryz.zeroValue4
 i4:=by kernel_rfl
 t5:=Tryz.underlying5
 a5:=Tryz.isAgg5
 z5:=Tryz.sizeOf5
 v5:=Tryz.zeroValue5
 i5:=by kernel_rfl
 t25:=Tryz.underlying142
 a25:=Tryz.isAgg142
 z25:=Tryz.sizeOf142
 v25:=Tryz.zeroValue142
 i25:=by kernel_rfl
 t27:=Tryz.underlying132
 a27:=Tryz.isAgg132
 z27:=Tryz.sizeOf132
 v27:=Tryz.zeroValue132
 i27:=by kernel_rfl
 t53:=Tryz.underlying229
 a53:=Tryz.isAgg229
 z53:=Tryz.sizeOf229
 v53:=Tryz.zeroValue229
 i53:=by kernel_rfl
 g0:=by kernel_rfl }
open Go.RowKit Go.Lib in
theorem Tryz.aAu (x:Nat) (hx:x<4294967296) (w:World) (hT:x≠0->TabAt 0 Lib.deBruijn32tab w):
 Calls Tryz.prog 123 #[.int .u32 x] w fun e w'=>e= .returned (.int .i64 (Lib.ctz 32 x))/\w'=w:=Any7.bits_TrailingZeros32 Tryz.TU x hx w hT
end Go.Proofs
namespace Go.Proofs.YtjopoheligmmoaaGreatDoor
open Go Go.dA Go.Proofs
set_option linter.unusedSimpArgs false
set_option linter.unusedVariables false
set_option maxRecDepth 8000
abbrev u32 (n:Nat):AV:= .sc (.int .u32 (n:Int))
theorem RO (x:Nat) (hx:x<4294967296):Pure Tryz.prog 123 [u32 x] (fun r=>r=i64 (ctz x)):=by
 refine⟨⟨_,Tryz.func123,by kernel_rfl,by kernel_rfl⟩,fun M w vs hM hv=> ?_⟩
 rw[ct] at hv
 obtain⟨v,vs',rfl,h1,h2⟩:=hv
 rw[VR] at h1
 rw[ct] at h2
 subst h1
 subst h2
 refine(Tryz.aAu x hx w fun _=>(hM.Y8 (0,_) (by unfold UJ;exact List.mem_singleton_self _)).2.2).mono ?_
 rintro e w' ⟨rfl,rfl⟩
 exact⟨_,_,rfl,rfl,by simp[cP],by rw[VR], .refl _ _⟩
theorem wrap32 {n:Int} (h1:0<=n) (h2:n<4294967296):IntKind.u32.wrap n=n:=by rw[wrap_u32'];omega
theorem VH {a b:Nat} (ha:a<4294967296) (hb:b<4294967296):IntKind.u32.wrap (BitVec.ofInt IntKind.u32.bits (a:Int)&&& BitVec.ofInt IntKind.u32.bits (b:Int)).toNat=((a&&& b:Nat):Int):=bits_and_u32_nat a b ha hb
theorem aAm {a b:Nat} (ha:a<4294967296) (hb:b<4294967296):IntKind.u32.wrap (BitVec.ofInt IntKind.u32.bits (a:Int)|||BitVec.ofInt IntKind.u32.bits (b:Int)).toNat=((a|||b:Nat):Int):=by
 have hx:a|||b<2^32:=Nat.or_lt_two_pow (by omega) (by omega)
 have h1:(BitVec.ofInt IntKind.u32.bits (a:Int)).toNat=a:=by
  show(BitVec.ofInt 32 (a:Int)).toNat=a
  rw[BitVec.ofInt_natCast,BitVec.toNat_ofNat];exact Nat.mod_eq_of_lt (by omega)
 have h2:(BitVec.ofInt IntKind.u32.bits (b:Int)).toNat=b:=by
  show(BitVec.ofInt 32 (b:Int)).toNat=b
  rw[BitVec.ofInt_natCast,BitVec.toNat_ofNat];exact Nat.mod_eq_of_lt (by omega)
 rw[BitVec.toNat_or,h1,h2,wrap32 (by omega) (by omega)]
theorem T6 {x:Nat} (h0:x≠0) (hx:x<4294967296):IntKind.u32.wrap ((x:Int) - 1)=((x - 1:Nat):Int):=by
 rw[wrap32 (by omega) (by omega)];omega
theorem IZ (x:Nat) (hx:x<65536):cT Tryz.prog 75 [u32 x] [] 0 (fun r H n=>∃b d,r= .sl b (bits x).length/\cC H b=some (.row 3 1 d ((bits x).map i64))):=by
 refine aM aA8 rfl ?_
 repeat' (first|refine aQ ?_|exact aC|with_reducible refine aB ?_ ?_|(apply aA;(·exact cK))|refine aH ?_|((with_reducible refine aE ?_ ?_)<;>intro hc<;>try(exfalso;omega)))
 refine aV (fun s:Nat×List Int=>[(0,u32 s.1),(3, .sl 2 s.2.length)])
  (fun s H n=>3<=n/\s.1<=x/\s.2++bits s.1=bits x/\s.2.length+s.1<=x/\∃d,cC H 2=some (.row 3 1 d (s.2.map i64)))
  (fun s=>s.1) (x,[]) ⟨_,_,_,Rt.nil 3 3 1 (by omega) rfl,cJ,cZ,Nat.le_refl _,rfl,by simp,⟨_,cE⟩⟩ ?_
 rintro⟨y,l⟩ H n ⟨hn,hy,hb,hlen,⟨d,r2⟩⟩
 dsimp only at hy hb hlen r2 ⊢
 by_cases h0:y=0
 ·subst h0
  repeat' (first|refine aQ ?_|exact aC|with_reducible refine aB ?_ ?_|(apply aA;(·exact cK))|refine aH ?_|((with_reducible refine aE ?_ ?_)<;>intro hc<;>try(exfalso;omega)))
  rw[show bits 0=[] from rfl,List.append_nil] at hb
  rw[<-hb]
  exact⟨⟨2,d,rfl,cE⟩⟩
 ·rw[oB h0] at hb
  have hp:=pred_lt h0
  have e1:=T6 h0 (show y<4294967296 by omega)
  have e2:=VH (show y<4294967296 by omega) (show y - 1<4294967296 by omega)
  have ht:=RO y (by omega)
  repeat' (first|refine aQ ?_|exact aC|with_reducible refine aB ?_ ?_|(apply aA;(·exact cK))|refine aK (ht) ?_|(simp only[e1])|(simp only[e2])|refine aH ?_|((with_reducible refine aE ?_ ?_)<;>intro hc<;>try(exfalso;omega)))
  exact⟨(y&&& (y - 1),l++[(ctz y:Int)]),hp,_,_,_,Rt.refl _ _ _,cJ,cZ,by dsimp only;omega,by dsimp only;rw[<-hb];simp,by dsimp only;simp only[List.length_append,List.length_cons,List.length_nil];omega,⟨_,by dsimp only;rw[<-gH];exact cE⟩⟩
theorem I0 (x:Nat) (hx:x<65536):Pure Tryz.prog 75 [u32 x] (fun r=>r=eP (bits x)):=by
 refine cz ((IZ x hx).mono ?_) (by simp[eP,cP,cL])
 rintro r H n ⟨b,d,rfl,hb⟩
 rw[dN hb (by simp),cr _ (zI _ _)];rfl
theorem wz {g:cG} (h:Whole g):mh g=true:=KH.2 h
theorem L8 (L:List (List Int)):cg 0 (L.map eP):=(cL _ _).2 fun _ _=>by simp[eP,cP,cL]
theorem GV (g:cG) (hg:g.Wf) (hw:Whole g) (hh:(dc g).2<0):Pure Tryz.prog 167 [g.av] (fun r=>r= .dQ [.im 1 .any ((dc g).1.map eP),bl true]):=by
 refine aG XM rfl ?_
 have h1:=uy g hg
 rw[wz hw] at h1
 have h2:=wT g hg hw
 unfold j4 at h2
 have e:decide ((dc g).2<0)=true:=decide_eq_true hh
 repeat' (first|refine aQ ?_|exact eE|with_reducible refine aB ?_ ?_|((with_reducible refine Ask.mk ?_);first|exact cw|exact cX|(intro h;simp_all[cG.cells]<;>fail)|(simp_all[cG.cells]<;>fail))|(apply aA;(·exact cK))|refine aK (h1) ?_|refine aK (h2) ?_|refine aH ?_|((with_reducible refine aE ?_ ?_)<;>intro hc<;>try(exfalso;omega)))
 rw[e]
 exact KS.eq (by simp only[cP,cg];exact⟨L8 _,trivial,trivial⟩) rfl
noncomputable def pW (g:cG):AV:= .agg [F7 (gL g (-1)), .im 1 .any (((dc g).1.map hb).map u32)]
theorem QA {l:List Int} {j:Nat} (h:j<l.length):hb (l.take (j+1))=hb (l.take j)|||2^(l.getD j 0).toNat:=by
 rw[List.take_succ_eq_append_getElem h,TM,gd h]
theorem Y4 {k:Int} (h0:0<=k) (h1:k<16):IntKind.u32.wrap (1 * 2^(min k.toNat IntKind.u32.bits))=((2^k.toNat:Nat):Int):=by
 have:k.toNat<16:=by omega
 generalize k.toNat=m at *
 have hm:min m IntKind.u32.bits=m:=by show min m 32=m;omega
 rw[hm]
 have:(2:Nat)^m<2^16:=Nat.pow_lt_pow_right (by omega) this
 have e:(1:Int) * 2^m=((2^m:Nat):Int):=by rw[Int.one_mul];simp
 have h2:(2:Nat)^m<4294967296:=by omega
 rw[e]
 exact wrap32 (Int.natCast_nonneg _) (Int.ofNat_lt.2 h2)
def l8 (L:List (List Int)) (i x:Nat):List Nat:=(L.take i).map hb++x::List.replicate (L.length - (i+1)) 0
theorem qN {L:List (List Int)} {i:Nat} (h:i<L.length):((L.take i).map hb).length=i:=by simp;omega
theorem wR {L:List (List Int)} {i:Nat} (h:i<L.length) (x:Nat):(l8 L i x).length=L.length:=by
 rw[l8,List.length_append,qN h];simp;omega
theorem II {L:List (List Int)} {i:Nat} (h:i<L.length) (x:Nat) (d:AV):((l8 L i x).map u32).getD ((i:Int)).toNat d=u32 x:=by
 rw[Int.toNat_natCast,dI u32 _ _ _ (by rw[wR h];exact h),l8,List.getD,List.getElem?_append_right (by rw[qN h];exact Nat.le_refl _),qN h,Nat.sub_self];rfl
theorem IJ {L:List (List Int)} {i:Nat} (h:i<L.length) (x v:Nat):((l8 L i x).map u32).set ((i:Int)).toNat (u32 v)=(l8 L i v).map u32:=by
 rw[Int.toNat_natCast,<-List.map_set,l8,List.set_append,if_neg (by rw[qN h];omega),qN h,Nat.sub_self];rfl
theorem C3 {L:List (List Int)} {i:Nat} (h:i<L.length):(L.take i).map hb++List.replicate (L.length - i) 0=l8 L i 0:=by
 rw[l8,show L.length - i=(L.length - (i+1))+1 by omega,List.replicate_succ]
theorem C2 {L:List (List Int)} {i:Nat} (h:i<L.length):l8 L i (hb (L.getD i []))=(L.take (i+1)).map hb++List.replicate (L.length - (i+1)) 0:=by
 rw[l8,List.take_succ_eq_append_getElem h,gd h,List.map_append,List.append_assoc];rfl
theorem pS {m:Nat} {now:List Int} (hn:now.length<=m):∀(l:List Int) (s s':HS),dV now l s= .inl s'->(∀i,(s.cI.getD i []).length<=m)->∀i,(s'.cI.getD i []).length<=m
 |[],s,s',h,hs=>by rw[dV] at h;cases h;exact hs
 |k::r,s,s',h,hs=>by
  rw[dV] at h
  split at h
  ·refine pS hn r _ s' h fun i=> ?_
   dsimp only
   rw[eO]
   split
   ·exact hn
   ·exact hs i
  ·split at h
   ·exact pS hn r s s' h hs
   ·cases h
theorem z7 {n:Node} {l now:List Int} (h:dM n l=some now):now.length<=l.length+1:=by
 unfold dM at h
 split at h
 ·cases h;simp
 ·split at h
  ·split at h
   ·cases h;simp;omega
   ·cases h
  ·split at h
   ·split at h
    ·cases h;omega
    ·cases h
   ·cases h;omega
theorem sL (g:cG):∀(f:Nat) (s:HS) (k:Nat),(∀i,(s.cI.getD i []).length<=k)->∀i,((ff g f s k).1.getD i []).length<=k+f
 |0,s,k,h,i=>by rw[ff];exact h i
 |f+1,s,k,h,i=>by
  rw[ff]
  split
  ·split
   ·simp
   ·rename_i now hn
    have h2:=z7 hn
    have h3:=h (s.todo.getD k 0).toNat
    unfold HS.l at h2
    split
    ·rename_i s' ht
     have:=sL g f s' (k+1) (pS (m:=k+1) (by omega) _ _ _ ht fun i=>Nat.le_succ_of_le (h i)) i
     omega
    ·simp
  ·have:=h i;dsimp only;omega
theorem wS (g:cG) (i:Nat):((dc g).1.getD i []).length<=g.nodes.length+1:=by
 have:=sL g (g.nodes.length+1) (sM g) 0 (fun i=>by simp only[sM,List.getD,List.getElem?_replicate];split<;>exact Nat.zero_le _) i
 rw[Nat.zero_add] at this;exact this
set_option maxHeartbeats 4000000 in
theorem AA {u:cF} (g:cG) (hg:g.Wf) (hk:eR u g) (hl16:u.cI.length<=16):cT Tryz.prog 122 [g.av] [] 0 (fun r H n=>∃d,r= .agg [F7 (gL g (-1)), .sl 7 (dc g).1.length]/\cC H 7=some (.row 133 1 d (((dc g).1.map hb).map u32))):=by
 have hw:=hk.whole
 have h1:=xz g hg (wz hw) (BA g hg hw (-1) (by unfold ec;omega))
 have h2:=GV g hg hw hk.held
 obtain⟨_,hLl,_,_⟩:=jR hw hk.held
 have hin:=F5 hk
 have hlen:=hk.len
 have hgl:=hg.len
 have hlens:=wS g
 generalize hL:(dc g).1=L at *
 refine aM WV rfl ?_
 repeat' (first|refine aQ ?_|exact eE|with_reducible refine aB ?_ ?_|((with_reducible refine Ask.mk ?_);first|exact cw|exact cX|(intro h;simp_all[cG.cells]<;>fail)|(simp_all[cG.cells]<;>fail))|(apply aA;(·exact cK))|refine aK (h1) ?_|refine aK (h2) ?_|refine aH ?_|((with_reducible refine aE ?_ ?_)<;>intro hc<;>try(exfalso;omega)))
 have e0:(((L.take 0).map hb++List.replicate (L.length - 0) 0).map u32:List AV)=List.replicate L.length (u32 0):=by simp
 simp only[List.length_map,Int.toNat_natCast]
 refine aI (fun i:Nat=>[(2, .pt 1 1 0 0),(3, .pt 9 1 0 0),(22, .im 1 .any (L.map eP)),(23,i64 L.length),(24,i64 i)])
  (fun i H n=>i<=L.length/\18<=n/\(∃d,cC H 1=some (.row 131 2 d [.agg [.sc (.slice none 0 0), .sc (.slice none 0 0)]]))/\(∃d,cC H 9=some (.row 131 2 d [.agg [F7 (gL g (-1)), .sl 7 g.nodes.length]]))/\(∃d,cC H 7=some (.row 133 1 d (((L.take i).map hb++List.replicate (L.length - i) 0).map u32)))) (fun i=>L.length - i) 0 cJ ⟨Nat.zero_le _,cZ,⟨_,cE⟩, ?_, ?_⟩ ?_
 ·apply Exists.intro
  exact cE
 ·apply Exists.intro
  rw[e0,hLl]
  exact cE
 rintro i H n ⟨hi,hn,⟨d1,r1⟩,⟨d9,r9⟩,⟨d7,r7⟩⟩
 by_cases hil:i<L.length
 ·rw[C3 hil] at r7
  have hll:=hlens i
  have e1:=fun d=>j5 (l:=L) (i:=(i:Int)) (by rw[Int.toNat_natCast];exact hil) d
  rw[Int.toNat_natCast] at e1
  have hin2:=hin i
  have hnx:=C2 hil
  generalize hl:L.getD i []=l at *
  repeat' (first|refine aQ ?_|exact aC|with_reducible refine aB ?_ ?_|(apply aA;(·(first|exact e1 _|exact cK)))|refine aH ?_|((with_reducible refine aE ?_ ?_)<;>intro hc<;>try(exfalso;omega)))
  simp only[List.length_map]
  refine aI (fun j:Nat=>[(2, .pt 1 1 0 0),(3, .pt 9 1 0 0),(6,i64 i),(22, .im 1 .any (L.map eP)),(23,i64 L.length),(24,i64 i),(29, .im 1 .any (l.map i64)),(30,i64 l.length),(31,i64 j)])
   (fun j H2 n2=>j<=l.length/\n<=n2/\(∃d,cC H2 1=some (.row 131 2 d [.agg [.sc (.slice none 0 0), .sc (.slice none 0 0)]]))/\(∃d,cC H2 9=some (.row 131 2 d [.agg [F7 (gL g (-1)), .sl 7 g.nodes.length]]))/\(∃d,cC H2 7=some (.row 133 1 d ((l8 L i (hb (l.take j))).map u32)))) (fun j=>l.length - j) 0 cJ ⟨Nat.zero_le _,cZ,⟨_,cE⟩,⟨_,cE⟩,⟨_,cE⟩⟩ ?_
  clear r1 r9 r7
  rintro j H2 n2 ⟨hj,hn2,⟨d1,r1⟩,⟨d9,r9⟩,⟨d7,r7⟩⟩
  by_cases hjl:j<l.length
  ·obtain⟨k0,k1⟩:=hin2 _ (cQ 0 hjl)
   have e2:=fun d=>gw hjl d
   have e3:=fun d=>II hil (hb (l.take j)) d
   have hml:((l8 L i (hb (l.take j))).map u32).length=g.nodes.length:=by rw[List.length_map,wR hil,hLl]
   have e4:=Y4 k0 (by omega:l.getD j 0<16)
   have hlt:∀m,hb (l.take m)<65536:=fun m=>R5 (m:=16) fun k hk=>by have:=hin2 k (List.mem_of_mem_take hk);omega
   have e5:=QA hjl
   have hp:2^(l.getD j 0).toNat<65536:=Nat.pow_lt_pow_right (by omega) (by omega:(l.getD j 0).toNat<16)
   have e6:=aAm (show hb (l.take j)<4294967296 from Nat.lt_trans (hlt j) (by omega)) (show 2^(l.getD j 0).toNat<4294967296 by omega)
   rw[<-e5] at e6
   repeat' (first|refine aQ ?_|exact eE|with_reducible refine aB ?_ ?_|((with_reducible refine Ask.mk ?_);first|exact cw|(exact hml)|exact cX)|(apply aA;(·(first|exact e2 _|exact e3 _|exact cK)))|(simp only[e4])|(simp only[e6])|refine aH ?_|((with_reducible refine aE ?_ ?_)<;>intro hc<;>try(exfalso;omega)))
   exact⟨j+1,by omega,cJ,by omega,cZ,⟨_,cE⟩,⟨_,cE⟩,⟨_,by rw[<-IJ hil (hb (l.take j)) (hb (l.take (j+1)))];exact cE⟩⟩
  ·have:j=l.length:=by omega
   subst this
   rw[List.take_length,hnx] at r7
   repeat' (first|refine aQ ?_|exact aC|with_reducible refine aB ?_ ?_|(apply aA;(·exact cK))|refine aH ?_|((with_reducible refine aE ?_ ?_)<;>intro hc<;>try(exfalso;omega)))
   exact⟨i+1,by omega,cJ,by omega,by omega,⟨_,cE⟩,⟨_,cE⟩,⟨_,cE⟩⟩
 ·have:i=L.length:=by omega
  subst this
  rw[List.take_length,Nat.sub_self,List.replicate_zero,List.append_nil] at r7
  repeat' (first|refine aQ ?_|exact aC|with_reducible refine aB ?_ ?_|(apply aA;(·exact cK))|refine aH ?_|((with_reducible refine aE ?_ ?_)<;>intro hc<;>try(exfalso;omega)))
  rw[<-hLl]
  exact⟨⟨d7,rfl,cE⟩⟩
theorem AB {u:cF} (g:cG) (hg:g.Wf) (hk:eR u g) (hl16:u.cI.length<=16):Pure Tryz.prog 122 [g.av] (fun r=>r=pW g):=by
 have hfit:cP 0 (pW g):=by unfold pW;simp[cP,cg,F7,cL]
 refine cz ((AA g hg hk hl16).mono ?_) hfit
 rintro r H n ⟨d,rfl,hb⟩
 have e1:dA.df H 6 (.agg [F7 (gL g (-1)), .sl 7 (dc g).1.length])= .agg [dA.df H 5 (F7 (gL g (-1))),dA.df H 5 (.sl 7 (dc g).1.length)]:=by
  simp only[df,List.map_cons,List.map_nil]
 rw[e1,dN hb (by simp),cr _ ((cL _ _).2 fun _ _=>by simp[cP]),dX 5 (by simp[F7,cP,cL])]
 rfl
noncomputable def gm (u:cF) (m:Nat):List AV:=(u.cD.take m).map pW
theorem DI {u:cF} {t:Nat} (h:t<u.cD.length):gm u (t+1)=gm u t++[pW (u.gr t)]:=by
 rw[gm,List.take_succ_eq_append_getElem h,gm,List.map_append,show u.gr t=u.cD[t] from gd h _];rfl
theorem rj {u:cF} {t:Nat} (h:t<=u.cD.length):(gm u t).length=t:=by simp[gm];omega
theorem rT (u:cF) (m:Nat):cg 0 (gm u m):=(cL _ _).2 fun _ _=>by unfold pW;simp[cP,cg,F7,cL]
set_option maxHeartbeats 4000000 in
theorem BZ (u:cF) (hu:u.Wf):Pure Tryz.prog 74 [u.av] (fun r=>r=if D9 u=true then .dQ [.im 2 .any (gm u u.cD.length),i64 0] else .dQ [.sc (.slice none 0 0),i64 60]):=by
 have hck:=kG u hu
 by_cases hr:cj u
 ·rw[jG.2 hr] at hck
  rw[if_pos (p7.2 hr)]
  have hfew:=hr.qD
  refine cz ?_ (by simp only[cP,cg];exact⟨rT _ _,trivial,trivial⟩)
  refine aM YQ rfl ?_
  repeat' (first|refine aQ ?_|exact eE|with_reducible refine aB ?_ ?_|((with_reducible refine Ask.mk ?_);first|exact cw|exact cX|(intro h;simp_all[cF.cells]<;>fail)|(simp_all[cF.cells]<;>fail))|(apply aA;(·exact cK))|refine aK (hck) ?_|refine aH ?_|((with_reducible refine aE ?_ ?_)<;>intro hc<;>try(exfalso;omega)))
  simp only[List.length_map]
  refine aV (fun t:Nat=>[(7, .sl 18 t),(20,dy u.cD),(21,i64 u.cD.length),(22,i64 t)])
   (fun t H n=>t<=u.cD.length/\19<=n/\(∃d,cC H 18=some (.row 131 2 d (gm u t)))) (fun t=>u.cD.length - t) 0 ⟨_,_,_,Rt.nil 7 131 2 (by omega) rfl,cJ,Nat.zero_le _,cZ,⟨_,cE⟩⟩ ?_
  rintro t H n ⟨ht,hn,⟨d,r18⟩⟩
  by_cases htl:t<u.cD.length
  ·have hl:=rj (u:=u) ht
   have hg:=hu.cD _ (cQ default htl)
   have hlk:=AB (u.gr t) hg (hr.gr htl) hfew.2.1
   have hnx:=DI htl
   have eg:=fun d=>kZ htl d
   repeat' (first|refine aQ ?_|exact eE|with_reducible refine aB ?_ ?_|((with_reducible refine Ask.mk ?_);first|exact cw|(exact hl)|exact cX|(intro h;simp_all[cG.cells]<;>fail)|(simp_all[cG.cells]<;>fail))|(apply aA;(·(first|exact eg _|exact cK)))|refine aK (hlk) ?_|refine aH ?_|((with_reducible refine aE ?_ ?_)<;>intro hc<;>try(exfalso;omega)))
   exact⟨t+1,by omega,_,_,_,Rt.refl _ _ _,cJ,by omega,cZ,⟨_,by rw[hnx];exact cE⟩⟩
  ·have:t=u.cD.length:=by omega
   subst this
   repeat' (first|refine aQ ?_|exact aC|with_reducible refine aB ?_ ?_|(apply aA;(·exact cK))|refine aH ?_|((with_reducible refine aE ?_ ?_)<;>intro hc<;>try(exfalso;omega)))
   refine⟨?_⟩
   have e1:∀H,dA.df H 6 (.dQ [.sl 18 u.cD.length,i64 0])= .dQ [dA.df H 5 (.sl 18 u.cD.length),i64 0]:=fun H=>by
    simp only[df,List.map_cons,List.map_nil]
   refine(e1 _).trans ?_
   rw[dN cE (rj (Nat.le_refl _)),cr _ (rT _ _)]
 ·have h1:=mG hr
  rw[if_neg (mt p7.1 hr)]
  generalize gu u=r at *
  obtain⟨a,b,c⟩:=r
  dsimp only at h1 hck
  subst h1
  unfold tR at hck
  refine aG YQ rfl ?_
  repeat' (first|refine aQ ?_|exact eE|with_reducible refine aB ?_ ?_|((with_reducible refine Ask.mk ?_);first|exact cw|exact cX|(intro h;simp_all[cF.cells]<;>fail)|(simp_all[cF.cells]<;>fail))|(apply aA;(·exact cK))|refine aK (hck) ?_|refine aH ?_|((with_reducible refine aE ?_ ?_)<;>intro hc<;>try(exfalso;omega)))
  exact rfl
def uG (g:cG):List (List Int):=(dc g).1.map fun l=>bits (hb l)
theorem M6 {u:cF} {g:cG} (hk:eR u g):(uG g).length=g.nodes.length:=by
 unfold uG;rw[List.length_map];exact(jR hk.whole hk.held).2.1
theorem QC {u:cF} {g:cG} (hk:eR u g) {i:Nat} (hi:i<g.nodes.length):(uG g).getD i []=mn g i:=by
 have:i<(dc g).1.length:=by rw[(jR hk.whole hk.held).2.1];exact hi
 simp[uG,mn,I1,List.getD,this]
theorem L9 (L:List (List Int)):cg 0 (L.map eP):=(cL _ _).2 fun _ _=>by simp[eP,cP,cL]
theorem NO {u:cF} {t:Nat} (ht:t<u.cD.length) (d:AV):(gm u u.cD.length).getD ((t:Int)).toNat d= .agg [F7 (gL (u.gr t) (-1)), .im 1 .any (((dc (u.gr t)).1.map hb).map u32)]:=by
 rw[Int.toNat_natCast]
 unfold gm
 rw[List.take_length,dI pW u.cD t d ht]
 rfl
set_option maxHeartbeats 2000000 in
theorem C4 (u:cF) (hu:u.Wf) (hr:cj u) {t:Nat} (ht:t<u.cD.length):Pure Tryz.prog 36 [u.av,i64 t] (fun r=>r= .dQ [.im 1 .any ((uG (u.gr t)).map eP),i64 0]):=by
 have c0:=BZ u hu
 rw[if_pos (p7.2 hr)] at c0
 have hfl:=rT u u.cD.length
 have hgk:=hr.gr ht
 have hnl:=hgk.len
 have hL:=(jR hgk.whole hgk.held).2.1
 have hfew:=hr.qD
 have e0:=NO ht
 have a0:(gm u u.cD.length).length=u.cD.length:=rj (Nat.le_refl _)
 have hb16:∀i,hb ((dc (u.gr t)).1.getD i [])<65536:=fun i=>xj hgk hfew.2.1 i
 have hres:uG (u.gr t)=(dc (u.gr t)).1.map fun l=>bits (hb l):=rfl
 rw[hres]
 generalize gm u u.cD.length=X at *
 generalize gL (u.gr t) (-1)=B at *
 generalize (dc (u.gr t)).1=A at *
 refine cz ?_ (by simp only[cP,cg];exact⟨L9 _,trivial,trivial⟩)
 refine aM aAK rfl ?_
 have a1:((A.map hb).map u32).length=A.length:=by simp
 have r0:decide (((t:Nat):Int)<0)=false:=decide_eq_false (by omega)
 refine ca ?_
 refine aY (fun hc=>absurd hc (by simp;omega)) fun hc=> ?_
 refine ca ?_
 simp only[List.length_map]
 refine aV (fun i:Nat=>[(8, .sl 27 i),(31, .im 1 .any ((A.map hb).map u32)),(32,i64 A.length),(33,i64 i)])
  (fun i H n=>i<=A.length/\28<=n/\∃d,cC H 27=some (.row 31 1 d (((A.take i).map fun l=>bits (hb l)).map eP))) (fun i=>A.length - i) 0
  ⟨_,_,_,Rt.nil 8 31 1 (by omega) rfl,cJ,Nat.zero_le _,cZ,⟨_,cE⟩⟩ ?_
 rintro i H n ⟨hi,hn,⟨d,r1⟩⟩
 have a2:(((A.take i).map fun l=>bits (hb l)).map eP).length=i:=by simp;omega
 by_cases hil:i<A.length
 ·have c0:=I0 (hb (A.getD i [])) (hb16 i)
  have e1:∀d,((A.map hb).map u32).getD ((i:Int)).toNat d=u32 (hb (A.getD i [])):=fun d=>by
   rw[Int.toNat_natCast];simp[List.getD,hil]
  refine ca ?_
  exact⟨i+1,by omega,_,_,_,Rt.refl _ _ _,cJ,by omega,cZ,⟨_,by
   rw[List.take_succ_eq_append_getElem hil,List.map_append,List.map_append]
   rw[show A.getD i []=A[i] by simp[List.getD,hil]]
   exact cE⟩⟩
 ·obtain rfl:i=A.length:=by omega
  rw[List.take_length] at r1
  refine ca ?_
  refine⟨?_⟩
  show AV.dQ [dA.df _ 5 (.sl 27 A.length),i64 0]=_
  rw[dN (k:=4) cE (by simp),cr _ (L9 _)]
theorem vr (u:cF) (hu:u.Wf) (hr:¬cj u):Pure Tryz.prog 13 [u.av] (fun r=>r= .dQ [.sc (.slice none 0 0),i64 60]):=by
 have c0:=kG u hu
 have h1:=mG hr
 generalize gu u=r at *
 obtain⟨a,b,c⟩:=r
 dsimp only at h1 c0
 subst h1
 unfold tR at c0
 refine aG W2 rfl ?_
 refine ca ?_
 first|exact rfl|trivial
def ef (u:cF) (t i k:Nat):List dO:=gv u t++j0 (u.gr t) t i++((mn (u.gr t) i).take k).map fun h=>⟨h,((u.gr t).nd i).cV,t,i⟩
theorem kX (u:cF) (t:Nat):ef u t 0 0=gv u t:=by simp[ef,j0]
theorem kV {u:cF} {t i k:Nat} (hk:k<(mn (u.gr t) i).length):ef u t i (k+1)=ef u t i k++[⟨(mn (u.gr t) i).getD k 0,((u.gr t).nd i).cV,t,i⟩]:=by
 unfold ef
 generalize mn (u.gr t) i=l at *
 generalize ((u.gr t).nd i).cV=th at *
 have e:l.getD k 0=l[k]:=by simp[List.getD,hk]
 rw[List.take_succ_eq_append_getElem hk,e,List.map_append,List.append_assoc,List.append_assoc,List.append_assoc]
 rfl
theorem mJ {u:cF} {t i:Nat} (h5:((u.gr t).nd i).kind=5):ef u t i (mn (u.gr t) i).length=ef u t (i+1) 0:=by
 unfold ef
 rw[List.take_length,j0,nP,if_pos h5]
 simp
theorem kW {u:cF} {t i:Nat} (h5:((u.gr t).nd i).kind≠5):ef u t i 0=ef u t (i+1) 0:=by
 unfold ef
 rw[j0,nP,if_neg h5]
 simp
theorem jg (u:cF) (t:Nat):ef u t (u.gr t).nodes.length 0=gv u (t+1):=by
 unfold ef
 rw[gv]
 simp
theorem vq {u:cF} (hr:cj u) {t i k:Nat} (ht:t<u.cD.length) (hi:i<=(u.gr t).nodes.length) (hk:k<=16):(ef u t i k).length<=1048576:=by
 unfold ef
 have h1:=lV hr (m:=t) (by omega)
 have h2:=rN (hr.gr ht) hr.qD.2.1 t i
 have h3:=(hr.gr ht).len.2
 have h4:=hr.qD.2.2
 simp only[List.length_append,List.length_map,List.length_take]
 omega
set_option maxHeartbeats 4000000 in
theorem CL (u:cF) (hu:u.Wf) (hr:cj u):cT Tryz.prog 13 [u.av] [] 0 (fun r H n=>∃b d,r= .dQ [.sl b (dK u).length,i64 0]/\cC H b=some (.row 69 4 d ((dK u).map dO.av))):=by
 have c0:=kG u hu
 rw[jG.2 hr] at c0
 unfold tR at c0
 have hfew:=hr.qD
 have hE:dK u=gv u u.cD.length:=rfl
 rw[hE]
 refine aM W2 rfl ?_
 refine ca ?_
 simp only[List.length_map]
 refine aV (fun t:Nat=>[(1, .pt 0 1 0 0),(7, .sl 18 (gv u t).length),(26,dy u.cD),(27,i64 u.cD.length),(28,i64 t)])
  (fun t H n=>t<=u.cD.length/\19<=n/\(∃d,cC H 0=some (.row 25 3 d [u.av]))/\∃d,cC H 18=some (.row 69 4 d ((gv u t).map dO.av))) (fun t=>u.cD.length - t) 0
  ⟨_,_,_,Rt.nil 7 69 4 (by omega) rfl,cJ,Nat.zero_le _,cZ,⟨_,cE⟩,⟨_,cE⟩⟩ ?_
 rintro t H n ⟨ht,hn,⟨d0,r0⟩,⟨d1,r1⟩⟩
 by_cases htl:t<u.cD.length
 ·have c1:=C4 u hu hr htl
  have hgk:=hr.gr htl
  have hnl:=hgk.len
  have hhl:=M6 hgk
  have e0:∀d,(u.cD.map cG.av).getD ((t:Int)).toNat d=(u.gr t).av:=fun d=>kZ htl d
  have a0:(u.cD.map cG.av).length=u.cD.length:=by simp
  refine ca ?_
  simp only[List.length_map]
  clear c0 c1 e0
  refine aI (fun i:Nat=>[(1, .pt 0 1 0 0),(7, .sl 18 (ef u t i 0).length),(8,i64 t),(10, .im 1 .any ((uG (u.gr t)).map eP)),(26,dy u.cD),(27,i64 u.cD.length),(28,i64 t),(40,jk (u.gr t).nodes),(41,i64 (u.gr t).nodes.length),(42,i64 i)])
   (fun i H2 n2=>i<=(u.gr t).nodes.length/\n+18<=n2/\(∃d,cC H2 0=some (.row 25 3 d [u.av]))/\∃d,cC H2 18=some (.row 69 4 d ((ef u t i 0).map dO.av))) (fun i=>(u.gr t).nodes.length - i) 0
   (by rw[kX];exact cJ) ⟨Nat.zero_le _,cZ,⟨_,cE⟩,⟨_,by rw[kX];exact cE⟩⟩ ?_
  rintro i H2 n2 ⟨hi,hn2,⟨d0,r0⟩,⟨d1,r1⟩⟩
  have a0:((u.gr t).nodes.map Node.av).length=(u.gr t).nodes.length:=by simp
  by_cases hil:i<(u.gr t).nodes.length
  ·have e0:∀d,((u.gr t).nodes.map Node.av).getD ((i:Int)).toNat d=((u.gr t).nd i).av:=fun d=>fx hil d
   by_cases h5:((u.gr t).nd i).kind=5
   ·have hh:=QC hgk hil
    have hle:=C7 hgk hfew.2.1 i
    have e1:∀d,((uG (u.gr t)).map eP).getD ((i:Int)).toNat d= .im 1 .any ((mn (u.gr t) i).map i64):=fun d=>by
     rw[Int.toNat_natCast,dI eP (uG (u.gr t)) i d (by rw[hhl];exact hil),<-hh];rfl
    have a1:((uG (u.gr t)).map eP).length=(u.gr t).nodes.length:=by rw[List.length_map];exact hhl
    have r2:decide (((u.gr t).nd i).kind≠5)=false:=decide_eq_false fun h=>h h5
    refine ca ?_
    simp only[List.length_map]
    clear e0 e1
    refine aI (fun k:Nat=>[(1, .pt 0 1 0 0),(7, .sl 18 (ef u t i k).length),(8,i64 t),(10, .im 1 .any ((uG (u.gr t)).map eP)),(12,i64 i),(13, .pt (n2+4) 1 0 0),(26,dy u.cD),(27,i64 u.cD.length),(28,i64 t),(40,jk (u.gr t).nodes),(41,i64 (u.gr t).nodes.length),(42,i64 i),(53, .im 1 .any ((mn (u.gr t) i).map i64)),(54,i64 (mn (u.gr t) i).length),(55,i64 k)])
     (fun k H3 n3=>k<=(mn (u.gr t) i).length/\n2+5<=n3/\(∃d,cC H3 0=some (.row 25 3 d [u.av]))/\(∃d,cC H3 (n2+4)=some (.row 65 13 d [((u.gr t).nd i).av]))/\∃d,cC H3 18=some (.row 69 4 d ((ef u t i k).map dO.av))) (fun k=>(mn (u.gr t) i).length - k) 0
     cJ ⟨Nat.zero_le _,cZ,⟨_,cE⟩,⟨_,cE⟩,⟨_,cE⟩⟩ ?_
    rintro k H3 n3 ⟨hk,hn3,⟨d0,r0⟩,⟨d3,r3⟩,⟨d1,r1⟩⟩
    by_cases hkl:k<(mn (u.gr t) i).length
    ·have e0:∀d,((mn (u.gr t) i).map i64).getD ((k:Int)).toNat d=i64 ((mn (u.gr t) i).getD k 0):=fun d=>by
      rw[Int.toNat_natCast];exact dI i64 (mn (u.gr t) i) k d hkl
     have a2:((mn (u.gr t) i).map i64).length=(mn (u.gr t) i).length:=by rw[List.length_map]
     have a3:((ef u t i k).map dO.av).length=(ef u t i k).length:=by rw[List.length_map]
     have hkk:=vq hr htl (i:=i) (k:=k) (by omega) (by omega)
     refine ca ?_
     refine⟨k+1,by omega, ?_,by omega,cZ,⟨_,cE⟩,⟨_,cE⟩, ?_⟩
     ·rw[kV hkl,List.length_append];exact cJ
     ·rw[kV hkl,List.map_append];exact⟨_,cE⟩
    ·obtain rfl:k=(mn (u.gr t) i).length:=by omega
     rw[mJ h5] at r1
     refine ca ?_
     exact⟨i+1,by omega,by rw[<-mJ h5];exact cJ,by omega,cZ,⟨_,cE⟩,⟨_,cE⟩⟩
   ·have r2:decide (((u.gr t).nd i).kind≠5)=true:=decide_eq_true h5
    refine ca ?_
    rw[kW h5] at r1
    exact⟨i+1,by omega,by rw[<-kW h5];exact cJ,by omega,cZ,⟨_,cE⟩,⟨_,cE⟩⟩
  ·obtain rfl:i=(u.gr t).nodes.length:=by omega
   rw[jg] at r1
   refine ca ?_
   exact⟨t+1,by omega,_,_,_,Rt.refl _ _ _,by rw[<-jg];exact cJ,by omega,cZ,⟨_,cE⟩,⟨_,cE⟩⟩
 ·obtain rfl:t=u.cD.length:=by omega
  refine ca ?_
  exact⟨⟨18,d1,rfl,cE⟩⟩
theorem pK (u:cF) (hu:u.Wf) (hr:cj u):Pure Tryz.prog 13 [u.av] (fun r=>r= .dQ [eV (dK u),i64 0]):=by
 have hf:=oE (dK u)
 refine cz ((CL u hu hr).mono ?_) (by simp only[cP,cg];exact⟨hf,trivial,trivial⟩)
 rintro r H n ⟨b,d,rfl,hb⟩
 show AV.dQ [dA.df H 5 (.sl b (dK u).length),i64 0]=_
 rw[dN (k:=4) hb (by simp),cr _ hf]
end Go.Proofs.YtjopoheligmmoaaGreatDoor
namespace Go.dA
open Go.RowKit
set_option linter.unusedSimpArgs false
set_option linter.unusedVariables false
def WC (P:Program) (n lo:Nat) (code:Code) (fr:Fr) (H:Hp) (nx:Nat) (Q:QT):Prop:=
 ∀w0 M0 c0 a w,Holds w0 M0 c0 lo n fr H nx a w->code.wp P (LQ w0 M0 c0 lo n Q) a w
section
variable {P:Program} {n lo:Nat} {fr:Fr} {H:Hp} {nx:Nat} {Q:QT}
theorem WC.low {code:Code} {lc:LC} (hl:dE P n code=some lc) (h:WL P n lo lc fr H nx Q):WC P n lo code fr H nx Q:=h code hl
theorem WC.seq {x y:Code} (h:WC P n lo x fr H nx (jA (fun fr H nx=>WC P n lo y fr H nx Q) Q)):WC P n lo (.seq x y) fr H nx Q:=by
 intro w0 M0 c0 a w hh
 refine wp_seq (Code.wp_mono ?_ (h w0 M0 c0 a w hh))
 rintro e a' w' ⟨x',fr',H',nx',rfl,hQ,hh'⟩
 cases x' with
 |normal=>exact hQ w0 M0 c0 a' w' hh'
 |exit id=>exact⟨.exit id,fr',H',nx',rfl,hQ,hh'⟩
 |ret=>exact⟨.ret,fr',H',nx',rfl,hQ,hh'⟩
theorem WC.rt {code:Code} {fr2:Fr} {H2:Hp} {nx2:Nat} (hw:Rt fr H nx fr2 H2 nx2) (h:WC P n lo code fr2 H2 nx2 Q):WC P n lo code fr H nx Q:=
 fun w0 M0 c0 a w hh=>h w0 M0 c0 a w (hw _ _ _ _ _ _ _ hh)
theorem WC.cut {x y:Code} {lx:LC} (hl:dE P n x=some lx) (h:Go (W P n lo lx fr H nx (jA (fun fr' H' nx'=>∃fr2 H2 nx2,Rt fr' H' nx' fr2 H2 nx2/\WC P n lo y fr2 H2 nx2 Q) Q))):WC P n lo (.seq x y) fr H nx Q:=
 WC.seq (WC.low hl ((fV h).mono fun e fr H nx hh=>by
  cases e with
  |normal=>
   obtain⟨fr2,H2,nx2,h1,h2⟩:=hh
   exact WC.rt h1 h2
  |exit id=>exact hh
  |ret=>exact hh))
theorem cT.QQ {f:FuncId} {fn:Func} {code:Code} {args:List AV} {lrs:List lA} {R:AV->Hp->Nat->Prop} (hf:P.funcs[f]?=some fn) (hname:(fn.name== "runtime.NumGoroutine")=false)
 (hb:fn.body=some code) (hr:iE P fn.results.toList=some lrs) (ha:args.length<=fn.ntmps)
 (h:WC P fn.ntmps nx code (kI 0 args) H nx (ua lrs R)):cT P f args H nx R:=by
 refine⟨⟨fn,hf,by simp[hb],hname⟩,fun w0 c vs hS hH hU hv=>calls_of_wp hf hb ?_⟩
 obtain⟨ρ0,H0,U0,w,M0⟩:=c
 simp only at hH hU
 subst hH
 have hlen:=hv.length
 refine Code.wp_mono ?_ (h w0 M0 ⟨ρ0,cC H,U0,w,M0⟩ _ w ⟨?_,rfl,ρ0,U0,hU,hS,fun t=> ?_,hU,Cx.le.refl _⟩)
 ·rintro e a' w' ⟨x,fr',H',nx',rfl,hQ,hn,hd,ρ,U,hU',hS',hF,_,hle⟩
  have hQ:=yB hQ
  have fin:nc (jm fr' H' lrs) (fun rs=>R (pack rs) H' nx')->a'.defers=[]/\∃v,(results fn a'.tmps).run P w'= .ok v w'/\
   ∃v1 r H1 nx1 ρ1 U1,Ending.returned v= .returned v1/\R r H1 nx1/\(∀b,U1 b->b<nx1)/\du w0 ⟨ρ1,cC H1,U1,w',M0⟩/\Cx.le ⟨ρ0,cC H,U0,w,M0⟩ ⟨ρ1,cC H1,U1,w',M0⟩/\VR ⟨ρ1,cC H1,U1,w',M0⟩ r v1:=by
   intro hq
   cases hres:jm fr' H' lrs with
   |none=>rw[hres] at hq;exact hq.elim
   |some avs=>
    rw[hres] at hq
    obtain⟨v,g1,g2⟩:=nh (P:=P) (fn:=fn) hS' rfl hF hr hres
    exact⟨hd,v,g1,v,_,H',nx',ρ,U,rfl,hq,hU',hS',hle,g2⟩
  cases x with
  |normal=>exact fin hQ
  |ret=>exact fin hQ
  |exit id=>exact hQ.elim
 ·simp[hlen];omega
 ·have:=oL (c:=⟨ρ0,cC H,U0,w,M0⟩) (args:=args) (vs:=vs) (k:=0) (pre:=[]) (post:=List.replicate (fn.ntmps - vs.length) undef) hv rfl t
  have e:(vs.toArray++Array.replicate (fn.ntmps - vs.toArray.size) undef)=([]++vs++List.replicate (fn.ntmps - vs.length) undef).toArray:=by
   apply Array.ext';simp
  simp only[e]
  exact this
theorem fU {ops:Array Oper} {o:Oper} {rest:List Oper} {a:Act} {w w':World} {v:Value} {Q:Exit->Act->World->Prop} (hg:o.guard=none) (hr:(execOp a.eval o).run P w= .ok (.value v) w') (h:wpList P ops Q rest (a.put o.dst v) w'):wpList P ops Q (o::rest) a w:=
 wpList_plain hg fun K hK=>by
  unfold Oper.wp
  rw[hr,Oper.upon_value]
  exact hK _ _ h
end
def ss (w w':World):Prop:=∀blk o sz v,0<sz->At w blk o sz v->At w' blk o sz v
mutual
theorem VR.iX {c:Cx} {w':World} (h:ss c.w w'):∀{a:AV} {v:Value},VR c a v->VR { c with w:=w' } a v
 | .sc u,v,hv=>by rw[VR] at hv ⊢;exact hv
 | .any,_,_=>by rw[VR];trivial
 | .im sz d es,v,hv=>by
  rw[VR] at hv ⊢
  obtain⟨a,cap,rfl,hc,hr⟩:=hv
  refine⟨a,cap,rfl,hc, ?_⟩
  rcases hr with h0|⟨blk,o,rfl,hz,hm,hr⟩
  ·exact .inl h0
  ·exact .inr ⟨blk,o,rfl,hz,hm,dz.iX h hz hr⟩
 | .ip sz d es i off,v,hv=>by
  rw[VR] at hv ⊢
  obtain⟨hi,ho,blk,o,rfl,hm,hr⟩:=hv
  exact⟨hi,ho,blk,o,rfl,hm,dz.iX h (by omega) hr⟩
 | .sl b len,v,hv=>by rw[VR] at hv ⊢;exact hv
 | .pt b len i off,v,hv=>by rw[VR] at hv ⊢;exact hv
 | .zc,v,hv=>by rw[VR] at hv ⊢;exact hv
 | .agg cs,v,hv=>by
  rw[VR] at hv ⊢
  obtain⟨vs,rfl,hr⟩:=hv
  exact⟨vs,rfl,ct.iX h hr⟩
 | .dQ cs,v,hv=>by
  rw[VR] at hv ⊢
  obtain⟨vs,rfl,hr⟩:=hv
  exact⟨vs,rfl,ct.iX h hr⟩
 | .fn f p q,v,hv=>by
  rw[VR] at hv ⊢
  obtain⟨ps,qs,rfl,hp,hq⟩:=hv
  exact⟨ps,qs,rfl,ct.iX h hp,ct.iX h hq⟩
 | .nC t x,v,hv=>by
  rw[VR] at hv ⊢
  obtain⟨u,rfl,hu⟩:=hv
  exact⟨u,rfl,VR.iX h hu⟩
 | .mp b,v,hv=>by rw[VR] at hv ⊢;exact hv
 | .ab,v,hv=>by rw[VR] at hv ⊢;exact hv
 | .sv b len lo n,v,hv=>by rw[VR] at hv ⊢;exact hv
theorem dz.iX {c:Cx} {w':World} (h:ss c.w w') {sz:Nat} (hz:0<sz):∀{es:List AV} {blk o:Nat},dz c sz es blk o->dz { c with w:=w' } sz es blk o
 |[],_,_,_=>by rw[dz];trivial
 |e::es,blk,o,hv=>by
  rw[dz] at hv ⊢
  obtain⟨⟨v,h1,h2⟩,h3⟩:=hv
  exact⟨⟨v,h _ _ _ _ hz h1,VR.iX h h2⟩,dz.iX h hz h3⟩
theorem ct.iX {c:Cx} {w':World} (h:ss c.w w'):∀{az:List AV} {vs:List Value},ct c az vs->ct { c with w:=w' } az vs
 |[],vs,hv=>by rw[ct] at hv ⊢;exact hv
 |a::az,vs,hv=>by
  rw[ct] at hv ⊢
  obtain⟨v,vs',rfl,h1,h2⟩:=hv
  exact⟨v,vs',rfl,VR.iX h h1,ct.iX h h2⟩
end
structure qz (w w':World) (it:Nat):Prop where
 os:w'.os=w.os
 tape:w'.tape=w.tape
 output:w'.output=w.output
 size:w.heap.size<=w'.heap.size
 cd:∀k,k<w.heap.size->k≠it->w'.heap[k]?=w.heap[k]?
 was:it<w.heap.size->∃m s l c,w.heap[it]?=some (.mapIter m s l c)
theorem qz.at_ {w w':World} {it:Nat} (h:qz w w' it):ss w w':=fun blk o sz v hz ha=>by
 have hlt:=ha.lt hz
 refine ha.cd (h.cd blk hlt fun e=> ?_)
 subst e
 obtain⟨m,s,l,c,hm⟩:=h.was hlt
 have:=ha.2.1 0 hz
 have h0:v.cells[0]?=some (v.cells[0]'(by rw[ha.1];exact hz)):=Array.getElem?_eq_getElem _
 rw[h0] at this
 simp[World.cell?,hm] at this
theorem du.iX {w0:World} {c:Cx} {w':World} {it:Nat} (h:du w0 c) (ht:qz c.w w' it) (hlow:w0.heap.size<=it):du w0 { c with w:=w' }:=by
 have hat:=ht.at_
 refine⟨⟨ht.os.trans h.below.os,ht.tape.trans h.below.tape,ht.output.trans h.below.output,Nat.le_trans h.below.size ht.size,fun k hk=> ?_⟩,h.m0,fun b e sz d es he=> ?_,h.inj⟩
 ·rw[ht.cd k (Nat.lt_of_lt_of_le hk h.below.size) (by omega)];exact h.below.block k hk
 ·obtain⟨h1,h2⟩:=h.row b e sz d es he
  refine⟨h1, ?_⟩
  have blkNe:∀blk o,blk<c.w.heap.size->c.w.heap[blk]?=some o->(∀m s l q,o≠ .mapIter m s l q)->w'.heap[blk]?=some o:=fun blk o hl ho hn=>by
   rw[ht.cd blk hl fun e=> ?_];exact ho
   subst e
   obtain⟨m,s,l,q,hm⟩:=ht.was hl
   rw[ho] at hm
   exact hn _ _ _ _ (Option.some.inj hm)
  rcases h2 with⟨hz,h3⟩|⟨hz,h3⟩
  ·refine .inl ⟨hz, ?_⟩
   rcases h3 with h4|⟨blk,o,z,h4,h5,⟨arr,h6,h7⟩,h8,h9⟩
   ·exact .inl h4
   ·exact .inr ⟨blk,o,z,h4,h5,⟨arr,blkNe blk _ (Array.getElem?_eq_some_iff.1 h6).1 h6 (by intros;simp),h7⟩,h8,dz.iX hat hz h9⟩
  ·obtain⟨r,x,ms,clk,h4,h5,h6,h7,h8,h9⟩:=h3
   exact .inr ⟨hz,r,x,ms,clk,h4,h5,blkNe r _ (Array.getElem?_eq_some_iff.1 h6).1 h6 (by intros;simp),h7,VR.iX hat h8,h9⟩
theorem nG.iX {c0 c:Cx} {lo:Nat} {w':World} {it:Nat} (h:nG c0 lo c) (ht:qz c.w w' it) (hlow:c0.w.heap.size<=it):nG c0 lo { c with w:=w' }:=
 ⟨h.1,⟨h.2.U,Nat.le_trans h.2.sz ht.size,fun b hb hl=>by
  obtain⟨h1,h2⟩:=h.2.blk b hb hl
  exact⟨(ht.cd b (Nat.lt_of_lt_of_le hl h.2.sz) (by omega)).trans h1,h2⟩,h.2.row⟩⟩
theorem FR.iX {c:Cx} {fr:Fr} {tmps:Array Value} {w':World} (h:FR c fr tmps) (ht:ss c.w w'):FR { c with w:=w' } fr tmps:=fun t=>VR.iX ht (h t)
theorem FR.aAr {c:Cx} {fr:Fr} {tmps tmps':Array Value} (h:FR c fr tmps) (hk:∀t,cu fr t≠ .any->tmps'.getD t undef=tmps.getD t undef):FR c fr tmps':=fun t=>by
 by_cases e:cu fr t= .any
 ·rw[e,VR];trivial
 ·rw[hk t e];exact h t
theorem rv {a:Act} {d t:Nat} {v:Value} (h:t≠d):(a.put (some d) v).tmps.getD t undef=a.tmps.getD t undef:=by
 simp only[Act.put]
 simp[Array.getD_eq_getD_getElem?,Array.getElem?_setIfInBounds,Ne.symm h]
theorem N3 {a:Act} {d:Nat} {v:Value} (h:d<a.tmps.size):(a.put (some d) v).tmps.getD d undef=v:=by
 simp[Act.put,Array.getD_eq_getD_getElem?,Array.getElem?_setIfInBounds,h]
theorem A1 {P:Program} (w:World) (ty:TypeId) (it bm since c0:Nat) (seen:Array Nat) (es:Array MapEntry) (clock:Nat) (hi:w.heap[it]?=some (.mapIter (some bm) since seen c0)) (hb:w.heap[bm]?=some (.map es clock)) (hold:∀x∈es.toList,x.born<since) (hsc:since<=c0):
 ((leftOf es seen).size=0/\(Instr.next (.pointer (some ⟨it,0,none⟩)) false ty).run P w= .ok (.tuple #[.bool false]) w)\/
 ∃e∈(leftOf es seen).toList,∃w1:World,qz w w1 it/\w1.heap.size=w.heap.size/\w1.heap[it]?=some (.mapIter (some bm) since (seen.push e.born) clock)/\(Instr.next (.pointer (some ⟨it,0,none⟩)) false ty).run P w= .ok (.tuple #[.bool true,e.key,e.val]) w1:=by
 have hlt:it<w.heap.size:=(Array.getElem?_eq_some_iff.1 hi).1
 simp only[Instr.next,getObj,Sem.run_bind,Sem.run,hi,hb,Result.andThen,next_test_false seen es since c0 hold hsc,Bool.false_eq_true,if_false]
 unfold leftOf
 have hmem:∀x∈(Array.filter (fun e=> !seen.contains e.born) es).toList,x.born<since:=fun x hx=>hold x (by simp at hx ⊢;exact hx.1)
 generalize Array.filter (fun e=> !seen.contains e.born) es=L at hmem ⊢
 have e1:L.filter (fun x=>decide (x.born<since))=L:=Array.filter_eq_self.2 (fun x hx=>by simpa using hmem x (by simpa using hx))
 have e2:L.filter (fun x=>decide (x.born≥since))=#[]:=by
  rw[Array.filter_eq_empty_iff]
  intro x hx
  have:=hmem x (by simpa using hx)
  simp
  omega
 simp only[e1,e2,Array.append_empty]
 by_cases h0:L.size=0
 ·left
  have:L=#[]:=Array.eq_empty_of_size_eq_zero h0
  subst this
  refine⟨rfl, ?_⟩
  simp[choose,Sem.run,Question.forced]
 ·right
  have hne:L.isEmpty=false:=by simp[Array.isEmpty,h0]
  simp only[hne,Bool.false_eq_true,if_false,Array.empty_append,Array.size_map]
  have hch:∃(j:Nat) (w1:World),j<L.size/\(w1.heap=w.heap/\w1.os=w.os/\w1.tape=w.tape/\w1.output=w.output)/\(choose (Question.mapNext L.size)).run P w= .ok j w1:=by
   by_cases hf:L.size<=1
   ·exact⟨0,w,by omega,⟨rfl,rfl,rfl,rfl⟩,by simp[choose,Sem.run,Question.forced,hf]⟩
   ·exact⟨_,w.drew,Nat.mod_lt _ (by omega),⟨rfl,rfl,rfl,rfl⟩,by
     simp only[choose,Sem.run,Question.forced,decide_eq_true_eq,hf,if_false,Question.cut]
     rfl⟩
  obtain⟨j,w1,hj,⟨a1,a2,a3,a4⟩,hrun⟩:=hch
  refine⟨L[j],by simp,{ w1 with heap:=w1.heap.setIfInBounds it (.mapIter (some bm) since (seen.push L[j].born) clock) },⟨a2,a3,a4,by simp[a1],fun k hk hne=>by simp[a1,Array.getElem?_setIfInBounds,Ne.symm hne],fun _=>⟨_,_,_,_,hi⟩⟩,by simp[a1],by simp[a1,hlt], ?_⟩
  have hset:∀(o':Obj),(setObj it o').run P w1= .ok () { w1 with heap:=w1.heap.setIfInBounds it o' }:=fun o'=>by
   simp only[setObj,Sem.run,a1,hi]
  simp only[hrun,Array.getElem?_map,Array.getElem?_eq_getElem hj,Option.map_some,Sem.run_bind,hset,Result.andThen]
  rfl
theorem yE {P:Program} (w:World) (it bm since:Nat) (seen:Array Nat) (es:Array MapEntry) (clock:Nat) (e:MapEntry) (hi:w.heap[it]?=some (.mapIter (some bm) since (seen.push e.born) clock)) (hb:w.heap[bm]?=some (.map es clock)) (he:e∈es.toList) (hn:(es.toList.map (·.born)).Nodup):
 (Instr.entry (.pointer (some ⟨it,0,none⟩))).run P w= .ok (.tuple #[e.key,e.val]) w:=by
 have hf:es.find? (·.born==e.born)=some e:=by rw[<-Array.find?_toList];exact find_born e es.toList hn he
 simp only[Instr.entry,getObj,Sem.run_bind,Sem.run,hi,hb,Result.andThen,Array.back?_push,bne_self_eq_false,Bool.false_eq_true,if_false,hf]
 rfl
end Go.dA
namespace Go.Proofs
open Go.Shelf
def Tryz.J1:Go.Shelf.Ren:=⟨fun|5=>40|8=>82|7=>81|19=>141|20=>142|10=>132|11=>133|12=>134|13=>135|14=>136|15=>137|16=>138|17=>139|18=>140|30=>172|31=>173|32=>174|33=>175|34=>176|35=>104|40=>200|n=>n,fun|23=>31|25=>3|3=>3|32=>142|22=>31|0=>0|44=>132|46=>206|4=>4|36=>198|35=>197|41=>203|5=>5|9=>9|53=>231|57=>235|63=>266|64=>267|n=>n,fun|n=>n⟩
theorem Tryz.eU:Go.Proofs.SlLaysM.n5 Tryz.prog Tryz.J1:={
 mixed:=by kernel_rfl
 f5:=⟨Tryz.f40.name,by decide,Tryz.func40.trans (congrArg some (by kernel_rfl))⟩
 f7:=⟨Tryz.f81.name,by decide,Tryz.func81.trans (congrArg some (by kernel_rfl))⟩
 f8:=Tryz.func82.trans (congrArg some (by kernel_rfl))
 f10:=⟨Tryz.f132.name,by decide,Tryz.func132.trans (congrArg some (by kernel_rfl))⟩
 f11:=⟨Tryz.f133.name,by decide,Tryz.func133.trans (congrArg some (by kernel_rfl))⟩
 f12:=⟨Tryz.f134.name,by decide,Tryz.func134.trans (congrArg some (by kernel_rfl))⟩
 f13:=⟨Tryz.f135.name,by decide,Tryz.func135.trans (congrArg some (by kernel_rfl))⟩
 f14:=⟨Tryz.f136.name,by decide,Tryz.func136.trans (congrArg some (by kernel_rfl))⟩
 f15:=⟨Tryz.f137.name,by decide,Tryz.func137.trans (congrArg some (by kernel_rfl))⟩
 f16:=⟨Tryz.f138.name,by decide,Tryz.func138.trans (congrArg some (by kernel_rfl))⟩
 f17:=⟨Tryz.f139.name,by decide,Tryz.func139.trans (congrArg some (by kernel_rfl))⟩
 f18:=⟨Tryz.f140.name,by decide,Tryz.func140.trans (congrArg some (by kernel_rfl))⟩
 f19:=Tryz.func141.trans (congrArg some (by kernel_rfl))
 f20:=Tryz.func142.trans (congrArg some (by kernel_rfl))
 f30:=⟨Tryz.f172.name,by decide,Tryz.func172.trans (congrArg some (by kernel_rfl))⟩
 f31:=Tryz.func173.trans (congrArg some (by kernel_rfl))
 f32:=Tryz.func174.trans (congrArg some (by kernel_rfl))
 f33:=⟨Tryz.f175.name,by decide,Tryz.func175.trans (congrArg some (by kernel_rfl))⟩
 f34:=⟨Tryz.f176.name,by decide,Tryz.func176.trans (congrArg some (by kernel_rfl))⟩
 f35:=⟨Tryz.f104.name,by decide,Tryz.func104.trans (congrArg some (by kernel_rfl))⟩
 f40:=⟨Tryz.f200.name,by decide,Tryz.func200.trans (congrArg some (by kernel_rfl))⟩
 t0:=Tryz.underlying0
 a0:=Tryz.isAgg0
 z0:=Tryz.sizeOf0
 v0:=Tryz.zeroValue0
 t3:=Tryz.underlying3
 a3:=Tryz.isAgg3
 z3:=Tryz.sizeOf3
 v3:=Tryz.zeroValue3
 t4:=Tryz.underlying4
 a4:=Tryz.isAgg4
 z4:=Tryz.sizeOf4
 v4:=Tryz.zeroValue4
 t5:=Tryz.underlying5
 a5:=Tryz.isAgg5
 z5:=Tryz.sizeOf5
 v5:=Tryz.zeroValue5
 t9:=Tryz.underlying9
 a9:=Tryz.isAgg9
 z9:=Tryz.sizeOf9
 v9:=Tryz.zeroValue9
 t22:=Tryz.underlying31
 a22:=Tryz.isAgg31
 z22:=Tryz.sizeOf31
 v22:=Tryz.zeroValue31
 t23:=Tryz.underlying31
 a23:=Tryz.isAgg31
 z23:=Tryz.sizeOf31
 v23:=Tryz.zeroValue31
 t25:=Tryz.underlying3
 a25:=Tryz.isAgg3
 z25:=Tryz.sizeOf3
 v25:=Tryz.zeroValue3
 t32:=Tryz.underlying142
 a32:=Tryz.isAgg142
 z32:=Tryz.sizeOf142
 v32:=Tryz.zeroValue142
 t35:=Tryz.underlying197
 a35:=Tryz.isAgg197
 z35:=Tryz.sizeOf197
 v35:=Tryz.zeroValue197
 t36:=Tryz.underlying198
 a36:=Tryz.isAgg198
 z36:=Tryz.sizeOf198
 v36:=Tryz.zeroValue198
 t41:=Tryz.underlying203
 a41:=Tryz.isAgg203
 z41:=Tryz.sizeOf203
 v41:=Tryz.zeroValue203
 t44:=Tryz.underlying132
 a44:=Tryz.isAgg132
 z44:=Tryz.sizeOf132
 v44:=Tryz.zeroValue132
 t46:=Tryz.underlying206
 a46:=Tryz.isAgg206
 z46:=Tryz.sizeOf206
 v46:=Tryz.zeroValue206
 t53:=Tryz.underlying231
 a53:=Tryz.isAgg231
 z53:=Tryz.sizeOf231
 v53:=Tryz.zeroValue231
 t57:=Tryz.underlying235
 a57:=Tryz.isAgg235
 z57:=Tryz.sizeOf235
 v57:=Tryz.zeroValue235
 t63:=Tryz.underlying266
 a63:=Tryz.isAgg266
 z63:=Tryz.sizeOf266
 v63:=Tryz.zeroValue266
 t64:=Tryz.underlying267
 a64:=Tryz.isAgg267
 z64:=Tryz.sizeOf267
 v64:=Tryz.zeroValue267 }
end Go.Proofs
namespace Go.Proofs.YtjopoheligmmoaaGreatDoor
open Go Go.dA Go.Proofs Go.RowKit Go.Sort
set_option linter.unusedSimpArgs false
set_option linter.unusedVariables false
def eU (l:List Int):List Int:=l.mergeSort fun x y=>decide (x<=y)
theorem lr (l:List Int):(eU l).length=l.length:=List.length_mergeSort l
theorem J0 {l:List Int} {x:Int}:x∈eU l↔x∈l:=(List.mergeSort_perm l _).mem_iff
theorem ES {w0:World} {c:Cx} (hS:du w0 c) {b:Nat} {e:TypeId} {d:AV} {l:List Int} (hcb:c.H b=some (.row e 1 d (l.map i64))) (h0:l≠[]) (hl:l.length<4611686018427387904) {v:Value} (hv:VR c (.sl b l.length) v):
 Calls Tryz.prog 40 #[v] c.w fun en w'=>en= .returned (.tuple #[])/\du w0 ⟨c.ρ,fR c.H b (some (.row e 1 d ((eU l).map i64))),c.U,w',c.M0⟩/\c.le ⟨c.ρ,fR c.H b (some (.row e 1 d ((eU l).map i64))),c.U,w',c.M0⟩/\
  c.w.heap.size<=w'.heap.size/\∀i,i<c.w.heap.size->(∀o z,c.ρ b≠some (i,o,z))->w'.heap[i]?=c.w.heap[i]?:=by
 rw[VR] at hv
 obtain⟨hUb,a,cap,rfl,hr⟩:=hv
 obtain⟨_,hr2⟩:=hr _ _ _ _ hcb
 have hr3:=hr2 (by simp)
 obtain⟨_,_,hor⟩:=hS.jo b _ _ _ _ hcb (.inr (by omega))
 have hln:0<l.length:=List.length_pos_iff.2 h0
 rcases hor with⟨_,hes⟩|⟨blk,o,z,hρ,hlow,⟨arr,harr,hsz⟩,hlz,hrow⟩
 ·exact absurd (List.map_eq_nil_iff.1 hes) h0
 rcases hr3 with⟨h1,_,_⟩|⟨blk',o',z',h1,rfl,hc1,hc2,hc3,_⟩
 ·rw[hρ] at h1;cases h1
 rw[hρ] at h1
 cases h1
 have hblk:blk<c.w.heap.size:=(Array.getElem?_eq_some_iff.1 harr).1
 rw[List.length_map] at hlz
 have hcell:∀j,j<l.length->c.w.cell? ⟨blk,o+j,none⟩=some (.int .i64 (l.getD j 0)):=fun j hj=>by
  obtain⟨v,⟨hv1,hv2,_⟩,hv3⟩:=dv hrow j (by simpa using hj)
  rw[dI i64 l j .any hj,VR] at hv3
  have:=hv2 0 (by omega)
  rw[hv3] at this
  rw[Nat.mul_one,Nat.add_zero] at this
  rw[this];rfl
 have hHolds:Go.Sort.Holds (Value.int .i64) c.w blk o l.toArray:=fun j hj=>by
  have hj':j<l.length:=by simpa using hj
  refine⟨?_, ?_⟩
  ·rw[hcell j hj',getElem!_pos l.toArray j hj]
   simp[List.getD,hj']
  ·simp only[World.frozen?,harr]
   simp
 refine(AnyM.slices_Sort_int Tryz.eU blk o cap l c.w hHolds hblk hl).mono ?_
 rintro en w' ⟨rfl,n,os,hw'⟩
 change w'=grow (putRow (Value.int .i64) (Go.Sort.ahead c.w n) blk o (eU l).toArray) os at hw'
 have hlen:=lr l
 have hsz1:(putRow (Value.int .i64) (Go.Sort.ahead c.w n) blk o (eU l).toArray).heap.size=c.w.heap.size:=by simp[Go.Sort.ahead]
 have hold:∀i,i<c.w.heap.size->w'.heap[i]?=(putRow (Value.int .i64) (Go.Sort.ahead c.w n) blk o (eU l).toArray).heap[i]?:=fun i hi=>by
  rw[hw',heap_grow_old _ _ (by rw[hsz1];exact hi)]
 have hne:∀i,i<c.w.heap.size->i≠blk->w'.heap[i]?=c.w.heap[i]?:=fun i hi hn=>by
  rw[hold i hi]
  simp[putRow,mapBlock,Go.Sort.ahead,Array.getElem?_modify,Ne.symm hn]
 have hat:w'.heap[blk]?=some (.cells (putCells (Value.int .i64) o (eU l).toArray arr) e (0,0)):=by
  rw[hold blk hblk]
  simp[putRow,mapBlock,Go.Sort.ahead,Array.getElem?_modify,harr,onCells]
 have hHn:∀j,j<l.length->w'.cell? ⟨blk,o+j,none⟩=some (.int .i64 ((eU l).getD j 0)):=fun j hj=>by
  have h1:Go.Sort.Holds (Value.int .i64) (putRow (Value.int .i64) (Go.Sort.ahead c.w n) blk o (eU l).toArray) blk o (eU l).toArray:=
   holds_putRow _ _ _ _ l.toArray (eU l).toArray (fun j hj=>hHolds j hj) (by simp[hlen])
  have hj2:j<(eU l).toArray.size:=by simp[hlen];exact hj
  have h2:=(h1 j hj2).1
  rw[World.cell?_of_block (a:=⟨blk,o+j,none⟩) (hold blk hblk),h2,getElem!_pos _ j hj2]
  have hj3:j<(eU l).length:=by rw[hlen];exact hj
  simp[List.getD,hj3]
 have hss:c.w.heap.size<=w'.heap.size:=by
  rw[hw']
  have:(putRow (Value.int .i64) (Go.Sort.ahead c.w n) blk o (eU l).toArray).heap.size<=(grow (putRow (Value.int .i64) (Go.Sort.ahead c.w n) blk o (eU l).toArray) os).heap.size:=by simp[grow]
  rw[hsz1] at this
  exact this
 have hput:=hS.p6 (b:=b) (e:=e) (sz:=1) d (es:=(eU l).map i64) (w':=w') (blk:=blk) (o:=o) (z:=z) (arr:=putCells (Value.int .i64) o (eU l).toArray arr) (by omega)
  (.inr ⟨_,_,_,hcb, .inl ⟨by simp[hlen],hρ⟩⟩) (.inr ⟨_,_,_,hcb,hρ⟩) (by rw[hw'];rfl) (by rw[hw'];rfl) (by rw[hw'];rfl) hss hne hat (by simpa[putCells] using hsz) (by simp[hlen];omega) (fun hle i hi=>by
   have hi':i<l.length:=by simpa[hlen] using hi
   refine⟨.int .i64 ((eU l).getD i 0),⟨rfl,fun j hj=> ?_,fun j u hu=> ?_⟩, ?_⟩
   ·have:j=0:=by omega
    subst this
    rw[Nat.mul_one,Nat.add_zero,hHn i hi'];rfl
   ·have:u= .int .i64 ((eU l).getD i 0):=by
     have:=List.mem_of_getElem? (l:=[Value.int .i64 ((eU l).getD i 0)]) (by simpa[Value.cells] using hu)
     simpa using this
    rw[this];rfl
   ·rw[dI i64 (eU l) i .any (by rw[hlen];exact hi'),VR];rfl)
 have hρe:fR c.ρ b (some (blk,o,z))=c.ρ:=by
  funext x
  by_cases hx:x=b
  ·subst hx;simp[hρ]
  ·exact eT _ _ hx
 have hUe:(fun x=>c.U x\/x=b)=c.U:=by
  funext x
  exact propext ⟨fun h=>h.elim id fun e=>e▸hUb, .inl⟩
 rw[hρe,hUe] at hput
 refine⟨rfl,hput.1,hput.2,hss,fun i hi hno=>hne i hi fun e=> ?_⟩
 subst e
 exact hno _ _ hρ
end Go.Proofs.YtjopoheligmmoaaGreatDoor
namespace Go.dA
open Go.RowKit
set_option linter.unusedSimpArgs false
set_option linter.unusedVariables false
theorem KI {P:Program} {c:Code} {Q:Exit->Act->World->Prop} {a:Act} {w:World} (I:Nat->Act->World->Prop) {m0:Nat} (h0:I m0 a w)
 (round:∀m a w,I m a w->c.wp P (Exit.then (fun a' w'=>∃m',m'<m/\I m' a' w') Q) a w):(Code.loop c).wp P Q a w:=by
 intro b k cs
 have key:∀m a w,I m a w->∃e a' w',Q e a' w'/\Arrives P (lone (b.at a (.code c:: .inLoop c::k)) cs w) b k cs e a' w':=by
  intro m
  induction m using Nat.strongRecOn with
  |_ m ih=>
   intro a w hI
   obtain⟨e,a1,w1,hq,harr⟩:=round m a w hI b (.inLoop c::k) cs
   cases e with
   |normal=>
    obtain⟨m',hlt,hI1⟩:=hq
    obtain⟨e2,a2,w2,hq2,harr2⟩:=ih m' hlt a1 w1 hI1
    exact⟨e2,a2,w2,hq2, .of_steps (Steps.trans harr (.one step_inLoop)) harr2⟩
   |exit id=>exact⟨_,a1,w1,hq, .pass (x:= .inLoop c) rfl (fun _ _=> .inl (by simp)) harr⟩
   |goto l=>exact⟨_,a1,w1,hq, .pass (x:= .inLoop c) rfl (fun _ _=> .inl (by simp)) harr⟩
   |ret=>exact⟨_,a1,w1,hq, .pass (x:= .inLoop c) rfl (fun _ _=> .inl (by simp)) harr⟩
   |panic ch=>exact⟨_,a1,w1,hq, .pass (x:= .inLoop c) rfl (fun _ _=> .inl (by simp)) harr⟩
   |outgrown=>exact⟨_,a1,w1,hq, .pass (x:= .inLoop c) rfl (fun _ _=> .inl (by simp)) harr⟩
 obtain⟨e,a',w',hq,harr⟩:=key m0 a w h0
 exact⟨e,a',w',hq, .of_steps (.one step_loop) harr⟩
def QW (a:Act):List (Nat×Value)->Act
 |[]=>a
 |(d,v)::r=>QW (a.put (some d) v) r
theorem u7 {t:Nat}:∀(l:List (Nat×Value)) (a:Act),(∀p∈l,t≠p.1)->(QW a l).tmps.getD t undef=a.tmps.getD t undef
 |[],a,_=>rfl
 |(d,v)::r,a,h=>by
  rw[QW,u7 r _ fun p hp=>h p (List.mem_cons_of_mem _ hp)]
  exact rv (h (d,v) (by simp))
theorem eD {a:Act} {d:Nat} {v:Value} (h:d<a.tmps.size):(a.put (some d) v).eval (.tmp d)=v:=N3 h
theorem da {a:Act} {d t:Nat} {v:Value} (h:t≠d):(a.put (some d) v).eval (.tmp t)=a.eval (.tmp t):=rv h
theorem yV {P:Program} {a:Act} {w:World} {o:Oper} {t kt e:TypeId} {x k:Operand} {d:TypeDesc} {str:Bool} {rr clk:Nat} {ms:Array MapEntry} {kv v:Value} {j:Nat} (ho:o.op= .lookup t x k false) (ht:P.underlying t=some (.map kt e)) (hu:P.underlying kt=some d) (hd:zm d=some str) (hok:k9 str kv=true)
 (hx:a.eval x= .map (some rr)) (hkk:a.eval k=kv) (hheap:w.heap[rr]?=some (.map ms clk)) (hf:Instr.findNow d kv ms.toList 0=some (some (j,v))):(execOp a.eval o).run P w= .ok (.value v) w:=by
 have hck:∀n,(Instr.checkKey ms.isEmpty (n+1) kt kv).run P w= .ok () w:=fun n=>qS hu hd hok _ n w
 have hget:=MapKept.run_getObj_map (P:=P) hheap
 have hfk:=lq (P:=P) hu hf w
 unfold execOp
 simp only[ho,Instr.lookup,Sem.run_bind,run_underlying ht,Result.andThen_ok,hx,hkk,hget,Sem.run_pure,hck,hfk]
 simp only[Sem.run_bind,Sem.run_pure,Result.andThen_ok,Bool.false_eq_true,if_false]
end Go.dA
namespace Go.Proofs.YtjopoheligmmoaaGreatDoor
open Go Go.dA Go.Proofs Go.RowKit
set_option linter.unusedSimpArgs false
set_option linter.unusedVariables false
def Code.l:Code->Code
 | .seq a _=>a
 |c=>c
def Code.r:Code->Code
 | .seq _ b=>b
 |c=>c
def S4 {P:Program} {f:Nat} {fn:Func} (_:P.funcs[f]?=some fn):Option Code:=fn.body
noncomputable def jb:Code:=(S4 Tryz.func15).getD .skip
noncomputable def Y1:Code:=Code.l (Code.r (Code.r (Code.r (Code.r (Code.r jb)))))
def fE (L:List (Int×Nat)) (S:Int->List Int):List AV:=L.map fun p=>oc (.int .i64 p.1) (.sl p.2 (S p.1).length)
structure BS (L:List (Int×Nat)) (S:Int->List Int) (mb nx lo n:Nat) (fr:Fr) (H:Hp) (w0:World) (M0:Nat->Prop) (c0:Cx) (V:List Int) (H':Hp) (ρ:Nat->Option (Nat×Nat×Nat)) (U:Nat->Prop) (seen:Array Nat) (r:Nat) (ms:Array MapEntry) (clk it:Nat) (a:Act) (w:World):Prop where
 size:a.tmps.size=n
 defers:a.defers=[]
 rows:∀p∈L,∃d,cC H' p.2=some (.row 3 1 d ((if p.1∈V then eU (S p.1) else S p.1).map i64))
 rest:∀b,b∉L.map (·.2)->cC H' b=cC H b
 names:∀b,U b->b<nx
 UB:du w0 ⟨ρ,cC H',U,w,M0⟩
 fr:FR ⟨ρ,cC H',U,w,M0⟩ fr a.tmps
 OW:nG c0 lo ⟨ρ,cC H',U,w,M0⟩
 at_:ρ mb=some (r,0,0)
 map:w.heap[r]?=some (.map ms clk)
 born:nB ms clk
 ents:gz ⟨ρ,cC H',U,w,M0⟩ (fE L S) ms.toList
 iter:w.heap[it]?=some (.mapIter (some r) clk seen clk)
 reg:a.eval (.tmp 50)= .pointer (some ⟨it,0,none⟩)
 low:w0.heap.size<=it
 TY:c0.w.heap.size<=it
section
structure yX (c:Code):Prop where
 ok:∃i1 i2 i3 i4 o1 o2 o3 o4 o5 o6 o7 o8 o9 o10 o11,c= .seq (.region i1 #[o1,o2] false) (.block 2 (.loop (.seq (.region i2 #[o3,o4] false) (.seq (.cond (.tmp 52) .skip (.exit 2)) (.block 3 (.seq (.region i3 #[o5,o6,o7] false) (.region i4 #[o8,o9,o10,o11] false)))))))/\
  (o1.op= .move (.tmp 7)/\o1.dst=some 49/\o1.guard=none)/\(o2.op= .range 76 (.tmp 49)/\o2.dst=some 50/\o2.guard=none)/\
  (o3.op= .next (.tmp 50) false/\o3.dst=some 51/\o3.guard=none)/\(o4.op= .extract (.tmp 51) 0/\o4.dst=some 52/\o4.guard=none)/\
  (o5.op= .entry (.tmp 50)/\o5.dst=some 53/\o5.guard=none)/\(o6.op= .extract (.tmp 53) 0/\o6.dst=some 54/\o6.guard=none)/\(o7.op= .assign (.tmp 54)/\o7.dst=some 10/\o7.guard=none)/\
  (o8.op= .move (.tmp 7)/\o8.dst=some 55/\o8.guard=none)/\(o9.op= .move (.tmp 10)/\o9.dst=some 56/\o9.guard=none)/\(o10.op= .lookup 76 (.tmp 55) (.tmp 56) false/\o10.dst=some 57/\o10.guard=none)/\
  (o11.op= .call { callee:= .value (.func 40),args:=#[.tmp 57],argTypes:=#[31] }/\o11.dst=some 58/\o11.guard=none)
set_option maxRecDepth 100000 in
theorem JU:yX Y1:=⟨⟨_,_,_,_,_,_,_,_,_,_,_,_,_,_,_,rfl,⟨rfl,rfl,rfl⟩,⟨rfl,rfl,rfl⟩,⟨rfl,rfl,rfl⟩,⟨rfl,rfl,rfl⟩,⟨rfl,rfl,rfl⟩,⟨rfl,rfl,rfl⟩,⟨rfl,rfl,rfl⟩,⟨rfl,rfl,rfl⟩,⟨rfl,rfl,rfl⟩,⟨rfl,rfl,rfl⟩,⟨rfl,rfl,rfl⟩⟩⟩
theorem wY (L:List (Int×Nat)) (S:Int->List Int):(fE L S).length=L.length:=by simp[fE]
theorem pY {S:Int->List Int}:∀(L:List (Int×Nat)) (i:Nat) (p:Int×Nat),p∈L->(L.map (·.1)).Nodup->∃j,fJ false (.int .i64 p.1) (fE L S) i=some (some (j, .sl p.2 (S p.1).length))
 |[],_,p,h,_=>by cases h
 |q::r,i,p,h,hn=>by
  rw[List.map_cons,List.nodup_cons] at hn
  show ∃j,fJ false (.int .i64 p.1) (oc (.int .i64 q.1) (.sl q.2 (S q.1).length)::fE r S) i=_
  rcases List.mem_cons.1 h with rfl|h
  ·exact⟨i,by simp[fJ,tg,oc,DB]⟩
  ·have hne:p.1≠q.1:=fun e=>hn.1 (by rw[<-e];exact List.mem_map.2 ⟨p,h,rfl⟩)
   obtain⟨j,hj⟩:=pY r (i+1) p h hn.2
   exact⟨j,by simp[fJ,tg,oc,DB,hne];exact hj⟩
theorem NH {c:Cx} {L:List (Int×Nat)} {S:Int->List Int} {ms:List MapEntry} (h:gz c (fE L S) ms) {e:MapEntry} (he:e∈ms):∃p∈L,e.key= .int .i64 p.1/\VR c (.sl p.2 (S p.1).length) e.val:=by
 rw[lO] at h
 obtain⟨i,hi,rfl⟩:=List.getElem_of_mem he
 have hl:i<L.length:=by rw[<-wY L S,h.1];exact hi
 have:=h.2 i (oc (.int .i64 L[i].1) (.sl L[i].2 (S L[i].1).length)) ms[i] (by simp[fE,hl]) (by simp[hi])
 obtain⟨h1,h2⟩:=tj.1 this
 exact⟨L[i],List.getElem_mem hl,h1,h2⟩
theorem NG {c:Cx} {L:List (Int×Nat)} {S:Int->List Int} {ms:List MapEntry} (h:gz c (fE L S) ms) {p:Int×Nat} (hp:p∈L):∃e∈ms,e.key= .int .i64 p.1:=by
 rw[lO] at h
 obtain⟨i,hi,rfl⟩:=List.getElem_of_mem hp
 have hl:i<ms.length:=by rw[<-h.1,wY];exact hi
 have:=h.2 i (oc (.int .i64 L[i].1) (.sl L[i].2 (S L[i].1).length)) ms[i] (by simp[fE,hi]) (by simp[hl])
 obtain⟨h1,_⟩:=tj.1 this
 exact⟨ms[i],List.getElem_mem hl,h1⟩
section
variable {L:List (Int×Nat)} {S:Int->List Int} {mb nx lo n:Nat} {fr:Fr} {H:Hp} {w0:World} {M0:Nat->Prop} {c0:Cx} {V:List Int} {H':Hp} {ρ:Nat->Option (Nat×Nat×Nat)} {U:Nat->Prop} {seen:Array Nat} {r:Nat} {ms:Array MapEntry} {clk it:Nat} {a:Act} {w:World}
def vS:List Nat:=[10,49,50,51,52,53,54,55,56,57,58]
theorem qH {c:Cx} (hfree:∀t∈vS,cu fr t= .any) (h:FR c fr a.tmps) (l:List (Nat×Value)) (hl:∀p∈l,p.1∈vS):FR c fr (QW a l).tmps:=
 h.aAr fun t ht=>u7 l a fun p hp e=>ht (hfree t (e▸hl p hp))
theorem BS.sorted (hI:BS L S mb nx lo n fr H w0 M0 c0 V H' ρ U seen r ms clk it a w) (hfree:∀t∈vS,cu fr t= .any) (hb:(L.map (·.2)).Nodup) (hk:(L.map (·.1)).Nodup) (hmb:mb∉L.map (·.2)) (hmap:∃d,cC H mb=some (.row 3 0 d (mapA (fE L S)))) (hS:∀p∈L,S p.1≠[]/\(S p.1).length<4611686018427387904) {p:Int×Nat} (hp:p∈L) {v:Value}
 (hv:VR ⟨ρ,cC H',U,w,M0⟩ (.sl p.2 (S p.1).length) v) {a2:Act} (hsz:a2.tmps.size=n) (hdf:a2.defers=[]) (hfr:FR ⟨ρ,cC H',U,w,M0⟩ fr a2.tmps) (hreg:a2.eval (.tmp 50)= .pointer (some ⟨it,0,none⟩)):
 Calls Tryz.prog 40 #[v] w fun en w'=>en= .returned (.tuple #[])/\∀u,∃H2,BS L S mb nx lo n fr H w0 M0 c0 (p.1::V) H2 ρ U seen r ms clk it (a2.put (some 58) u) w':=by
 obtain⟨d,hrow⟩:=hI.rows p hp
 obtain⟨s0,s1⟩:=hS p hp
 have hlen:(if p.1∈V then Go.Proofs.YtjopoheligmmoaaGreatDoor.eU (S p.1) else S p.1).length=(S p.1).length:=by split<;>simp[lr]
 have hsort:Go.Proofs.YtjopoheligmmoaaGreatDoor.eU (if p.1∈V then Go.Proofs.YtjopoheligmmoaaGreatDoor.eU (S p.1) else S p.1)=Go.Proofs.YtjopoheligmmoaaGreatDoor.eU (S p.1):=by
  split
  ·exact List.mergeSort_of_pairwise (by
    have:=List.pairwise_mergeSort (le:=fun x y:Int=>decide (x<=y)) (fun a b c h1 h2=>by simp at *;omega) (fun a b=>by simp;omega) (S p.1)
    simpa[Go.Proofs.YtjopoheligmmoaaGreatDoor.eU] using this)
  ·rfl
 refine(ES (l:=if p.1∈V then Go.Proofs.YtjopoheligmmoaaGreatDoor.eU (S p.1) else S p.1) hI.UB hrow (fun e=>by
  have:=congrArg List.length e
  rw[hlen] at this
  exact s0 (List.eq_nil_of_length_eq_zero this)) (by rw[hlen];exact s1) (by rw[hlen];exact hv)).mono ?_
 rintro en w' ⟨rfl,g1,g2,g3,g4⟩
 rw[hsort] at g1 g2
 refine⟨rfl,fun u=>⟨(p.2,some (.row 3 1 d ((Go.Proofs.YtjopoheligmmoaaGreatDoor.eU (S p.1)).map i64)))::H', ?_⟩⟩
 have hHe:cC ((p.2,some (.row 3 1 d ((Go.Proofs.YtjopoheligmmoaaGreatDoor.eU (S p.1)).map i64)))::H')=fR (cC H') p.2 (some (.row 3 1 d ((Go.Proofs.YtjopoheligmmoaaGreatDoor.eU (S p.1)).map i64))):=dh H' p.2 (.row 3 1 d ((Go.Proofs.YtjopoheligmmoaaGreatDoor.eU (S p.1)).map i64))
 have hl2:∀q∈L,q.2=p.2->q=p:=fun q hq e=>by
  obtain⟨i,hi,rfl⟩:=List.getElem_of_mem hq
  obtain⟨j,hj,rfl⟩:=List.getElem_of_mem hp
  have:=(List.getElem_inj (xs:=L.map (·.2)) (h₀:=by simpa using hi) (h₁:=by simpa using hj) hb).1 (by simpa using e)
  subst this;rfl
 have hl1:∀q∈L,q.1=p.1->q=p:=fun q hq e=>by
  obtain⟨i,hi,rfl⟩:=List.getElem_of_mem hq
  obtain⟨j,hj,rfl⟩:=List.getElem_of_mem hp
  have:=(List.getElem_inj (xs:=L.map (·.1)) (h₀:=by simpa using hi) (h₁:=by simpa using hj) hk).1 (by simpa using e)
  subst this;rfl
 have hpm:p.2∈L.map (·.2):=List.mem_map.2 ⟨p,hp,rfl⟩
 obtain⟨p1,p2⟩:=dL a2 (some 58) u
 have hmrow:cC H' mb=cC H mb:=hI.rest mb hmb
 obtain⟨dm,hmap⟩:=hmap
 have hrne:∀o z,ρ p.2≠some (r,o,z):=fun o z e=>hmb (by
  have:=hI.UB.inj mb p.2 _ _ r 0 0 o z (hmrow.trans hmap) hrow hI.at_ e
  rw[this];exact hpm)
 have hine:∀o z,ρ p.2≠some (it,o,z):=fun o z e=>by
  obtain⟨_,_,hor⟩:=hI.UB.jo p.2 _ _ _ _ hrow (.inr (by omega))
  rcases hor with⟨h0,_⟩|⟨blk,o',z',h0,_,⟨arr,h1,_⟩,_⟩
  ·simp only at h0;rw[e] at h0;cases h0
  ·simp only at h0 h1;rw[e] at h0;cases h0;rw[hI.iter] at h1;cases h1
 refine⟨p1.trans hsz,p2.trans hdf,fun q hq=> ?_,fun b hbn=> ?_,hI.names,by rw[hHe];exact g1, ?_,by rw[hHe];exact hI.OW.to g2,hI.at_,(g4 r (Array.getElem?_eq_some_iff.1 hI.map).1 hrne).trans hI.map,hI.born, ?_,(g4 it (Array.getElem?_eq_some_iff.1 hI.iter).1 hine).trans hI.iter,(da (by decide)).trans hreg,hI.low,hI.TY⟩
 ·by_cases e:q.2=p.2
  ·have:=hl2 q hq e
   subst this
   exact⟨d,by simp[cC]⟩
  ·obtain⟨dq,hq2⟩:=hI.rows q hq
   refine⟨dq, ?_⟩
   simp only[cC,if_neg e]
   rw[hq2]
   have hne:q.1≠p.1:=fun e1=>e (by rw[hl1 q hq e1])
   simp[List.mem_cons,hne]
 ·have:b≠p.2:=fun e=>hbn (e▸hpm)
  simp only[cC,if_neg this]
  exact hI.rest b hbn
 ·rw[hHe]
  intro t
  have:=VR.cd g2 (hfr t)
  by_cases e:t=58
  ·rw[e,hfree 58 (by decide),VR];trivial
  ·rw[rv e];exact this
 ·rw[hHe]
  exact ct.cd g2 hI.ents
end
end
theorem IY {ms:Array MapEntry} {seen:Array Nat} {e:MapEntry} (he:e∈(leftOf ms seen).toList):(leftOf ms (seen.push e.born)).size<(leftOf ms seen).size:=left_shrinks ms seen e he
set_option maxHeartbeats 2000000 in
theorem UA {L:List (Int×Nat)} {S:Int->List Int} {mb nx lo n:Nat} {fr:Fr} {H:Hp} {Q:QT} {code:Code} (hcode:yX code) (hn:58<n) (hreg:cu fr 7= .mp mb) (hfree:∀t∈vS,cu fr t= .any)
 (hb:(L.map (·.2)).Nodup) (hk:(L.map (·.1)).Nodup) (hmb:mb∉L.map (·.2)) (hmap:∃d,cC H mb=some (.row 3 0 d (mapA (fE L S)))) (hrow:∀p∈L,∃d,cC H p.2=some (.row 3 1 d ((S p.1).map i64)))
 (hS:∀p∈L,S p.1≠[]/\(S p.1).length<4611686018427387904)
 (hQ:∀H',(∀p∈L,∃d,cC H' p.2=some (.row 3 1 d ((Go.Proofs.YtjopoheligmmoaaGreatDoor.eU (S p.1)).map i64)))->(∀b,b∉L.map (·.2)->cC H' b=cC H b)->Q .normal fr H' nx):WC Tryz.prog n lo code fr H nx Q:=by
 obtain⟨i1,i2,i3,i4,o1,o2,o3,o4,o5,o6,o7,o8,o9,o10,o11,rfl,⟨a1,b1,g1⟩,⟨a2,b2,g2⟩,⟨a3,b3,g3⟩,⟨a4,b4,g4⟩,⟨a5,b5,g5⟩,⟨a6,b6,g6⟩,⟨a7,b7,g7⟩,⟨a8,b8,g8⟩,⟨a9,b9,g9⟩,⟨a10,b10,g10⟩,a11,b11,g11⟩:=hcode.ok
 intro w0 M0 c0 a w hh
 obtain⟨hsz,hdf,ρ,U,hU,hSim,hF,hT⟩:=hh
 obtain⟨dm,hmap'⟩:=hmap
 -- the map as it stands
 obtain⟨hUm,rr,x,ms,clk,h0,h1,h2,h3,h4,h5⟩:=hSim.Y2 hmap'
 simp only[mapA,List.cons.injEq,and_true] at h3
 subst h3
 have hE:=gz.of_map h4
 have h7:a.eval (.tmp 7)= .map (some rr):=by
  have:=hF 7
  rw[hreg,VR] at this
  obtain⟨_,r',hr',hrest⟩:=this
  obtain⟨_,hr2⟩:=hrest _ _ _ _ hmap'
  obtain⟨o,z,hρ⟩:=hr2 (by simp[mapA])
  simp only at h0 hρ
  rw[h0] at hρ
  cases hρ
  exact hr'
 -- the range begins
 refine wp_seq (wp_region_list ?_)
 refine fU g1 (v:= .map (some rr)) (w':=w) (by unfold execOp;simp[a1,h7]) ?_
 rw[b1]
 have e49:(a.put (some 49) (.map (some rr))).eval (.tmp 49)= .map (some rr):=eD (by omega)
 have hrun:=run_range_map (P:=Tryz.prog) w 76 3 31 rr ms clk Tryz.underlying76 h2
 refine fU g2 (v:= .pointer (some ⟨w.heap.size,0,none⟩)) (w':=w.alloc (.mapIter (some rr) clk #[] clk)) (by unfold execOp;simp[a2,e49,hrun,Result.andThen]) ?_
 rw[b2]
 refine wpList_nil ?_
 have hturn:qz w (w.alloc (.mapIter (some rr) clk #[] clk)) w.heap.size:=⟨rfl,rfl,rfl,by show w.heap.size<=(w.heap.push _).size;rw[Array.size_push];omega,fun k hk _=>heap_alloc_old w _ hk,fun h=>by omega⟩
 have hlow:w0.heap.size<=w.heap.size:=hSim.below.size
 have hlow0:c0.w.heap.size<=w.heap.size:=hT.2.sz
 have hsz2:((a.put (some 49) (.map (some rr))).put (some 50) (.pointer (some ⟨w.heap.size,0,none⟩))).tmps.size=n:=by
  rw[(dL _ _ _).1,(dL _ _ _).1];exact hsz
 have hstart:BS L S mb nx lo n fr H w0 M0 c0 [] H ρ U #[] rr ms clk w.heap.size ((a.put (some 49) (.map (some rr))).put (some 50) (.pointer (some ⟨w.heap.size,0,none⟩))) (w.alloc (.mapIter (some rr) clk #[] clk)):=by
  refine⟨hsz2, ?_,fun p hp=>by simpa using hrow p hp,fun _ _=>rfl,hU,hSim.iX hturn hlow,(qH hfree hF [(49, .map (some rr)),(50, .pointer (some ⟨w.heap.size,0,none⟩))] (by simp[vS])).iX hturn.at_,hT.iX hturn hlow0,h0, ?_,h5,ct.iX hturn.at_ hE,heap_alloc_new w _, ?_,hlow,hlow0⟩
  ·rw[(dL _ _ _).2,(dL _ _ _).2];exact hdf
  ·rw[heap_alloc_old w _ (Array.getElem?_eq_some_iff.1 h2).1];exact h2
  ·exact eD (by rw[(dL _ _ _).1];omega)
 generalize (a.put (some 49) (.map (some rr))).put (some 50) (.pointer (some ⟨w.heap.size,0,none⟩))=a0 at hstart ⊢
 generalize w.alloc (.mapIter (some rr) clk #[] clk)=wst at hstart ⊢
 generalize w.heap.size=it at hstart
 clear hturn hlow hlow0 hsz2 hrun e49 h7 hE h4 h2 h1 h0 hF hSim hT
 show(Code.block 2 (.loop _)).wp Tryz.prog _ a0 wst
 refine wp_block ?_
 refine KI (fun m a w=>∃V H' ρ U seen ms clk it,BS L S mb nx lo n fr H w0 M0 c0 V H' ρ U seen rr ms clk it a w/\(∀m∈ms.toList,seen.contains m.born=true->∃k∈V,m.key= .int .i64 k)/\m=(leftOf ms seen).size) ⟨[],H,ρ,U,#[],ms,clk,it,hstart,fun m _ hs=>by simp at hs,rfl⟩ ?_
 clear hstart
 rintro m a w ⟨V,H',ρ,U,seen,ms,clk,it,hI,hgot,rfl⟩
 refine wp_seq (wp_region_list ?_)
 have hsz:=hI.size
 have hreg50:=hI.reg
 rcases A1 (P:=Tryz.prog) w o3.type it rr clk clk seen ms clk hI.iter hI.map hI.born.1 (Nat.le_refl _) with⟨hz,hrun⟩|⟨e,he,w1,hturn,hws,hi1,hrun⟩
 · -- nothing is left
  refine fU g3 (v:= .tuple #[.bool false]) (w':=w) (by unfold execOp;simp[a3,hreg50,hrun,Result.andThen]) ?_
  rw[b3]
  have e51:(a.put (some 51) (.tuple #[.bool false])).eval (.tmp 51)= .tuple #[.bool false]:=eD (by omega)
  refine fU g4 (v:= .bool false) (w':=w) (by unfold execOp;simp[a4,e51,Instr.extract]) ?_
  rw[b4]
  refine wpList_nil ?_
  have e52:((a.put (some 51) (.tuple #[.bool false])).put (some 52) (.bool false)).eval (.tmp 52)= .bool false:=eD (by rw[(dL _ _ _).1];omega)
  show(Code.seq _ _).wp Tryz.prog _ _ w
  refine wp_seq (wp_cond_false e52 (wp_exit ?_))
  simp only[Exit.then,Exit.inBlock,if_true]
  refine⟨.normal,fr,H',nx,rfl,hQ H' (fun p hp=> ?_) hI.rest, ?_, ?_,ρ,U,hI.names,hI.UB,qH hfree hI.fr [(51, .tuple #[.bool false]),(52, .bool false)] (by simp[vS]),hI.OW⟩
  ·obtain⟨d,hd⟩:=hI.rows p hp
   obtain⟨e,he,hek⟩:=NG hI.ents hp
   obtain⟨k,hkV,hke⟩:=hgot e he (all_seen ms seen hz e he)
   rw[hek] at hke
   simp only[Value.int.injEq,true_and] at hke
   rw[hke,if_pos hkV] at hd
   exact⟨d,by rw[hke];exact hd⟩
  ·rw[(dL _ _ _).1,(dL _ _ _).1];exact hsz
  ·rw[(dL _ _ _).2,(dL _ _ _).2];exact hI.defers
 · -- an entry comes
  obtain⟨hem,hes⟩:=mem_left he
  obtain⟨p,hp,hek,hev⟩:=NH hI.ents hem
  refine fU g3 (v:= .tuple #[.bool true,e.key,e.val]) (w':=w1) (by unfold execOp;simp[a3,hreg50,hrun,Result.andThen]) ?_
  rw[b3]
  have e51:(a.put (some 51) (.tuple #[.bool true,e.key,e.val])).eval (.tmp 51)= .tuple #[.bool true,e.key,e.val]:=eD (by omega)
  refine fU g4 (v:= .bool true) (w':=w1) (by unfold execOp;simp[a4,e51,Instr.extract]) ?_
  rw[b4]
  refine wpList_nil ?_
  have hI1:BS L S mb nx lo n fr H w0 M0 c0 V H' ρ U seen rr ms clk it a w:=hI
  -- the situation behind the step, but for the registers
  have hrm:w1.heap[rr]?=some (.map ms clk):=by
   rw[hturn.cd rr (Array.getElem?_eq_some_iff.1 hI.map).1 fun e2=>by have:=hI.iter;rw[<-e2,hI.map] at this;cases this]
   exact hI.map
  have hent:=yE (P:=Tryz.prog) w1 it rr clk seen ms clk e hi1 hrm hem hI.born.2
  generalize hA2:(a.put (some 51) (.tuple #[.bool true,e.key,e.val])).put (some 52) (.bool true)=A2
  have s2:A2.tmps.size=n:=by rw[<-hA2,(dL _ _ _).1,(dL _ _ _).1];exact hsz
  have d2:A2.defers=[]:=by rw[<-hA2,(dL _ _ _).2,(dL _ _ _).2];exact hI.defers
  have e52:A2.eval (.tmp 52)= .bool true:=by rw[<-hA2];exact eD (by rw[(dL _ _ _).1];omega)
  have r2:A2.eval (.tmp 50)= .pointer (some ⟨it,0,none⟩):=by rw[<-hA2,da (by decide),da (by decide)];exact hreg50
  have f2:FR ⟨ρ,cC H',U,w1,M0⟩ fr A2.tmps:=by rw[<-hA2];exact(qH hfree hI.fr [(51, .tuple #[.bool true,e.key,e.val]),(52, .bool true)] (by simp[vS])).iX hturn.at_
  have sim1:du w0 ⟨ρ,cC H',U,w1,M0⟩:=hI.UB.iX hturn hI.low
  have trk1:nG c0 lo ⟨ρ,cC H',U,w1,M0⟩:=hI.OW.iX hturn hI.TY
  have ent1:gz ⟨ρ,cC H',U,w1,M0⟩ (fE L S) ms.toList:=ct.iX (c:=⟨ρ,cC H',U,w,M0⟩) hturn.at_ hI.ents
  have m7:A2.eval (.tmp 7)= .map (some rr):=by
   have:=f2 7
   rw[hreg,VR] at this
   obtain⟨_,r',hr',hrest⟩:=this
   obtain⟨_,hr2⟩:=hrest _ _ _ _ ((hI.rest mb hmb).trans hmap')
   obtain⟨o,z,hρ⟩:=hr2 (by simp[mapA])
   have h0:=hI.at_
   simp only at h0 hρ
   rw[h0] at hρ
   cases hρ
   exact hr'
  clear hA2
  show(Code.seq _ _).wp Tryz.prog _ A2 w1
  refine wp_seq (wp_cond_true e52 (wp_skip ?_))
  show(Code.block 3 _).wp Tryz.prog _ A2 w1
  refine wp_block (wp_seq (wp_region_list ?_))
  refine fU g5 (v:= .tuple #[e.key,e.val]) (w':=w1) (by unfold execOp;simp[a5,r2,hent,Result.andThen]) ?_
  rw[b5]
  have e53:(A2.put (some 53) (.tuple #[e.key,e.val])).eval (.tmp 53)= .tuple #[e.key,e.val]:=eD (by omega)
  refine fU g6 (v:=e.key) (w':=w1) (by unfold execOp;simp[a6,e53,Instr.extract]) ?_
  rw[b6]
  have e54:((A2.put (some 53) (.tuple #[e.key,e.val])).put (some 54) e.key).eval (.tmp 54)=e.key:=eD (by rw[(dL _ _ _).1];omega)
  refine fU g7 (v:=e.key) (w':=w1) (by unfold execOp;simp[a7,e54]) ?_
  rw[b7]
  refine wpList_nil ?_
  generalize hA3:((A2.put (some 53) (.tuple #[e.key,e.val])).put (some 54) e.key).put (some 10) e.key=A3
  have s3:A3.tmps.size=n:=by rw[<-hA3,(dL _ _ _).1,(dL _ _ _).1,(dL _ _ _).1];exact s2
  have d3:A3.defers=[]:=by rw[<-hA3,(dL _ _ _).2,(dL _ _ _).2,(dL _ _ _).2];exact d2
  have r3:A3.eval (.tmp 50)= .pointer (some ⟨it,0,none⟩):=by rw[<-hA3,da (by decide),da (by decide),da (by decide)];exact r2
  have m3:A3.eval (.tmp 7)= .map (some rr):=by rw[<-hA3,da (by decide),da (by decide),da (by decide)];exact m7
  have k3:A3.eval (.tmp 10)=e.key:=by rw[<-hA3];exact eD (by rw[(dL _ _ _).1,(dL _ _ _).1];omega)
  have f3:FR ⟨ρ,cC H',U,w1,M0⟩ fr A3.tmps:=by rw[<-hA3];exact qH hfree f2 [(53, .tuple #[e.key,e.val]),(54,e.key),(10,e.key)] (by simp[vS])
  clear hA3
  show(Code.region i4 _ false).wp Tryz.prog _ A3 w1
  refine wp_region_list ?_
  refine fU g8 (v:= .map (some rr)) (w':=w1) (by unfold execOp;simp[a8,m3]) ?_
  rw[b8]
  have k4:(A3.put (some 55) (.map (some rr))).eval (.tmp 10)=e.key:=by rw[da (by decide)];exact k3
  refine fU g9 (v:=e.key) (w':=w1) (by unfold execOp;simp[a9,k4]) ?_
  rw[b9]
  obtain⟨j,hj⟩:=pY (S:=S) L 0 p hp hk
  rcases kN (d:= .int .i64) rfl ent1 hj with⟨q1,_⟩|⟨j2,v,m2,q1,q2,q3,q4,q5,q6⟩
  ·cases q1
  simp only[Option.some.injEq,Prod.mk.injEq] at q1
  obtain⟨rfl,rfl⟩:=q1
  have e55:((A3.put (some 55) (.map (some rr))).put (some 56) e.key).eval (.tmp 55)= .map (some rr):=by rw[da (by decide)];exact eD (by omega)
  have e56:((A3.put (some 55) (.map (some rr))).put (some 56) e.key).eval (.tmp 56)= .int .i64 p.1:=by rw[<-hek];exact eD (by rw[(dL _ _ _).1];omega)
  refine fU g10 (v:=m2.val) (w':=w1) (yV a10 Tryz.underlying76 Tryz.underlying3 rfl rfl e55 e56 hrm q6) ?_
  rw[b10]
  generalize hA4:((A3.put (some 55) (.map (some rr))).put (some 56) e.key).put (some 57) m2.val=A4
  have s4:A4.tmps.size=n:=by rw[<-hA4,(dL _ _ _).1,(dL _ _ _).1,(dL _ _ _).1];exact s3
  have d4:A4.defers=[]:=by rw[<-hA4,(dL _ _ _).2,(dL _ _ _).2,(dL _ _ _).2];exact d3
  have r4:A4.eval (.tmp 50)= .pointer (some ⟨it,0,none⟩):=by rw[<-hA4,da (by decide),da (by decide),da (by decide)];exact r3
  have k57:A4.eval (.tmp 57)=m2.val:=by rw[<-hA4];exact eD (by rw[(dL _ _ _).1,(dL _ _ _).1];omega)
  have f4:FR ⟨ρ,cC H',U,w1,M0⟩ fr A4.tmps:=by rw[<-hA4];exact qH hfree f3 [(55, .map (some rr)),(56,e.key),(57,m2.val)] (by simp[vS])
  clear hA4
  have hI4:BS L S mb nx lo n fr H w0 M0 c0 V H' ρ U (seen.push e.born) rr ms clk it A4 w1:=⟨s4,d4,hI.rows,hI.rest,hI.names,sim1,f4,trk1,hI.at_,hrm,hI.born,ent1,hi1,r4,hI.low,hI.TY⟩
  have hrunS:(execOp A4.eval o11).run Tryz.prog w1= .ok (.enter 40 #[m2.val]) w1:=by
   unfold execOp
   simp only[a11,resolve,Sem.run_bind,Sem.run_pure,Result.andThen_ok,List.map_toArray,List.map_cons,List.map_nil,k57]
   obtain⟨fn,e1,e3,e2,_,_⟩:=aAO.ok
   cases hcode:fn.body with
   |none=>rw[hcode] at e2;cases e2
   |some code=>
   change (Tryz.prog).funcs[40]?=some fn at e1
   simp only[Act.eval,Sem.run_bind,Deferred.ofValue,Sem.run_pure,Result.andThen_ok,invoke,callFunc,run_program,e1,e3,hcode,Bool.false_eq_true,if_false,Option.isNone_some]
   rfl
  refine wpList_plain g11 fun K hK=> ?_
  unfold Oper.wp
  rw[hrunS,Oper.upon_enter]
  refine(hI4.sorted hfree hb hk hmb ⟨dm,hmap'⟩ hS hp q5 s4 d4 f4 r4).mono ?_
  rintro en w' ⟨rfl,hu⟩
  refine hK _ _ (wpList_nil ?_)
  obtain⟨H2,hI5⟩:=hu (.tuple #[])
  rw[b11]
  show ∃m',m'<_/\_
  refine⟨_,IY he,p.1::V,H2,ρ,U,seen.push e.born,ms,clk,it,hI5,fun m hm hs=> ?_,rfl⟩
  rw[contains_push] at hs
  rcases(Bool.or_eq_true _ _).mp hs with hs|hs
  ·obtain⟨k,hk1,hk2⟩:=hgot m hm hs
   exact⟨k,List.mem_cons_of_mem _ hk1,hk2⟩
  ·have:=born_inj hI.born.2 hm hem (by simpa using hs)
   exact⟨p.1,by simp,by rw[this];exact hek⟩
end Go.Proofs.YtjopoheligmmoaaGreatDoor
namespace Go.Proofs.YtjopoheligmmoaaGreatDoor
open Go Go.dA Go.Proofs
set_option linter.unusedSimpArgs false
set_option linter.unusedVariables false
set_option maxRecDepth 8000
def vL (x:Int):List Int->Nat->Int
 |[],_=>-1
 |y::r,i=>if x=y then(i:Int) else vL x r (i+1)
theorem zf (x:Int):∀(l:List Int) (i:Nat),0<=vL x l i↔x∈l
 |[],i=>by simp[vL]
 |y::r,i=>by
  rw[vL,List.mem_cons]
  split
  ·rename_i e;exact⟨fun _=> .inl e,fun _=>by omega⟩
  ·rename_i e
   rw[zf x r]
   exact⟨.inr,fun h=>h.resolve_left e⟩
theorem IP {x:Int} {l:List Int} {i:Nat} (h:i<l.length):vL x (l.drop i) i=if x=l.getD i 0 then(i:Int) else vL x (l.drop (i+1)) (i+1):=by
 rw[List.drop_eq_getElem_cons h,vL]
 simp[List.getD,h]
theorem zh (l:List Int) (x:Int) (hl:l.length<9223372036854775807):Pure Tryz.prog 80 [c8 l,i64 x] (fun r=>r=i64 (vL x l 0)):=by
 refine aG aAd rfl ?_
 have a0:(l.map i64).length=l.length:=by simp
 refine ca ?_
 refine aI (fun i:Nat=>[(0,c8 l),(1,i64 x),(7,i64 l.length),(8,i64 i)]) (fun i H n=>i<=l.length/\vL x (l.drop i) i=vL x l 0) (fun i=>l.length - i) 0 (by rw[List.length_map];exact cJ) ⟨Nat.zero_le _,rfl⟩ ?_
 rintro i H n ⟨hi,hx⟩
 by_cases hil:i<l.length
 ·have e0:∀d,(l.map i64).getD ((i:Int)).toNat d=i64 (l.getD i 0):=fun d=>ints_at hil d
  rw[IP hil] at hx
  by_cases he:x=l.getD i 0
  ·have r0:=decide_eq_true he
   rw[if_pos he] at hx
   rw[<-hx]
   refine ca ?_
   first|exact rfl|trivial
  ·have r0:=decide_eq_false he
   rw[if_neg he] at hx
   refine ca ?_
   exact⟨i+1,by omega,cJ,by omega,hx⟩
 ·obtain rfl:i=l.length:=by omega
  rw[List.drop_length] at hx
  rw[<-hx]
  refine ca ?_
  first|exact rfl|trivial
theorem lC (l:List Int) (x:Int) (hl:l.length<9223372036854775807):Pure Tryz.prog 39 [c8 l,i64 x] (fun r=>r=bl (decide (x∈l))):=by
 have c0:=zh l x hl
 refine aG aAN rfl ?_
 refine ca ?_
 refine dw ?_
 rw[decide_eq_decide]
 exact zf x l 0
def NF (ks:List Int):List AV:=ks.map fun k=>oc (.int .i64 k) (i64 1)
theorem sn:∀(ks:List Int) (x:Int) (i:Nat),fJ false (.int .i64 x) (NF ks) i=some (if x∈ks then some (i+ks.idxOf x,i64 1) else none)
 |[],x,i=>by simp[NF,fJ]
 |k::r,x,i=>by
  show fJ false (.int .i64 x) (oc (.int .i64 k) (i64 1)::NF r) i=_
  by_cases e:x=k
  ·subst e;simp[fJ,oc,tg,DB]
  ·have e2:¬k=x:=fun h=>e h.symm
   simp only[fJ,oc,tg,DB,if_true,decide_eq_false e]
   rw[sn r x (i+1)]
   simp only[List.mem_cons,e,false_or,List.idxOf_cons,beq_eq_false_iff_ne.2 e2,cond_false]
   split
   ·simp;omega
   ·rfl
theorem TS (ks:List Int) (x:Int) (h:x∈ks):nY false (.int .i64 x) (NF ks) (i64 0)=some (i64 1,true):=by
 unfold nY;rw[sn,if_pos h]
theorem QG (ks:List Int) (x:Int) (h:x∉ks):nY false (.int .i64 x) (NF ks) (i64 0)=some (i64 0,false):=by
 unfold nY;rw[sn,if_neg h]
theorem TT (ks:List Int) (x:Int) (h:x∉ks):qW false (.int .i64 x) (NF ks) (i64 1)=some (NF (ks++[x])):=by
 unfold qW;rw[sn,if_neg h]
 simp[NF,oc]
theorem rZ {S:Int->List Int}:∀(L:List (Int×Nat)) (x:Int) (i:Nat),x∉L.map (·.1)->fJ false (.int .i64 x) (fE L S) i=some none
 |[],x,i,_=>rfl
 |p::r,x,i,h=>by
  rw[List.map_cons,List.mem_cons,not_or] at h
  show fJ false (.int .i64 x) (oc (.int .i64 p.1) (.sl p.2 (S p.1).length)::fE r S) i=_
  simp only[fJ,oc,tg,DB,if_true,decide_eq_false h.1]
  exact rZ r x (i+1) h.2
theorem wZ {S:Int->List Int} {L:List (Int×Nat)} {x:Int} (z:AV) (h:x∉L.map (·.1)):nY false (.int .i64 x) (fE L S) z=some (z,false):=by
 unfold nY;rw[rZ L x 0 h]
theorem zr {S:Int->List Int} {L:List (Int×Nat)} {p:Int×Nat} (z:AV) (hp:p∈L) (hk:(L.map (·.1)).Nodup):nY false (.int .i64 p.1) (fE L S) z=some (.sl p.2 (S p.1).length,true):=by
 obtain⟨j,hj⟩:=pY (S:=S) L 0 p hp hk
 unfold nY;rw[hj]
end Go.Proofs.YtjopoheligmmoaaGreatDoor
