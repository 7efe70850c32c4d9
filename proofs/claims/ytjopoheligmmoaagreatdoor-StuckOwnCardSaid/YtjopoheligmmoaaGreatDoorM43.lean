import Derived.Test.YtjopoheligmmoaaGreatDoorM42
import Derived.Test.YtjopoheligmmoaaGreatDoorM28
import Derived.Test.YtjopoheligmmoaaGreatDoorM29
import Derived.Test.YtjopoheligmmoaaGreatDoorM25
import Derived.Test.YtjopoheligmmoaaGreatDoorM40
import Derived.Laws.IdiomRangeMap
import Derived.Shelf.SortM.Plain
import Derived.Shelf.SortM.SortNone
import Derived.Test.YtjopoheligmmoaaGreatDoorProg
import Derived.Test.YtjopoheligmmoaaGreatDoorM23
import Derived.Test.YtjopoheligmmoaaGreatDoorM5
section
/- How variables are shared: the walk. -/
namespace Go.Proofs.YtjopoheligmmoaaGreatDoor
open Go Go.cZ Go.Proofs
set_option linter.unusedSimpArgs false
set_option linter.unusedVariables false
theorem vX {g:cF} (h:Whole g):lU g=true:=K8.2 h
theorem MX (L:List (List Int)):cX 0 (L.map fX):=(cB _ _).2 fun _ _=>by simp[fX,cI,cB]
theorem HW (g:cF) (hg:g.Wf) (hw:Whole g) (hh:(eO g).2<0):Pure Tryz.prog 167 [g.av] (fun r=>r= .dK [.im 1 .any ((eO g).1.map fX),bl true]):=by
 refine aJ zJ rfl ?_
 have h1:=tX g hg
 rw[vX hw] at h1
 have h2:=uy g hg hw
 unfold qE at h2
 have e:decide ((eO g).2<0)=true:=decide_eq_true hh
 repeat' (first|((with_reducible refine aI ?_);conv=>whnf)|refine aG ?_|exact gG|with_reducible refine aD ?_ ?_|((with_reducible refine Ask.mk ?_);first|exact dz|exact dD|(intro h;simp_all[cF.cells]<;>fail)|(simp_all[cF.cells]<;>fail))|(apply aB;(·exact cS))|refine aK (h1) ?_|refine aK (h2) ?_|refine aH ?_|((with_reducible refine aA ?_ ?_)<;>intro hc<;>(try simp only[List.length_map,ne_eq,db] at hc)<;>try(exfalso;omega)))
 rw[e]
 exact QQ.eq (by simp only[cI,cX];exact⟨MX _,trivial,trivial⟩) rfl
noncomputable def oD (g:cF):AV:= .agg [FF (fZ g (-1)), .im 1 .any (((eO g).1.map hb).map u32)]
theorem RO {l:List Int} {j:Nat} (h:j<l.length):hb (l.take (j+1))=hb (l.take j)|||2^(l.getD j 0).toNat:=by
 rw[List.take_succ_eq_append_getElem h,V7,gd h]
theorem Y2 {k:Int} (h0:0≤k) (h1:k<16):IntKind.u32.wrap (1 * 2^(min k.toNat IntKind.u32.bits))=((2^k.toNat:Nat):Int):=by
 have:k.toNat<16:=by omega
 generalize k.toNat=m at *
 have hm:min m IntKind.u32.bits=m:=by show min m 32=m;omega
 rw[hm]
 have:(2:Nat)^m<2^16:=Nat.pow_lt_pow_right (by omega) this
 have e:(1:Int) * 2^m=((2^m:Nat):Int):=by rw[Int.one_mul];simp
 have h2:(2:Nat)^m<4294967296:=by omega
 rw[e]
 exact wrap32 (Int.natCast_nonneg _) (Int.ofNat_lt.2 h2)
def kY (L:List (List Int)) (i x:Nat):List Nat:=(L.take i).map hb++x::List.replicate (L.length - (i+1)) 0
theorem oo {L:List (List Int)} {i:Nat} (h:i<L.length):((L.take i).map hb).length=i:=by simp;omega
theorem ux {L:List (List Int)} {i:Nat} (h:i<L.length) (x:Nat):(kY L i x).length=L.length:=by
 rw[kY,List.length_append,oo h];simp;omega
theorem I9 {L:List (List Int)} {i:Nat} (h:i<L.length) (x:Nat) (d:AV):((kY L i x).map u32).getD ((i:Int)).toNat d=u32 x:=by
 rw[Int.toNat_natCast,dQ u32 _ _ _ (by rw[ux h];exact h),kY,List.getD,List.getElem?_append_right (by rw[oo h];exact Nat.le_refl _),oo h,Nat.sub_self];rfl
theorem JA {L:List (List Int)} {i:Nat} (h:i<L.length) (x v:Nat):((kY L i x).map u32).set ((i:Int)).toNat (u32 v)=(kY L i v).map u32:=by
 rw[Int.toNat_natCast,←List.map_set,kY,List.set_append,if_neg (by rw[oo h];omega),oo h,Nat.sub_self];rfl
theorem CL {L:List (List Int)} {i:Nat} (h:i<L.length):(L.take i).map hb++List.replicate (L.length - i) 0=kY L i 0:=by
 rw[kY,show L.length - i=(L.length - (i+1))+1 by omega,List.replicate_succ]
theorem CK {L:List (List Int)} {i:Nat} (h:i<L.length):kY L i (hb (L.getD i []))=(L.take (i+1)).map hb++List.replicate (L.length - (i+1)) 0:=by
 rw[kY,List.take_succ_eq_append_getElem h,gd h,List.map_append,List.append_assoc];rfl
theorem oB {m:Nat} {now:List Int} (hn:now.length≤m):∀(l:List Int) (s s':HS),de now l s= .inl s'→(∀i,(s.cE.getD i []).length≤m)→∀i,(s'.cE.getD i []).length≤m
 |[],s,s',h,hs=>by rw[de] at h;cases h;exact hs
 |k::r,s,s',h,hs=>by
  rw[de] at h
  split at h
  ·refine oB hn r _ s' h fun i=> ?_
   dsimp only
   rw[fB]
   split
   ·exact hn
   ·exact hs i
  ·split at h
   ·exact oB hn r s s' h hs
   ·cases h
theorem yM {n:Node} {l now:List Int} (h:dj n l=some now):now.length≤l.length+1:=by
 unfold dj at h
 split at h
 ·cases h;simp
 ·split at h
  ·split at h
   ·cases h;simp;omega
   ·cases h
  ·split at h
   ·split at h
    ·cases h;omega
    ·cases h
   ·cases h;omega
theorem qi (g:cF):∀(f:Nat) (s:HS) (k:Nat),(∀i,(s.cE.getD i []).length≤k)→∀i,((fe g f s k).1.getD i []).length≤k+f
 |0,s,k,h,i=>by rw[fe];exact h i
 |f+1,s,k,h,i=>by
  rw[fe]
  split
  ·split
   ·simp
   ·rename_i now hn
    have h2:=yM hn
    have h3:=h (s.todo.getD k 0).toNat
    unfold HS.l at h2
    split
    ·rename_i s' ht
     have:=qi g f s' (k+1) (oB (m:=k+1) (by omega) _ _ _ ht fun i=>Nat.le_succ_of_le (h i)) i
     omega
    ·simp
  ·have:=h i;dsimp only;omega
theorem JB (g:cF) (i:Nat):((eO g).1.getD i []).length≤g.nodes.length+1:=by
 have:=qi g (g.nodes.length+1) (wR g) 0 (fun i=>by simp only[wR,List.getD,List.getElem?_replicate];split<;>exact Nat.zero_le _) i
 rw[Nat.zero_add] at this;exact this
set_option maxHeartbeats 4000000 in
theorem zp {u:bx} (g:cF) (hg:g.Wf) (hk:eL u g) (hl16:u.cE.length≤16):cG Tryz.prog 122 [g.av] [] 0 (fun r H n=>∃d,r= .agg [FF (fZ g (-1)), .sl 7 (eO g).1.length]∧bu H 7=some (.row 133 1 d (((eO g).1.map hb).map u32))):=by
 have hw:=hk.whole
 have h1:=wi g hg (vX hw) (AU g hg hw (-1) (by unfold eQ;omega))
 have h2:=HW g hg hw hk.held
 obtain⟨_,hLl,_,_⟩:=kZ hw hk.held
 have hin:=FD hk
 have hlen:=hk.len
 have hgl:=hg.len
 have hlens:=JB g
 generalize hL:(eO g).1=L at *
 refine aM yp rfl ?_
 repeat' (first|((with_reducible refine aI ?_);conv=>whnf)|refine aG ?_|exact gG|with_reducible refine aD ?_ ?_|((with_reducible refine Ask.mk ?_);first|exact dz|exact dD|(intro h;simp_all[cF.cells]<;>fail)|(simp_all[cF.cells]<;>fail))|(apply aB;(·exact cS))|refine aK (h1) ?_|refine aK (h2) ?_|refine aH ?_|((with_reducible refine aA ?_ ?_)<;>intro hc<;>(try simp only[List.length_map,ne_eq,db] at hc)<;>try(exfalso;omega)))
 have e0:(((L.take 0).map hb++List.replicate (L.length - 0) 0).map u32:List AV)=List.replicate L.length (u32 0):=by simp
 simp only[List.length_map,Int.toNat_natCast]
 refine aN (fun i:Nat=>[(2, .pt 1 1 0 0),(3, .pt 9 1 0 0),(22, .im 1 .any (L.map fX)),(23,i64 L.length),(24,i64 i)])
  (fun i H n=>i≤L.length∧18≤n∧(∃d,bu H 1=some (.row 131 2 d [.agg [.sc (.slice none 0 0), .sc (.slice none 0 0)]]))∧(∃d,bu H 9=some (.row 131 2 d [.agg [FF (fZ g (-1)), .sl 7 g.nodes.length]]))∧(∃d,bu H 7=some (.row 133 1 d (((L.take i).map hb++List.replicate (L.length - i) 0).map u32)))) (fun i=>L.length - i) 0 cK ⟨Nat.zero_le _,ca,⟨_,bw⟩, ?_, ?_⟩ ?_
 ·apply Exists.intro
  exact bw
 ·apply Exists.intro
  rw[e0,hLl]
  exact bw
 rintro i H n ⟨hi,hn,⟨d1,r1⟩,⟨d9,r9⟩,⟨d7,r7⟩⟩
 by_cases hil:i<L.length
 ·rw[CL hil] at r7
  have hll:=hlens i
  have e1:=fun d=>qG (l:=L) (i:=(i:Int)) (by rw[Int.toNat_natCast];exact hil) d
  rw[Int.toNat_natCast] at e1
  have hin2:=hin i
  have hnx:=CK hil
  generalize hl:L.getD i []=l at *
  repeat' (first|((with_reducible refine aI ?_);conv=>whnf)|refine aG ?_|exact aC|with_reducible refine aD ?_ ?_|(apply aB;(·(first|exact e1 _|exact cS)))|refine aH ?_|((with_reducible refine aA ?_ ?_)<;>intro hc<;>(try simp only[List.length_map,ne_eq,db] at hc)<;>try(exfalso;omega)))
  simp only[List.length_map]
  refine aN (fun j:Nat=>[(2, .pt 1 1 0 0),(3, .pt 9 1 0 0),(6,i64 i),(22, .im 1 .any (L.map fX)),(23,i64 L.length),(24,i64 i),(29, .im 1 .any (l.map i64)),(30,i64 l.length),(31,i64 j)])
   (fun j H2 n2=>j≤l.length∧n≤n2∧(∃d,bu H2 1=some (.row 131 2 d [.agg [.sc (.slice none 0 0), .sc (.slice none 0 0)]]))∧(∃d,bu H2 9=some (.row 131 2 d [.agg [FF (fZ g (-1)), .sl 7 g.nodes.length]]))∧(∃d,bu H2 7=some (.row 133 1 d ((kY L i (hb (l.take j))).map u32)))) (fun j=>l.length - j) 0 cK ⟨Nat.zero_le _,ca,⟨_,bw⟩,⟨_,bw⟩,⟨_,bw⟩⟩ ?_
  clear r1 r9 r7
  rintro j H2 n2 ⟨hj,hn2,⟨d1,r1⟩,⟨d9,r9⟩,⟨d7,r7⟩⟩
  by_cases hjl:j<l.length
  ·obtain⟨k0,k1⟩:=hin2 _ (cR 0 hjl)
   have e2:=fun d=>lL hjl d
   have e3:=fun d=>I9 hil (hb (l.take j)) d
   have hml:((kY L i (hb (l.take j))).map u32).length=g.nodes.length:=by rw[List.length_map,ux hil,hLl]
   have e4:=Y2 k0 (by omega:l.getD j 0<16)
   have hlt:∀m,hb (l.take m)<65536:=fun m=>UQ (m:=16) fun k hk=>by have:=hin2 k (List.mem_of_mem_take hk);omega
   have e5:=RO hjl
   have hp:2^(l.getD j 0).toNat<65536:=Nat.pow_lt_pow_right (by omega) (by omega:(l.getD j 0).toNat<16)
   have e6:=aAD (show hb (l.take j)<4294967296 from Nat.lt_trans (hlt j) (by omega)) (show 2^(l.getD j 0).toNat<4294967296 by omega)
   rw[←e5] at e6
   repeat' (first|((with_reducible refine aI ?_);conv=>whnf)|refine aG ?_|exact gG|with_reducible refine aD ?_ ?_|((with_reducible refine Ask.mk ?_);first|exact dz|(exact hml)|exact dD)|(apply aB;(·(first|exact e2 _|exact e3 _|exact cS)))|(simp only[e4])|(simp only[e6])|refine aH ?_|((with_reducible refine aA ?_ ?_)<;>intro hc<;>(try simp only[List.length_map,ne_eq,db] at hc)<;>try(exfalso;omega)))
   exact⟨j+1,by omega,cK,by omega,ca,⟨_,bw⟩,⟨_,bw⟩,⟨_,by rw[←JA hil (hb (l.take j)) (hb (l.take (j+1)))];exact bw⟩⟩
  ·have:j=l.length:=by omega
   subst this
   rw[List.take_length,hnx] at r7
   repeat' (first|((with_reducible refine aI ?_);conv=>whnf)|refine aG ?_|exact aC|with_reducible refine aD ?_ ?_|(apply aB;(·exact cS))|refine aH ?_|((with_reducible refine aA ?_ ?_)<;>intro hc<;>(try simp only[List.length_map,ne_eq,db] at hc)<;>try(exfalso;omega)))
   exact⟨i+1,by omega,cK,by omega,by omega,⟨_,bw⟩,⟨_,bw⟩,⟨_,bw⟩⟩
 ·have:i=L.length:=by omega
  subst this
  rw[List.take_length,Nat.sub_self,List.replicate_zero,List.append_nil] at r7
  repeat' (first|((with_reducible refine aI ?_);conv=>whnf)|refine aG ?_|exact aC|with_reducible refine aD ?_ ?_|(apply aB;(·exact cS))|refine aH ?_|((with_reducible refine aA ?_ ?_)<;>intro hc<;>(try simp only[List.length_map,ne_eq,db] at hc)<;>try(exfalso;omega)))
  rw[←hLl]
  exact⟨⟨d7,rfl,bw⟩⟩
theorem zq {u:bx} (g:cF) (hg:g.Wf) (hk:eL u g) (hl16:u.cE.length≤16):Pure Tryz.prog 122 [g.av] (fun r=>r=oD g):=by
 have hfit:cI 0 (oD g):=by unfold oD;simp[cI,cX,FF,cB]
 refine cx ((zp g hg hk hl16).mono ?_) hfit
 rintro r H n ⟨d,rfl,hb⟩
 have e1:cZ.dV H 6 (.agg [FF (fZ g (-1)), .sl 7 (eO g).1.length])= .agg [cZ.dV H 5 (FF (fZ g (-1))),cZ.dV H 5 (.sl 7 (eO g).1.length)]:=by
  simp only[dV,List.map_cons,List.map_nil]
 rw[e1,dc hb (by simp),cy _ ((cB _ _).2 fun _ _=>by simp[cI]),du 5 (by simp[FF,cI,cB])]
 rfl
noncomputable def fy (u:bx) (m:Nat):List AV:=(u.bz.take m).map oD
theorem C1 {u:bx} {t:Nat} (h:t<u.bz.length):fy u (t+1)=fy u t++[oD (u.gr t)]:=by
 rw[fy,List.take_succ_eq_append_getElem h,fy,List.map_append,show u.gr t=u.bz[t] from gd h _];rfl
theorem qM {u:bx} {t:Nat} (h:t≤u.bz.length):(fy u t).length=t:=by simp[fy];omega
theorem qA (u:bx) (m:Nat):cX 0 (fy u m):=(cB _ _).2 fun _ _=>by unfold oD;simp[cI,cX,FF,cB]
set_option maxHeartbeats 4000000 in
theorem BO (u:bx) (hu:u.Wf):Pure Tryz.prog 74 [u.av] (fun r=>r=if DS u=true then .dK [.im 2 .any (fy u u.bz.length),i64 0] else .dK [.sc (.slice none 0 0),i64 60]):=by
 have hck:=jN u hu
 by_cases hr:cT u
 ·rw[kQ.2 hr] at hck
  rw[if_pos (oG.2 hr)]
  have hfew:=hr.pz
  refine cx ?_ (by simp only[cI,cX];exact⟨qA _ _,trivial,trivial⟩)
  refine aM JU rfl ?_
  repeat' (first|((with_reducible refine aI ?_);conv=>whnf)|refine aG ?_|exact gG|with_reducible refine aD ?_ ?_|((with_reducible refine Ask.mk ?_);first|exact dz|exact dD|(intro h;simp_all[bx.cells]<;>fail)|(simp_all[bx.cells]<;>fail))|(apply aB;(·exact cS))|refine aK (hck) ?_|refine aH ?_|((with_reducible refine aA ?_ ?_)<;>intro hc<;>(try simp only[List.length_map,ne_eq,db] at hc)<;>try(exfalso;omega)))
  simp only[List.length_map]
  refine aV (fun t:Nat=>[(7, .sl 18 t),(20,di u.bz),(21,i64 u.bz.length),(22,i64 t)])
   (fun t H n=>t≤u.bz.length∧19≤n∧(∃d,bu H 18=some (.row 131 2 d (fy u t)))) (fun t=>u.bz.length - t) 0 ⟨_,_,_,Rt.nil 7 131 2 (by omega) rfl,cK,Nat.zero_le _,ca,⟨_,bw⟩⟩ ?_
  rintro t H n ⟨ht,hn,⟨d,r18⟩⟩
  by_cases htl:t<u.bz.length
  ·have hl:=qM (u:=u) ht
   have hg:=hu.bz _ (cR default htl)
   have hlk:=zq (u.gr t) hg (hr.gr htl) hfew.2.1
   have hnx:=C1 htl
   have eg:=fun d=>s9 htl d
   repeat' (first|((with_reducible refine aI ?_);conv=>whnf)|refine aG ?_|exact gG|with_reducible refine aD ?_ ?_|((with_reducible refine Ask.mk ?_);first|exact dz|(exact hl)|exact dD|(intro h;simp_all[cF.cells]<;>fail)|(simp_all[cF.cells]<;>fail))|(apply aB;(·(first|exact eg _|exact cS)))|refine aK (hlk) ?_|refine aH ?_|((with_reducible refine aA ?_ ?_)<;>intro hc<;>(try simp only[List.length_map,ne_eq,db] at hc)<;>try(exfalso;omega)))
   exact⟨t+1,by omega,_,_,_,Rt.refl _ _ _,cK,by omega,ca,⟨_,by rw[hnx];exact bw⟩⟩
  ·have:t=u.bz.length:=by omega
   subst this
   repeat' (first|((with_reducible refine aI ?_);conv=>whnf)|refine aG ?_|exact aC|with_reducible refine aD ?_ ?_|(apply aB;(·exact cS))|refine aH ?_|((with_reducible refine aA ?_ ?_)<;>intro hc<;>(try simp only[List.length_map,ne_eq,db] at hc)<;>try(exfalso;omega)))
   refine⟨?_⟩
   have e1:∀H,cZ.dV H 6 (.dK [.sl 18 u.bz.length,i64 0])= .dK [cZ.dV H 5 (.sl 18 u.bz.length),i64 0]:=fun H=>by
    simp only[dV,List.map_cons,List.map_nil]
   refine(e1 _).trans ?_
   rw[dc bw (qM (Nat.le_refl _)),cy _ (qA _ _)]
 ·have h1:=nc hr
  rw[if_neg (mt oG.1 hr)]
  generalize iW u=r at *
  obtain⟨a,b,c⟩:=r
  dsimp only at h1 hck
  subst h1
  unfold vy at hck
  refine aJ JU rfl ?_
  repeat' (first|((with_reducible refine aI ?_);conv=>whnf)|refine aG ?_|exact gG|with_reducible refine aD ?_ ?_|((with_reducible refine Ask.mk ?_);first|exact dz|exact dD|(intro h;simp_all[bx.cells]<;>fail)|(simp_all[bx.cells]<;>fail))|(apply aB;(·exact cS))|refine aK (hck) ?_|refine aH ?_|((with_reducible refine aA ?_ ?_)<;>intro hc<;>(try simp only[List.length_map,ne_eq,db] at hc)<;>try(exfalso;omega)))
  exact rfl
end Go.Proofs.YtjopoheligmmoaaGreatDoor
end
section
/- The locks that are held ahead of each node; the edges: the walks. -/
namespace Go.Proofs.YtjopoheligmmoaaGreatDoor
open Go Go.cZ Go.Proofs
set_option linter.unusedSimpArgs false
set_option linter.unusedVariables false
set_option maxRecDepth 8000
def sd (g:cF):List (List Int):=(eO g).1.map fun l=>bits (hb l)
theorem NS {u:bx} {g:cF} (hk:eL u g):(sd g).length=g.nodes.length:=by
 unfold sd;rw[List.length_map];exact(kZ hk.whole hk.held).2.1
theorem RQ {u:bx} {g:cF} (hk:eL u g) {i:Nat} (hi:i<g.nodes.length):(sd g).getD i []=qj g i:=by
 have:i<(eO g).1.length:=by rw[(kZ hk.whole hk.held).2.1];exact hi
 simp[sd,qj,O1,List.getD,this]
theorem MY (L:List (List Int)):cX 0 (L.map fX):=(cB _ _).2 fun _ _=>by simp[fX,cI,cB]
theorem O3 {u:bx} {t:Nat} (ht:t<u.bz.length) (d:AV):(fy u u.bz.length).getD ((t:Int)).toNat d= .agg [FF (fZ (u.gr t) (-1)), .im 1 .any (((eO (u.gr t)).1.map hb).map u32)]:=by
 rw[Int.toNat_natCast]
 unfold fy
 rw[List.take_length,dQ oD u.bz t d ht]
 rfl
set_option maxHeartbeats 2000000 in
theorem CM (u:bx) (hu:u.Wf) (hr:cT u) {t:Nat} (ht:t<u.bz.length):Pure Tryz.prog 36 [u.av,i64 t] (fun r=>r= .dK [.im 1 .any ((sd (u.gr t)).map fX),i64 0]):=by
 have c0:=BO u hu
 rw[if_pos (oG.2 hr)] at c0
 have hfl:=qA u u.bz.length
 have hgk:=hr.gr ht
 have hnl:=hgk.len
 have hL:=(kZ hgk.whole hgk.held).2.1
 have hfew:=hr.pz
 have e0:=O3 ht
 have a0:(fy u u.bz.length).length=u.bz.length:=qM (Nat.le_refl _)
 have hb16:∀i,hb ((eO (u.gr t)).1.getD i [])<65536:=fun i=>C0 hgk hfew.2.1 i
 have hres:sd (u.gr t)=(eO (u.gr t)).1.map fun l=>bits (hb l):=rfl
 rw[hres]
 generalize fy u u.bz.length=X at *
 generalize fZ (u.gr t) (-1)=B at *
 generalize (eO (u.gr t)).1=A at *
 refine cx ?_ (by simp only[cI,cX];exact⟨MY _,trivial,trivial⟩)
 refine aM N9 rfl ?_
 have a1:((A.map hb).map u32).length=A.length:=by simp
 have r0:decide (((t:Nat):Int)<0)=false:=decide_eq_false (by omega)
 refine cV ?_
 refine aA (fun hc=>absurd hc (by simp;omega)) fun hc=> ?_
 refine cV ?_
 simp only[List.length_map]
 refine aV (fun i:Nat=>[(8, .sl 27 i),(31, .im 1 .any ((A.map hb).map u32)),(32,i64 A.length),(33,i64 i)])
  (fun i H n=>i≤A.length∧28≤n∧∃d,bu H 27=some (.row 31 1 d (((A.take i).map fun l=>bits (hb l)).map fX))) (fun i=>A.length - i) 0
  ⟨_,_,_,Rt.nil 8 31 1 (by omega) rfl,cK,Nat.zero_le _,ca,⟨_,bw⟩⟩ ?_
 rintro i H n ⟨hi,hn,⟨d,r1⟩⟩
 have a2:(((A.take i).map fun l=>bits (hb l)).map fX).length=i:=by simp;omega
 by_cases hil:i<A.length
 ·have c0:=JY (hb (A.getD i [])) (hb16 i)
  have e1:∀d,((A.map hb).map u32).getD ((i:Int)).toNat d=u32 (hb (A.getD i [])):=fun d=>by
   rw[Int.toNat_natCast];simp[List.getD,hil]
  refine cV ?_
  exact⟨i+1,by omega,_,_,_,Rt.refl _ _ _,cK,by omega,ca,⟨_,by
   rw[List.take_succ_eq_append_getElem hil,List.map_append,List.map_append]
   rw[show A.getD i []=A[i] by simp[List.getD,hil]]
   exact bw⟩⟩
 ·obtain rfl:i=A.length:=by omega
  rw[List.take_length] at r1
  refine cV ?_
  refine⟨?_⟩
  show AV.dK [cZ.dV _ 5 (.sl 27 A.length),i64 0]=_
  rw[dc (k:=4) bw (by simp),cy _ (MY _)]
end Go.Proofs.YtjopoheligmmoaaGreatDoor
end
section
/- Edges: the walk. -/
namespace Go.Proofs.YtjopoheligmmoaaGreatDoor
open Go Go.cZ Go.Proofs
set_option linter.unusedSimpArgs false
set_option linter.unusedVariables false
set_option maxRecDepth 8000
theorem uX (u:bx) (hu:u.Wf) (hr:¬cT u):Pure Tryz.prog 13 [u.av] (fun r=>r= .dK [.sc (.slice none 0 0),i64 60]):=by
 have c0:=jN u hu
 have h1:=nc hr
 generalize iW u=r at *
 obtain⟨a,b,c⟩:=r
 dsimp only at h1 c0
 subst h1
 unfold vy at c0
 refine aJ JN rfl ?_
 refine cV ?_
 first|exact rfl|trivial
def fD (u:bx) (t i k:Nat):List dX:=gh u t++iX (u.gr t) t i++((qj (u.gr t) i).take k).map fun h=>⟨h,((u.gr t).nd i).cQ,t,i⟩
theorem qc (u:bx) (t:Nat):fD u t 0 0=gh u t:=by simp[fD,iX]
theorem qa {u:bx} {t i k:Nat} (hk:k<(qj (u.gr t) i).length):fD u t i (k+1)=fD u t i k++[⟨(qj (u.gr t) i).getD k 0,((u.gr t).nd i).cQ,t,i⟩]:=by
 unfold fD
 generalize qj (u.gr t) i=l at *
 generalize ((u.gr t).nd i).cQ=th at *
 have e:l.getD k 0=l[k]:=by simp[List.getD,hk]
 rw[List.take_succ_eq_append_getElem hk,e,List.map_append,List.append_assoc,List.append_assoc,List.append_assoc]
 rfl
theorem sI {u:bx} {t i:Nat} (h5:((u.gr t).nd i).kind=5):fD u t i (qj (u.gr t) i).length=fD u t (i+1) 0:=by
 unfold fD
 rw[List.take_length,iX,mA,if_pos h5]
 simp
theorem qb {u:bx} {t i:Nat} (h5:((u.gr t).nd i).kind≠5):fD u t i 0=fD u t (i+1) 0:=by
 unfold fD
 rw[iX,mA,if_neg h5]
 simp
theorem oe (u:bx) (t:Nat):fD u t (u.gr t).nodes.length 0=gh u (t+1):=by
 unfold fD
 rw[gh]
 simp
theorem II {u:bx} (hr:cT u) {t i k:Nat} (ht:t<u.bz.length) (hi:i≤(u.gr t).nodes.length) (hk:k≤16):(fD u t i k).length≤1048576:=by
 unfold fD
 have h1:=mf hr (m:=t) (by omega)
 have h2:=py (hr.gr ht) hr.pz.2.1 t i
 have h3:=(hr.gr ht).len.2
 have h4:=hr.pz.2.2
 simp only[List.length_append,List.length_map,List.length_take]
 omega
set_option maxHeartbeats 4000000 in
theorem sK (u:bx) (hu:u.Wf) (hr:cT u):cG Tryz.prog 13 [u.av] [] 0 (fun r H n=>∃b d,r= .dK [.sl b (dJ u).length,i64 0]∧bu H b=some (.row 69 4 d ((dJ u).map dX.av))):=by
 have c0:=jN u hu
 rw[kQ.2 hr] at c0
 unfold vy at c0
 have hfew:=hr.pz
 have hE:dJ u=gh u u.bz.length:=rfl
 rw[hE]
 refine aM JN rfl ?_
 refine cV ?_
 simp only[List.length_map]
 refine aV (fun t:Nat=>[(1, .pt 0 1 0 0),(7, .sl 18 (gh u t).length),(26,di u.bz),(27,i64 u.bz.length),(28,i64 t)])
  (fun t H n=>t≤u.bz.length∧19≤n∧(∃d,bu H 0=some (.row 25 3 d [u.av]))∧∃d,bu H 18=some (.row 69 4 d ((gh u t).map dX.av))) (fun t=>u.bz.length - t) 0
  ⟨_,_,_,Rt.nil 7 69 4 (by omega) rfl,cK,Nat.zero_le _,ca,⟨_,bw⟩,⟨_,bw⟩⟩ ?_
 rintro t H n ⟨ht,hn,⟨d0,r0⟩,⟨d1,r1⟩⟩
 by_cases htl:t<u.bz.length
 ·have c1:=CM u hu hr htl
  have hgk:=hr.gr htl
  have hnl:=hgk.len
  have hhl:=NS hgk
  have e0:∀d,(u.bz.map cF.av).getD ((t:Int)).toNat d=(u.gr t).av:=fun d=>s9 htl d
  have a0:(u.bz.map cF.av).length=u.bz.length:=by simp
  refine cV ?_
  simp only[List.length_map]
  clear c0 c1 e0
  refine aN (fun i:Nat=>[(1, .pt 0 1 0 0),(7, .sl 18 (fD u t i 0).length),(8,i64 t),(10, .im 1 .any ((sd (u.gr t)).map fX)),(26,di u.bz),(27,i64 u.bz.length),(28,i64 t),(40,iz (u.gr t).nodes),(41,i64 (u.gr t).nodes.length),(42,i64 i)])
   (fun i H2 n2=>i≤(u.gr t).nodes.length∧n+18≤n2∧(∃d,bu H2 0=some (.row 25 3 d [u.av]))∧∃d,bu H2 18=some (.row 69 4 d ((fD u t i 0).map dX.av))) (fun i=>(u.gr t).nodes.length - i) 0
   (by rw[qc];exact cK) ⟨Nat.zero_le _,ca,⟨_,bw⟩,⟨_,by rw[qc];exact bw⟩⟩ ?_
  rintro i H2 n2 ⟨hi,hn2,⟨d0,r0⟩,⟨d1,r1⟩⟩
  have a0:((u.gr t).nodes.map Node.av).length=(u.gr t).nodes.length:=by simp
  by_cases hil:i<(u.gr t).nodes.length
  ·have e0:∀d,((u.gr t).nodes.map Node.av).getD ((i:Int)).toNat d=((u.gr t).nd i).av:=fun d=>jj hil d
   by_cases h5:((u.gr t).nd i).kind=5
   ·have hh:=RQ hgk hil
    have hle:=NT hgk hfew.2.1 i
    have e1:∀d,((sd (u.gr t)).map fX).getD ((i:Int)).toNat d= .im 1 .any ((qj (u.gr t) i).map i64):=fun d=>by
     rw[Int.toNat_natCast,dQ fX (sd (u.gr t)) i d (by rw[hhl];exact hil),←hh];rfl
    have a1:((sd (u.gr t)).map fX).length=(u.gr t).nodes.length:=by rw[List.length_map];exact hhl
    have r2:decide (((u.gr t).nd i).kind≠5)=false:=decide_eq_false fun h=>h h5
    refine cV ?_
    simp only[List.length_map]
    clear e0 e1
    refine aN (fun k:Nat=>[(1, .pt 0 1 0 0),(7, .sl 18 (fD u t i k).length),(8,i64 t),(10, .im 1 .any ((sd (u.gr t)).map fX)),(12,i64 i),(13, .pt (n2+4) 1 0 0),(26,di u.bz),(27,i64 u.bz.length),(28,i64 t),(40,iz (u.gr t).nodes),(41,i64 (u.gr t).nodes.length),(42,i64 i),(53, .im 1 .any ((qj (u.gr t) i).map i64)),(54,i64 (qj (u.gr t) i).length),(55,i64 k)])
     (fun k H3 n3=>k≤(qj (u.gr t) i).length∧n2+5≤n3∧(∃d,bu H3 0=some (.row 25 3 d [u.av]))∧(∃d,bu H3 (n2+4)=some (.row 65 13 d [((u.gr t).nd i).av]))∧∃d,bu H3 18=some (.row 69 4 d ((fD u t i k).map dX.av))) (fun k=>(qj (u.gr t) i).length - k) 0
     cK ⟨Nat.zero_le _,ca,⟨_,bw⟩,⟨_,bw⟩,⟨_,bw⟩⟩ ?_
    rintro k H3 n3 ⟨hk,hn3,⟨d0,r0⟩,⟨d3,r3⟩,⟨d1,r1⟩⟩
    by_cases hkl:k<(qj (u.gr t) i).length
    ·have e0:∀d,((qj (u.gr t) i).map i64).getD ((k:Int)).toNat d=i64 ((qj (u.gr t) i).getD k 0):=fun d=>by
      rw[Int.toNat_natCast];exact dQ i64 (qj (u.gr t) i) k d hkl
     have a2:((qj (u.gr t) i).map i64).length=(qj (u.gr t) i).length:=by rw[List.length_map]
     have a3:((fD u t i k).map dX.av).length=(fD u t i k).length:=by rw[List.length_map]
     have hkk:=II hr htl (i:=i) (k:=k) (by omega) (by omega)
     refine cV ?_
     refine⟨k+1,by omega, ?_,by omega,ca,⟨_,bw⟩,⟨_,bw⟩, ?_⟩
     ·rw[qa hkl,List.length_append];exact cK
     ·rw[qa hkl,List.map_append];exact⟨_,bw⟩
    ·obtain rfl:k=(qj (u.gr t) i).length:=by omega
     rw[sI h5] at r1
     refine cV ?_
     exact⟨i+1,by omega,by rw[←sI h5];exact cK,by omega,ca,⟨_,bw⟩,⟨_,bw⟩⟩
   ·have r2:decide (((u.gr t).nd i).kind≠5)=true:=decide_eq_true h5
    refine cV ?_
    rw[qb h5] at r1
    exact⟨i+1,by omega,by rw[←qb h5];exact cK,by omega,ca,⟨_,bw⟩,⟨_,bw⟩⟩
  ·obtain rfl:i=(u.gr t).nodes.length:=by omega
   rw[oe] at r1
   refine cV ?_
   exact⟨t+1,by omega,_,_,_,Rt.refl _ _ _,by rw[←oe];exact cK,by omega,ca,⟨_,bw⟩,⟨_,bw⟩⟩
 ·obtain rfl:t=u.bz.length:=by omega
  refine cV ?_
  exact⟨⟨18,d1,rfl,bw⟩⟩
theorem sM (u:bx) (hu:u.Wf) (hr:cT u):Pure Tryz.prog 13 [u.av] (fun r=>r= .dK [wI (dJ u),i64 0]):=by
 have hf:=ug (dJ u)
 refine cx ((sK u hu hr).mono ?_) (by simp only[cI,cX];exact⟨hf,trivial,trivial⟩)
 rintro r H n ⟨b,d,rfl,hb⟩
 show AV.dK [cZ.dV H 5 (.sl b (dJ u).length),i64 0]=_
 rw[dc (k:=4) hb (by simp),cy _ hf]
end Go.Proofs.YtjopoheligmmoaaGreatDoor
end
section
/- Code that holds a piece without a lowered form; the world's turn at an iterator over a map. -/
namespace Go.cZ
open Go.RowKit
set_option linter.unusedSimpArgs false
set_option linter.unusedVariables false
def WC (P:Program) (n lo:Nat) (code:Code) (fr:Fr) (H:Hp) (nx:Nat) (Q:QT):Prop:=
 ∀w0 M0 c0 a w,Holds w0 M0 c0 lo n fr H nx a w→code.wp P (LQ w0 M0 c0 lo n Q) a w
section
variable {P:Program} {n lo:Nat} {fr:Fr} {H:Hp} {nx:Nat} {Q:QT}
theorem WC.low {code:Code} {lc:LC} (hl:cj P n code=some lc) (h:WL P n lo lc fr H nx Q):WC P n lo code fr H nx Q:=h code hl
theorem WC.seq {x y:Code} (h:WC P n lo x fr H nx (hX (fun fr H nx=>WC P n lo y fr H nx Q) Q)):WC P n lo (.seq x y) fr H nx Q:=by
 intro w0 M0 c0 a w hh
 refine wp_seq (Code.wp_mono ?_ (h w0 M0 c0 a w hh))
 rintro e a' w' ⟨x',fr',H',nx',rfl,hQ,hh'⟩
 cases x' with
 |normal=>exact hQ w0 M0 c0 a' w' hh'
 |exit id=>exact⟨.exit id,fr',H',nx',rfl,hQ,hh'⟩
 |ret=>exact⟨.ret,fr',H',nx',rfl,hQ,hh'⟩
theorem WC.rt {code:Code} {fr2:Fr} {H2:Hp} {nx2:Nat} (hw:Rt fr H nx fr2 H2 nx2) (h:WC P n lo code fr2 H2 nx2 Q):WC P n lo code fr H nx Q:=
 fun w0 M0 c0 a w hh=>h w0 M0 c0 a w (hw _ _ _ _ _ _ _ hh)
theorem WC.cut {x y:Code} {lx:LC} (hl:cj P n x=some lx) (h:Go (W P n lo lx fr H nx (hX (fun fr' H' nx'=>∃fr2 H2 nx2,Rt fr' H' nx' fr2 H2 nx2∧WC P n lo y fr2 H2 nx2 Q) Q))):WC P n lo (.seq x y) fr H nx Q:=
 WC.seq (WC.low hl ((ez h).mono fun e fr H nx hh=>by
  cases e with
  |normal=>
   obtain⟨fr2,H2,nx2,h1,h2⟩:=hh
   exact WC.rt h1 h2
  |exit id=>exact hh
  |ret=>exact hh))
theorem cG.TD {f:FuncId} {fn:Func} {code:Code} {args:List AV} {lrs:List jv} {R:AV→Hp→Nat→Prop} (hf:P.funcs[f]?=some fn) (hname:(fn.name== "runtime.NumGoroutine")=false)
 (hb:fn.body=some code) (hr:gL P fn.results.toList=some lrs) (ha:args.length≤fn.ntmps)
 (h:WC P fn.ntmps nx code (iQ 0 args) H nx (tJ lrs R)):cG P f args H nx R:=by
 refine⟨⟨fn,hf,by simp[hb],hname⟩,fun w0 c vs hS hH hU hv=>calls_of_wp hf hb ?_⟩
 obtain⟨ρ0,H0,U0,w,M0⟩:=c
 simp only at hH hU
 subst hH
 have hlen:=hv.length
 refine Code.wp_mono ?_ (h w0 M0 ⟨ρ0,bu H,U0,w,M0⟩ _ w ⟨?_,rfl,ρ0,U0,hU,hS,fun t=> ?_,hU,Cx.le.refl _⟩)
 ·rintro e a' w' ⟨x,fr',H',nx',rfl,hQ,hn,hd,ρ,U,hU',hS',hF,_,hle⟩
  have hQ:=wm hQ
  have fin:jY (iS fr' H' lrs) (fun rs=>R (pack rs) H' nx')→a'.defers=[]∧∃v,(results fn a'.tmps).run P w'= .ok v w'∧
   ∃v1 r H1 nx1 ρ1 U1,Ending.returned v= .returned v1∧R r H1 nx1∧(∀b,U1 b→b<nx1)∧dZ w0 ⟨ρ1,bu H1,U1,w',M0⟩∧Cx.le ⟨ρ0,bu H,U0,w,M0⟩ ⟨ρ1,bu H1,U1,w',M0⟩∧VR ⟨ρ1,bu H1,U1,w',M0⟩ r v1:=by
   intro hq
   cases hres:iS fr' H' lrs with
   |none=>rw[hres] at hq;exact hq.elim
   |some avs=>
    rw[hres] at hq
    obtain⟨v,g1,g2⟩:=mN (P:=P) (fn:=fn) hS' rfl hF hr hres
    exact⟨hd,v,g1,v,_,H',nx',ρ,U,rfl,hq,hU',hS',hle,g2⟩
  cases x with
  |normal=>exact fin hQ
  |ret=>exact fin hQ
  |exit id=>exact hQ.elim
 ·simp[hlen];omega
 ·have:=my (c:=⟨ρ0,bu H,U0,w,M0⟩) (args:=args) (vs:=vs) (k:=0) (pre:=[]) (post:=List.replicate (fn.ntmps - vs.length) undef) hv rfl t
  have e:(vs.toArray++Array.replicate (fn.ntmps - vs.toArray.size) undef)=([]++vs++List.replicate (fn.ntmps - vs.length) undef).toArray:=by
   apply Array.ext';simp
  simp only[e]
  exact this
theorem ew {ops:Array Oper} {o:Oper} {rest:List Oper} {a:Act} {w w':World} {v:Value} {Q:Exit→Act→World→Prop} (hg:o.guard=none) (hr:(execOp a.eval o).run P w= .ok (.value v) w') (h:wpList P ops Q rest (a.put o.dst v) w'):wpList P ops Q (o::rest) a w:=
 wpList_plain hg fun K hK=>by
  unfold Oper.wp
  rw[hr,Oper.upon_value]
  exact hK _ _ h
end
def rT (w w':World):Prop:=∀blk o sz v,0<sz→At w blk o sz v→At w' blk o sz v
mutual
theorem VR.gv {c:Cx} {w':World} (h:rT c.w w'):∀{a:AV} {v:Value},VR c a v→VR { c with w:=w' } a v
 | .sc u,v,hv=>by rw[VR] at hv ⊢;exact hv
 | .any,_,_=>by rw[VR];trivial
 | .im sz d es,v,hv=>by
  rw[VR] at hv ⊢
  obtain⟨a,cap,rfl,hc,hr⟩:=hv
  refine⟨a,cap,rfl,hc, ?_⟩
  rcases hr with h0|⟨blk,o,rfl,hz,hm,hr⟩
  ·exact .inl h0
  ·exact .inr ⟨blk,o,rfl,hz,hm,da.gv h hz hr⟩
 | .ip sz d es i off,v,hv=>by
  rw[VR] at hv ⊢
  obtain⟨hi,ho,blk,o,rfl,hm,hr⟩:=hv
  exact⟨hi,ho,blk,o,rfl,hm,da.gv h (by omega) hr⟩
 | .sl b len,v,hv=>by rw[VR] at hv ⊢;exact hv
 | .pt b len i off,v,hv=>by rw[VR] at hv ⊢;exact hv
 | .zc,v,hv=>by rw[VR] at hv ⊢;exact hv
 | .agg cs,v,hv=>by
  rw[VR] at hv ⊢
  obtain⟨vs,rfl,hr⟩:=hv
  exact⟨vs,rfl,cg.gv h hr⟩
 | .dK cs,v,hv=>by
  rw[VR] at hv ⊢
  obtain⟨vs,rfl,hr⟩:=hv
  exact⟨vs,rfl,cg.gv h hr⟩
 | .fn f p q,v,hv=>by
  rw[VR] at hv ⊢
  obtain⟨ps,qs,rfl,hp,hq⟩:=hv
  exact⟨ps,qs,rfl,cg.gv h hp,cg.gv h hq⟩
 | .l9 t x,v,hv=>by
  rw[VR] at hv ⊢
  obtain⟨u,rfl,hu⟩:=hv
  exact⟨u,rfl,VR.gv h hu⟩
 | .mp b,v,hv=>by rw[VR] at hv ⊢;exact hv
 | .ab,v,hv=>by rw[VR] at hv ⊢;exact hv
 | .sv b len lo n,v,hv=>by rw[VR] at hv ⊢;exact hv
theorem da.gv {c:Cx} {w':World} (h:rT c.w w') {sz:Nat} (hz:0<sz):∀{es:List AV} {blk o:Nat},da c sz es blk o→da { c with w:=w' } sz es blk o
 |[],_,_,_=>by rw[da];trivial
 |e::es,blk,o,hv=>by
  rw[da] at hv ⊢
  obtain⟨⟨v,h1,h2⟩,h3⟩:=hv
  exact⟨⟨v,h _ _ _ _ hz h1,VR.gv h h2⟩,da.gv h hz h3⟩
theorem cg.gv {c:Cx} {w':World} (h:rT c.w w'):∀{az:List AV} {vs:List Value},cg c az vs→cg { c with w:=w' } az vs
 |[],vs,hv=>by rw[cg] at hv ⊢;exact hv
 |a::az,vs,hv=>by
  rw[cg] at hv ⊢
  obtain⟨v,vs',rfl,h1,h2⟩:=hv
  exact⟨v,vs',rfl,VR.gv h h1,cg.gv h h2⟩
end
structure pd (w w':World) (it:Nat):Prop where
 os:w'.os=w.os
 tape:w'.tape=w.tape
 output:w'.output=w.output
 size:w.heap.size≤w'.heap.size
 cU:∀k,k<w.heap.size→k≠it→w'.heap[k]?=w.heap[k]?
 was:it<w.heap.size→∃m s l c,w.heap[it]?=some (.mapIter m s l c)
theorem pd.at_ {w w':World} {it:Nat} (h:pd w w' it):rT w w':=fun blk o sz v hz ha=>by
 have hlt:=ha.lt hz
 refine ha.cU (h.cU blk hlt fun e=> ?_)
 subst e
 obtain⟨m,s,l,c,hm⟩:=h.was hlt
 have:=ha.2.1 0 hz
 have h0:v.cells[0]?=some (v.cells[0]'(by rw[ha.1];exact hz)):=Array.getElem?_eq_getElem _
 rw[h0] at this
 simp[World.cell?,hm] at this
theorem dZ.gv {w0:World} {c:Cx} {w':World} {it:Nat} (h:dZ w0 c) (ht:pd c.w w' it) (hlow:w0.heap.size≤it):dZ w0 { c with w:=w' }:=by
 have hat:=ht.at_
 refine⟨⟨ht.os.trans h.below.os,ht.tape.trans h.below.tape,ht.output.trans h.below.output,Nat.le_trans h.below.size ht.size,fun k hk=> ?_⟩,h.m0,fun b e sz d es he=> ?_,h.inj⟩
 ·rw[ht.cU k (Nat.lt_of_lt_of_le hk h.below.size) (by omega)];exact h.below.block k hk
 ·obtain⟨h1,h2⟩:=h.row b e sz d es he
  refine⟨h1, ?_⟩
  have blkNe:∀blk o,blk<c.w.heap.size→c.w.heap[blk]?=some o→(∀m s l q,o≠ .mapIter m s l q)→w'.heap[blk]?=some o:=fun blk o hl ho hn=>by
   rw[ht.cU blk hl fun e=> ?_];exact ho
   subst e
   obtain⟨m,s,l,q,hm⟩:=ht.was hl
   rw[ho] at hm
   exact hn _ _ _ _ (Option.some.inj hm)
  rcases h2 with⟨hz,h3⟩|⟨hz,h3⟩
  ·refine .inl ⟨hz, ?_⟩
   rcases h3 with h4|⟨blk,o,z,h4,h5,⟨arr,h6,h7⟩,h8,h9⟩
   ·exact .inl h4
   ·exact .inr ⟨blk,o,z,h4,h5,⟨arr,blkNe blk _ (Array.getElem?_eq_some_iff.1 h6).1 h6 (by intros;simp),h7⟩,h8,da.gv hat hz h9⟩
  ·obtain⟨r,x,ms,clk,h4,h5,h6,h7,h8,h9⟩:=h3
   exact .inr ⟨hz,r,x,ms,clk,h4,h5,blkNe r _ (Array.getElem?_eq_some_iff.1 h6).1 h6 (by intros;simp),h7,VR.gv hat h8,h9⟩
theorem lj.gv {c0 c:Cx} {lo:Nat} {w':World} {it:Nat} (h:lj c0 lo c) (ht:pd c.w w' it) (hlow:c0.w.heap.size≤it):lj c0 lo { c with w:=w' }:=
 ⟨h.1,⟨h.2.U,Nat.le_trans h.2.sz ht.size,fun b hb hl=>by
  obtain⟨h1,h2⟩:=h.2.blk b hb hl
  exact⟨(ht.cU b (Nat.lt_of_lt_of_le hl h.2.sz) (by omega)).trans h1,h2⟩,h.2.row⟩⟩
theorem FR.gv {c:Cx} {fr:Fr} {tmps:Array Value} {w':World} (h:FR c fr tmps) (ht:rT c.w w'):FR { c with w:=w' } fr tmps:=fun t=>VR.gv ht (h t)
theorem FR.aAI {c:Cx} {fr:Fr} {tmps tmps':Array Value} (h:FR c fr tmps) (hk:∀t,cc fr t≠ .any→tmps'.getD t undef=tmps.getD t undef):FR c fr tmps':=fun t=>by
 by_cases e:cc fr t= .any
 ·rw[e,VR];trivial
 ·rw[hk t e];exact h t
theorem qV {a:Act} {d t:Nat} {v:Value} (h:t≠d):(a.put (some d) v).tmps.getD t undef=a.tmps.getD t undef:=by
 simp only[Act.put]
 simp[Array.getD_eq_getD_getElem?,Array.getElem?_setIfInBounds,Ne.symm h]
theorem PI {a:Act} {d:Nat} {v:Value} (h:d<a.tmps.size):(a.put (some d) v).tmps.getD d undef=v:=by
 simp[Act.put,Array.getD_eq_getD_getElem?,Array.getElem?_setIfInBounds,h]
theorem AQ {P:Program} (w:World) (ty:TypeId) (it bm since c0:Nat) (seen:Array Nat) (es:Array MapEntry) (clock:Nat) (hi:w.heap[it]?=some (.mapIter (some bm) since seen c0)) (hb:w.heap[bm]?=some (.map es clock)) (hold:∀x∈es.toList,x.born<since) (hsc:since≤c0):
 ((leftOf es seen).size=0∧(Instr.next (.pointer (some ⟨it,0,none⟩)) false ty).run P w= .ok (.tuple #[.bool false]) w)∨
 ∃e∈(leftOf es seen).toList,∃w1:World,pd w w1 it∧w1.heap.size=w.heap.size∧w1.heap[it]?=some (.mapIter (some bm) since (seen.push e.born) clock)∧(Instr.next (.pointer (some ⟨it,0,none⟩)) false ty).run P w= .ok (.tuple #[.bool true,e.key,e.val]) w1:=by
 have hlt:it<w.heap.size:=(Array.getElem?_eq_some_iff.1 hi).1
 simp only[Instr.next,getObj,Sem.run_bind,Sem.run,hi,hb,Result.andThen,next_test_false seen es since c0 hold hsc,Bool.false_eq_true,if_false]
 unfold leftOf
 have hmem:∀x∈(Array.filter (fun e=> !seen.contains e.born) es).toList,x.born<since:=fun x hx=>hold x (by simp at hx ⊢;exact hx.1)
 generalize Array.filter (fun e=> !seen.contains e.born) es=L at hmem ⊢
 have e1:L.filter (fun x=>decide (x.born<since))=L:=Array.filter_eq_self.2 (fun x hx=>by simpa using hmem x (by simpa using hx))
 have e2:L.filter (fun x=>decide (x.born≥since))=#[]:=by
  rw[Array.filter_eq_empty_iff]
  intro x hx
  have:=hmem x (by simpa using hx)
  simp
  omega
 simp only[e1,e2,Array.append_empty]
 by_cases h0:L.size=0
 ·left
  have:L=#[]:=Array.eq_empty_of_size_eq_zero h0
  subst this
  refine⟨rfl, ?_⟩
  simp[choose,Sem.run,Question.forced]
 ·right
  have hne:L.isEmpty=false:=by simp[Array.isEmpty,h0]
  simp only[hne,Bool.false_eq_true,if_false,Array.empty_append,Array.size_map]
  have hch:∃(j:Nat) (w1:World),j<L.size∧(w1.heap=w.heap∧w1.os=w.os∧w1.tape=w.tape∧w1.output=w.output)∧(choose (Question.mapNext L.size)).run P w= .ok j w1:=by
   by_cases hf:L.size≤1
   ·exact⟨0,w,by omega,⟨rfl,rfl,rfl,rfl⟩,by simp[choose,Sem.run,Question.forced,hf]⟩
   ·exact⟨_,w.drew,Nat.mod_lt _ (by omega),⟨rfl,rfl,rfl,rfl⟩,by
     simp only[choose,Sem.run,Question.forced,decide_eq_true_eq,hf,if_false,Question.cut]
     rfl⟩
  obtain⟨j,w1,hj,⟨a1,a2,a3,a4⟩,hrun⟩:=hch
  refine⟨L[j],by simp,{ w1 with heap:=w1.heap.setIfInBounds it (.mapIter (some bm) since (seen.push L[j].born) clock) },⟨a2,a3,a4,by simp[a1],fun k hk hne=>by simp[a1,Array.getElem?_setIfInBounds,Ne.symm hne],fun _=>⟨_,_,_,_,hi⟩⟩,by simp[a1],by simp[a1,hlt], ?_⟩
  have hset:∀(o':Obj),(setObj it o').run P w1= .ok () { w1 with heap:=w1.heap.setIfInBounds it o' }:=fun o'=>by
   simp only[setObj,Sem.run,a1,hi]
  simp only[hrun,Array.getElem?_map,Array.getElem?_eq_getElem hj,Option.map_some,Sem.run_bind,hset,Result.andThen]
  rfl
theorem wu {P:Program} (w:World) (it bm since:Nat) (seen:Array Nat) (es:Array MapEntry) (clock:Nat) (e:MapEntry) (hi:w.heap[it]?=some (.mapIter (some bm) since (seen.push e.born) clock)) (hb:w.heap[bm]?=some (.map es clock)) (he:e∈es.toList) (hn:(es.toList.map (·.born)).Nodup):
 (Instr.entry (.pointer (some ⟨it,0,none⟩))).run P w= .ok (.tuple #[e.key,e.val]) w:=by
 have hf:es.find? (·.born==e.born)=some e:=by rw[←Array.find?_toList];exact find_born e es.toList hn he
 simp only[Instr.entry,getObj,Sem.run_bind,Sem.run,hi,hb,Result.andThen,Array.back?_push,bne_self_eq_false,Bool.false_eq_true,if_false,hf]
 rfl
end Go.cZ
end
section
/- The library's sort of ints at this program, as a tool of the kit laid it in plain words. -/
namespace Go.Proofs
open Go.Shelf
def Tryz.KS:Go.Shelf.Ren:=⟨fun|5=>40|8=>82|7=>81|19=>141|20=>142|10=>132|11=>133|12=>134|13=>135|14=>136|15=>137|16=>138|17=>139|18=>140|30=>172|31=>173|32=>174|33=>175|34=>176|35=>104|40=>200|n=>n,fun|23=>31|25=>3|3=>3|32=>142|22=>31|0=>0|44=>132|46=>206|4=>4|36=>198|35=>197|41=>203|5=>5|9=>9|53=>231|57=>235|63=>266|64=>267|n=>n,fun|n=>n⟩
theorem Tryz.eH:Go.Proofs.SlLaysM.n5 Tryz.prog Tryz.KS:={
 mixed:=by kernel_rfl
 f5:=⟨Tryz.f40.name,by decide,Tryz.func40.trans (congrArg some (by kernel_rfl))⟩
 f7:=⟨Tryz.f81.name,by decide,Tryz.func81.trans (congrArg some (by kernel_rfl))⟩
 f8:=Tryz.func82.trans (congrArg some (by kernel_rfl))
 f10:=⟨Tryz.f132.name,by decide,Tryz.func132.trans (congrArg some (by kernel_rfl))⟩
 f11:=⟨Tryz.f133.name,by decide,Tryz.func133.trans (congrArg some (by kernel_rfl))⟩
 f12:=⟨Tryz.f134.name,by decide,Tryz.func134.trans (congrArg some (by kernel_rfl))⟩
 f13:=⟨Tryz.f135.name,by decide,Tryz.func135.trans (congrArg some (by kernel_rfl))⟩
 f14:=⟨Tryz.f136.name,by decide,Tryz.func136.trans (congrArg some (by kernel_rfl))⟩
 f15:=⟨Tryz.f137.name,by decide,Tryz.func137.trans (congrArg some (by kernel_rfl))⟩
 f16:=⟨Tryz.f138.name,by decide,Tryz.func138.trans (congrArg some (by kernel_rfl))⟩
 f17:=⟨Tryz.f139.name,by decide,Tryz.func139.trans (congrArg some (by kernel_rfl))⟩
 f18:=⟨Tryz.f140.name,by decide,Tryz.func140.trans (congrArg some (by kernel_rfl))⟩
 f19:=Tryz.func141.trans (congrArg some (by kernel_rfl))
 f20:=Tryz.func142.trans (congrArg some (by kernel_rfl))
 f30:=⟨Tryz.f172.name,by decide,Tryz.func172.trans (congrArg some (by kernel_rfl))⟩
 f31:=Tryz.func173.trans (congrArg some (by kernel_rfl))
 f32:=Tryz.func174.trans (congrArg some (by kernel_rfl))
 f33:=⟨Tryz.f175.name,by decide,Tryz.func175.trans (congrArg some (by kernel_rfl))⟩
 f34:=⟨Tryz.f176.name,by decide,Tryz.func176.trans (congrArg some (by kernel_rfl))⟩
 f35:=⟨Tryz.f104.name,by decide,Tryz.func104.trans (congrArg some (by kernel_rfl))⟩
 f40:=⟨Tryz.f200.name,by decide,Tryz.func200.trans (congrArg some (by kernel_rfl))⟩
 t0:=Tryz.underlying0
 a0:=Tryz.isAgg0
 z0:=Tryz.sizeOf0
 v0:=Tryz.zeroValue0
 t3:=Tryz.underlying3
 a3:=Tryz.isAgg3
 z3:=Tryz.sizeOf3
 v3:=Tryz.zeroValue3
 t4:=Tryz.underlying4
 a4:=Tryz.isAgg4
 z4:=Tryz.sizeOf4
 v4:=Tryz.zeroValue4
 t5:=Tryz.underlying5
 a5:=Tryz.isAgg5
 z5:=Tryz.sizeOf5
 v5:=Tryz.zeroValue5
 t9:=Tryz.underlying9
 a9:=Tryz.isAgg9
 z9:=Tryz.sizeOf9
 v9:=Tryz.zeroValue9
 t22:=Tryz.underlying31
 a22:=Tryz.isAgg31
 z22:=Tryz.sizeOf31
 v22:=Tryz.zeroValue31
 t23:=Tryz.underlying31
 a23:=Tryz.isAgg31
 z23:=Tryz.sizeOf31
 v23:=Tryz.zeroValue31
 t25:=Tryz.underlying3
 a25:=Tryz.isAgg3
 z25:=Tryz.sizeOf3
 v25:=Tryz.zeroValue3
 t32:=Tryz.underlying142
 a32:=Tryz.isAgg142
 z32:=Tryz.sizeOf142
 v32:=Tryz.zeroValue142
 t35:=Tryz.underlying197
 a35:=Tryz.isAgg197
 z35:=Tryz.sizeOf197
 v35:=Tryz.zeroValue197
 t36:=Tryz.underlying198
 a36:=Tryz.isAgg198
 z36:=Tryz.sizeOf198
 v36:=Tryz.zeroValue198
 t41:=Tryz.underlying203
 a41:=Tryz.isAgg203
 z41:=Tryz.sizeOf203
 v41:=Tryz.zeroValue203
 t44:=Tryz.underlying132
 a44:=Tryz.isAgg132
 z44:=Tryz.sizeOf132
 v44:=Tryz.zeroValue132
 t46:=Tryz.underlying206
 a46:=Tryz.isAgg206
 z46:=Tryz.sizeOf206
 v46:=Tryz.zeroValue206
 t53:=Tryz.underlying231
 a53:=Tryz.isAgg231
 z53:=Tryz.sizeOf231
 v53:=Tryz.zeroValue231
 t57:=Tryz.underlying235
 a57:=Tryz.isAgg235
 z57:=Tryz.sizeOf235
 v57:=Tryz.zeroValue235
 t63:=Tryz.underlying266
 a63:=Tryz.isAgg266
 z63:=Tryz.sizeOf266
 v63:=Tryz.zeroValue266
 t64:=Tryz.underlying267
 a64:=Tryz.isAgg267
 z64:=Tryz.sizeOf267
 v64:=Tryz.zeroValue267 }
end Go.Proofs
end
section
/- The library's sort of ints, on a row of the call's own. -/
namespace Go.Proofs.YtjopoheligmmoaaGreatDoor
open Go Go.cZ Go.Proofs Go.RowKit Go.Sort
set_option linter.unusedSimpArgs false
set_option linter.unusedVariables false
def eH (l:List Int):List Int:=l.mergeSort fun x y=>decide (x≤y)
theorem kq (l:List Int):(eH l).length=l.length:=List.length_mergeSort l
theorem KR {l:List Int} {x:Int}:x∈eH l↔x∈l:=(List.mergeSort_perm l _).mem_iff
theorem D6 {w0:World} {c:Cx} (hS:dZ w0 c) {b:Nat} {e:TypeId} {d:AV} {l:List Int} (hcb:c.H b=some (.row e 1 d (l.map i64))) (h0:l≠[]) (hl:l.length<4611686018427387904) {v:Value} (hv:VR c (.sl b l.length) v):
 Calls Tryz.prog 40 #[v] c.w fun en w'=>en= .returned (.tuple #[])∧dZ w0 ⟨c.ρ,ep c.H b (some (.row e 1 d ((eH l).map i64))),c.U,w',c.M0⟩∧c.le ⟨c.ρ,ep c.H b (some (.row e 1 d ((eH l).map i64))),c.U,w',c.M0⟩∧
  c.w.heap.size≤w'.heap.size∧∀i,i<c.w.heap.size→(∀o z,c.ρ b≠some (i,o,z))→w'.heap[i]?=c.w.heap[i]?:=by
 rw[VR] at hv
 obtain⟨hUb,a,cap,rfl,hr⟩:=hv
 obtain⟨_,hr2⟩:=hr _ _ _ _ hcb
 have hr3:=hr2 (by simp)
 obtain⟨_,_,hor⟩:=hS.j4 b _ _ _ _ hcb (.inr (by omega))
 have hln:0<l.length:=List.length_pos_iff.2 h0
 rcases hor with⟨_,hes⟩|⟨blk,o,z,hρ,hlow,⟨arr,harr,hsz⟩,hlz,hrow⟩
 ·exact absurd (List.map_eq_nil_iff.1 hes) h0
 rcases hr3 with⟨h1,_,_⟩|⟨blk',o',z',h1,rfl,hc1,hc2,hc3,_⟩
 ·rw[hρ] at h1;cases h1
 rw[hρ] at h1
 cases h1
 have hblk:blk<c.w.heap.size:=(Array.getElem?_eq_some_iff.1 harr).1
 rw[List.length_map] at hlz
 have hcell:∀j,j<l.length→c.w.cell? ⟨blk,o+j,none⟩=some (.int .i64 (l.getD j 0)):=fun j hj=>by
  obtain⟨v,⟨hv1,hv2,_⟩,hv3⟩:=dh hrow j (by simpa using hj)
  rw[dQ i64 l j .any hj,VR] at hv3
  have:=hv2 0 (by omega)
  rw[hv3] at this
  rw[Nat.mul_one,Nat.add_zero] at this
  rw[this];rfl
 have hHolds:Go.Sort.Holds (Value.int .i64) c.w blk o l.toArray:=fun j hj=>by
  have hj':j<l.length:=by simpa using hj
  refine⟨?_, ?_⟩
  ·rw[hcell j hj',getElem!_pos l.toArray j hj]
   simp[List.getD,hj']
  ·simp only[World.frozen?,harr]
   simp
 refine(AnyM.slices_Sort_int Tryz.eH blk o cap l c.w hHolds hblk hl).mono ?_
 rintro en w' ⟨rfl,n,os,hw'⟩
 change w'=grow (putRow (Value.int .i64) (Go.Sort.ahead c.w n) blk o (eH l).toArray) os at hw'
 have hlen:=kq l
 have hsz1:(putRow (Value.int .i64) (Go.Sort.ahead c.w n) blk o (eH l).toArray).heap.size=c.w.heap.size:=by simp[Go.Sort.ahead]
 have hold:∀i,i<c.w.heap.size→w'.heap[i]?=(putRow (Value.int .i64) (Go.Sort.ahead c.w n) blk o (eH l).toArray).heap[i]?:=fun i hi=>by
  rw[hw',heap_grow_old _ _ (by rw[hsz1];exact hi)]
 have hne:∀i,i<c.w.heap.size→i≠blk→w'.heap[i]?=c.w.heap[i]?:=fun i hi hn=>by
  rw[hold i hi]
  simp[putRow,mapBlock,Go.Sort.ahead,Array.getElem?_modify,Ne.symm hn]
 have hat:w'.heap[blk]?=some (.cells (putCells (Value.int .i64) o (eH l).toArray arr) e (0,0)):=by
  rw[hold blk hblk]
  simp[putRow,mapBlock,Go.Sort.ahead,Array.getElem?_modify,harr,onCells]
 have hHn:∀j,j<l.length→w'.cell? ⟨blk,o+j,none⟩=some (.int .i64 ((eH l).getD j 0)):=fun j hj=>by
  have h1:Go.Sort.Holds (Value.int .i64) (putRow (Value.int .i64) (Go.Sort.ahead c.w n) blk o (eH l).toArray) blk o (eH l).toArray:=
   holds_putRow _ _ _ _ l.toArray (eH l).toArray (fun j hj=>hHolds j hj) (by simp[hlen])
  have hj2:j<(eH l).toArray.size:=by simp[hlen];exact hj
  have h2:=(h1 j hj2).1
  rw[World.cell?_of_block (a:=⟨blk,o+j,none⟩) (hold blk hblk),h2,getElem!_pos _ j hj2]
  have hj3:j<(eH l).length:=by rw[hlen];exact hj
  simp[List.getD,hj3]
 have hss:c.w.heap.size≤w'.heap.size:=by
  rw[hw']
  have:(putRow (Value.int .i64) (Go.Sort.ahead c.w n) blk o (eH l).toArray).heap.size≤(grow (putRow (Value.int .i64) (Go.Sort.ahead c.w n) blk o (eH l).toArray) os).heap.size:=by simp[grow]
  rw[hsz1] at this
  exact this
 have hput:=hS.pO (b:=b) (e:=e) (sz:=1) d (es:=(eH l).map i64) (w':=w') (blk:=blk) (o:=o) (z:=z) (arr:=putCells (Value.int .i64) o (eH l).toArray arr) (by omega)
  (.inr ⟨_,_,_,hcb, .inl ⟨by simp[hlen],hρ⟩⟩) (.inr ⟨_,_,_,hcb,hρ⟩) (by rw[hw'];rfl) (by rw[hw'];rfl) (by rw[hw'];rfl) hss hne hat (by simpa[putCells] using hsz) (by simp[hlen];omega) (fun hle i hi=>by
   have hi':i<l.length:=by simpa[hlen] using hi
   refine⟨.int .i64 ((eH l).getD i 0),⟨rfl,fun j hj=> ?_,fun j u hu=> ?_⟩, ?_⟩
   ·have:j=0:=by omega
    subst this
    rw[Nat.mul_one,Nat.add_zero,hHn i hi'];rfl
   ·have:u= .int .i64 ((eH l).getD i 0):=by
     have:=List.mem_of_getElem? (l:=[Value.int .i64 ((eH l).getD i 0)]) (by simpa[Value.cells] using hu)
     simpa using this
    rw[this];rfl
   ·rw[dQ i64 (eH l) i .any (by rw[hlen];exact hi'),VR];rfl)
 have hρe:ep c.ρ b (some (blk,o,z))=c.ρ:=by
  funext x
  by_cases hx:x=b
  ·subst hx;simp[hρ]
  ·exact eF _ _ hx
 have hUe:(fun x=>c.U x∨x=b)=c.U:=by
  funext x
  exact propext ⟨fun h=>h.elim id fun e=>e▸hUb, .inl⟩
 rw[hρe,hUe] at hput
 refine⟨rfl,hput.1,hput.2,hss,fun i hi hno=>hne i hi fun e=> ?_⟩
 subst e
 exact hno _ _ hρ
end Go.Proofs.YtjopoheligmmoaaGreatDoor
end
section
/- The loop of Ring that sorts where each lock leads: a range over a map, in whatever order. -/
namespace Go.cZ
open Go.RowKit
set_option linter.unusedSimpArgs false
set_option linter.unusedVariables false
theorem K9 {P:Program} {c:Code} {Q:Exit→Act→World→Prop} {a:Act} {w:World} (I:Nat→Act→World→Prop) {m0:Nat} (h0:I m0 a w)
 (round:∀m a w,I m a w→c.wp P (Exit.then (fun a' w'=>∃m',m'<m∧I m' a' w') Q) a w):(Code.loop c).wp P Q a w:=by
 intro b k cs
 have key:∀m a w,I m a w→∃e a' w',Q e a' w'∧Arrives P (lone (b.at a (.code c:: .inLoop c::k)) cs w) b k cs e a' w':=by
  intro m
  induction m using Nat.strongRecOn with
  |_ m ih=>
   intro a w hI
   obtain⟨e,a1,w1,hq,harr⟩:=round m a w hI b (.inLoop c::k) cs
   cases e with
   |normal=>
    obtain⟨m',hlt,hI1⟩:=hq
    obtain⟨e2,a2,w2,hq2,harr2⟩:=ih m' hlt a1 w1 hI1
    exact⟨e2,a2,w2,hq2, .of_steps (Steps.trans harr (.one step_inLoop)) harr2⟩
   |exit id=>exact⟨_,a1,w1,hq, .pass (x:= .inLoop c) rfl (fun _ _=> .inl (by simp)) harr⟩
   |goto l=>exact⟨_,a1,w1,hq, .pass (x:= .inLoop c) rfl (fun _ _=> .inl (by simp)) harr⟩
   |ret=>exact⟨_,a1,w1,hq, .pass (x:= .inLoop c) rfl (fun _ _=> .inl (by simp)) harr⟩
   |panic ch=>exact⟨_,a1,w1,hq, .pass (x:= .inLoop c) rfl (fun _ _=> .inl (by simp)) harr⟩
   |outgrown=>exact⟨_,a1,w1,hq, .pass (x:= .inLoop c) rfl (fun _ _=> .inl (by simp)) harr⟩
 obtain⟨e,a',w',hq,harr⟩:=key m0 a w h0
 exact⟨e,a',w',hq, .of_steps (.one step_loop) harr⟩
def TI (a:Act):List (Nat×Value)→Act
 |[]=>a
 |(d,v)::r=>TI (a.put (some d) v) r
theorem tI {t:Nat}:∀(l:List (Nat×Value)) (a:Act),(∀p∈l,t≠p.1)→(TI a l).tmps.getD t undef=a.tmps.getD t undef
 |[],a,_=>rfl
 |(d,v)::r,a,h=>by
  rw[TI,tI r _ fun p hp=>h p (List.mem_cons_of_mem _ hp)]
  exact qV (h (d,v) (by simp))
theorem dv {a:Act} {d:Nat} {v:Value} (h:d<a.tmps.size):(a.put (some d) v).eval (.tmp d)=v:=PI h
theorem dP {a:Act} {d t:Nat} {v:Value} (h:t≠d):(a.put (some d) v).eval (.tmp t)=a.eval (.tmp t):=qV h
theorem xK {P:Program} {a:Act} {w:World} {o:Oper} {t kt e:TypeId} {x k:Operand} {d:TypeDesc} {str:Bool} {rr clk:Nat} {ms:Array MapEntry} {kv v:Value} {j:Nat} (ho:o.op= .lookup t x k false) (ht:P.underlying t=some (.map kt e)) (hu:P.underlying kt=some d) (hd:yU d=some str) (hok:jd str kv=true)
 (hx:a.eval x= .map (some rr)) (hkk:a.eval k=kv) (hheap:w.heap[rr]?=some (.map ms clk)) (hf:Instr.findNow d kv ms.toList 0=some (some (j,v))):(execOp a.eval o).run P w= .ok (.value v) w:=by
 have hck:∀n,(Instr.checkKey ms.isEmpty (n+1) kt kv).run P w= .ok () w:=fun n=>oy hu hd hok _ n w
 have hget:=MapKept.run_getObj_map (P:=P) hheap
 have hfk:=kn (P:=P) hu hf w
 unfold execOp
 simp only[ho,Instr.lookup,Sem.run_bind,run_underlying ht,Result.andThen_ok,hx,hkk,hget,Sem.run_pure,hck,hfk]
 simp only[Sem.run_bind,Sem.run_pure,Result.andThen_ok,Bool.false_eq_true,if_false]
end Go.cZ
namespace Go.Proofs.YtjopoheligmmoaaGreatDoor
open Go Go.cZ Go.Proofs Go.RowKit
set_option linter.unusedSimpArgs false
set_option linter.unusedVariables false
def Code.l:Code→Code
 | .seq a _=>a
 |c=>c
def Code.r:Code→Code
 | .seq _ b=>b
 |c=>c
def VN {P:Program} {f:Nat} {fn:Func} (_:P.funcs[f]?=some fn):Option Code:=fn.body
noncomputable def ir:Code:=(VN Tryz.func15).getD .skip
noncomputable def YZ:Code:=Code.l (Code.r (Code.r (Code.r (Code.r (Code.r ir)))))
def eV (L:List (Int×Nat)) (S:Int→List Int):List AV:=L.map fun p=>nK (.int .i64 p.1) (.sl p.2 (S p.1).length)
structure BI (L:List (Int×Nat)) (S:Int→List Int) (mb nx lo n:Nat) (fr:Fr) (H:Hp) (w0:World) (M0:Nat→Prop) (c0:Cx) (V:List Int) (H':Hp) (ρ:Nat→Option (Nat×Nat×Nat)) (U:Nat→Prop) (seen:Array Nat) (r:Nat) (ms:Array MapEntry) (clk it:Nat) (a:Act) (w:World):Prop where
 size:a.tmps.size=n
 defers:a.defers=[]
 rows:∀p∈L,∃d,bu H' p.2=some (.row 3 1 d ((if p.1∈V then eH (S p.1) else S p.1).map i64))
 rest:∀b,b∉L.map (·.2)→bu H' b=bu H b
 names:∀b,U b→b<nx
 WY:dZ w0 ⟨ρ,bu H',U,w,M0⟩
 fr:FR ⟨ρ,bu H',U,w,M0⟩ fr a.tmps
 P6:lj c0 lo ⟨ρ,bu H',U,w,M0⟩
 at_:ρ mb=some (r,0,0)
 map:w.heap[r]?=some (.map ms clk)
 born:l7 ms clk
 ents:gF ⟨ρ,bu H',U,w,M0⟩ (eV L S) ms.toList
 iter:w.heap[it]?=some (.mapIter (some r) clk seen clk)
 reg:a.eval (.tmp 50)= .pointer (some ⟨it,0,none⟩)
 low:w0.heap.size≤it
 WJ:c0.w.heap.size≤it
end Go.Proofs.YtjopoheligmmoaaGreatDoor
end
