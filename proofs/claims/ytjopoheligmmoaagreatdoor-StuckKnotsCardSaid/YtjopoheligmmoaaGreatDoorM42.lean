import Derived.Test.YtjopoheligmmoaaGreatDoorM41
import Derived.Test.YtjopoheligmmoaaGreatDoorM39
import Derived.Test.YtjopoheligmmoaaGreatDoorM31
import Derived.Test.YtjopoheligmmoaaGreatDoorM27
namespace Go.Proofs.YtjopoheligmmoaaGreatDoor
open Go Go.cu Go.Proofs
set_option linter.unusedSimpArgs false
set_option linter.unusedVariables false
set_option maxRecDepth 8000
theorem NV (n:Nat) (u:bz) (m:MS):cK n (m.av u):=by simp[cK]
set_option maxHeartbeats 4000000 in
theorem HK (u:bz) (hu:u.Wf) (hr:ca u) (c0:Pure Tryz.prog 37 [u.av] (fun r=>r=sa (0,0,0))):Pure Tryz.prog 51 [u.av] (fun r=>r= .dD [(cr u).av u,i64 0]):=by
 have hgl:=hr.oW
 refine cm ?_ (by simp[cK,cX])
 refine aI V6 rfl ?_
 refine cV ?_
 rw[List.length_map]
 have hsz:∀t,t<u.bw.length->0<=(u.gr t).cA/\(u.gr t).cA<=4160:=fun t ht=>by
  have h1:=(hr.gr ht).cA
  have h2:=(hr.gr ht).locals
  omega
 have hnat:(cr u).at_.length=u.bw.length:=by simp[cr]
 have hnsl:(cr u).cA.length=u.bw.length:=by simp[cr]
 have hnml:(cr u).mem.length=u.shared.length:=by simp[cr]
 have hnhl:(cr u).hold.length=u.cB.length:=by simp[cr]
 have hns:∀t,t<u.bw.length->(cr u).cA.getD t []=List.replicate (u.gr t).cA.toNat 0:=fun t ht=>by simp[cr,List.getD,bz.gr,ht]
 refine aS (fun σ:Nat×List Nat=>[(1, .pt 0 1 0 0),(2, .pt 1 1 0 0),(7, .pt 15 1 0 0),(25,cW u.bw),(26,i64 u.bw.length),(27,i64 σ.1)])
  (fun σ H n=>σ.1<=u.bw.length/\26<=n/\σ.2.length=σ.1/\σ.2.Nodup/\(∀x∈σ.2,26<=x/\x<n)/\(∃d,bu H 0=some (.row 25 3 d [u.av]))/\(∃d,bu H 1=some (.row 96 8 d [gC true [.slice none 0 0, .slice none 0 0, .slice none 0 0, .slice none 0 0, .slice none 0 0, .slice none 0 0, .slice none 0 0, .slice none 0 0]]))/\(∃d,bu H 15=some (.row 96 8 d [.agg [cE u.shared,cE u.cB,cW u.bw, .sl 21 σ.1, .sl 22 σ.1, .sl 23 0, .sl 24 0, .sl 25 0]]))/\(∃d,bu H 21=some (.row 3 1 d (((cr u).at_.take σ.1).map i64)))/\(∃d,bu H 22=some (.row 93 1 d (dR σ.2 ((cr u).cA.take σ.1))))/\(∃d,bu H 23=some (.row 2 1 d (((cr u).mem.take 0).map i64)))/\(∃d,bu H 24=some (.row 3 1 d (((cr u).hold.take 0).map i64)))/\(∃d,bu H 25=some (.row 155 2 d []))/\(∀t,t<σ.1->∃d,bu H (σ.2.getD t 0)=some (.row 2 1 d (((cr u).cA.getD t []).map i64)))) (fun σ=>u.bw.length - σ.1) (0,[])
  ⟨_,_,_,Rt.trans (Rt.wk (Wk.gH (b:=15) (nx:=21) (e:=3) (sz:=1) cZ (by omega) (te:=96) (tz:=8) (cs:=[cE u.shared,cE u.cB,cW u.bw, .sc (.slice none 0 0), .sc (.slice none 0 0), .sc (.slice none 0 0), .sc (.slice none 0 0), .sc (.slice none 0 0)]) (j:=3) bx (by show 3<8;omega) rfl)) (Rt.trans (Rt.wk (Wk.gH (b:=15) (nx:=22) (e:=93) (sz:=1) cZ (by omega) (te:=96) (tz:=8) (cs:=[cE u.shared,cE u.cB,cW u.bw, .sl 21 0, .sc (.slice none 0 0), .sc (.slice none 0 0), .sc (.slice none 0 0), .sc (.slice none 0 0)]) (j:=4) bx (by show 4<8;omega) rfl)) (Rt.trans (Rt.wk (Wk.gH (b:=15) (nx:=23) (e:=2) (sz:=1) cZ (by omega) (te:=96) (tz:=8) (cs:=[cE u.shared,cE u.cB,cW u.bw, .sl 21 0, .sl 22 0, .sc (.slice none 0 0), .sc (.slice none 0 0), .sc (.slice none 0 0)]) (j:=5) bx (by show 5<8;omega) rfl)) (Rt.trans (Rt.wk (Wk.gH (b:=15) (nx:=24) (e:=3) (sz:=1) cZ (by omega) (te:=96) (tz:=8) (cs:=[cE u.shared,cE u.cB,cW u.bw, .sl 21 0, .sl 22 0, .sl 23 0, .sc (.slice none 0 0), .sc (.slice none 0 0)]) (j:=6) bx (by show 6<8;omega) rfl)) (Rt.wk (Wk.gH (b:=15) (nx:=25) (e:=155) (sz:=2) cZ (by omega) (te:=96) (tz:=8) (cs:=[cE u.shared,cE u.cB,cW u.bw, .sl 21 0, .sl 22 0, .sl 23 0, .sl 24 0, .sc (.slice none 0 0)]) (j:=7) bx (by show 7<8;omega) rfl))))),cH,Nat.zero_le _,cZ,rfl,List.nodup_nil,fun x hx=>by simp at hx,⟨_,bx⟩,⟨_,bx⟩,⟨_,bx⟩,⟨_,bx⟩,⟨_,bx⟩,⟨_,bx⟩,⟨_,bx⟩,⟨_,bx⟩,fun t ht=>absurd ht (Nat.not_lt_zero _)⟩ ?_
 rintro⟨t,ids⟩ H n ⟨ht,hn,hil,hnd,hin,⟨d0,r0'⟩,⟨d1,r1'⟩,⟨d2,r2'⟩,⟨d3,r3'⟩,⟨d4,r4⟩,⟨d5,r5⟩,⟨d6,r6⟩,⟨d7,r7⟩,hls⟩
 dsimp only at ht hil hnd hin r2' r3' r4 hls ⊢
 have htk:((cr u).cA.take t).length=t:=by rw[List.length_take];omega
 have htk2:(((cr u).at_.take t).map i64).length=t:=by rw[List.length_map,List.length_take];omega
 have hrl:(dR ids ((cr u).cA.take t)).length=t:=by unfold dR;rw[List.length_map,List.length_zip,htk,hil];omega
 by_cases htl:t<u.bw.length
 ·have e0:=fun d=>mi (l:=u.bw) htl d
  rw[show u.bw.getD t default=u.gr t from rfl] at e0
  have a0:(u.bw.map cF.av).length=u.bw.length:=by simp
  obtain⟨s1,s2⟩:=hsz t htl
  have hnx1:((cr u).at_.take (t+1)).map i64=((cr u).at_.take t).map i64++[i64 0]:=by
   rw[List.take_succ_eq_append_getElem (by omega),List.map_append]
   simp[cr]
  have hnx3:((cr u).cA.getD t []).map i64=List.replicate (u.gr t).cA.toNat (i64 0):=by rw[hns t htl];simp
  have hnx2:dR (ids++[n+15]) ((cr u).cA.take (t+1))=dR ids ((cr u).cA.take t)++[.sl (n+15) (u.gr t).cA.toNat]:=by
   have e:=hns t htl
   rw[List.take_succ_eq_append_getElem (by omega),nq (by rw[hil,htk]),show(cr u).cA[t]'(by omega)=List.replicate (u.gr t).cA.toNat 0 by rw[<-e];simp[List.getD,show t<(cr u).cA.length by omega]]
   simp
  refine cV ?_
  refine⟨(t+1,ids++[n+15]),by dsimp only;omega,_,_,_,Rt.refl _ _ _,cH,by dsimp only;omega,cZ,by simp[hil], ?_, ?_,⟨_,bx⟩,⟨_,bx⟩,⟨_,bx⟩,⟨_,by dsimp only;rw[hnx1];exact bx⟩,⟨_,by dsimp only;rw[hnx2];exact bx⟩,⟨_,bx⟩,⟨_,bx⟩,⟨_,bx⟩, ?_⟩
  ·refine List.nodup_append.2 ⟨hnd,by simp,fun a ha b hb=> ?_⟩
   simp only[List.mem_cons,List.not_mem_nil,or_false] at hb
   have:=hin _ ha;omega
  ·intro x hx
   rcases List.mem_append.1 hx with hx|hx
   ·have:=hin _ hx;exact⟨this.1,Nat.lt_of_lt_of_le this.2 cZ⟩
   ·simp only[List.mem_cons,List.not_mem_nil,or_false] at hx
    subst hx;exact⟨by omega,cZ⟩
  ·intro q hq
   have hq:q<t+1:=hq
   by_cases e:q=t
   ·subst e
    have e2:(ids++[n+15]).getD q 0=n+15:=by rw[List.getD,List.getElem?_append_right (by omega),hil,Nat.sub_self];rfl
    dsimp only
    rw[e2,hnx3];exact⟨_,bx⟩
   ·obtain⟨d,hd⟩:=hls q (by omega)
    have e2:(ids++[n+15]).getD q 0=ids.getD q 0:=by simp[List.getD,List.getElem?_append,show q<ids.length by omega]
    have:=hin _ (eA (l:=ids) (q:=q) (by omega))
    dsimp only
    rw[e2];exact⟨d,Eq.trans cC hd⟩
 ·obtain rfl:t=u.bw.length:=by omega
  rw[List.take_of_length_le (by omega)] at r3' r4
  refine cV ?_
  rw[List.length_map]
  refine aN (fun j:Nat=>[(1, .pt 0 1 0 0),(2, .pt 1 1 0 0),(7, .pt 15 1 0 0),(46,cE u.shared),(47,i64 u.shared.length),(48,i64 j)])
   (fun j H n=>j<=u.shared.length/\26<=n/\(∀x∈ids,26<=x/\x<n)/\(∃d,bu H 0=some (.row 25 3 d [u.av]))/\(∃d,bu H 1=some (.row 96 8 d [gC true [.slice none 0 0, .slice none 0 0, .slice none 0 0, .slice none 0 0, .slice none 0 0, .slice none 0 0, .slice none 0 0, .slice none 0 0]]))/\(∃d,bu H 15=some (.row 96 8 d [.agg [cE u.shared,cE u.cB,cW u.bw, .sl 21 u.bw.length, .sl 22 u.bw.length, .sl 23 j, .sl 24 0, .sl 25 0]]))/\(∃d,bu H 21=some (.row 3 1 d ((cr u).at_.map i64)))/\(∃d,bu H 22=some (.row 93 1 d (dR ids (cr u).cA)))/\(∃d,bu H 23=some (.row 2 1 d (((cr u).mem.take j).map i64)))/\(∃d,bu H 24=some (.row 3 1 d ([])))/\(∃d,bu H 25=some (.row 155 2 d []))/\(∀t,t<u.bw.length->∃d,bu H (ids.getD t 0)=some (.row 2 1 d (((cr u).cA.getD t []).map i64)))) (fun j=>u.shared.length - j) 0 cH
   ⟨Nat.zero_le _,cZ,fun x hx=>⟨(hin x hx).1,Nat.lt_of_lt_of_le (hin x hx).2 cZ⟩,⟨_,bx⟩,⟨_,bx⟩,⟨_,bx⟩,⟨_,bx⟩,⟨_,bx⟩,⟨_,bx⟩,⟨_,bx⟩,⟨_,bx⟩,fun q hq=>by
    obtain⟨d,hd⟩:=hls q hq
    have:=hin _ (eA (l:=ids) (q:=q) (by omega))
    exact⟨d,Eq.trans cC hd⟩⟩ ?_
  clear r0' r1' r2' r3' r4 r5 r6 r7 hls hin hn
  rintro j H n ⟨hj,hn,hin,⟨d0,r0'⟩,⟨d1,r1'⟩,⟨d2,r2'⟩,⟨d3,r3'⟩,⟨d4,r4⟩,⟨d5,r5⟩,⟨d6,r6⟩,⟨d7,r7⟩,hls⟩
  have hmk:(((cr u).mem.take j).map i64).length=j:=by simp;omega
  by_cases hjl:j<u.shared.length
  ·have e0:∀d,(u.shared.map Decl.av).getD ((j:Int)).toNat d=(u.shared.getD j default).av:=fun d=>by rw[Int.toNat_natCast];exact dN Decl.av u.shared j d hjl
   have a0:(u.shared.map Decl.av).length=u.shared.length:=by simp
   have hnx1:((cr u).mem.take (j+1)).map i64=((cr u).mem.take j).map i64++[i64 (u.shared.getD j default).word]:=by
    rw[List.take_succ_eq_append_getElem (by omega),List.map_append]
    simp[cr,List.getD,hjl]
   refine cV ?_
   exact⟨j+1,by omega,cH,by omega,cZ,fun x hx=>⟨(hin x hx).1,Nat.lt_of_lt_of_le (hin x hx).2 cZ⟩,⟨_,bx⟩,⟨_,bx⟩,⟨_,bx⟩,⟨_,bx⟩,⟨_,bx⟩,⟨_,by rw[hnx1];exact bx⟩,⟨_,bx⟩,⟨_,bx⟩,fun q hq=>by
    obtain⟨d,hd⟩:=hls q hq
    have:=hin _ (eA (l:=ids) (q:=q) (by omega))
    exact⟨d,Eq.trans cC hd⟩⟩
  ·obtain rfl:j=u.shared.length:=by omega
   rw[List.take_of_length_le (by omega)] at r5
   refine cV ?_
   rw[List.length_map]
   refine aN (fun j:Nat=>[(1, .pt 0 1 0 0),(2, .pt 1 1 0 0),(7, .pt 15 1 0 0),(62,i64 u.cB.length),(63,i64 j)])
    (fun j H n=>j<=u.cB.length/\26<=n/\(∀x∈ids,26<=x/\x<n)/\(∃d,bu H 0=some (.row 25 3 d [u.av]))/\(∃d,bu H 1=some (.row 96 8 d [gC true [.slice none 0 0, .slice none 0 0, .slice none 0 0, .slice none 0 0, .slice none 0 0, .slice none 0 0, .slice none 0 0, .slice none 0 0]]))/\(∃d,bu H 15=some (.row 96 8 d [.agg [cE u.shared,cE u.cB,cW u.bw, .sl 21 u.bw.length, .sl 22 u.bw.length, .sl 23 u.shared.length, .sl 24 j, .sl 25 0]]))/\(∃d,bu H 21=some (.row 3 1 d ((cr u).at_.map i64)))/\(∃d,bu H 22=some (.row 93 1 d (dR ids (cr u).cA)))/\(∃d,bu H 23=some (.row 2 1 d ((cr u).mem.map i64)))/\(∃d,bu H 24=some (.row 3 1 d (((cr u).hold.take j).map i64)))/\(∃d,bu H 25=some (.row 155 2 d []))/\(∀t,t<u.bw.length->∃d,bu H (ids.getD t 0)=some (.row 2 1 d (((cr u).cA.getD t []).map i64)))) (fun j=>u.cB.length - j) 0 cH
    ⟨Nat.zero_le _,cZ,fun x hx=>⟨(hin x hx).1,Nat.lt_of_lt_of_le (hin x hx).2 cZ⟩,⟨_,bx⟩,⟨_,bx⟩,⟨_,bx⟩,⟨_,bx⟩,⟨_,bx⟩,⟨_,bx⟩,⟨_,bx⟩,⟨_,bx⟩,fun q hq=>by
     obtain⟨d,hd⟩:=hls q hq
     have:=hin _ (eA (l:=ids) (q:=q) (by omega))
     exact⟨d,Eq.trans cC hd⟩⟩ ?_
   clear r0' r1' r2' r3' r4 r5 r6 r7 hls hin hn hmk
   rintro j H n ⟨hj,hn,hin,⟨d0,r0'⟩,⟨d1,r1'⟩,⟨d2,r2'⟩,⟨d3,r3'⟩,⟨d4,r4⟩,⟨d5,r5⟩,⟨d6,r6⟩,⟨d7,r7⟩,hls⟩
   have hmk:(((cr u).hold.take j).map i64).length=j:=by simp;omega
   by_cases hjl:j<u.cB.length
   ·have hnx1:((cr u).hold.take (j+1)).map i64=((cr u).hold.take j).map i64++[i64 (-1)]:=by
     rw[List.take_succ_eq_append_getElem (by omega),List.map_append]
     simp[cr]
    refine cV ?_
    exact⟨j+1,by omega,cH,by omega,cZ,fun x hx=>⟨(hin x hx).1,Nat.lt_of_lt_of_le (hin x hx).2 cZ⟩,⟨_,bx⟩,⟨_,bx⟩,⟨_,bx⟩,⟨_,bx⟩,⟨_,bx⟩,⟨_,bx⟩,⟨_,by rw[hnx1];exact bx⟩,⟨_,bx⟩,fun q hq=>by
     obtain⟨d,hd⟩:=hls q hq
     have:=hin _ (eA (l:=ids) (q:=q) (by omega))
     exact⟨d,Eq.trans cC hd⟩⟩
   ·obtain rfl:j=u.cB.length:=by omega
    rw[List.take_of_length_le (by omega)] at r6
    refine cV ?_
    refine⟨?_⟩
    have hN:PM u (cr u) 15 21 22 23 24 25 ids H:=by
     refine⟨⟨d2, ?_⟩,⟨_,r3'⟩,⟨_,r4⟩,fun t ht=>hls t (by rw[<-hnsl];exact ht),⟨_,r5⟩,⟨_,r6⟩,⟨_,r7⟩,by rw[hnsl];exact hil, ?_⟩
     ·rw[r2'];simp[MS.rows,cr]
     ·have hno:∀k,k<26->k∉ids:=fun k hk h=>by have:=hin _ h;omega
      simp only[List.nodup_cons,List.mem_cons,not_or]
      exact⟨⟨by omega,by omega,by omega,by omega,by omega,hno _ (by omega)⟩,⟨by omega,by omega,by omega,by omega,hno _ (by omega)⟩,⟨by omega,by omega,by omega,hno _ (by omega)⟩,⟨by omega,by omega,hno _ (by omega)⟩,⟨by omega,hno _ (by omega)⟩,hno _ (by omega),hnd⟩
    have hN1:ML.Nt ⟨15,21,22,23,24,25,ids⟩ u (cr u) H:=hN
    have hN2:ML.Nt ⟨15,21,22,23,24,25,ids⟩ u (cr u) ((1,some (.row 96 8 d1 [(cr u).rows u 21 22 23 24 25]))::H):=hN1.c8 fun y hy=>by
     refine cN ?_
     rcases List.mem_cons.1 hy with rfl|hy
     ·show 15≠1;omega
     simp only[List.mem_cons] at hy
     rcases hy with rfl|rfl|rfl|rfl|rfl|hy
     all_goals first
      |(intro h;exact absurd h (by decide))
      |(have:=hin _ hy;omega)
    have hf:=hN2.Q9 2
    have hrows:(cr u).rows u 21 22 23 24 25= .agg [cE u.shared,cE u.cB,cW u.bw, .sl 21 u.bw.length, .sl 22 u.bw.length, .sl 23 u.shared.length, .sl 24 u.cB.length, .sl 25 0]:=by simp[MS.rows,cr]
    rw[hrows] at hf
    show AV.dD [cu.dX ((1,some (.row 96 8 d1 [.agg [cE u.shared,cE u.cB,cW u.bw, .sl 21 u.bw.length, .sl 22 u.bw.length, .sl 23 u.shared.length, .sl 24 u.cB.length, .sl 25 0]]))::H) 5 (.agg [cE u.shared,cE u.cB,cW u.bw, .sl 21 u.bw.length, .sl 22 u.bw.length, .sl 23 u.shared.length, .sl 24 u.cB.length, .sl 25 0]),i64 0]=_
    rw[hf]
set_option maxHeartbeats 4000000 in
theorem CM (u:bz) (hr:ca u) (m:MS) (h:eH u m) (hne:m.at_≠[]) (hp:m.cJ.length<=1048576) (H0:Hp) (nx:Nat):cS Tryz.prog 87 [m.av u] H0 nx (fun r H n=>∃(mr:Nat) (a s me ho pr:Nat) (ids:List Nat),r=m.rows u a s me ho pr/\PM u m mr a s me ho pr ids H/\(∀x∈mr::a::s::me::ho::pr::ids,nx<=x/\x<n)/\nx<=n/\∀y,y<nx->bu H y=bu H0 y):=by
 have hgl:=hr.oW
 have a0:(m.at_.map i64).length=m.at_.length:=by simp
 have a1:(m.cA.map cR).length=m.cA.length:=by simp
 have a2:(m.mem.map i64).length=m.mem.length:=by simp
 have a3:(m.hold.map i64).length=m.hold.length:=by simp
 have a4:(m.cJ.map dP.av).length=m.cJ.length:=by simp
 have hal:=h.oM
 have hsl:=h.sl
 have hml:=h.ml
 have hhl:=h.hl
 have hap:0<m.at_.length:=List.length_pos_iff.2 hne
 refine aI YW rfl ?_
 refine cV ?_
 simp only[List.length_map]
 refine aS (fun σ:Nat×List Nat=>[(1, .pt nx 1 0 0),(2, .pt (nx+1) 1 0 0),(3, .pt (nx+5) 1 0 0),(17,xT m.cA),(18,i64 m.cA.length),(19,i64 σ.1)])
  (fun σ H n=>σ.1<=m.cA.length/\nx+22<=n/\σ.2.length=σ.1/\σ.2.Nodup/\(∀x∈σ.2,nx+22<=x/\x<n)/\(∃d,bu H nx=some (.row 96 8 d [m.av u]))/\(∃d,bu H (nx+1)=some (.row 96 8 d [gC true [.slice none 0 0, .slice none 0 0, .slice none 0 0, .slice none 0 0, .slice none 0 0, .slice none 0 0, .slice none 0 0, .slice none 0 0]]))/\(∃d,bu H (nx+5)=some (.row 96 8 d [.agg [cE u.shared,cE u.cB,cW u.bw, .sl (nx+11) m.at_.length, .sl (nx+18) σ.1, .sl (nx+19) 0, .sl (nx+20) 0, .sl (nx+21) 0]]))/\(∃d,bu H (nx+11)=some (.row 3 1 d (m.at_.map i64)))/\(∃d,bu H (nx+18)=some (.row 93 1 d (dR σ.2 (m.cA.take σ.1))))/\(∃d,bu H (nx+19)=some (.row 2 1 d []))/\(∃d,bu H (nx+20)=some (.row 3 1 d []))/\(∃d,bu H (nx+21)=some (.row 155 2 d []))/\(∀t,t<σ.1->∃d,bu H (σ.2.getD t 0)=some (.row 2 1 d ((m.cA.getD t []).map i64)))/\∀y,y<nx->bu H y=bu H0 y) (fun σ=>m.cA.length - σ.1) (0,[])
  ⟨_,_,_,Rt.trans (Rt.wk (Wk.gH (b:=nx+5) (nx:=nx+18) (e:=93) (sz:=1) (by omega) (by omega) (te:=96) (tz:=8) (d:=gC true [.slice none 0 0, .slice none 0 0, .slice none 0 0, .slice none 0 0, .slice none 0 0, .slice none 0 0, .slice none 0 0, .slice none 0 0]) (cs:=[cE u.shared,cE u.cB,cW u.bw, .sl (nx+11) m.at_.length, .sc (.slice none 0 0), .sc (.slice none 0 0), .sc (.slice none 0 0), .sc (.slice none 0 0)]) (j:=4) bx (by show 4<8;omega) rfl)) (Rt.trans (Rt.wk (Wk.gH (b:=nx+5) (nx:=nx+19) (e:=2) (sz:=1) (by omega) (by omega) (te:=96) (tz:=8) (d:=gC true [.slice none 0 0, .slice none 0 0, .slice none 0 0, .slice none 0 0, .slice none 0 0, .slice none 0 0, .slice none 0 0, .slice none 0 0]) (cs:=[cE u.shared,cE u.cB,cW u.bw, .sl (nx+11) m.at_.length, .sl (nx+18) 0, .sc (.slice none 0 0), .sc (.slice none 0 0), .sc (.slice none 0 0)]) (j:=5) bx (by show 5<8;omega) rfl)) (Rt.trans (Rt.wk (Wk.gH (b:=nx+5) (nx:=nx+20) (e:=3) (sz:=1) (by omega) (by omega) (te:=96) (tz:=8) (d:=gC true [.slice none 0 0, .slice none 0 0, .slice none 0 0, .slice none 0 0, .slice none 0 0, .slice none 0 0, .slice none 0 0, .slice none 0 0]) (cs:=[cE u.shared,cE u.cB,cW u.bw, .sl (nx+11) m.at_.length, .sl (nx+18) 0, .sl (nx+19) 0, .sc (.slice none 0 0), .sc (.slice none 0 0)]) (j:=6) bx (by show 6<8;omega) rfl)) (Rt.wk (Wk.gH (b:=nx+5) (nx:=nx+21) (e:=155) (sz:=2) (by omega) (by omega) (te:=96) (tz:=8) (d:=gC true [.slice none 0 0, .slice none 0 0, .slice none 0 0, .slice none 0 0, .slice none 0 0, .slice none 0 0, .slice none 0 0, .slice none 0 0]) (cs:=[cE u.shared,cE u.cB,cW u.bw, .sl (nx+11) m.at_.length, .sl (nx+18) 0, .sl (nx+19) 0, .sl (nx+20) 0, .sc (.slice none 0 0)]) (j:=7) bx (by show 7<8;omega) rfl)))),cH,Nat.zero_le _,cZ,rfl,List.nodup_nil,fun x hx=>(by cases hx),⟨_,bx⟩,⟨_,bx⟩,⟨_,bx⟩,⟨_,bx⟩,⟨_,bx⟩,⟨_,bx⟩,⟨_,bx⟩,⟨_,bx⟩,fun t ht=>absurd ht (Nat.not_lt_zero _),fun y hy=>cC⟩ ?_
 rintro⟨k,ids⟩ H n ⟨hk,hn,hil,hnd,hin,⟨d0,r0'⟩,⟨d1,r1'⟩,⟨d2,r2'⟩,⟨d3,r3'⟩,⟨d4,r4⟩,⟨d5,r5⟩,⟨d6,r6⟩,⟨d7,r7⟩,hls,hkp⟩
 dsimp only at hk hil hnd hin r2' r4 hls ⊢
 have htk:(m.cA.take k).length=k:=by rw[List.length_take];omega
 have hrl:(dR ids (m.cA.take k)).length=k:=by unfold dR;rw[List.length_map,List.length_zip,htk,hil];omega
 by_cases hkl:k<m.cA.length
 ·have e0:∀d,(m.cA.map cR).getD ((k:Int)).toNat d=cR (m.cA.getD k []):=fun d=>by rw[Int.toNat_natCast];exact dN cR m.cA k d hkl
  have a5:((m.cA.getD k []).map i64).length=(m.cA.getD k []).length:=by simp
  have hsll:(m.cA.getD k []).length<=4160:=by
   have h1:=h.AD k (by omega)
   have h2:=(hr.gr (t:=k) (by omega)).cA
   have h3:=(hr.gr (t:=k) (by omega)).locals
   omega
  refine M7 ?_
  refine yK (Rt.nil 6 2 1 (by omega) rfl) ?_
  refine cV ?_
  have hnx2:dR (ids++[n+5]) (m.cA.take (k+1))=dR ids (m.cA.take k)++[.sl (n+5) (0+((m.cA.getD k []).map i64).length)]:=by
   rw[List.take_succ_eq_append_getElem hkl,nq (by rw[hil,htk]),show m.cA[k]=m.cA.getD k [] by simp[List.getD,hkl]]
   simp
  refine⟨(k+1,ids++[n+5]),by dsimp only;omega,_,_,_,Rt.refl _ _ _,cH,by dsimp only;omega,cZ,by simp[hil], ?_, ?_,⟨_,bx⟩,⟨_,bx⟩,⟨_,bx⟩,⟨_,bx⟩,⟨_,by dsimp only;rw[hnx2];exact bx⟩,⟨_,bx⟩,⟨_,bx⟩,⟨_,bx⟩, ?_,fun y hy=>Eq.trans cC (hkp y hy)⟩
  ·refine List.nodup_append.2 ⟨hnd,by simp,fun a ha b hb=> ?_⟩
   simp only[List.mem_cons,List.not_mem_nil,or_false] at hb
   have:=hin _ ha;omega
  ·intro x hx
   rcases List.mem_append.1 hx with hx|hx
   ·have:=hin _ hx;exact⟨this.1,Nat.lt_of_lt_of_le this.2 cZ⟩
   ·simp only[List.mem_cons,List.not_mem_nil,or_false] at hx
    subst hx;exact⟨by omega,cZ⟩
  ·intro q hq
   have hq:q<k+1:=hq
   by_cases e:q=k
   ·subst e
    have e2:(ids++[n+5]).getD q 0=n+5:=by rw[List.getD,List.getElem?_append_right (by omega),hil,Nat.sub_self];rfl
    dsimp only
    rw[e2];exact⟨_,bx⟩
   ·obtain⟨d,hd⟩:=hls q (by omega)
    have e2:(ids++[n+5]).getD q 0=ids.getD q 0:=by simp[List.getD,List.getElem?_append,show q<ids.length by omega]
    have:=hin _ (eA (l:=ids) (q:=q) (by omega))
    dsimp only
    rw[e2];exact⟨d,Eq.trans cC hd⟩
 ·obtain rfl:k=m.cA.length:=by omega
  rw[List.take_of_length_le (by omega)] at r4
  refine cV ?_
  have hrow:m.rows u (nx+11) (nx+18) (nx+19) (nx+20) (nx+21)= .agg [cE u.shared,cE u.cB,cW u.bw, .sl (nx+11) m.at_.length, .sl (nx+18) m.cA.length, .sl (nx+19) (0+(m.mem.map i64).length), .sl (nx+20) (0+(m.hold.map i64).length), .sl (nx+21) (0+(m.cJ.map dP.av).length)]:=by simp[MS.rows]
  have hno:∀j,j<nx+22->j∉ids:=fun j hj h=>by have:=hin _ h;omega
  refine⟨nx+5,nx+11,nx+18,nx+19,nx+20,nx+21,ids,by rw[hrow];rfl,⟨⟨d2,by rw[hrow];exact bx⟩,⟨_,bx⟩,⟨_,bx⟩,fun t ht=> ?_,⟨_,bx⟩,⟨_,bx⟩,⟨_,bx⟩,hil, ?_⟩,fun x hx=> ?_,cZ,fun y hy=>Eq.trans cC (hkp y hy)⟩
  ·obtain⟨d,hd⟩:=hls t ht
   have:=hin _ (eA (l:=ids) (q:=t) (by omega))
   exact⟨d,Eq.trans cC hd⟩
  ·simp only[List.nodup_cons,List.mem_cons,not_or]
   exact⟨⟨by omega,by omega,by omega,by omega,by omega,hno _ (by omega)⟩,⟨by omega,by omega,by omega,by omega,hno _ (by omega)⟩,⟨by omega,by omega,by omega,hno _ (by omega)⟩,⟨by omega,by omega,hno _ (by omega)⟩,⟨by omega,hno _ (by omega)⟩,hno _ (by omega),hnd⟩
  ·simp only[List.mem_cons] at hx
   rcases hx with rfl|rfl|rfl|rfl|rfl|rfl|hx
   all_goals first
    |omega
    |(have:=hin _ hx;exact⟨by omega,Nat.lt_of_lt_of_le this.2 cZ⟩)
theorem oq (u:bz) (m:MS) (hg:u.bw.length<=8) (h:eH u m) {t:Nat} (ht:t<u.bw.length):Pure Tryz.prog 88 [m.av u,i64 t] (fun r=>r=(m.node u t).av):=by
 have hl:=h.oM
 obtain⟨p0,p1⟩:=h.iC t ht
 have e0:=fun d=>mi (l:=u.bw) ht d
 have e1:=fun d=>ints_at (l:=m.at_) (k:=t) (by omega) d
 obtain⟨j,hj⟩:∃j:Nat,m.at_.getD t 0=j:=⟨(m.at_.getD t 0).toNat,by omega⟩
 rw[hj] at e1 p1
 have hnd:m.node u t=(u.gr t).nd j:=by unfold MS.node;rw[hj,Int.toNat_natCast]
 rw[hnd]
 rw[show u.bw.getD t default=u.gr t from rfl] at e0
 generalize u.gr t=g at *
 have e2:=fun d=>gU (l:=g.nodes) (i:=j) (by omega) d
 have a0:(u.bw.map cF.av).length=u.bw.length:=by simp
 have a1:(m.at_.map i64).length=u.bw.length:=by simp[hl]
 have a2:(g.nodes.map Node.av).length=g.nodes.length:=by simp
 refine aD YX rfl ?_
 refine cV ?_
 first|exact rfl|trivial
theorem vw (u:bz) (hr:ca u) (m:MS) (h:eH u m) (t:Int):Pure Tryz.prog 86 [m.av u,i64 t] (fun r=>r=i64 (m.ja u t)):=by
 have hl:=h.oM
 have hg:=hr.oW
 by_cases ht:t<0\/(m.at_.length:Int)<=t
 ·rw[wV ht]
  refine aD K2 rfl ?_
  by_cases h1:t<0
  ·refine cV ?_
   first|exact rfl|trivial
  ·have h2:((m.at_.map i64).length:Int)<=t:=by rw[List.length_map];omega
   refine cV ?_
   first|exact rfl|trivial
 ·obtain⟨k,rfl⟩:∃k:Nat,t=k:=⟨t.toNat,by omega⟩
  have hk:k<u.bw.length:=by omega
  have hbar:m.ja u k=if(m.node u k).kind=9 then 70 else if(m.node u k).kind=5/\0<=m.hold.getD (m.node u k).cG.toNat 0 then 71 else 0:=by
   unfold MS.ja;rw[if_neg ht,Int.toNat_natCast]
  rw[hbar]
  have hno:=h.node hr hk
  have c0:=oq u m (by omega) h hk
  generalize m.node u k=n at *
  have a3:(m.hold.map i64).length=u.cB.length:=by simp[h.hl]
  have a4:(m.at_.map i64).length=u.bw.length:=by simp[hl]
  by_cases h9:n.kind=9
  ·have r0:=h9
   rw[if_pos h9]
   refine aD K2 rfl ?_
   refine cV ?_
   first|exact rfl|trivial
  ·rw[if_neg h9]
   by_cases h5:n.kind=5
   ·have hth:=hno.cG.1 (by unfold eZ;exact decide_eq_true (by omega))
    rw[if_pos (.inl h5)] at hth
    have hhl:=h.hl
    have e3:=fun d=>jH (l:=m.hold) (k:=n.cG) (by omega) d
    have r0:=h5
    by_cases hh:0<=m.hold.getD n.cG.toNat 0
    ·rw[if_pos ⟨h5,hh⟩]
     refine aD K2 rfl ?_
     refine cV ?_
     first|exact rfl|trivial
    ·rw[if_neg fun e=>hh e.2]
     refine aD K2 rfl ?_
     refine cV ?_
     first|exact rfl|trivial
   ·rw[if_neg fun e=>h5 e.1]
    have r1:=decide_eq_false h5
    refine aD K2 rfl ?_
    refine cV ?_
    first|exact rfl|trivial
theorem fS (u:bz) (m:MS) {t:Nat} (v:jh) (ht:t<m.cA.length) (hl:m.cA.length<=8) (hv:kr m t v):Pure Tryz.prog 90 [m.av u,i64 t,v.av] (fun r=>r=i64 (m.val t v)):=by
 unfold MS.val
 have e0:∀d,(m.cA.map cR).getD ((t:Int)).toNat d=cR (m.cA.getD t []):=fun d=>by rw[Int.toNat_natCast];exact dN cR m.cA t d ht
 have a0:(m.cA.map cR).length=m.cA.length:=by simp
 cases hs:v.iM with
 |true=>
  have r0:=hs
  obtain⟨v1,v2⟩:=hv hs
  have a1:((m.cA.getD t []).map i64).length=(m.cA.getD t []).length:=by simp
  have e1:=fun d=>jH (l:=m.cA.getD t []) (k:=v.slot) (by omega) d
  rw[if_pos rfl]
  refine aD WB rfl ?_
  refine cV ?_
  first|exact rfl|trivial
 |false=>
  have r0:=hs
  rw[if_neg (by decide)]
  refine aD WB rfl ?_
  refine cV ?_
  first|exact rfl|trivial
theorem rb (t:Bool):Pure Tryz.prog 178 [bl t] (fun r=>r= .dD [i64 (tr t),i64 0]):=by
 cases t<;>
 ·refine aD U8 rfl ?_
  refine cV ?_
  first|exact rfl|trivial
theorem HN (a b:Int):Pure Tryz.prog 177 [i64 a,i64 b] (fun r=>r=i64 (zY a b)):=by
 unfold zY
 by_cases h0:b=0
 ·rw[if_pos h0]
  refine aD K0 rfl ?_
  refine cV ?_
  first|exact rfl|trivial
 ·rw[if_neg h0]
  by_cases h1:b=-1
  ·rw[if_pos h1]
   refine aD K0 rfl ?_
   refine cV ?_
   first|exact rfl|trivial
  ·rw[if_neg h1]
   refine aD K0 rfl ?_
   refine cV ?_
   first|exact rfl|trivial
theorem QV (b:Int):IntKind.u64.wrap (IntKind.i64.wrap ((BitVec.ofInt 64 b&&& BitVec.ofInt 64 63).toNat:Int))=w5 b:=by
 have e1:BitVec.ofInt 64 (IntKind.u64.wrap b)=BitVec.ofInt 64 b:=by
  rw[IntKind.wrap_u64]
  apply BitVec.eq_of_toNat_eq
  simp only[BitVec.toNat_ofInt]
  congr 1
  omega
 unfold w5
 rw[e1]
 have h:(BitVec.ofInt 64 b&&& BitVec.ofInt 64 63).toNat<=63:=by
  rw[BitVec.toNat_and]
  refine Nat.le_trans Nat.and_le_right ?_
  decide
 generalize (BitVec.ofInt 64 b&&& BitVec.ofInt 64 63).toNat=n at *
 rw[IntKind.wrap_i64,IntKind.wrap_u64,IntKind.wrap_u64]
 omega
theorem OO (op a b:Int) (h:dn op=true):Pure Tryz.prog 143 [u8 op,i64 a,i64 b] (fun r=>r= .dD [i64 (MJ op a b),i64 0]):=by
 have c0:=HN a b
 have k0:=rb
 have hc:=QV b
 have hn:0<=w5 b:=by unfold w5;rw[IntKind.wrap_u64];omega
 have a0:0<=IntKind.u64.wrap (IntKind.i64.wrap ((BitVec.ofInt IntKind.i64.bits b&&& BitVec.ofInt IntKind.i64.bits 63).toNat:Int)):=by
  show 0<=IntKind.u64.wrap (IntKind.i64.wrap ((BitVec.ofInt 64 b&&& BitVec.ofInt 64 63).toNat:Int))
  rw[hc];exact hn
 refine aD UI rfl ?_
 rcases wA h with rfl|rfl|rfl|rfl|rfl|rfl|rfl|rfl|rfl|rfl|rfl|rfl|rfl|rfl|rfl|rfl
 case inr.inr.inr.inr.inl=>
  by_cases h0:b=0
  ·refine cV ?_
   show _=AV.dD [i64 (xK a b),i64 0]
   unfold xK
   rw[if_pos h0]
  ·refine cV ?_
   show _=AV.dD [i64 (xK a b),i64 0]
   unfold xK
   rw[if_neg h0]
 case inr.inr.inr.inr.inr.inr.inr.inr.inl=>
  refine cV ?_
  show _=AV.dD [i64 (OY a b),i64 0]
  unfold OY
  rw[<-hc]
  rfl
 case inr.inr.inr.inr.inr.inr.inr.inr.inr.inl=>
  refine cV ?_
  show _=AV.dD [i64 (HU a b),i64 0]
  unfold HU
  rw[<-hc]
  rfl
 all_goals (refine cV ?_;exact rfl)
theorem LS (op a:Int) (h:op=17\/op=18):Pure Tryz.prog 144 [u8 op,i64 a] (fun r=>r= .dD [i64 (LL op a),i64 0]):=by
 have k0:=rb
 refine aD UJ rfl ?_
 rcases h with rfl|rfl
 all_goals (refine cV ?_;exact rfl)
theorem xP (u:bz) (m:MS) {t:Nat} (n:Node) (ht:t<m.cA.length) (hl:m.cA.length<=8) (hva:kr m t n.a) (hvb:dn n.op=true->kr m t n.b) (hop:0<=n.op/\n.op<19):Pure Tryz.prog 89 [m.av u,i64 t,n.av] (fun r=>r=i64 (m.nF t n)):=by
 have hfr:∀(v:jh) (H1:Hp),[m.av u,i64 t,v.av].map (cu.dX H1 6)=[m.av u,i64 t,v.av]:=fun v H1=>by
  rw[List.map_cons,List.map_cons,List.map_cons,List.map_nil,dM _ (NV 0 u m),dM _ (show cK 0 (i64 t) by simp[cK]),dM _ (show cK 0 v.av by simp[cK])]
 have c2:=gh n.op
 unfold MS.nF
 cases h2:dn n.op with
 |true=>
  rw[h2] at c2
  have c3:=OO n.op (m.val t n.a) (m.val t n.b) h2
  have hne:¬n.op=0:=by unfold dn at h2;simp only[Bool.and_eq_true,decide_eq_true_eq] at h2;omega
  rw[if_pos rfl]
  refine aD RP rfl ?_
  refine cV ?_
  refine aR (fS u m n.a ht hl hva) (hfr n.a _) (by simp[cX,cK]) trivial ?_
  refine cV ?_
  refine aV [] (fS u m n.b ht hl (hvb h2)) (fun H1 h1=>hfr n.b H1) (by simp[cX,cK]) trivial ?_
  refine cV ?_
  first|exact rfl|trivial
 |false=>
  rw[h2] at c2
  rw[if_neg (by decide)]
  by_cases h0:n.op=0
  ·rw[if_neg (fun e=>e h0)]
   refine aD RP rfl ?_
   refine cV ?_
   refine aR (fS u m n.a ht hl hva) (hfr n.a _) (by simp[cX,cK]) trivial ?_
   refine cV ?_
   first|exact rfl|trivial
  ·rw[if_pos h0]
   have c1:=LS n.op (m.val t n.a) (by unfold dn at h2;simp only[Bool.and_eq_false_iff,decide_eq_false_iff_not] at h2;omega)
   refine aD RP rfl ?_
   refine cV ?_
   refine aR (fS u m n.a ht hl hva) (hfr n.a _) (by simp[cX,cK]) trivial ?_
   refine cV ?_
   first|exact rfl|trivial
theorem HQ (u:bz) (hr:ca u) (m:MS) (h:eH u m) (t:Int) (hb:m.ja u t≠0):Pure Tryz.prog 52 [m.av u,i64 t] (fun r=>r= .dD [m.av u,S6.av,i64 (m.ja u t)]):=by
 have c0:=vw u hr m h t
 have r0:=decide_eq_true hb
 refine cm ?_ (by simp[cK,cX,fb.cells])
 refine aI V7 rfl ?_
 refine cV ?_
 exact⟨dM 6 (by simp[cK,cX])⟩
theorem oy {u:bz} {m:MS} {L:ML} {H H1:Hp} (hL:L.Nt u m H) (h1:∀y∈L.all,bu H1 y=bu H y) (l:List AV) (hl:cX 0 l):(m.rows u L.a L.s L.me L.ho L.pr::l).map (cu.dX H1 6)=m.av u::l:=by
 rw[List.map_cons,(hL.c8 h1).Q9 3]
 congr 1
 exact ta fun a ha=>dM _ (ma hl a ha)
theorem LG {u:bz} {m:MS} {mr a s me ho pr:Nat} {ids:List Nat} {H H':Hp} (h:PM u m mr a s me ho pr ids H) (b:Nat) (hb:b∉a::s::me::ho::pr::ids) (r:∃d,bu H' b=some (.row 96 8 d [m.rows u a s me ho pr])) (hk:∀y∈a::s::me::ho::pr::ids,bu H' y=bu H y):ML.Nt ⟨b,a,s,me,ho,pr,ids⟩ u m H':=by
 obtain⟨d2,h2⟩:=h.rA
 obtain⟨d3,h3⟩:=h.rS
 obtain⟨d4,h4⟩:=h.rE
 obtain⟨d5,h5⟩:=h.rH
 obtain⟨d6,h6⟩:=h.rP
 refine⟨r,⟨d2,(hk _ (by simp)).trans h2⟩,⟨d3,(hk _ (by simp)).trans h3⟩,fun t ht=> ?_,⟨d4,(hk _ (by simp)).trans h4⟩,⟨d5,(hk _ (by simp)).trans h5⟩,⟨d6,(hk _ (by simp)).trans h6⟩,h.len,List.nodup_cons.2 ⟨hb,(List.nodup_cons.1 h.nodup).2⟩⟩
 obtain⟨d,hd⟩:=h.rL t ht
 have:ids.getD t 0∈ids:=eA (by rw[h.len];exact ht)
 exact⟨d,(hk _ (by simp only[List.mem_cons];exact .inr (.inr (.inr (.inr (.inr this)))))).trans hd⟩
theorem iL {u:bz} {m:MS} {L:ML} {H:Hp} (hL:L.Nt u m H) (d:fb):cu.dX H 6 (.dD [m.rows u L.a L.s L.me L.ho L.pr,d.av,i64 0])= .dD [m.av u,d.av,i64 0]:=by
 show AV.dD (List.map (cu.dX H 5) [m.rows u L.a L.s L.me L.ho L.pr,d.av,i64 0])=_
 rw[List.map_cons,List.map_cons,List.map_cons,List.map_nil,hL.Q9 2,dM _ (show cK 0 d.av by simp[cK,cX,fb.cells]),dM _ (show cK 0 (i64 0) by simp[cK])]
set_option maxHeartbeats 4000000 in
theorem C2 (u:bz) (hu:u.Wf) (hr:ca u) (m:MS) (h:eH u m) (hp:m.cJ.length<=1048576) (t:Nat) (ht:t<u.bw.length) (hb:m.ja u t=0):Pure Tryz.prog 52 [m.av u,i64 t] (fun r=>r= .dD [(m.step u t).1.av u,(m.step u t).2.av,i64 0]):=by
 have c0:=vw u hr m h t
 rw[hb] at c0
 have hgl:=hr.oW
 have hal:=h.oM
 have hsl:=h.sl
 obtain⟨hk9,_⟩:=jj h ht hb
 have hao:=h.PO hu hr ht hk9
 refine cm ?_ (by simp[cK,cX,fb.cells])
 refine aI V7 rfl ?_
 refine cV ?_
 refine aF (CM u hr m h (fun e=>by rw[e] at hal;simp at hal;omega) hp _ _) ?_
 rintro _ H1 n1 ⟨mr,a,s,me,ho,pr,ids,rfl,hN,hin,hn1,hk1⟩
 have q0:∃d,bu H1 0=some (.row 96 8 d [m.av u]):=⟨_,(hk1 0 (by omega)).trans bx⟩
 have q1:∃d,bu H1 1=some (.row 96 8 d [gC true [.slice none 0 0, .slice none 0 0, .slice none 0 0, .slice none 0 0, .slice none 0 0, .slice none 0 0, .slice none 0 0, .slice none 0 0]]):=⟨_,(hk1 1 (by omega)).trans bx⟩
 have q2:∃d,bu H1 2=some (.row 53 6 d [gC true [.int .i64 0, .int .i64 0, .int .u8 0, .int .i64 0, .int .i64 0, .int .i64 0]]):=⟨_,(hk1 2 (by omega)).trans bx⟩
 clear hk1
 obtain⟨d0,q0⟩:=q0
 obtain⟨d1,q1⟩:=q1
 obtain⟨d2,q2⟩:=q2
 have hno:=oq u m (by omega) h ht
 refine Eq.mpr (by rw[MS.rows]) (?_:Go _)
 refine cV ?_
 refine aR hno (oy (L:=⟨0,a,s,me,ho,pr,ids⟩) (LG hN 0 ?_ ⟨_,(bx:bu _ 0=some (.row _ 8 _ [m.rows u a s me ho pr]))⟩ fun y hy=> ?_) (fun y hy=>rfl) [i64 t] (by simp[cX,cK])) (by simp[cX,cK]) (by simp[gN,mD,Node.cells]) ?_
 ·simp only[List.mem_cons,not_or]
  exact⟨by have:=hin a (by simp);omega,by have:=hin s (by simp);omega,by have:=hin me (by simp);omega,by have:=hin ho (by simp);omega,by have:=hin pr (by simp);omega,fun hy=>by have:=hin 0 (by simp[hy]);omega⟩
 ·have:=hin y (List.mem_cons_of_mem _ hy);exact cC
 refine M7 ?_
 have hz:(0:Nat)∉a::s::me::ho::pr::ids:=fun hy=>by have:=hin 0 (List.mem_cons_of_mem _ hy);omega
 refine FK (Rt.refl _ _ _) (fun H=>ML.Nt ⟨0,a,s,me,ho,pr,ids⟩ u m H/\(∃d,bu H 0=some (.row 96 8 d [.agg [cE u.shared,cE u.cB,cW u.bw, .sl a m.at_.length, .sl s m.cA.length, .sl me m.mem.length, .sl ho m.hold.length, .sl pr m.cJ.length]]))/\(∃d,bu H 1=some (.row 96 8 d [gC true [.slice none 0 0, .slice none 0 0, .slice none 0 0, .slice none 0 0, .slice none 0 0, .slice none 0 0, .slice none 0 0, .slice none 0 0]]))/\(∃d,bu H 2=some (.row 53 6 d [gC true [.int .i64 0, .int .i64 0, .int .u8 0, .int .i64 0, .int .i64 0, .int .i64 0]]))/\∃d,bu H (n1+3)=some (.row 65 13 d [(m.node u t).av])) ⟨LG hN 0 hz ⟨_,(bx:bu _ 0=some (.row _ 8 _ [m.rows u a s me ho pr]))⟩ (fun y hy=>by have:=hin y (List.mem_cons_of_mem _ hy);exact cC),⟨_,bx⟩,⟨_,Eq.trans cC q1⟩,⟨_,Eq.trans cC q2⟩,⟨_,bx⟩⟩ ?_
 clear q0 q1 q2 hN hz
 rintro H ⟨hL,⟨d0,r0'⟩,⟨d1,q1⟩,⟨d2,q2⟩,⟨d3,r3'⟩⟩
 have pa:=hin a (by simp)
 have ps:=hin s (by simp)
 have pme:=hin me (by simp)
 have pho:=hin ho (by simp)
 have ppr:=hin pr (by simp)
 have hil:ids.getD t 0∈ids:=eA (by have:=hL.len;simp only at this;omega)
 have pit:=hin (ids.getD t 0) (List.mem_cons_of_mem _ (List.mem_cons_of_mem _ (List.mem_cons_of_mem _ (List.mem_cons_of_mem _ (List.mem_cons_of_mem _ (List.mem_cons_of_mem _ hil))))))
 obtain⟨-,-,x1,x2,x3,x4,x5⟩:=kZ hL (t:=t) (by omega)
 have x1:ids.getD t 0≠a:=x1
 have x2:ids.getD t 0≠s:=x2
 have x3:ids.getD t 0≠me:=x3
 have x4:ids.getD t 0≠ho:=x4
 have x5:ids.getD t 0≠pr:=x5
 have hdd:(a≠s/\a≠me/\a≠ho/\a≠pr)/\(s≠me/\s≠ho/\s≠pr)/\(me≠ho/\me≠pr)/\ho≠pr:=by
  have:=hL.nodup
  simp only[List.nodup_cons,List.mem_cons,not_or] at this
  exact⟨⟨this.2.1.1,this.2.1.2.1,this.2.1.2.2.1,this.2.1.2.2.2.1⟩,⟨this.2.2.1.1,this.2.2.1.2.1,this.2.2.1.2.2.1⟩,⟨this.2.2.2.1.1,this.2.2.2.1.2.1⟩,this.2.2.2.2.1.1⟩
 obtain⟨⟨y1,y2,y3,y4⟩,⟨y5,y6,y7⟩,⟨y8,y9⟩,y10⟩:=hdd
 have hall:∀y∈ML.all ⟨0,a,s,me,ho,pr,ids⟩,y=0\/3<=y/\y<n1:=fun y hy=>by
  rcases List.mem_cons.1 hy with e|hy
  ·exact .inl e
  ·have:=hin y (List.mem_cons_of_mem _ hy);omega
 obtain⟨da,ra⟩:∃d,bu H a=some (.row 3 1 d (m.at_.map i64)):=hL.rA
 obtain⟨ds,rs⟩:∃d,bu H s=some (.row 93 1 d (dR ids m.cA)):=hL.rS
 obtain⟨dt,rt⟩:∃d,bu H (ids.getD t 0)=some (.row 2 1 d ((m.cA.getD t []).map i64)):=hL.rL t (by omega)
 obtain⟨de,re⟩:∃d,bu H me=some (.row 2 1 d (m.mem.map i64)):=hL.rE
 obtain⟨dh,rh⟩:∃d,bu H ho=some (.row 3 1 d (m.hold.map i64)):=hL.rH
 obtain⟨dp,rp⟩:∃d,bu H pr=some (.row 155 2 d (m.cJ.map dP.av)):=hL.rP
 have e0:∀d,(m.at_.map i64).getD ((t:Int)).toNat d=i64 (m.at_.getD t 0):=fun d=>ints_at (by omega) d
 have a0:(m.at_.map i64).length=m.at_.length:=by simp
 have a1:(m.mem.map i64).length=m.mem.length:=by simp
 have a2:(m.hold.map i64).length=m.hold.length:=by simp
 have a3:((m.cA.getD t []).map i64).length=(m.cA.getD t []).length:=by simp
 have a4:(dR ids m.cA).length=m.cA.length:=qt hL.len
 have hst:m.step u t=({ (m.act t (m.node u t)).1 with at_:=m.at_.set t (m.act t (m.node u t)).2.1 },⟨t,m.at_.getD t 0,(m.node u t).kind,(m.act t (m.node u t)).2.2.1,(m.act t (m.node u t)).2.2.2.1,(m.act t (m.node u t)).2.2.2.2⟩):=rfl
 rw[hst]
 clear hst c0 hno hb
 have hno':=h.node hr ht
 generalize m.node u t=n at *
 obtain⟨k1,k8⟩:=hao.kind
 have hkk:n.kind=1\/n.kind=2\/n.kind=3\/n.kind=4\/n.kind=5\/n.kind=6\/n.kind=7\/n.kind=8:=by omega
 rcases hkk with hk|hk|hk|hk|hk|hk|hk|hk
 case inr.inr.inr.inr.inl=>
  have r0:=hk
  obtain⟨g1,g2⟩:=hao.hold (.inl hk)
  have hact:m.act t n=({ m with hold:=m.hold.set n.cG.toNat (t:Int) },n.next,n.cG,0,0):=by unfold MS.act;simp[hk]
  rw[hact]
  have fin:∀(H':Hp) (d:fb),ML.Nt ⟨0,a,s,me,ho,pr,ids⟩ u ({ m with hold:=m.hold.set n.cG.toNat (t:Int),at_:=m.at_.set t n.next }) H'->cu.dX H' 6 (.dD [.agg [cE u.shared,cE u.cB,cW u.bw, .sl a m.at_.length, .sl s m.cA.length, .sl me m.mem.length, .sl ho m.hold.length, .sl pr m.cJ.length],d.av,i64 0])= .dD [({ m with hold:=m.hold.set n.cG.toNat (t:Int),at_:=m.at_.set t n.next }:MS).av u,d.av,i64 0]:=fun H' d h=>by
   have:=iL h d
   rw[show({ m with hold:=m.hold.set n.cG.toNat (t:Int),at_:=m.at_.set t n.next }:MS).rows u a s me ho pr= .agg [cE u.shared,cE u.cB,cW u.bw, .sl a m.at_.length, .sl s m.cA.length, .sl me m.mem.length, .sl ho m.hold.length, .sl pr m.cJ.length] by simp[MS.rows,MS.dw]] at this
   exact this
  have hm1:ML.Nt ⟨0,a,s,me,ho,pr,ids⟩ u ({ m with hold:=m.hold.set n.cG.toNat (t:Int) }) ((ho,some (.row 3 1 dh ((m.hold.map i64).set n.cG.toNat (i64 (t:Int)))))::H):=hL.yi (t:=t) (by omega) n.cG (t:Int) ⟨_,cY _ _ _⟩ fun y hy hne=>cN hne
  refine cV ?_
  refine⟨fin _ ⟨_,_,_,_,_,_⟩ (ML.Nt.FA (t:=t) hm1 (by simp only[MS.dw,List.length_set];omega) t _ ⟨_,bx⟩ fun y hy hne=> ?_)⟩
  have:=hall y hy
  by_cases e:y=ho
  ·subst e;exact Eq.trans bx (cY _ _ _).symm
  ·rw[cN e];exact cC
 case inr.inr.inr.inr.inr.inl=>
  have r0:=hk
  obtain⟨g1,g2⟩:=hao.hold (.inr hk)
  have hact:m.act t n=({ m with hold:=m.hold.set n.cG.toNat (-1) },n.next,n.cG,0,0):=by unfold MS.act;simp[hk]
  rw[hact]
  have fin:∀(H':Hp) (d:fb),ML.Nt ⟨0,a,s,me,ho,pr,ids⟩ u ({ m with hold:=m.hold.set n.cG.toNat (-1),at_:=m.at_.set t n.next }) H'->cu.dX H' 6 (.dD [.agg [cE u.shared,cE u.cB,cW u.bw, .sl a m.at_.length, .sl s m.cA.length, .sl me m.mem.length, .sl ho m.hold.length, .sl pr m.cJ.length],d.av,i64 0])= .dD [({ m with hold:=m.hold.set n.cG.toNat (-1),at_:=m.at_.set t n.next }:MS).av u,d.av,i64 0]:=fun H' d h=>by
   have:=iL h d
   rw[show({ m with hold:=m.hold.set n.cG.toNat (-1),at_:=m.at_.set t n.next }:MS).rows u a s me ho pr= .agg [cE u.shared,cE u.cB,cW u.bw, .sl a m.at_.length, .sl s m.cA.length, .sl me m.mem.length, .sl ho m.hold.length, .sl pr m.cJ.length] by simp[MS.rows,MS.dw]] at this
   exact this
  have hm1:ML.Nt ⟨0,a,s,me,ho,pr,ids⟩ u ({ m with hold:=m.hold.set n.cG.toNat (-1) }) ((ho,some (.row 3 1 dh ((m.hold.map i64).set n.cG.toNat (i64 (-1)))))::H):=hL.yi (t:=t) (by omega) n.cG (-1) ⟨_,cY _ _ _⟩ fun y hy hne=>cN hne
  refine cV ?_
  refine⟨fin _ ⟨_,_,_,_,_,_⟩ (ML.Nt.FA (t:=t) hm1 (by simp only[MS.dw,List.length_set];omega) t _ ⟨_,bx⟩ fun y hy hne=> ?_)⟩
  have:=hall y hy
  by_cases e:y=ho
  ·subst e;exact Eq.trans bx (cY _ _ _).symm
  ·rw[cN e];exact cC
 case inl=>
  have r0:=hk
  have r1:n.cG=0:=hno'.cG.2 (by unfold eZ;exact decide_eq_false (by omega))
  obtain⟨g3,g4⟩:=hao.slot (by omega)
  have e2:∀d,(dR ids m.cA).getD ((t:Int)).toNat d= .sl (ids.getD t 0) (m.cA.getD t []).length:=fun d=>by rw[Int.toNat_natCast];exact qF (L:=⟨0,a,s,me,ho,pr,ids⟩) hL.len (by omega) d
  have hact:m.act t n=(m.dw t n.slot (m.nF t n),n.next,0,(m.nF t n),0):=by unfold MS.act;simp[hk]
  rw[hact]
  have fin:∀(H':Hp) (d:fb),ML.Nt ⟨0,a,s,me,ho,pr,ids⟩ u ({ m.dw t n.slot (m.nF t n) with at_:=m.at_.set t n.next }) H'->cu.dX H' 6 (.dD [.agg [cE u.shared,cE u.cB,cW u.bw, .sl a m.at_.length, .sl s m.cA.length, .sl me m.mem.length, .sl ho m.hold.length, .sl pr m.cJ.length],d.av,i64 0])= .dD [({ m.dw t n.slot (m.nF t n) with at_:=m.at_.set t n.next }:MS).av u,d.av,i64 0]:=fun H' d h=>by
   have:=iL h d
   rw[show({ m.dw t n.slot (m.nF t n) with at_:=m.at_.set t n.next }:MS).rows u a s me ho pr= .agg [cE u.shared,cE u.cB,cW u.bw, .sl a m.at_.length, .sl s m.cA.length, .sl me m.mem.length, .sl ho m.hold.length, .sl pr m.cJ.length] by simp[MS.rows,MS.dw]] at this
   exact this
  have hm1:ML.Nt ⟨0,a,s,me,ho,pr,ids⟩ u (m.dw t n.slot (m.nF t n)) ((ids.getD t 0,some (.row 2 1 dt (((m.cA.getD t []).map i64).set n.slot.toNat (i64 (m.nF t n)))))::H):=hL.dw (t:=t) (by omega) n.slot (m.nF t n) ⟨dt,cY _ _ _⟩ fun y hy hne=>cN hne
  refine cV ?_
  refine aR (xP u m n (by omega) (by omega) (hao.a (by omega)) (hao.b hk) (hao.op hk)) (oy hL (fun y hy=> ?_) [i64 t,n.av] (by simp[cX,cK])) (by simp[cX,cK]) trivial ?_
  ·have:=hall y hy;exact cC
  refine cV ?_
  refine⟨fin _ ⟨_,_,_,_,_,_⟩ (ML.Nt.FA (t:=t) hm1 (by simp only[MS.dw,List.length_set];omega) t _ ⟨_,bx⟩ fun y hy hne=> ?_)⟩
  have:=hall y hy
  by_cases e:y=ids.getD t 0
  ·rw[e];exact Eq.trans bx (cY _ _ _).symm
  ·rw[cN e];exact cC
 case inr.inl=>
  have r0:=hk
  obtain⟨g1,g2⟩:=hao.mem (by omega)
  obtain⟨g3,g4⟩:=hao.slot (by omega)
  have e1:∀d,(m.mem.map i64).getD n.cG.toNat d=i64 (m.mem.getD n.cG.toNat 0):=fun d=>jH (by omega) d
  have e2:∀d,(dR ids m.cA).getD ((t:Int)).toNat d= .sl (ids.getD t 0) (m.cA.getD t []).length:=fun d=>by rw[Int.toNat_natCast];exact qF (L:=⟨0,a,s,me,ho,pr,ids⟩) hL.len (by omega) d
  have hact:m.act t n=(m.dw t n.slot (m.mem.getD n.cG.toNat 0),n.next,n.cG,(m.mem.getD n.cG.toNat 0),0):=by unfold MS.act;simp[hk]
  rw[hact]
  have fin:∀(H':Hp) (d:fb),ML.Nt ⟨0,a,s,me,ho,pr,ids⟩ u ({ m.dw t n.slot (m.mem.getD n.cG.toNat 0) with at_:=m.at_.set t n.next }) H'->cu.dX H' 6 (.dD [.agg [cE u.shared,cE u.cB,cW u.bw, .sl a m.at_.length, .sl s m.cA.length, .sl me m.mem.length, .sl ho m.hold.length, .sl pr m.cJ.length],d.av,i64 0])= .dD [({ m.dw t n.slot (m.mem.getD n.cG.toNat 0) with at_:=m.at_.set t n.next }:MS).av u,d.av,i64 0]:=fun H' d h=>by
   have:=iL h d
   rw[show({ m.dw t n.slot (m.mem.getD n.cG.toNat 0) with at_:=m.at_.set t n.next }:MS).rows u a s me ho pr= .agg [cE u.shared,cE u.cB,cW u.bw, .sl a m.at_.length, .sl s m.cA.length, .sl me m.mem.length, .sl ho m.hold.length, .sl pr m.cJ.length] by simp[MS.rows,MS.dw]] at this
   exact this
  have hm1:ML.Nt ⟨0,a,s,me,ho,pr,ids⟩ u (m.dw t n.slot (m.mem.getD n.cG.toNat 0)) ((ids.getD t 0,some (.row 2 1 dt (((m.cA.getD t []).map i64).set n.slot.toNat (i64 (m.mem.getD n.cG.toNat 0)))))::H):=hL.dw (t:=t) (by omega) n.slot (m.mem.getD n.cG.toNat 0) ⟨dt,cY _ _ _⟩ fun y hy hne=>cN hne
  refine cV ?_
  refine⟨fin _ ⟨_,_,_,_,_,_⟩ (ML.Nt.FA (t:=t) hm1 (by simp only[MS.dw,List.length_set];omega) t _ ⟨_,bx⟩ fun y hy hne=> ?_)⟩
  have:=hall y hy
  by_cases e:y=ids.getD t 0
  ·rw[e];exact Eq.trans bx (cY _ _ _).symm
  ·rw[cN e];exact cC
 case inr.inr.inl=>
  have r0:=hk
  obtain⟨g1,g2⟩:=hao.mem (by omega)
  have hact:m.act t n=({ m with mem:=m.mem.set n.cG.toNat (m.val t n.a) },n.next,n.cG,m.val t n.a,0):=by unfold MS.act;simp[hk]
  rw[hact]
  have fin:∀(H':Hp) (d:fb),ML.Nt ⟨0,a,s,me,ho,pr,ids⟩ u ({ m with mem:=m.mem.set n.cG.toNat (m.val t n.a),at_:=m.at_.set t n.next }) H'->cu.dX H' 6 (.dD [.agg [cE u.shared,cE u.cB,cW u.bw, .sl a m.at_.length, .sl s m.cA.length, .sl me m.mem.length, .sl ho m.hold.length, .sl pr m.cJ.length],d.av,i64 0])= .dD [({ m with mem:=m.mem.set n.cG.toNat (m.val t n.a),at_:=m.at_.set t n.next }:MS).av u,d.av,i64 0]:=fun H' d h=>by
   have:=iL h d
   rw[show({ m with mem:=m.mem.set n.cG.toNat (m.val t n.a),at_:=m.at_.set t n.next }:MS).rows u a s me ho pr= .agg [cE u.shared,cE u.cB,cW u.bw, .sl a m.at_.length, .sl s m.cA.length, .sl me m.mem.length, .sl ho m.hold.length, .sl pr m.cJ.length] by simp[MS.rows,MS.dw]] at this
   exact this
  have hm1:ML.Nt ⟨0,a,s,me,ho,pr,ids⟩ u ({ m with mem:=m.mem.set n.cG.toNat (m.val t n.a) }) ((me,some (.row 2 1 de ((m.mem.map i64).set n.cG.toNat (i64 (m.val t n.a)))))::H):=hL.ft (t:=t) (by omega) n.cG (m.val t n.a) ⟨_,cY _ _ _⟩ fun y hy hne=>cN hne
  refine cV ?_
  refine aR (fS u m n.a (by omega) (by omega) (hao.a (by omega))) (oy hL (fun y hy=> ?_) [i64 t,n.a.av] (by simp[cX,cK])) (by simp[cX,cK]) trivial ?_
  ·have:=hall y hy;exact cC
  refine cV ?_
  refine⟨fin _ ⟨_,_,_,_,_,_⟩ (ML.Nt.FA (t:=t) hm1 (by simp only[MS.dw,List.length_set];omega) t _ ⟨_,bx⟩ fun y hy hne=> ?_)⟩
  have:=hall y hy
  by_cases e:y=me
  ·subst e;exact Eq.trans bx (cY _ _ _).symm
  ·rw[cN e];exact cC
 case inr.inr.inr.inl=>
  have r0:=hk
  obtain⟨g1,g2⟩:=hao.mem (by omega)
  obtain⟨g3,g4⟩:=hao.slot (by omega)
  have e1:∀d,(m.mem.map i64).getD n.cG.toNat d=i64 (m.mem.getD n.cG.toNat 0):=fun d=>jH (by omega) d
  have e2:∀d,(dR ids m.cA).getD ((t:Int)).toNat d= .sl (ids.getD t 0) (m.cA.getD t []).length:=fun d=>by rw[Int.toNat_natCast];exact qF (L:=⟨0,a,s,me,ho,pr,ids⟩) hL.len (by omega) d
  have hact:m.act t n=({ m.dw t n.slot (m.mem.getD n.cG.toNat 0) with mem:=m.mem.set n.cG.toNat (m.val t n.a) },n.next,n.cG,(m.mem.getD n.cG.toNat 0),m.val t n.a):=by unfold MS.act;simp[hk]
  rw[hact]
  have fin:∀(H':Hp) (d:fb),ML.Nt ⟨0,a,s,me,ho,pr,ids⟩ u ({ m.dw t n.slot (m.mem.getD n.cG.toNat 0) with mem:=m.mem.set n.cG.toNat (m.val t n.a),at_:=m.at_.set t n.next }) H'->cu.dX H' 6 (.dD [.agg [cE u.shared,cE u.cB,cW u.bw, .sl a m.at_.length, .sl s m.cA.length, .sl me m.mem.length, .sl ho m.hold.length, .sl pr m.cJ.length],d.av,i64 0])= .dD [({ m.dw t n.slot (m.mem.getD n.cG.toNat 0) with mem:=m.mem.set n.cG.toNat (m.val t n.a),at_:=m.at_.set t n.next }:MS).av u,d.av,i64 0]:=fun H' d h=>by
   have:=iL h d
   rw[show({ m.dw t n.slot (m.mem.getD n.cG.toNat 0) with mem:=m.mem.set n.cG.toNat (m.val t n.a),at_:=m.at_.set t n.next }:MS).rows u a s me ho pr= .agg [cE u.shared,cE u.cB,cW u.bw, .sl a m.at_.length, .sl s m.cA.length, .sl me m.mem.length, .sl ho m.hold.length, .sl pr m.cJ.length] by simp[MS.rows,MS.dw]] at this
   exact this
  have hm0:ML.Nt ⟨0,a,s,me,ho,pr,ids⟩ u (m.dw t n.slot (m.mem.getD n.cG.toNat 0)) ((ids.getD t 0,some (.row 2 1 dt (((m.cA.getD t []).map i64).set n.slot.toNat (i64 (m.mem.getD n.cG.toNat 0)))))::H):=hL.dw (t:=t) (by omega) n.slot (m.mem.getD n.cG.toNat 0) ⟨dt,cY _ _ _⟩ fun y hy hne=>cN hne
  have hm1:ML.Nt ⟨0,a,s,me,ho,pr,ids⟩ u ({ m.dw t n.slot (m.mem.getD n.cG.toNat 0) with mem:=m.mem.set n.cG.toNat (m.val t n.a) }) ((me,some (.row 2 1 de ((m.mem.map i64).set n.cG.toNat (i64 (m.val t n.a)))))::((ids.getD t 0,some (.row 2 1 dt (((m.cA.getD t []).map i64).set n.slot.toNat (i64 (m.mem.getD n.cG.toNat 0)))))::H)):=hm0.ft (t:=t) (by simp only[MS.dw,List.length_set];omega) n.cG (m.val t n.a) ⟨_,cY _ _ _⟩ fun y hy hne=>cN hne
  refine cV ?_
  refine aR (fS u m n.a (by omega) (by omega) (hao.a (by omega))) (oy hL (fun y hy=> ?_) [i64 t,n.a.av] (by simp[cX,cK])) (by simp[cX,cK]) trivial ?_
  ·have:=hall y hy;exact cC
  refine cV ?_
  refine⟨fin _ ⟨_,_,_,_,_,_⟩ (ML.Nt.FA (t:=t) hm1 (by simp only[MS.dw,List.length_set];omega) t _ ⟨_,bx⟩ fun y hy hne=> ?_)⟩
  have:=hall y hy
  by_cases e:y=me
  ·subst e;exact Eq.trans bx (cY _ _ _).symm
  ·rw[cN e]
   by_cases e:y=ids.getD t 0
   ·rw[e];exact Eq.trans bx (cY _ _ _).symm
   ·rw[cN e];exact cC
 case inr.inr.inr.inr.inr.inr.inl=>
  have r0:=hk
  have r1:n.cG=0:=hno'.cG.2 (by unfold eZ;exact decide_eq_false (by omega))
  have hact:m.act t n=({ m with cJ:=m.cJ++[⟨(t:Int),m.val t n.a⟩] },n.next,0,m.val t n.a,0):=by unfold MS.act;simp[hk]
  rw[hact]
  have fin:∀(H':Hp) (d:fb),ML.Nt ⟨0,a,s,me,ho,pr,ids⟩ u ({ m with cJ:=m.cJ++[⟨(t:Int),m.val t n.a⟩],at_:=m.at_.set t n.next }) H'->cu.dX H' 6 (.dD [.agg [cE u.shared,cE u.cB,cW u.bw, .sl a m.at_.length, .sl s m.cA.length, .sl me m.mem.length, .sl ho m.hold.length, .sl pr (m.cJ.length+1)],d.av,i64 0])= .dD [({ m with cJ:=m.cJ++[⟨(t:Int),m.val t n.a⟩],at_:=m.at_.set t n.next }:MS).av u,d.av,i64 0]:=fun H' d h=>by
   have:=iL h d
   rw[show({ m with cJ:=m.cJ++[⟨(t:Int),m.val t n.a⟩],at_:=m.at_.set t n.next }:MS).rows u a s me ho pr= .agg [cE u.shared,cE u.cB,cW u.bw, .sl a m.at_.length, .sl s m.cA.length, .sl me m.mem.length, .sl ho m.hold.length, .sl pr (m.cJ.length+1)] by simp[MS.rows,MS.dw]] at this
   exact this
  have hm1:ML.Nt ⟨0,a,s,me,ho,pr,ids⟩ u ({ m with cJ:=m.cJ++[⟨(t:Int),m.val t n.a⟩] }) ((0,some (.row 96 8 d0 [.agg [cE u.shared,cE u.cB,cW u.bw, .sl a m.at_.length, .sl s m.cA.length, .sl me m.mem.length, .sl ho m.hold.length, .sl pr (m.cJ.length+1)]]))::(pr,some (.row 155 2 dp (m.cJ.map dP.av++[(⟨(t:Int),m.val t n.a⟩:dP).av])))::H):=hL.CI (t:=t) (by omega) ⟨(t:Int),m.val t n.a⟩ ⟨d0,by rw[show({ m with cJ:=m.cJ++[⟨(t:Int),m.val t n.a⟩] }:MS).rows u (ML.a ⟨0,a,s,me,ho,pr,ids⟩) (ML.s ⟨0,a,s,me,ho,pr,ids⟩) (ML.me ⟨0,a,s,me,ho,pr,ids⟩) (ML.ho ⟨0,a,s,me,ho,pr,ids⟩) (ML.pr ⟨0,a,s,me,ho,pr,ids⟩)= .agg [cE u.shared,cE u.cB,cW u.bw, .sl a m.at_.length, .sl s m.cA.length, .sl me m.mem.length, .sl ho m.hold.length, .sl pr (m.cJ.length+1)] by simp[MS.rows]];exact cY _ _ _⟩ ⟨dp,(cN (by show pr≠0;omega)).trans (cY _ _ _)⟩ fun y hy h1 h2=>(cN h2).trans (cN h1)
  have a5:(m.cJ.map dP.av).length=m.cJ.length:=by simp
  refine cV ?_
  refine aR (fS u m n.a (by omega) (by omega) (hao.a (by omega))) (oy hL (fun y hy=> ?_) [i64 t,n.a.av] (by simp[cX,cK])) (by simp[cX,cK]) trivial ?_
  ·have:=hall y hy;exact cC
  refine cV ?_
  refine⟨fin _ ⟨_,_,_,_,_,_⟩ (ML.Nt.FA (t:=t) hm1 (by simp only[MS.dw,List.length_set];omega) t _ ⟨_,bx⟩ fun y hy hne=> ?_)⟩
  have:=hall y hy
  by_cases e:y=0
  ·subst e;exact Eq.trans bx (cY _ _ _).symm
  ·rw[cN e]
   by_cases e:y=pr
   ·subst e;exact Eq.trans bx (cY _ _ _).symm
   ·rw[cN e];exact cC
 case inr.inr.inr.inr.inr.inr.inr=>
  have r0:=hk
  have r1:n.cG=0:=hno'.cG.2 (by unfold eZ;exact decide_eq_false (by omega))
  have hv:=hao.a (by omega)
  by_cases hz0:m.val t n.a=0
  ·have hact:m.act t n=(m,n.qa,0,m.val t n.a,0):=by unfold MS.act;simp[hk,hz0]
   rw[hact]
   have fin:∀(H':Hp) (d:fb),ML.Nt ⟨0,a,s,me,ho,pr,ids⟩ u ({ m with at_:=m.at_.set t n.qa }) H'->cu.dX H' 6 (.dD [.agg [cE u.shared,cE u.cB,cW u.bw, .sl a m.at_.length, .sl s m.cA.length, .sl me m.mem.length, .sl ho m.hold.length, .sl pr m.cJ.length],d.av,i64 0])= .dD [({ m with at_:=m.at_.set t n.qa }:MS).av u,d.av,i64 0]:=fun H' d h=>by
    have:=iL h d
    rw[show({ m with at_:=m.at_.set t n.qa }:MS).rows u a s me ho pr= .agg [cE u.shared,cE u.cB,cW u.bw, .sl a m.at_.length, .sl s m.cA.length, .sl me m.mem.length, .sl ho m.hold.length, .sl pr m.cJ.length] by simp[MS.rows,MS.dw]] at this
    exact this
   refine cV ?_
   refine aR (fS u m n.a (by omega) (by omega) hv) (oy hL (fun y hy=> ?_) [i64 t,n.a.av] (by simp[cX,cK])) (by simp[cX,cK]) trivial ?_
   ·have:=hall y hy;exact cC
   rw[hz0]
   refine cV ?_
   refine⟨fin _ ⟨_,_,_,_,_,_⟩ (ML.Nt.FA (t:=t) hL (by omega) t _ ⟨_,bx⟩ fun y hy hne=> ?_)⟩
   have:=hall y hy
   exact cC
  ·have hact:m.act t n=(m,n.next,0,m.val t n.a,0):=by unfold MS.act;simp[hk,hz0]
   rw[hact]
   have fin:∀(H':Hp) (d:fb),ML.Nt ⟨0,a,s,me,ho,pr,ids⟩ u ({ m with at_:=m.at_.set t n.next }) H'->cu.dX H' 6 (.dD [.agg [cE u.shared,cE u.cB,cW u.bw, .sl a m.at_.length, .sl s m.cA.length, .sl me m.mem.length, .sl ho m.hold.length, .sl pr m.cJ.length],d.av,i64 0])= .dD [({ m with at_:=m.at_.set t n.next }:MS).av u,d.av,i64 0]:=fun H' d h=>by
    have:=iL h d
    rw[show({ m with at_:=m.at_.set t n.next }:MS).rows u a s me ho pr= .agg [cE u.shared,cE u.cB,cW u.bw, .sl a m.at_.length, .sl s m.cA.length, .sl me m.mem.length, .sl ho m.hold.length, .sl pr m.cJ.length] by simp[MS.rows,MS.dw]] at this
    exact this
   refine cV ?_
   refine aR (fS u m n.a (by omega) (by omega) hv) (oy hL (fun y hy=> ?_) [i64 t,n.a.av] (by simp[cX,cK])) (by simp[cX,cK]) trivial ?_
   ·have:=hall y hy;exact cC
   refine cV ?_
   refine⟨fin _ ⟨_,_,_,_,_,_⟩ (ML.Nt.FA (t:=t) hL (by omega) t _ ⟨_,bx⟩ fun y hy hne=> ?_)⟩
   have:=hall y hy
   exact cC
theorem jh.TH {a b:jh} (h1:a.iM=b.iM) (h2:a.slot=b.slot) (h3:a.word=b.word):a=b:=by
 obtain⟨a1,a2,a3⟩:=a
 obtain⟨b1,b2,b3⟩:=b
 simp only at h1 h2 h3
 subst h1;subst h2;subst h3;rfl
theorem eW (c:Int):Pure Tryz.prog 168 [u8 c] (fun r=>r=bl (fN c)):=by
 refine aD U5 rfl ?_
 repeat' (first|refine aQ ?_|exact aC|with_reducible refine aB ?_ ?_|(apply aA;(·exact cL))|refine aH ?_|((with_reducible refine aE ?_ ?_)<;>intro hc<;>try(exfalso;omega)))
 refine eK ?_
 unfold fN
 by_cases h1:48<=c<;>by_cases h2:c<=57<;>simp[h1,h2]
theorem eJ (c:Int):Pure Tryz.prog 170 [u8 c] (fun r=>r=bl (iN c)):=by
 refine aD U7 rfl ?_
 repeat' (first|refine aQ ?_|exact aC|with_reducible refine aB ?_ ?_|(apply aA;(·exact cL))|refine aH ?_|((with_reducible refine aE ?_ ?_)<;>intro hc<;>try(exfalso;omega)))
 refine eK ?_
 unfold iN
 by_cases h1:97<=c<;>by_cases h2:c<=122<;>by_cases h3:65<=c<;>by_cases h4:c<=90<;>by_cases h5:c=95<;>simp[h1,h2,h3,h4,h5]
theorem gX (s:ByteArray):Pure Tryz.prog 169 [st s] (fun r=>r=bl (mJ s)):=by
 refine aD U6 rfl ?_
 repeat' (first|refine aQ ?_|exact aC|with_reducible refine aB ?_ ?_|(apply aA;(·exact cL))|refine aH ?_|((with_reducible refine aE ?_ ?_)<;>intro hc<;>try(exfalso;omega)))
 all_goals refine eK ?_
 all_goals simp_all[mJ,DO]
theorem CY (s:ByteArray) (hs:s.size<=140737488351232):Pure Tryz.prog 124 [st s] (fun r=>r=bl (fZ s)):=by
 refine aD UC rfl ?_
 by_cases hz:(s.size:Int)<1
 ·have hb:fZ s=false:=by unfold fZ;rw[decide_eq_false (by omega)];simp
  rw[hb]
  repeat' (first|refine aQ ?_|exact aC|with_reducible refine aB ?_ ?_|(apply aA;(·exact cL))|((with_reducible refine aM (eW _) ?_ ?_);(·exact cI))|((with_reducible refine aG (fun _=>eW _) ?_ ?_);(·exact cI))|((with_reducible refine aJ (eW _) ?_ ?_);(·exact cI))|((with_reducible refine aL (fun _=>eW _) ?_ ?_);(·exact cI))|((with_reducible refine aM (gX _) ?_ ?_);(·exact cI))|((with_reducible refine aG (fun _=>gX _) ?_ ?_);(·exact cI))|((with_reducible refine aJ (gX _) ?_ ?_);(·exact cI))|((with_reducible refine aL (fun _=>gX _) ?_ ?_);(·exact cI))|((with_reducible refine aM (eJ _) ?_ ?_);(·exact cI))|((with_reducible refine aG (fun _=>eJ _) ?_ ?_);(·exact cI))|((with_reducible refine aJ (eJ _) ?_ ?_);(·exact cI))|((with_reducible refine aL (fun _=>eJ _) ?_ ?_);(·exact cI))|(simp only[hz,decide_true])|refine aH ?_|((with_reducible refine aE ?_ ?_)<;>intro hc<;>try(exfalso;omega)))
 ·repeat' (first|refine aQ ?_|exact eY|with_reducible refine aB ?_ ?_|((with_reducible refine Ask.mk ?_);first|exact dE|((refine Ask.mk ?_);intro h;exact⟨by omega,by omega⟩)|exact cd)|(apply aA;(·exact cL))|((with_reducible refine aM (eW _) ?_ ?_);(·exact cI))|((with_reducible refine aG (fun _=>eW _) ?_ ?_);(·exact cI))|((with_reducible refine aJ (eW _) ?_ ?_);(·exact cI))|((with_reducible refine aL (fun _=>eW _) ?_ ?_);(·exact cI))|((with_reducible refine aM (gX _) ?_ ?_);(·exact cI))|((with_reducible refine aG (fun _=>gX _) ?_ ?_);(·exact cI))|((with_reducible refine aJ (gX _) ?_ ?_);(·exact cI))|((with_reducible refine aL (fun _=>gX _) ?_ ?_);(·exact cI))|((with_reducible refine aM (eJ _) ?_ ?_);(·exact cI))|((with_reducible refine aG (fun _=>eJ _) ?_ ?_);(·exact cI))|((with_reducible refine aJ (eJ _) ?_ ?_);(·exact cI))|((with_reducible refine aL (fun _=>eJ _) ?_ ?_);(·exact cI))|(simp only[hz,decide_false])|refine aH ?_|((with_reducible refine aE ?_ ?_)<;>intro hc<;>try(exfalso;omega)))
  ·refine eK (Eq.symm ?_)
   unfold fZ
   have hp:(decide (1<=s.size)&&decide (s.size<=32)&& !fN (fG s 0)&& !mJ s)=false:=by
    rcases hc with((h|h)|h)|h
    ·exact absurd h (by decide)
    ·simp[show ¬s.size<=32 by omega]
    ·have h:fN (fG s 0)=true:=h
     simp[h]
    ·simp[h]
   rw[hp,Bool.false_and]
  ·have hp:(decide (1<=s.size)&&decide (s.size<=32)&& !fN (fG s 0)&& !mJ s)=true:=by
    have h1:s.size<=32:=by
     have:¬(32:Int)<s.size:=fun h=>hc.1 (.inl (.inr h))
     omega
    have h2:fN (fG s 0)=false:=by
     cases hd:fN (fG s 0) with
     |false=>rfl
     |true=>exact absurd (.inr hd) hc.1
    have h3:mJ s=false:=hc.2
    rw[decide_eq_true (by omega:1<=s.size),decide_eq_true h1,h2,h3];rfl
   have hb:∀R,(decide (1<=s.size)&&decide (s.size<=32)&& !fN (fG s 0)&& !mJ s&&R)=R:=fun R=>by rw[hp,Bool.true_and]
   unfold fZ
   rw[hb]
   clear hc hp hb
   refine aN (fun i:Nat=>[(0,st s),(3,i64 i)]) (fun i H n=>i<=s.size/\∀j,j<i->(iN (fG s j)||fN (fG s j))=true) (fun i=>s.size - i) 0 cH ⟨Nat.zero_le _,fun _ h=>by omega⟩ ?_
   rintro i H n ⟨hi,hall⟩
   by_cases his:i<s.size
   ·repeat' (first|refine aQ ?_|exact eY|with_reducible refine aB ?_ ?_|((with_reducible refine Ask.mk ?_);first|exact dE|((refine Ask.mk ?_);intro h;exact⟨by omega,by omega⟩)|exact cd)|(apply aA;(·exact cL))|((with_reducible refine aM (eW _) ?_ ?_);(·exact cI))|((with_reducible refine aG (fun _=>eW _) ?_ ?_);(·exact cI))|((with_reducible refine aJ (eW _) ?_ ?_);(·exact cI))|((with_reducible refine aL (fun _=>eW _) ?_ ?_);(·exact cI))|((with_reducible refine aM (eJ _) ?_ ?_);(·exact cI))|((with_reducible refine aG (fun _=>eJ _) ?_ ?_);(·exact cI))|((with_reducible refine aJ (eJ _) ?_ ?_);(·exact cI))|((with_reducible refine aL (fun _=>eJ _) ?_ ?_);(·exact cI))|refine aH ?_|((with_reducible refine aE ?_ ?_)<;>intro hc<;>try(exfalso;omega)))
    ·refine eK (Eq.symm ?_)
     rw[Bool.eq_false_iff,ne_eq,List.all_eq_true]
     intro hA
     have h1:=hA i (List.mem_range.2 his)
     have hc:iN (fG s i)=false/\fN (fG s i)=false:=hc
     rw[hc.1,hc.2] at h1
     cases h1
    ·refine⟨i+1,by omega,cH,by omega,fun j hj=> ?_⟩
     by_cases hji:j=i
     ·have hc:¬iN (fG s i)=false\/fN (fG s i)=true:=hc
      rw[hji]
      rcases hc with h|h
      ·rw[Bool.not_eq_false] at h
       rw[h,Bool.true_or]
      ·rw[h,Bool.or_true]
     ·exact hall j (by omega)
   ·have:i=s.size:=by omega
    subst this
    repeat' (first|refine aQ ?_|exact aC|with_reducible refine aB ?_ ?_|(apply aA;(·exact cL))|refine aH ?_|((with_reducible refine aE ?_ ?_)<;>intro hc<;>try(exfalso;omega)))
    refine eK (Eq.symm ?_)
    rw[List.all_eq_true]
    intro j hj
    exact hall j (List.mem_range.1 hj)
theorem gW (k:Int):Pure Tryz.prog 125 [u8 k] (fun r=>r= .dD [bl (jJ k),bl (eZ k),bl (nJ k),bl (iS k)]):=by
 refine aD UD rfl ?_
 repeat' (first|refine aQ ?_|exact aC|with_reducible refine aB ?_ ?_|(apply aA;(·exact cL))|refine aH ?_|((with_reducible refine aE ?_ ?_)<;>intro hc<;>try(exfalso;omega)))
 all_goals first
  |(subst hc;exact rfl)
  |(have h1:jJ k=false:=decide_eq_false (by omega)
    have h2:eZ k=false:=decide_eq_false (by omega)
    have h3:nJ k=false:=decide_eq_false (by omega)
    have h4:iS k=false:=decide_eq_false (by omega)
    rw[h1,h2,h3,h4])
theorem fR (n most:Int) (b:Bool):Pure Tryz.prog 127 [i64 n,bl b,i64 most] (fun r=>r=bl (om n b most)):=by
 refine aD UF rfl ?_
 cases b with
 |false=>
  repeat' (first|refine aQ ?_|exact aC|with_reducible refine aB ?_ ?_|(apply aA;(·exact cL))|refine aH ?_|((with_reducible refine aE ?_ ?_)<;>intro hc<;>try(exfalso;omega)))
  exact rfl
 |true=>
  repeat' (first|refine aQ ?_|exact aC|with_reducible refine aB ?_ ?_|(apply aA;(·exact cL))|refine aH ?_|((with_reducible refine aE ?_ ?_)<;>intro hc<;>try(exfalso;omega)))
  refine eK ?_
  unfold om
  by_cases h1:0<=n<;>by_cases h2:n<most<;>simp[h1,h2]
theorem rK (v:jh) (b:Bool) (cA:Int):Pure Tryz.prog 128 [v.av,bl b,i64 cA] (fun r=>r=bl (ox v b cA)):=by
 refine aD UG rfl ?_
 cases b with
 |false=>
  repeat' (first|refine aQ ?_|exact eY|with_reducible refine aB ?_ ?_|((with_reducible refine Ask.mk ?_);first|exact dE|exact cd|(intro h;simp_all[jh.cells]<;>fail)|(simp_all[jh.cells]<;>fail))|(apply aA;(·exact cL))|refine aH ?_|((with_reducible refine aE ?_ ?_)<;>intro hc<;>try(exfalso;omega)))
  refine eK ?_
  unfold ox
  rw[if_neg (by decide),Bool.eq_iff_iff,decide_eq_true_eq]
  constructor
  ·intro h
   simp at h
   exact jh.TH h.1 h.2.1 h.2.2
  ·intro h
   rw[h];rfl
 |true=>
  repeat' (first|refine aQ ?_|exact eY|with_reducible refine aB ?_ ?_|((with_reducible refine Ask.mk ?_);first|exact dE|exact cd|(intro h;simp_all[jh.cells]<;>fail)|(simp_all[jh.cells]<;>fail))|(apply aA;(·exact cL))|refine aH ?_|((with_reducible refine aE ?_ ?_)<;>intro hc<;>try(exfalso;omega)))
  all_goals refine eK ?_
  all_goals unfold ox
  ·rw[if_pos rfl,if_pos hc]
   by_cases h1:0<=v.slot<;>by_cases h2:v.slot<cA<;>by_cases h3:v.word=0<;>simp[h1,h2,h3]
  ·rw[if_pos rfl,if_neg (by rw[hc];decide)]
set_option maxRecDepth 4000 in
set_option maxHeartbeats 4000000 in
theorem CZ (u:bz) (g:cF) (n:Node) (hn:n.Wf):Pure Tryz.prog 77 [u.av,g.av,n.av] (fun r=>r=bl (iY u g n)):=by
 have h0:=hn.kind
 have ho:=hn.op
 refine aD YQ rfl ?_
 have hva:Pure Tryz.prog 128 [.agg (List.take 3 (List.drop (0+4) n.cells)),bl (nJ n.kind),i64 g.cA] (fun r=>r=bl (ox n.a (nJ n.kind) g.cA)):=rK n.a _ _
 have hvb:∀b,Pure Tryz.prog 128 [.agg (List.take 3 (List.drop (0+7) n.cells)),bl b,i64 g.cA] (fun r=>r=bl (ox n.b b g.cA)):=fun b=>rK n.b b _
 have hfa:cX 0 [.agg (List.take 3 (List.drop (0+4) n.cells)),bl (nJ n.kind),i64 g.cA]:=by simp[cX,cK,Node.cells]
 have hfb:∀b,cX 0 [.agg (List.take 3 (List.drop (0+7) n.cells)),bl b,i64 g.cA]:=fun b=>by simp[cX,cK,Node.cells]
 have hif:∀a b:Bool,(if a=true then b else false)=(a&&b):=fun a b=>by cases a<;>rfl
 by_cases hk:1<=n.kind/\n.kind<10/\0<=n.origin/\n.origin<4096
 ·repeat' (first|refine aQ ?_|exact eY|with_reducible refine aB ?_ ?_|((with_reducible refine Ask.mk ?_);first|exact dE|exact cd|(intro h;simp_all[bz.cells,cF.cells,Node.cells]<;>fail)|(simp_all[bz.cells,cF.cells,Node.cells]<;>fail))|(apply aA;(·exact cL))|((with_reducible refine aM (gW _) ?_ ?_);(·exact cI))|((with_reducible refine aG (fun _=>gW _) ?_ ?_);(·exact cI))|((with_reducible refine aJ (gW _) ?_ ?_);(·exact cI))|((with_reducible refine aL (fun _=>gW _) ?_ ?_);(·exact cI))|((with_reducible refine aM (fR _ _ _) ?_ ?_);(·exact cI))|((with_reducible refine aG (fun _=>fR _ _ _) ?_ ?_);(·exact cI))|((with_reducible refine aJ (fR _ _ _) ?_ ?_);(·exact cI))|((with_reducible refine aL (fun _=>fR _ _ _) ?_ ?_);(·exact cI))|((with_reducible refine aM (gh _) ?_ ?_);(·exact cI))|((with_reducible refine aG (fun _=>gh _) ?_ ?_);(·exact cI))|((with_reducible refine aJ (gh _) ?_ ?_);(·exact cI))|((with_reducible refine aL (fun _=>gh _) ?_ ?_);(·exact cI))|(refine aG (fun _=>hva) hfa ?_)|(refine aG (fun _=>hvb _) (hfb _) ?_)|refine aH ?_|((with_reducible refine aE ?_ ?_)<;>intro hc<;>try(exfalso;omega)))
  all_goals rename_i h56
  all_goals refine eK (Eq.symm ?_)
  all_goals unfold iY
  all_goals rw[decide_eq_true hk,Bool.true_and]
  ·have hop:(if n.kind=1 then decide (n.op<19) else decide (n.op=0))=false:=by split<;>exact decide_eq_false (by omega)
   rw[hop];simp
  ·have hop:(if n.kind=1 then decide (n.op<19) else decide (n.op=0))=true:=by split<;>exact decide_eq_true (by omega)
   rw[hop,Bool.true_and,if_pos h56]
   simp only[hif,List.length_map]
  ·have hop:(if n.kind=1 then decide (n.op<19) else decide (n.op=0))=false:=by split<;>exact decide_eq_false (by omega)
   rw[hop];simp
  ·have hop:(if n.kind=1 then decide (n.op<19) else decide (n.op=0))=true:=by split<;>exact decide_eq_true (by omega)
   rw[hop,Bool.true_and,if_neg (by omega)]
   simp only[hif,List.length_map]
 ·have hb:iY u g n=false:=by unfold iY;rw[decide_eq_false hk];simp
  rw[hb]
  repeat' (first|refine aQ ?_|exact eY|with_reducible refine aB ?_ ?_|((with_reducible refine Ask.mk ?_);first|exact dE|exact cd|(intro h;simp_all[bz.cells,cF.cells,Node.cells]<;>fail)|(simp_all[bz.cells,cF.cells,Node.cells]<;>fail))|(apply aA;(·exact cL))|((with_reducible refine aM (gW _) ?_ ?_);(·exact cI))|((with_reducible refine aG (fun _=>gW _) ?_ ?_);(·exact cI))|((with_reducible refine aJ (gW _) ?_ ?_);(·exact cI))|((with_reducible refine aL (fun _=>gW _) ?_ ?_);(·exact cI))|((with_reducible refine aM (fR _ _ _) ?_ ?_);(·exact cI))|((with_reducible refine aG (fun _=>fR _ _ _) ?_ ?_);(·exact cI))|((with_reducible refine aJ (fR _ _ _) ?_ ?_);(·exact cI))|((with_reducible refine aL (fun _=>fR _ _ _) ?_ ?_);(·exact cI))|((with_reducible refine aM (gh _) ?_ ?_);(·exact cI))|((with_reducible refine aG (fun _=>gh _) ?_ ?_);(·exact cI))|((with_reducible refine aJ (gh _) ?_ ?_);(·exact cI))|((with_reducible refine aL (fun _=>gh _) ?_ ?_);(·exact cI))|(refine aG (fun _=>hva) hfa ?_)|(refine aG (fun _=>hvb _) (hfb _) ?_)|refine aH ?_|((with_reducible refine aE ?_ ?_)<;>intro hc<;>try(exfalso;omega)))
  all_goals first|exact rfl|(exfalso;omega)
abbrev strs (l:List ByteArray):List AV:=l.map fun s=>st s
theorem SB {l:List ByteArray} {i:Nat} (h:i<l.length) (d:AV):(strs l).getD ((i:Int)).toNat d=st (l.getD i default):=by rw[Int.toNat_natCast];exact dN (fun s=>st s) l i d h
theorem MC (l:List ByteArray) (s:ByteArray):strs l++[st s]=strs (l++[s]):=by simp[strs]
theorem MD (l:List ByteArray):(strs l).length=l.length:=by simp[strs]
theorem NR {l:List Decl} {i:Nat} (h:i<l.length) (d:AV):(l.map Decl.av).getD ((i:Int)).toNat d=(l.getD i default).av:=by rw[Int.toNat_natCast];exact dN Decl.av l i d h
def tj:List ByteArray->List Decl->Bool->Bool
 |_,[],_=>true
 |acc,d::r,w=>if(fZ d.name&&(w||decide (d.word=0))&& !ft acc d.name)=true then tj (acc++[d.name]) r w else false
def ny (l:List Decl) (i:Nat):List ByteArray:=(l.take i).map Decl.name
theorem LJ {acc:List ByteArray} {l:List Decl} {w:Bool} {i:Nat} (h:i<l.length):tj acc (l.drop i) w=if(fZ (l.getD i default).name&&(w||decide ((l.getD i default).word=0))&& !ft acc (l.getD i default).name)=true then tj (acc++[(l.getD i default).name]) (l.drop (i+1)) w else false:=by
 rw[List.drop_eq_getElem_cons h,tj,show l.getD i default=l[i] by simp[List.getD,h]]
theorem G2 {l:List Decl} {i:Nat} (h:i<l.length):ny l (i+1)=ny l i++[(l.getD i default).name]:=by
 unfold ny
 rw[List.take_succ_eq_append_getElem h,List.map_append,show l.getD i default=l[i] by simp[List.getD,h]];rfl
theorem LB {l:List Decl} {i:Nat} (h:i<=l.length):(ny l i).length=i:=by simp[ny];omega
theorem GZ {l:List ByteArray} {k:Nat} (h:k<l.length) (s:ByteArray):ft (l.take (k+1)) s=(ft (l.take k) s||decide (s=l.getD k default)):=by
 rw[Bool.eq_iff_iff,Bool.or_eq_true,zN,zN,decide_eq_true_eq,List.take_succ_eq_append_getElem h,List.mem_append,show l.getD k default=l[k] by simp[List.getD,h]]
 simp
theorem TA (a b:ByteArray):(a==b)=decide (a=b):=by
 obtain⟨d⟩:=a
 obtain⟨d'⟩:=b
 show(d==d')=_
 rw[Bool.eq_iff_iff]
 simp
def DR (nv:AV) (L:List ByteArray) (H:Hp) (nx:Nat):Prop:=(nv= .sc (.slice none 0 0)/\L=[])\/∃b d,nv= .sl b L.length/\b<nx/\bu H b=some (.row 9 1 d (strs L))
def ig (nv:AV) (y:Nat):Prop:=∀b n,nv= .sl b n->y≠b
theorem xq {b n y:Nat} (h:ig (.sl b n) y):y≠b:=h b n rfl
theorem I6 {b n m y:Nat} (h:ig (.sl b n) y):ig (.sl b m) y:=fun b' n' e=>by cases e;exact h b n rfl
set_option maxRecDepth 4000 in
set_option maxHeartbeats 8000000 in
theorem z7 (l:List Decl) (hl:l.length<=64) (hw:∀d∈l,d.Wf) (a0:List ByteArray) (ha:a0.length<=1000) (w:Bool) (nv0:AV) (H0:Hp) (nx:Nat) (ht0:DR nv0 a0 H0 nx):cS Tryz.prog 76 [cE l,nv0,bl w] H0 nx (fun r H n=>nx<=n/\(∀y,y<nx->ig nv0 y->bu H y=bu H0 y)/\(tj a0 l w=true->∃nv,r= .dD [nv,bl true]/\DR nv (a0++l.map Decl.name) H n/\∀y,y<nx->ig nv0 y->ig nv y)/\(tj a0 l w=false->r= .dD [.sc (.slice none 0 0),bl false])):=by
 have hml:(l.map Decl.av).length=l.length:=by simp
 refine aI YP rfl ?_
 repeat' (first|refine aQ ?_|exact aC|with_reducible refine aB ?_ ?_|(apply aA;(·exact cL))|refine aH ?_|((with_reducible refine aE ?_ ?_)<;>intro hc<;>try(exfalso;omega)))
 refine aN (fun σ:Nat×AV=>[(0,cE l),(1,σ.2),(2,bl w),(8,i64 σ.1)])
  (fun σ H n=>σ.1<=l.length/\nx<=n/\tj (a0++ny l σ.1) (l.drop σ.1) w=tj a0 l w/\DR σ.2 (a0++ny l σ.1) H n/\(∀y,y<nx->ig nv0 y->ig σ.2 y)/\∀y,y<nx->ig nv0 y->bu H y=bu H0 y) (fun σ=>l.length - σ.1) (0,nv0) cH ⟨Nat.zero_le _,cZ,by simp[ny], ?_,fun _ _ h=>h,fun y hy _=>cC⟩ ?_
 ·rw[show a0++ny l (0:Nat)=a0 by simp[ny]]
  rcases ht0 with h|⟨b,d,h1,h2,h3⟩
  ·exact .inl h
  ·exact .inr ⟨b,d,h1,Nat.lt_of_lt_of_le h2 cZ,Eq.trans cC h3⟩
 rintro⟨i,nv⟩ H n ⟨hi,hnn,hok,htold,hap,hkp⟩
 dsimp only at hi hok htold hap ⊢
 have hLl:(a0++ny l i).length=a0.length+i:=by rw[List.length_append,LB hi]
 by_cases hil:i<l.length
 ·have ed:=fun d=>NR (l:=l) hil d
  have hdw:=hw _ (cT default hil)
  have hnm:=CY (l.getD i default).name hdw.name
  rw[LJ hil] at hok
  have hnx:a0++ny l (i+1)=(a0++ny l i)++[(l.getD i default).name]:=by rw[G2 hil,List.append_assoc]
  generalize hL:a0++ny l i=L at *
  generalize l.getD i default=dd at *
  have hsl:(strs L).length=L.length:=MD L
  rcases htold with⟨rfl,hL0⟩|⟨b,d,rfl,hbn,hb⟩
  ·have hL0l:L.length=0:=by rw[hL0];rfl
   repeat' (first|refine aQ ?_|exact eY|with_reducible refine aB ?_ ?_|((with_reducible refine Ask.mk ?_);first|exact dE|(exact hml)|(exact hsl)|exact cd|(intro h;simp_all[Decl.cells]<;>fail)|(simp_all[Decl.cells]<;>fail))|(apply aA;(·(first|exact ed _|exact cL)))|refine aK (hnm) ?_|refine aH ?_|((with_reducible refine aE ?_ ?_)<;>intro hc<;>try(exfalso;omega)))
   refine aN (fun σ:Nat×Bool=>[(0,cE l),(1, .sc (.slice none 0 0)),(2,bl w),(8,i64 i),(9,bl σ.2),(10,i64 σ.1)])
    (fun σ H2 n2=>σ.1<=L.length/\n<=n2/\σ.2=(fZ dd.name&&(w||decide (dd.word=0))&& !ft (L.take σ.1) dd.name)/\∀y,y<nx->ig nv0 y->bu H2 y=bu H0 y) (fun σ=>L.length - σ.1) (0,(if fZ dd.name=true then(if w=true then true else decide (dd.word=0)) else false)) cH ⟨Nat.zero_le _,cZ,by cases fZ dd.name<;>cases w<;>simp[ft],fun y hy h=>Eq.trans cC (hkp y hy h)⟩ ?_
   rintro⟨k,okv⟩ H2 n2 ⟨hk,hn2,hokv,hkp2⟩
   dsimp only at hk hokv ⊢
   by_cases hkl:k<L.length
   ·exfalso;omega
   ·have:k=L.length:=by omega
    subst this
    rw[List.take_length] at hokv
    rw[<-hokv] at hok
    cases okv with
    |false=>
     rw[if_neg (by decide)] at hok
     repeat' (first|refine aQ ?_|exact aC|with_reducible refine aB ?_ ?_|(apply aA;(·exact cL))|refine aH ?_|((with_reducible refine aE ?_ ?_)<;>intro hc<;>try(exfalso;omega)))
     first|refine⟨?_, ?_, ?_, ?_⟩|refine⟨⟨?_, ?_, ?_, ?_⟩⟩
     ·exact Nat.le_trans (Nat.le_trans hnn hn2) cZ
     ·exact fun y hy h=>Eq.trans cC (hkp2 y hy h)
     ·intro h;rw[<-hok] at h;cases h
     ·exact fun _=>rfl
    |true=>
     rw[if_pos rfl] at hok
     repeat' (first|refine aQ ?_|exact eY|with_reducible refine aB ?_ ?_|((with_reducible refine Ask.mk ?_);first|exact dE|(exact hml)|(exact hsl)|exact cd|(intro h;simp_all[Decl.cells]<;>fail)|(simp_all[Decl.cells]<;>fail))|(apply aA;(·(first|exact ed _|exact cL)))|refine aH ?_|((with_reducible refine aE ?_ ?_)<;>intro hc<;>try(exfalso;omega)))
     refine⟨(i+1, .sl (n2+13) ([dd.name]:List ByteArray).length),by dsimp only;omega,cH,by dsimp only;omega,Nat.le_trans (Nat.le_trans hnn hn2) cZ,by dsimp only;rw[hnx];exact hok, ?_,fun y hy h=> ?_,fun y hy h=>Eq.trans cC (hkp2 y hy h)⟩
     ·rw[hnx,hL0];exact .inr ⟨n2+13,_,rfl,cZ,bx⟩
     ·intro b' n' e;cases e;omega
  ·repeat' (first|refine aQ ?_|exact eY|with_reducible refine aB ?_ ?_|((with_reducible refine Ask.mk ?_);first|exact dE|(exact hml)|(exact hsl)|exact cd|(intro h;simp_all[Decl.cells]<;>fail)|(simp_all[Decl.cells]<;>fail))|(apply aA;(·(first|exact ed _|exact cL)))|refine aK (hnm) ?_|refine aH ?_|((with_reducible refine aE ?_ ?_)<;>intro hc<;>try(exfalso;omega)))
   refine aN (fun σ:Nat×Bool=>[(0,cE l),(1, .sl b L.length),(2,bl w),(8,i64 i),(9,bl σ.2),(10,i64 σ.1)])
    (fun σ H2 n2=>σ.1<=L.length/\n<=n2/\σ.2=(fZ dd.name&&(w||decide (dd.word=0))&& !ft (L.take σ.1) dd.name)/\(∃d,bu H2 b=some (.row 9 1 d (strs L)))/\∀y,y<nx->ig nv0 y->bu H2 y=bu H0 y) (fun σ=>L.length - σ.1) (0,(if fZ dd.name=true then(if w=true then true else decide (dd.word=0)) else false)) cH ⟨Nat.zero_le _,cZ,by cases fZ dd.name<;>cases w<;>simp[ft],⟨_,bx⟩,fun y hy h=>Eq.trans cC (hkp y hy h)⟩ ?_
   rintro⟨k,okv⟩ H2 n2 ⟨hk,hn2,hokv,⟨d2,hb2⟩,hkp2⟩
   dsimp only at hk hokv ⊢
   by_cases hkl:k<L.length
   ·have es:=fun d=>SB (l:=L) hkl d
    have hstep:(if okv=true then !(L.getD k default==dd.name) else false)=(fZ dd.name&&(w||decide (dd.word=0))&& !ft (L.take (k+1)) dd.name):=by
     rw[GZ hkl,TA,hokv]
     have:decide (L.getD k default=dd.name)=decide (dd.name=L.getD k default):=decide_eq_decide.2 ⟨Eq.symm,Eq.symm⟩
     rw[this]
     cases fZ dd.name<;>cases(w||decide (dd.word=0))<;>cases ft (L.take k) dd.name<;>cases decide (dd.name=L.getD k default)<;>rfl
    repeat' (first|refine aQ ?_|exact eY|with_reducible refine aB ?_ ?_|((with_reducible refine Ask.mk ?_);first|exact dE|(exact hml)|(exact hsl)|exact cd|(intro h;simp_all[Decl.cells]<;>fail)|(simp_all[Decl.cells]<;>fail))|(apply aA;(·(first|exact ed _|exact es _|exact cL)))|refine aH ?_|((with_reducible refine aE ?_ ?_)<;>intro hc<;>try(exfalso;omega)))
    exact⟨(k+1,if okv=true then !(L.getD k default==dd.name) else false),by dsimp only;omega,cH,by dsimp only;omega,by first|omega|exact cZ,hstep,⟨_,bx⟩,fun y hy h=>Eq.trans cC (hkp2 y hy h)⟩
   ·have:k=L.length:=by omega
    subst this
    rw[List.take_length] at hokv
    rw[<-hokv] at hok
    cases okv with
    |false=>
     rw[if_neg (by decide)] at hok
     repeat' (first|refine aQ ?_|exact aC|with_reducible refine aB ?_ ?_|(apply aA;(·exact cL))|refine aH ?_|((with_reducible refine aE ?_ ?_)<;>intro hc<;>try(exfalso;omega)))
     first|refine⟨?_, ?_, ?_, ?_⟩|refine⟨⟨?_, ?_, ?_, ?_⟩⟩
     ·exact Nat.le_trans (Nat.le_trans hnn hn2) cZ
     ·exact fun y hy h=>Eq.trans cC (hkp2 y hy h)
     ·intro h;rw[<-hok] at h;cases h
     ·exact fun _=>rfl
    |true=>
     rw[if_pos rfl] at hok
     repeat' (first|refine aQ ?_|exact eY|with_reducible refine aB ?_ ?_|((with_reducible refine Ask.mk ?_);first|exact dE|(exact hml)|(exact hsl)|exact cd|(intro h;simp_all[Decl.cells]<;>fail)|(simp_all[Decl.cells]<;>fail))|(apply aA;(·(first|exact ed _|exact cL)))|refine aH ?_|((with_reducible refine aE ?_ ?_)<;>intro hc<;>try(exfalso;omega)))
     refine⟨(i+1, .sl b (L++[dd.name]).length),by dsimp only;omega,by rw[List.length_append];exact cH,by dsimp only;omega,Nat.le_trans (Nat.le_trans hnn hn2) cZ,by dsimp only;rw[hnx];exact hok, ?_,fun y hy h=>I6 (hap y hy h),fun y hy h=> ?_⟩
     ·rw[hnx];exact .inr ⟨b,_,rfl,Nat.lt_of_lt_of_le hbn (Nat.le_trans hn2 cZ),by rw[<-MC];exact bx⟩
     ·have hyb:=xq (hap y hy h)
      exact Eq.trans cC (hkp2 y hy h)
 ·have:i=l.length:=by omega
  subst this
  rw[List.drop_eq_nil_of_le (Nat.le_refl _),tj] at hok
  have hall:ny l l.length=l.map Decl.name:=by simp[ny]
  rw[hall] at htold
  rcases htold with⟨rfl,hL0⟩|⟨b,d,rfl,hbn,hb⟩
  ·repeat' (first|refine aQ ?_|exact eY|with_reducible refine aB ?_ ?_|((with_reducible refine Ask.mk ?_);first|exact dE|(exact hml)|exact cd)|(apply aA;(·exact cL))|refine aH ?_|((with_reducible refine aE ?_ ?_)<;>intro hc<;>try(exfalso;omega)))
   first|refine⟨?_, ?_, ?_, ?_⟩|refine⟨⟨?_, ?_, ?_, ?_⟩⟩
   ·exact Nat.le_trans hnn cZ
   ·exact fun y hy h=>Eq.trans cC (hkp y hy h)
   ·exact fun _=>⟨_,rfl, .inl ⟨rfl,hL0⟩,hap⟩
   ·intro h;rw[<-hok] at h;cases h
  ·repeat' (first|refine aQ ?_|exact eY|with_reducible refine aB ?_ ?_|((with_reducible refine Ask.mk ?_);first|exact dE|(exact hml)|exact cd)|(apply aA;(·exact cL))|refine aH ?_|((with_reducible refine aE ?_ ?_)<;>intro hc<;>try(exfalso;omega)))
   first|refine⟨?_, ?_, ?_, ?_⟩|refine⟨⟨?_, ?_, ?_, ?_⟩⟩
   ·exact Nat.le_trans hnn cZ
   ·exact fun y hy h=>Eq.trans cC (hkp y hy h)
   ·exact fun _=>⟨_,rfl, .inr ⟨b,d,rfl,Nat.lt_of_lt_of_le hbn cZ,bx⟩,hap⟩
   ·intro h;rw[<-hok] at h;cases h
end Go.Proofs.YtjopoheligmmoaaGreatDoor
