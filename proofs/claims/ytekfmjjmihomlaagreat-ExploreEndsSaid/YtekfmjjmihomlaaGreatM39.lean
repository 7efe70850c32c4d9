import Derived.Test.YtekfmjjmihomlaaGreatM38
section
/- The document's new machine. -/
namespace Go.Proofs.YtekfmjjmihomlaaGreat
open Go Go.cZ Go.Proofs
set_option linter.unusedSimpArgs false
set_option linter.unusedVariables false
set_option maxRecDepth 8000
theorem BA (n:Nat) (u:bt) (m:MS):cE n (m.av u):=by simp[cE]
set_option maxHeartbeats 4000000 in
theorem EF (u:bt) (hu:u.Wf) (hr:dC u) (c0:Pure Tryz.prog 66 [u.av] (fun r=>r=mj (0,0,0))):Pure Tryz.prog 67 [u.av] (fun r=>r= .dV [(dA u).av u,i64 0]):=by
 have hgl:=hr.vO
 refine dY ?_ (by simp[cE,cT])
 refine aQ H8 rfl ?_
 refine cV ?_
 rw[List.length_map]
 have hsz:∀t,t<u.bo.length→0≤(u.gr t).br∧(u.gr t).br≤4160:=fun t ht=>by
  have h1:=(hr.gr ht).br
  have h2:=(hr.gr ht).locals
  omega
 have hnat:(dA u).at_.length=u.bo.length:=by simp[dA]
 have hnsl:(dA u).br.length=u.bo.length:=by simp[dA]
 have hnml:(dA u).mem.length=u.shared.length:=by simp[dA]
 have hnhl:(dA u).hold.length=u.bx.length:=by simp[dA]
 have hns:∀t,t<u.bo.length→(dA u).br.getD t []=List.replicate (u.gr t).br.toNat 0:=fun t ht=>by simp[dA,List.getD,bt.gr,ht]
 refine aU (fun σ:Nat×List Nat=>[(1, .pt 0 1 0 0),(2, .pt 1 1 0 0),(7, .pt 15 1 0 0),(25,cR u.bo),(26,i64 u.bo.length),(27,i64 σ.1)])
  (fun σ H n=>σ.1≤u.bo.length∧26≤n∧σ.2.length=σ.1∧σ.2.Nodup∧(∀x∈σ.2,26≤x∧x<n)∧(∃d,bn H 0=some (.row 25 3 d [u.av]))∧(∃d,bn H 1=some (.row 80 8 d [fZ true [.slice none 0 0, .slice none 0 0, .slice none 0 0, .slice none 0 0, .slice none 0 0, .slice none 0 0, .slice none 0 0, .slice none 0 0]]))∧(∃d,bn H 15=some (.row 80 8 d [.agg [bw u.shared,bw u.bx,cR u.bo, .sl 21 σ.1, .sl 22 σ.1, .sl 23 0, .sl 24 0, .sl 25 0]]))∧(∃d,bn H 21=some (.row 3 1 d (((dA u).at_.take σ.1).map i64)))∧(∃d,bn H 22=some (.row 38 1 d (dG σ.2 ((dA u).br.take σ.1))))∧(∃d,bn H 23=some (.row 2 1 d (((dA u).mem.take 0).map i64)))∧(∃d,bn H 24=some (.row 3 1 d (((dA u).hold.take 0).map i64)))∧(∃d,bn H 25=some (.row 89 2 d []))∧(∀t,t<σ.1→∃d,bn H (σ.2.getD t 0)=some (.row 2 1 d (((dA u).br.getD t []).map i64)))) (fun σ=>u.bo.length - σ.1) (0,[])
  ⟨_,_,_,Rt.trans (Rt.wk (Wk.fX (b:=15) (nx:=21) (e:=3) (sz:=1) c8 (by omega) (te:=80) (tz:=8) (cs:=[bw u.shared,bw u.bx,cR u.bo, .sc (.slice none 0 0), .sc (.slice none 0 0), .sc (.slice none 0 0), .sc (.slice none 0 0), .sc (.slice none 0 0)]) (j:=3) bq (by show 3<8;omega) rfl)) (Rt.trans (Rt.wk (Wk.fX (b:=15) (nx:=22) (e:=38) (sz:=1) c8 (by omega) (te:=80) (tz:=8) (cs:=[bw u.shared,bw u.bx,cR u.bo, .sl 21 0, .sc (.slice none 0 0), .sc (.slice none 0 0), .sc (.slice none 0 0), .sc (.slice none 0 0)]) (j:=4) bq (by show 4<8;omega) rfl)) (Rt.trans (Rt.wk (Wk.fX (b:=15) (nx:=23) (e:=2) (sz:=1) c8 (by omega) (te:=80) (tz:=8) (cs:=[bw u.shared,bw u.bx,cR u.bo, .sl 21 0, .sl 22 0, .sc (.slice none 0 0), .sc (.slice none 0 0), .sc (.slice none 0 0)]) (j:=5) bq (by show 5<8;omega) rfl)) (Rt.trans (Rt.wk (Wk.fX (b:=15) (nx:=24) (e:=3) (sz:=1) c8 (by omega) (te:=80) (tz:=8) (cs:=[bw u.shared,bw u.bx,cR u.bo, .sl 21 0, .sl 22 0, .sl 23 0, .sc (.slice none 0 0), .sc (.slice none 0 0)]) (j:=6) bq (by show 6<8;omega) rfl)) (Rt.wk (Wk.fX (b:=15) (nx:=25) (e:=89) (sz:=2) c8 (by omega) (te:=80) (tz:=8) (cs:=[bw u.shared,bw u.bx,cR u.bo, .sl 21 0, .sl 22 0, .sl 23 0, .sl 24 0, .sc (.slice none 0 0)]) (j:=7) bq (by show 7<8;omega) rfl))))),cI,Nat.zero_le _,c8,rfl,List.nodup_nil,fun x hx=>by simp at hx,⟨_,bq⟩,⟨_,bq⟩,⟨_,bq⟩,⟨_,bq⟩,⟨_,bq⟩,⟨_,bq⟩,⟨_,bq⟩,⟨_,bq⟩,fun t ht=>absurd ht (Nat.not_lt_zero _)⟩ ?_
 rintro⟨t,ids⟩ H n ⟨ht,hn,hil,hnd,hin,⟨d0,r0'⟩,⟨d1,r1'⟩,⟨d2,r2'⟩,⟨d3,r3'⟩,⟨d4,r4⟩,⟨d5,r5⟩,⟨d6,r6⟩,⟨d7,r7⟩,hls⟩
 dsimp only at ht hil hnd hin r2' r3' r4 hls ⊢
 have htk:((dA u).br.take t).length=t:=by rw[List.length_take];omega
 have htk2:(((dA u).at_.take t).map i64).length=t:=by rw[List.length_map,List.length_take];omega
 have hrl:(dG ids ((dA u).br.take t)).length=t:=by unfold dG;rw[List.length_map,List.length_zip,htk,hil];omega
 by_cases htl:t<u.bo.length
 ·have e0:=fun d=>lV (l:=u.bo) htl d
  rw[show u.bo.getD t default=u.gr t from rfl] at e0
  have a0:(u.bo.map cA.av).length=u.bo.length:=by simp
  obtain⟨s1,s2⟩:=hsz t htl
  have hnx1:((dA u).at_.take (t+1)).map i64=((dA u).at_.take t).map i64++[i64 0]:=by
   rw[List.take_succ_eq_append_getElem (by omega),List.map_append]
   simp[dA]
  have hnx3:((dA u).br.getD t []).map i64=List.replicate (u.gr t).br.toNat (i64 0):=by rw[hns t htl];simp
  have hnx2:dG (ids++[n+15]) ((dA u).br.take (t+1))=dG ids ((dA u).br.take t)++[.sl (n+15) (u.gr t).br.toNat]:=by
   have e:=hns t htl
   rw[List.take_succ_eq_append_getElem (by omega),mP (by rw[hil,htk]),show(dA u).br[t]'(by omega)=List.replicate (u.gr t).br.toNat 0 by rw[←e];simp[List.getD,show t<(dA u).br.length by omega]]
   simp
  refine cV ?_
  refine⟨(t+1,ids++[n+15]),by dsimp only;omega,_,_,_,Rt.refl _ _ _,cI,by dsimp only;omega,c8,by simp[hil], ?_, ?_,⟨_,bq⟩,⟨_,bq⟩,⟨_,bq⟩,⟨_,by dsimp only;rw[hnx1];exact bq⟩,⟨_,by dsimp only;rw[hnx2];exact bq⟩,⟨_,bq⟩,⟨_,bq⟩,⟨_,bq⟩, ?_⟩
  ·refine List.nodup_append.2 ⟨hnd,by simp,fun a ha b hb=> ?_⟩
   simp only[List.mem_cons,List.not_mem_nil,or_false] at hb
   have:=hin _ ha;omega
  ·intro x hx
   rcases List.mem_append.1 hx with hx|hx
   ·have:=hin _ hx;exact⟨this.1,Nat.lt_of_lt_of_le this.2 c8⟩
   ·simp only[List.mem_cons,List.not_mem_nil,or_false] at hx
    subst hx;exact⟨by omega,c8⟩
  ·intro q hq
   have hq:q<t+1:=hq
   by_cases e:q=t
   ·subst e
    have e2:(ids++[n+15]).getD q 0=n+15:=by rw[List.getD,List.getElem?_append_right (by omega),hil,Nat.sub_self];rfl
    dsimp only
    rw[e2,hnx3];exact⟨_,bq⟩
   ·obtain⟨d,hd⟩:=hls q (by omega)
    have e2:(ids++[n+15]).getD q 0=ids.getD q 0:=by simp[List.getD,List.getElem?_append,show q<ids.length by omega]
    have:=hin _ (dN (l:=ids) (q:=q) (by omega))
    dsimp only
    rw[e2];exact⟨d,Eq.trans cB hd⟩
 ·obtain rfl:t=u.bo.length:=by omega
  rw[List.take_of_length_le (by omega)] at r3' r4
  refine cV ?_
  rw[List.length_map]
  refine aP (fun j:Nat=>[(1, .pt 0 1 0 0),(2, .pt 1 1 0 0),(7, .pt 15 1 0 0),(46,bw u.shared),(47,i64 u.shared.length),(48,i64 j)])
   (fun j H n=>j≤u.shared.length∧26≤n∧(∀x∈ids,26≤x∧x<n)∧(∃d,bn H 0=some (.row 25 3 d [u.av]))∧(∃d,bn H 1=some (.row 80 8 d [fZ true [.slice none 0 0, .slice none 0 0, .slice none 0 0, .slice none 0 0, .slice none 0 0, .slice none 0 0, .slice none 0 0, .slice none 0 0]]))∧(∃d,bn H 15=some (.row 80 8 d [.agg [bw u.shared,bw u.bx,cR u.bo, .sl 21 u.bo.length, .sl 22 u.bo.length, .sl 23 j, .sl 24 0, .sl 25 0]]))∧(∃d,bn H 21=some (.row 3 1 d ((dA u).at_.map i64)))∧(∃d,bn H 22=some (.row 38 1 d (dG ids (dA u).br)))∧(∃d,bn H 23=some (.row 2 1 d (((dA u).mem.take j).map i64)))∧(∃d,bn H 24=some (.row 3 1 d ([])))∧(∃d,bn H 25=some (.row 89 2 d []))∧(∀t,t<u.bo.length→∃d,bn H (ids.getD t 0)=some (.row 2 1 d (((dA u).br.getD t []).map i64)))) (fun j=>u.shared.length - j) 0 cI
   ⟨Nat.zero_le _,c8,fun x hx=>⟨(hin x hx).1,Nat.lt_of_lt_of_le (hin x hx).2 c8⟩,⟨_,bq⟩,⟨_,bq⟩,⟨_,bq⟩,⟨_,bq⟩,⟨_,bq⟩,⟨_,bq⟩,⟨_,bq⟩,⟨_,bq⟩,fun q hq=>by
    obtain⟨d,hd⟩:=hls q hq
    have:=hin _ (dN (l:=ids) (q:=q) (by omega))
    exact⟨d,Eq.trans cB hd⟩⟩ ?_
  clear r0' r1' r2' r3' r4 r5 r6 r7 hls hin hn
  rintro j H n ⟨hj,hn,hin,⟨d0,r0'⟩,⟨d1,r1'⟩,⟨d2,r2'⟩,⟨d3,r3'⟩,⟨d4,r4⟩,⟨d5,r5⟩,⟨d6,r6⟩,⟨d7,r7⟩,hls⟩
  have hmk:(((dA u).mem.take j).map i64).length=j:=by simp;omega
  by_cases hjl:j<u.shared.length
  ·have e0:∀d,(u.shared.map Decl.av).getD ((j:Int)).toNat d=(u.shared.getD j default).av:=fun d=>by rw[Int.toNat_natCast];exact dB Decl.av u.shared j d hjl
   have a0:(u.shared.map Decl.av).length=u.shared.length:=by simp
   have hnx1:((dA u).mem.take (j+1)).map i64=((dA u).mem.take j).map i64++[i64 (u.shared.getD j default).word]:=by
    rw[List.take_succ_eq_append_getElem (by omega),List.map_append]
    simp[dA,List.getD,hjl]
   refine cV ?_
   exact⟨j+1,by omega,cI,by omega,c8,fun x hx=>⟨(hin x hx).1,Nat.lt_of_lt_of_le (hin x hx).2 c8⟩,⟨_,bq⟩,⟨_,bq⟩,⟨_,bq⟩,⟨_,bq⟩,⟨_,bq⟩,⟨_,by rw[hnx1];exact bq⟩,⟨_,bq⟩,⟨_,bq⟩,fun q hq=>by
    obtain⟨d,hd⟩:=hls q hq
    have:=hin _ (dN (l:=ids) (q:=q) (by omega))
    exact⟨d,Eq.trans cB hd⟩⟩
  ·obtain rfl:j=u.shared.length:=by omega
   rw[List.take_of_length_le (by omega)] at r5
   refine cV ?_
   rw[List.length_map]
   refine aP (fun j:Nat=>[(1, .pt 0 1 0 0),(2, .pt 1 1 0 0),(7, .pt 15 1 0 0),(62,i64 u.bx.length),(63,i64 j)])
    (fun j H n=>j≤u.bx.length∧26≤n∧(∀x∈ids,26≤x∧x<n)∧(∃d,bn H 0=some (.row 25 3 d [u.av]))∧(∃d,bn H 1=some (.row 80 8 d [fZ true [.slice none 0 0, .slice none 0 0, .slice none 0 0, .slice none 0 0, .slice none 0 0, .slice none 0 0, .slice none 0 0, .slice none 0 0]]))∧(∃d,bn H 15=some (.row 80 8 d [.agg [bw u.shared,bw u.bx,cR u.bo, .sl 21 u.bo.length, .sl 22 u.bo.length, .sl 23 u.shared.length, .sl 24 j, .sl 25 0]]))∧(∃d,bn H 21=some (.row 3 1 d ((dA u).at_.map i64)))∧(∃d,bn H 22=some (.row 38 1 d (dG ids (dA u).br)))∧(∃d,bn H 23=some (.row 2 1 d ((dA u).mem.map i64)))∧(∃d,bn H 24=some (.row 3 1 d (((dA u).hold.take j).map i64)))∧(∃d,bn H 25=some (.row 89 2 d []))∧(∀t,t<u.bo.length→∃d,bn H (ids.getD t 0)=some (.row 2 1 d (((dA u).br.getD t []).map i64)))) (fun j=>u.bx.length - j) 0 cI
    ⟨Nat.zero_le _,c8,fun x hx=>⟨(hin x hx).1,Nat.lt_of_lt_of_le (hin x hx).2 c8⟩,⟨_,bq⟩,⟨_,bq⟩,⟨_,bq⟩,⟨_,bq⟩,⟨_,bq⟩,⟨_,bq⟩,⟨_,bq⟩,⟨_,bq⟩,fun q hq=>by
     obtain⟨d,hd⟩:=hls q hq
     have:=hin _ (dN (l:=ids) (q:=q) (by omega))
     exact⟨d,Eq.trans cB hd⟩⟩ ?_
   clear r0' r1' r2' r3' r4 r5 r6 r7 hls hin hn hmk
   rintro j H n ⟨hj,hn,hin,⟨d0,r0'⟩,⟨d1,r1'⟩,⟨d2,r2'⟩,⟨d3,r3'⟩,⟨d4,r4⟩,⟨d5,r5⟩,⟨d6,r6⟩,⟨d7,r7⟩,hls⟩
   have hmk:(((dA u).hold.take j).map i64).length=j:=by simp;omega
   by_cases hjl:j<u.bx.length
   ·have hnx1:((dA u).hold.take (j+1)).map i64=((dA u).hold.take j).map i64++[i64 (-1)]:=by
     rw[List.take_succ_eq_append_getElem (by omega),List.map_append]
     simp[dA]
    refine cV ?_
    exact⟨j+1,by omega,cI,by omega,c8,fun x hx=>⟨(hin x hx).1,Nat.lt_of_lt_of_le (hin x hx).2 c8⟩,⟨_,bq⟩,⟨_,bq⟩,⟨_,bq⟩,⟨_,bq⟩,⟨_,bq⟩,⟨_,bq⟩,⟨_,by rw[hnx1];exact bq⟩,⟨_,bq⟩,fun q hq=>by
     obtain⟨d,hd⟩:=hls q hq
     have:=hin _ (dN (l:=ids) (q:=q) (by omega))
     exact⟨d,Eq.trans cB hd⟩⟩
   ·obtain rfl:j=u.bx.length:=by omega
    rw[List.take_of_length_le (by omega)] at r6
    refine cV ?_
    refine⟨?_⟩
    have hN:NC u (dA u) 15 21 22 23 24 25 ids H:=by
     refine⟨⟨d2, ?_⟩,⟨_,r3'⟩,⟨_,r4⟩,fun t ht=>hls t (by rw[←hnsl];exact ht),⟨_,r5⟩,⟨_,r6⟩,⟨_,r7⟩,by rw[hnsl];exact hil, ?_⟩
     ·rw[r2'];simp[MS.rows,dA]
     ·have hno:∀k,k<26→k∉ids:=fun k hk h=>by have:=hin _ h;omega
      simp only[List.nodup_cons,List.mem_cons,not_or]
      exact⟨⟨by omega,by omega,by omega,by omega,by omega,hno _ (by omega)⟩,⟨by omega,by omega,by omega,by omega,hno _ (by omega)⟩,⟨by omega,by omega,by omega,hno _ (by omega)⟩,⟨by omega,by omega,hno _ (by omega)⟩,⟨by omega,hno _ (by omega)⟩,hno _ (by omega),hnd⟩
    have hN1:ML.Nt ⟨15,21,22,23,24,25,ids⟩ u (dA u) H:=hN
    have hN2:ML.Nt ⟨15,21,22,23,24,25,ids⟩ u (dA u) ((1,some (.row 80 8 d1 [(dA u).rows u 21 22 23 24 25]))::H):=hN1.cS fun y hy=>by
     refine cG ?_
     rcases List.mem_cons.1 hy with rfl|hy
     ·show 15≠1;omega
     simp only[List.mem_cons] at hy
     rcases hy with rfl|rfl|rfl|rfl|rfl|hy
     all_goals first
      |(intro h;exact absurd h (by decide))
      |(have:=hin _ hy;omega)
    have hf:=hN2.K8 2
    have hrows:(dA u).rows u 21 22 23 24 25= .agg [bw u.shared,bw u.bx,cR u.bo, .sl 21 u.bo.length, .sl 22 u.bo.length, .sl 23 u.shared.length, .sl 24 u.bx.length, .sl 25 0]:=by simp[MS.rows,dA]
    rw[hrows] at hf
    show AV.dV [cZ.dX ((1,some (.row 80 8 d1 [.agg [bw u.shared,bw u.bx,cR u.bo, .sl 21 u.bo.length, .sl 22 u.bo.length, .sl 23 u.shared.length, .sl 24 u.bx.length, .sl 25 0]]))::H) 5 (.agg [bw u.shared,bw u.bx,cR u.bo, .sl 21 u.bo.length, .sl 22 u.bo.length, .sl 23 u.shared.length, .sl 24 u.bx.length, .sl 25 0]),i64 0]=_
    rw[hf]
end Go.Proofs.YtekfmjjmihomlaaGreat
end
section
/- How a machine stands, as an end; a slot told anew ahead of a drawn stretch. -/
namespace Go.Proofs.YtekfmjjmihomlaaGreat
open Go Go.cZ Go.Proofs
set_option linter.unusedSimpArgs false
set_option linter.unusedVariables false
set_option maxRecDepth 8000
theorem vt {P:Program} {ss:List pn} {fr fr2:Fr} {H H2:Hp} {nx nx2:Nat} {Q:QT} (h:Rt fr H nx fr2 H2 nx2) (k:fe P ss fr2 H2 nx2 Q):fe P ss fr H nx Q:=
 ⟨fun n lo code hc w0 M0 c0 a w hh=>k.1 n lo code hc w0 M0 c0 a w (h w0 M0 c0 lo n a w hh)⟩
theorem CY {P:Program} {ss:List pn} {fr fr2:Fr} {H H2:Hp} {nx nx2:Nat} {Q:QT} (h:Rt fr H nx fr2 H2 nx2) (C:Hp→Prop) (hC:C H2) (k:∀H3,C H3→fe P ss fr2 H3 nx2 Q):fe P ss fr H nx Q:=vt h (k H2 hC)
end Go.Proofs.YtekfmjjmihomlaaGreat
end
section
/- The document's Copy of a machine. -/
namespace Go.Proofs.YtekfmjjmihomlaaGreat
open Go Go.cZ Go.Proofs
set_option linter.unusedSimpArgs false
set_option linter.unusedVariables false
set_option maxRecDepth 8000
set_option maxHeartbeats 4000000 in
theorem ru (u:bt) (hr:dC u) (m:MS) (h:eU u m) (hne:m.at_≠[]) (hp:m.bu.length≤1048576) (H0:Hp) (nx:Nat):cP Tryz.prog 70 [m.av u] H0 nx (fun r H n=>∃(mr:Nat) (a s me ho pr:Nat) (ids:List Nat),r=m.rows u a s me ho pr∧NC u m mr a s me ho pr ids H∧(∀x∈mr::a::s::me::ho::pr::ids,nx≤x∧x<n)∧nx≤n∧∀y,y<nx→bn H y=bn H0 y):=by
 have hgl:=hr.vO
 have a0:(m.at_.map i64).length=m.at_.length:=by simp
 have a1:(m.br.map cm).length=m.br.length:=by simp
 have a2:(m.mem.map i64).length=m.mem.length:=by simp
 have a3:(m.hold.map i64).length=m.hold.length:=by simp
 have a4:(m.bu.map cg.av).length=m.bu.length:=by simp
 have hal:=h.nX
 have hsl:=h.sl
 have hml:=h.ml
 have hhl:=h.hl
 have hap:0<m.at_.length:=List.length_pos_iff.2 hne
 refine aQ IA rfl ?_
 refine cV ?_
 simp only[List.length_map]
 refine aU (fun σ:Nat×List Nat=>[(1, .pt nx 1 0 0),(2, .pt (nx+1) 1 0 0),(3, .pt (nx+5) 1 0 0),(17,qR m.br),(18,i64 m.br.length),(19,i64 σ.1)])
  (fun σ H n=>σ.1≤m.br.length∧nx+22≤n∧σ.2.length=σ.1∧σ.2.Nodup∧(∀x∈σ.2,nx+22≤x∧x<n)∧(∃d,bn H nx=some (.row 80 8 d [m.av u]))∧(∃d,bn H (nx+1)=some (.row 80 8 d [fZ true [.slice none 0 0, .slice none 0 0, .slice none 0 0, .slice none 0 0, .slice none 0 0, .slice none 0 0, .slice none 0 0, .slice none 0 0]]))∧(∃d,bn H (nx+5)=some (.row 80 8 d [.agg [bw u.shared,bw u.bx,cR u.bo, .sl (nx+11) m.at_.length, .sl (nx+18) σ.1, .sl (nx+19) 0, .sl (nx+20) 0, .sl (nx+21) 0]]))∧(∃d,bn H (nx+11)=some (.row 3 1 d (m.at_.map i64)))∧(∃d,bn H (nx+18)=some (.row 38 1 d (dG σ.2 (m.br.take σ.1))))∧(∃d,bn H (nx+19)=some (.row 2 1 d []))∧(∃d,bn H (nx+20)=some (.row 3 1 d []))∧(∃d,bn H (nx+21)=some (.row 89 2 d []))∧(∀t,t<σ.1→∃d,bn H (σ.2.getD t 0)=some (.row 2 1 d ((m.br.getD t []).map i64)))∧∀y,y<nx→bn H y=bn H0 y) (fun σ=>m.br.length - σ.1) (0,[])
  ⟨_,_,_,Rt.trans (Rt.wk (Wk.fX (b:=nx+5) (nx:=nx+18) (e:=38) (sz:=1) (by omega) (by omega) (te:=80) (tz:=8) (d:=fZ true [.slice none 0 0, .slice none 0 0, .slice none 0 0, .slice none 0 0, .slice none 0 0, .slice none 0 0, .slice none 0 0, .slice none 0 0]) (cs:=[bw u.shared,bw u.bx,cR u.bo, .sl (nx+11) m.at_.length, .sc (.slice none 0 0), .sc (.slice none 0 0), .sc (.slice none 0 0), .sc (.slice none 0 0)]) (j:=4) bq (by show 4<8;omega) rfl)) (Rt.trans (Rt.wk (Wk.fX (b:=nx+5) (nx:=nx+19) (e:=2) (sz:=1) (by omega) (by omega) (te:=80) (tz:=8) (d:=fZ true [.slice none 0 0, .slice none 0 0, .slice none 0 0, .slice none 0 0, .slice none 0 0, .slice none 0 0, .slice none 0 0, .slice none 0 0]) (cs:=[bw u.shared,bw u.bx,cR u.bo, .sl (nx+11) m.at_.length, .sl (nx+18) 0, .sc (.slice none 0 0), .sc (.slice none 0 0), .sc (.slice none 0 0)]) (j:=5) bq (by show 5<8;omega) rfl)) (Rt.trans (Rt.wk (Wk.fX (b:=nx+5) (nx:=nx+20) (e:=3) (sz:=1) (by omega) (by omega) (te:=80) (tz:=8) (d:=fZ true [.slice none 0 0, .slice none 0 0, .slice none 0 0, .slice none 0 0, .slice none 0 0, .slice none 0 0, .slice none 0 0, .slice none 0 0]) (cs:=[bw u.shared,bw u.bx,cR u.bo, .sl (nx+11) m.at_.length, .sl (nx+18) 0, .sl (nx+19) 0, .sc (.slice none 0 0), .sc (.slice none 0 0)]) (j:=6) bq (by show 6<8;omega) rfl)) (Rt.wk (Wk.fX (b:=nx+5) (nx:=nx+21) (e:=89) (sz:=2) (by omega) (by omega) (te:=80) (tz:=8) (d:=fZ true [.slice none 0 0, .slice none 0 0, .slice none 0 0, .slice none 0 0, .slice none 0 0, .slice none 0 0, .slice none 0 0, .slice none 0 0]) (cs:=[bw u.shared,bw u.bx,cR u.bo, .sl (nx+11) m.at_.length, .sl (nx+18) 0, .sl (nx+19) 0, .sl (nx+20) 0, .sc (.slice none 0 0)]) (j:=7) bq (by show 7<8;omega) rfl)))),cI,Nat.zero_le _,c8,rfl,List.nodup_nil,fun x hx=>(by cases hx),⟨_,bq⟩,⟨_,bq⟩,⟨_,bq⟩,⟨_,bq⟩,⟨_,bq⟩,⟨_,bq⟩,⟨_,bq⟩,⟨_,bq⟩,fun t ht=>absurd ht (Nat.not_lt_zero _),fun y hy=>cB⟩ ?_
 rintro⟨k,ids⟩ H n ⟨hk,hn,hil,hnd,hin,⟨d0,r0'⟩,⟨d1,r1'⟩,⟨d2,r2'⟩,⟨d3,r3'⟩,⟨d4,r4⟩,⟨d5,r5⟩,⟨d6,r6⟩,⟨d7,r7⟩,hls,hkp⟩
 dsimp only at hk hil hnd hin r2' r4 hls ⊢
 have htk:(m.br.take k).length=k:=by rw[List.length_take];omega
 have hrl:(dG ids (m.br.take k)).length=k:=by unfold dG;rw[List.length_map,List.length_zip,htk,hil];omega
 by_cases hkl:k<m.br.length
 ·have e0:∀d,(m.br.map cm).getD ((k:Int)).toNat d=cm (m.br.getD k []):=fun d=>by rw[Int.toNat_natCast];exact dB cm m.br k d hkl
  have a5:((m.br.getD k []).map i64).length=(m.br.getD k []).length:=by simp
  have hsll:(m.br.getD k []).length≤4160:=by
   have h1:=h.yR k (by omega)
   have h2:=(hr.gr (t:=k) (by omega)).br
   have h3:=(hr.gr (t:=k) (by omega)).locals
   omega
  refine KJ ?_
  refine vt (Rt.nil 6 2 1 (by omega) rfl) ?_
  refine cV ?_
  have hnx2:dG (ids++[n+5]) (m.br.take (k+1))=dG ids (m.br.take k)++[.sl (n+5) (0+((m.br.getD k []).map i64).length)]:=by
   rw[List.take_succ_eq_append_getElem hkl,mP (by rw[hil,htk]),show m.br[k]=m.br.getD k [] by simp[List.getD,hkl]]
   simp
  refine⟨(k+1,ids++[n+5]),by dsimp only;omega,_,_,_,Rt.refl _ _ _,cI,by dsimp only;omega,c8,by simp[hil], ?_, ?_,⟨_,bq⟩,⟨_,bq⟩,⟨_,bq⟩,⟨_,bq⟩,⟨_,by dsimp only;rw[hnx2];exact bq⟩,⟨_,bq⟩,⟨_,bq⟩,⟨_,bq⟩, ?_,fun y hy=>Eq.trans cB (hkp y hy)⟩
  ·refine List.nodup_append.2 ⟨hnd,by simp,fun a ha b hb=> ?_⟩
   simp only[List.mem_cons,List.not_mem_nil,or_false] at hb
   have:=hin _ ha;omega
  ·intro x hx
   rcases List.mem_append.1 hx with hx|hx
   ·have:=hin _ hx;exact⟨this.1,Nat.lt_of_lt_of_le this.2 c8⟩
   ·simp only[List.mem_cons,List.not_mem_nil,or_false] at hx
    subst hx;exact⟨by omega,c8⟩
  ·intro q hq
   have hq:q<k+1:=hq
   by_cases e:q=k
   ·subst e
    have e2:(ids++[n+5]).getD q 0=n+5:=by rw[List.getD,List.getElem?_append_right (by omega),hil,Nat.sub_self];rfl
    dsimp only
    rw[e2];exact⟨_,bq⟩
   ·obtain⟨d,hd⟩:=hls q (by omega)
    have e2:(ids++[n+5]).getD q 0=ids.getD q 0:=by simp[List.getD,List.getElem?_append,show q<ids.length by omega]
    have:=hin _ (dN (l:=ids) (q:=q) (by omega))
    dsimp only
    rw[e2];exact⟨d,Eq.trans cB hd⟩
 ·obtain rfl:k=m.br.length:=by omega
  rw[List.take_of_length_le (by omega)] at r4
  refine cV ?_
  have hrow:m.rows u (nx+11) (nx+18) (nx+19) (nx+20) (nx+21)= .agg [bw u.shared,bw u.bx,cR u.bo, .sl (nx+11) m.at_.length, .sl (nx+18) m.br.length, .sl (nx+19) (0+(m.mem.map i64).length), .sl (nx+20) (0+(m.hold.map i64).length), .sl (nx+21) (0+(m.bu.map cg.av).length)]:=by simp[MS.rows]
  have hno:∀j,j<nx+22→j∉ids:=fun j hj h=>by have:=hin _ h;omega
  refine⟨nx+5,nx+11,nx+18,nx+19,nx+20,nx+21,ids,by rw[hrow];rfl,⟨⟨d2,by rw[hrow];exact bq⟩,⟨_,bq⟩,⟨_,bq⟩,fun t ht=> ?_,⟨_,bq⟩,⟨_,bq⟩,⟨_,bq⟩,hil, ?_⟩,fun x hx=> ?_,c8,fun y hy=>Eq.trans cB (hkp y hy)⟩
  ·obtain⟨d,hd⟩:=hls t ht
   have:=hin _ (dN (l:=ids) (q:=t) (by omega))
   exact⟨d,Eq.trans cB hd⟩
  ·simp only[List.nodup_cons,List.mem_cons,not_or]
   exact⟨⟨by omega,by omega,by omega,by omega,by omega,hno _ (by omega)⟩,⟨by omega,by omega,by omega,by omega,hno _ (by omega)⟩,⟨by omega,by omega,by omega,hno _ (by omega)⟩,⟨by omega,by omega,hno _ (by omega)⟩,⟨by omega,hno _ (by omega)⟩,hno _ (by omega),hnd⟩
  ·simp only[List.mem_cons] at hx
   rcases hx with rfl|rfl|rfl|rfl|rfl|rfl|hx
   all_goals first
    |omega
    |(have:=hin _ hx;exact⟨by omega,Nat.lt_of_lt_of_le this.2 c8⟩)
end Go.Proofs.YtekfmjjmihomlaaGreat
end
section
/- The document's small functions of a machine. -/
namespace Go.Proofs.YtekfmjjmihomlaaGreat
open Go Go.cZ Go.Proofs
set_option linter.unusedSimpArgs false
set_option linter.unusedVariables false
set_option maxRecDepth 8000
theorem rv (u:bt) (m:MS) (hg:u.bo.length≤8) (h:eU u m) {t:Nat} (ht:t<u.bo.length):Pure Tryz.prog 101 [m.av u,i64 t] (fun r=>r=(m.node u t).av):=by
 have hl:=h.nX
 obtain⟨p0,p1⟩:=h.gy t ht
 have e0:=fun d=>lV (l:=u.bo) ht d
 have e1:=fun d=>eX (l:=m.at_) (k:=t) (by omega) d
 obtain⟨j,hj⟩:∃j:Nat,m.at_.getD t 0=j:=⟨(m.at_.getD t 0).toNat,by omega⟩
 rw[hj] at e1 p1
 have hnd:m.node u t=(u.gr t).nd j:=by unfold MS.node;rw[hj,Int.toNat_natCast]
 rw[hnd]
 rw[show u.bo.getD t default=u.gr t from rfl] at e0
 generalize u.gr t=g at *
 have e2:=fun d=>gG (l:=g.nodes) (i:=j) (by omega) d
 have a0:(u.bo.map cA.av).length=u.bo.length:=by simp
 have a1:(m.at_.map i64).length=u.bo.length:=by simp[hl]
 have a2:(g.nodes.map Node.av).length=g.nodes.length:=by simp
 refine aI wU rfl ?_
 refine cV ?_
 first|exact rfl|trivial
theorem pK (u:bt) (hr:dC u) (m:MS) (h:eU u m) (t:Int):Pure Tryz.prog 100 [m.av u,i64 t] (fun r=>r=i64 (m.mQ u t)):=by
 have hl:=h.nX
 have hg:=hr.vO
 by_cases ht:t<0∨(m.at_.length:Int)≤t
 ·rw[A0 ht]
  refine aI oI rfl ?_
  by_cases h1:t<0
  ·refine cV ?_
   first|exact rfl|trivial
  ·have h2:((m.at_.map i64).length:Int)≤t:=by rw[List.length_map];omega
   refine cV ?_
   first|exact rfl|trivial
 ·obtain⟨k,rfl⟩:∃k:Nat,t=k:=⟨t.toNat,by omega⟩
  have hk:k<u.bo.length:=by omega
  have hbar:m.mQ u k=if(m.node u k).kind=9 then 70 else if(m.node u k).kind=5∧0≤m.hold.getD (m.node u k).cH.toNat 0 then 71 else 0:=by
   unfold MS.mQ;rw[if_neg ht,Int.toNat_natCast]
  rw[hbar]
  have hno:=h.node hr hk
  have c0:=rv u m (by omega) h hk
  generalize m.node u k=n at *
  have a3:(m.hold.map i64).length=u.bx.length:=by simp[h.hl]
  have a4:(m.at_.map i64).length=u.bo.length:=by simp[hl]
  by_cases h9:n.kind=9
  ·have r0:=h9
   rw[if_pos h9]
   refine aI oI rfl ?_
   refine cV ?_
   first|exact rfl|trivial
  ·rw[if_neg h9]
   by_cases h5:n.kind=5
   ·have hth:=hno.cH.1 (by unfold e8;exact decide_eq_true (by omega))
    rw[if_pos (.inl h5)] at hth
    have hhl:=h.hl
    have e3:=fun d=>iO (l:=m.hold) (k:=n.cH) (by omega) d
    have r0:=h5
    by_cases hh:0≤m.hold.getD n.cH.toNat 0
    ·rw[if_pos ⟨h5,hh⟩]
     refine aI oI rfl ?_
     refine cV ?_
     first|exact rfl|trivial
    ·rw[if_neg fun e=>hh e.2]
     refine aI oI rfl ?_
     refine cV ?_
     first|exact rfl|trivial
   ·rw[if_neg fun e=>h5 e.1]
    have r1:=decide_eq_false h5
    refine aI oI rfl ?_
    refine cV ?_
    first|exact rfl|trivial
theorem fC (u:bt) (m:MS) {t:Nat} (v:iR) (ht:t<m.br.length) (hl:m.br.length≤8) (hv:jt m t v):Pure Tryz.prog 103 [m.av u,i64 t,v.av] (fun r=>r=i64 (m.val t v)):=by
 unfold MS.val
 have e0:∀d,(m.br.map cm).getD ((t:Int)).toNat d=cm (m.br.getD t []):=fun d=>by rw[Int.toNat_natCast];exact dB cm m.br t d ht
 have a0:(m.br.map cm).length=m.br.length:=by simp
 cases hs:v.fy with
 |true=>
  have r0:=hs
  obtain⟨v1,v2⟩:=hv hs
  have a1:((m.br.getD t []).map i64).length=(m.br.getD t []).length:=by simp
  have e1:=fun d=>iO (l:=m.br.getD t []) (k:=v.slot) (by omega) d
  rw[if_pos rfl]
  refine aI tg rfl ?_
  refine cV ?_
  first|exact rfl|trivial
 |false=>
  have r0:=hs
  rw[if_neg (by decide)]
  refine aI tg rfl ?_
  refine cV ?_
  first|exact rfl|trivial
theorem pg (t:Bool):Pure Tryz.prog 153 [bl t] (fun r=>r= .dV [i64 (tr t),i64 0]):=by
 cases t<;>
 ·refine aI xC rfl ?_
  refine cV ?_
  first|exact rfl|trivial
theorem EG (a b:Int):Pure Tryz.prog 152 [i64 a,i64 b] (fun r=>r=i64 (xk a b)):=by
 unfold xk
 by_cases h0:b=0
 ·rw[if_pos h0]
  refine aI rR rfl ?_
  refine cV ?_
  first|exact rfl|trivial
 ·rw[if_neg h0]
  by_cases h1:b=-1
  ·rw[if_pos h1]
   refine aI rR rfl ?_
   refine cV ?_
   first|exact rfl|trivial
  ·rw[if_neg h1]
   refine aI rR rfl ?_
   refine cV ?_
   first|exact rfl|trivial
theorem OG (b:Int):IntKind.u64.wrap (IntKind.i64.wrap ((BitVec.ofInt 64 b&&& BitVec.ofInt 64 63).toNat:Int))=u5 b:=by
 have e1:BitVec.ofInt 64 (IntKind.u64.wrap b)=BitVec.ofInt 64 b:=by
  rw[IntKind.wrap_u64]
  apply BitVec.eq_of_toNat_eq
  simp only[BitVec.toNat_ofInt]
  congr 1
  omega
 unfold u5
 rw[e1]
 have h:(BitVec.ofInt 64 b&&& BitVec.ofInt 64 63).toNat≤63:=by
  rw[BitVec.toNat_and]
  refine Nat.le_trans Nat.and_le_right ?_
  decide
 generalize (BitVec.ofInt 64 b&&& BitVec.ofInt 64 63).toNat=n at *
 rw[IntKind.wrap_i64,IntKind.wrap_u64,IntKind.wrap_u64]
 omega
theorem MC (op a b:Int) (h:dW op=true):Pure Tryz.prog 136 [u8 op,i64 a,i64 b] (fun r=>r= .dV [i64 (J3 op a b),i64 0]):=by
 have c0:=EG a b
 have k0:=pg
 have hc:=OG b
 have hn:0≤u5 b:=by unfold u5;rw[IntKind.wrap_u64];omega
 have a0:0≤IntKind.u64.wrap (IntKind.i64.wrap ((BitVec.ofInt IntKind.i64.bits b&&& BitVec.ofInt IntKind.i64.bits 63).toNat:Int)):=by
  show 0≤IntKind.u64.wrap (IntKind.i64.wrap ((BitVec.ofInt 64 b&&& BitVec.ofInt 64 63).toNat:Int))
  rw[hc];exact hn
 refine aI wm rfl ?_
 rcases uB h with rfl|rfl|rfl|rfl|rfl|rfl|rfl|rfl|rfl|rfl|rfl|rfl|rfl|rfl|rfl|rfl
 case inr.inr.inr.inr.inl=>
  by_cases h0:b=0
  ·refine cV ?_
   show _=AV.dV [i64 (vC a b),i64 0]
   unfold vC
   rw[if_pos h0]
  ·refine cV ?_
   show _=AV.dV [i64 (vC a b),i64 0]
   unfold vC
   rw[if_neg h0]
 case inr.inr.inr.inr.inr.inr.inr.inr.inl=>
  refine cV ?_
  show _=AV.dV [i64 (MN a b),i64 0]
  unfold MN
  rw[←hc]
  rfl
 case inr.inr.inr.inr.inr.inr.inr.inr.inr.inl=>
  refine cV ?_
  show _=AV.dV [i64 (EK a b),i64 0]
  unfold EK
  rw[←hc]
  rfl
 all_goals (refine cV ?_;exact rfl)
theorem JH (op a:Int) (h:op=17∨op=18):Pure Tryz.prog 137 [u8 op,i64 a] (fun r=>r= .dV [i64 (I7 op a),i64 0]):=by
 have k0:=pg
 refine aI wq rfl ?_
 rcases h with rfl|rfl
 all_goals (refine cV ?_;exact rfl)
theorem vG (u:bt) (m:MS) {t:Nat} (n:Node) (ht:t<m.br.length) (hl:m.br.length≤8) (hva:jt m t n.a) (hvb:dW n.op=true→jt m t n.b) (hop:0≤n.op∧n.op<19):Pure Tryz.prog 102 [m.av u,i64 t,n.av] (fun r=>r=i64 (m.l9 t n)):=by
 have hfr:∀(v:iR) (H1:Hp),[m.av u,i64 t,v.av].map (cZ.dX H1 6)=[m.av u,i64 t,v.av]:=fun v H1=>by
  rw[List.map_cons,List.map_cons,List.map_cons,List.map_nil,cx _ (BA 0 u m),cx _ (show cE 0 (i64 t) by simp[cE]),cx _ (show cE 0 v.av by simp[cE])]
 have c2:=ft n.op
 unfold MS.l9
 cases h2:dW n.op with
 |true=>
  rw[h2] at c2
  have c3:=MC n.op (m.val t n.a) (m.val t n.b) h2
  have hne:¬n.op=0:=by unfold dW at h2;simp only[Bool.and_eq_true,decide_eq_true_eq] at h2;omega
  rw[if_pos rfl]
  refine aI rQ rfl ?_
  refine cV ?_
  refine aS (fC u m n.a ht hl hva) (hfr n.a _) (by simp[cT,cE]) trivial ?_
  refine cV ?_
  refine aV [] (fC u m n.b ht hl (hvb h2)) (fun H1 h1=>hfr n.b H1) (by simp[cT,cE]) trivial ?_
  refine cV ?_
  first|exact rfl|trivial
 |false=>
  rw[h2] at c2
  rw[if_neg (by decide)]
  by_cases h0:n.op=0
  ·rw[if_neg (fun e=>e h0)]
   refine aI rQ rfl ?_
   refine cV ?_
   refine aS (fC u m n.a ht hl hva) (hfr n.a _) (by simp[cT,cE]) trivial ?_
   refine cV ?_
   first|exact rfl|trivial
  ·rw[if_pos h0]
   have c1:=JH n.op (m.val t n.a) (by unfold dW at h2;simp only[Bool.and_eq_false_iff,decide_eq_false_iff_not] at h2;omega)
   refine aI rQ rfl ?_
   refine cV ?_
   refine aS (fC u m n.a ht hl hva) (hfr n.a _) (by simp[cT,cE]) trivial ?_
   refine cV ?_
   first|exact rfl|trivial
theorem xo (u:bt) (hr:dC u) (m:MS) (h:eU u m):Pure Tryz.prog 75 [m.av u] (fun r=>r=bl (m.ended u)):=by
 have hl:=h.nX
 have hgl:=hr.vO
 refine aI ID rfl ?_
 refine cV ?_
 rw[List.length_map]
 refine aP (fun i:Nat=>[(1, .pt 0 1 0 0),(6,i64 m.at_.length),(7,i64 i)]) (fun i H n=>i≤m.at_.length∧1≤n∧(∃d,bn H 0=some (.row 80 8 d [m.av u]))∧∀j:Nat,j<i→m.mQ u j=70) (fun i=>m.at_.length - i) 0 cI ⟨Nat.zero_le _,c8,⟨_,bq⟩,fun j hj=>by omega⟩ ?_
 rintro i H n ⟨hi,hn,⟨d,r1⟩,hall⟩
 by_cases hil:i<m.at_.length
 ·have c0:=pK u hr m h i
  by_cases hb:m.mQ u i=70
  ·refine cV ?_
   exact⟨i+1,by omega,cI,by omega,c8,⟨_,bq⟩,fun j hj=>by
    by_cases e:j=i
    ·rw[e];exact hb
    ·exact hall j (by omega)⟩
  ·refine cV ?_
   refine db (Eq.symm ?_)
   unfold MS.ended
   rw[List.all_eq_false]
   exact⟨i,List.mem_range.2 hil,by simpa using hb⟩
 ·refine cV ?_
  refine db (Eq.symm ?_)
  unfold MS.ended
  rw[List.all_eq_true]
  intro j hj
  exact decide_eq_true (hall j (by have:=List.mem_range.1 hj;omega))
end Go.Proofs.YtekfmjjmihomlaaGreat
end
