import Derived.Test.YtjopoheligmmoaaGreatDoorM39
import Derived.Test.YtjopoheligmmoaaGreatDoorM37
import Derived.Test.YtjopoheligmmoaaGreatDoorM30
import Derived.Test.YtjopoheligmmoaaGreatDoorM32
import Derived.Test.YtjopoheligmmoaaGreatDoorM34
import Derived.Test.YtjopoheligmmoaaGreatDoorM36
namespace Go.Proofs.YtjopoheligmmoaaGreatDoor
open Go Go.cw Go.Proofs
set_option linter.unusedSimpArgs false
set_option linter.unusedVariables false
set_option maxRecDepth 8000
set_option maxHeartbeats 4000000 in
theorem vC (u:bx) (hr:cg u) (m:MS) (h:eN u m) (hne:m.at_≠[]) (hp:m.cA.length<=1048576) (H0:Hp) (nx:Nat):cU Tryz.prog 87 [m.av u] H0 nx (fun r H n=>∃(mr:Nat) (a s me ho pr:Nat) (ids:List Nat),r=m.rows u a s me ho pr/\R3 u m mr a s me ho pr ids H/\(∀x∈mr::a::s::me::ho::pr::ids,nx<=x/\x<n)/\nx<=n/\∀y,y<nx->bt H y=bt H0 y):=by
 have hgl:=hr.oh
 have a0:(m.at_.map i64).length=m.at_.length:=by simp
 have a1:(m.bz.map cT).length=m.bz.length:=by simp
 have a2:(m.mem.map i64).length=m.mem.length:=by simp
 have a3:(m.hold.map i64).length=m.hold.length:=by simp
 have a4:(m.cA.map cy.av).length=m.cA.length:=by simp
 have hal:=h.nG
 have hsl:=h.sl
 have hml:=h.ml
 have hhl:=h.hl
 have hap:0<m.at_.length:=List.length_pos_iff.2 hne
 refine aJ aAo rfl ?_
 refine cP ?_
 simp only[List.length_map]
 refine aR (fun σ:Nat×List Nat=>[(1, .pt nx 1 0 0),(2, .pt (nx+1) 1 0 0),(3, .pt (nx+5) 1 0 0),(17,tH m.bz),(18,i64 m.bz.length),(19,i64 σ.1)])
  (fun σ H n=>σ.1<=m.bz.length/\nx+22<=n/\σ.2.length=σ.1/\σ.2.Nodup/\(∀x∈σ.2,nx+22<=x/\x<n)/\(∃d,bt H nx=some (.row 96 8 d [m.av u]))/\(∃d,bt H (nx+1)=some (.row 96 8 d [gO true [.slice none 0 0, .slice none 0 0, .slice none 0 0, .slice none 0 0, .slice none 0 0, .slice none 0 0, .slice none 0 0, .slice none 0 0]]))/\(∃d,bt H (nx+5)=some (.row 96 8 d [.agg [cF u.shared,cF u.cB,cZ u.bw, .sl (nx+11) m.at_.length, .sl (nx+18) σ.1, .sl (nx+19) 0, .sl (nx+20) 0, .sl (nx+21) 0]]))/\(∃d,bt H (nx+11)=some (.row 3 1 d (m.at_.map i64)))/\(∃d,bt H (nx+18)=some (.row 93 1 d (dR σ.2 (m.bz.take σ.1))))/\(∃d,bt H (nx+19)=some (.row 2 1 d []))/\(∃d,bt H (nx+20)=some (.row 3 1 d []))/\(∃d,bt H (nx+21)=some (.row 155 2 d []))/\(∀t,t<σ.1->∃d,bt H (σ.2.getD t 0)=some (.row 2 1 d ((m.bz.getD t []).map i64)))/\∀y,y<nx->bt H y=bt H0 y) (fun σ=>m.bz.length - σ.1) (0,[])
  ⟨_,_,_,Rt.trans (Rt.wk (Wk.gV (b:=nx+5) (nx:=nx+18) (e:=93) (sz:=1) (by omega) (by omega) (te:=96) (tz:=8) (d:=gO true [.slice none 0 0, .slice none 0 0, .slice none 0 0, .slice none 0 0, .slice none 0 0, .slice none 0 0, .slice none 0 0, .slice none 0 0]) (cs:=[cF u.shared,cF u.cB,cZ u.bw, .sl (nx+11) m.at_.length, .sc (.slice none 0 0), .sc (.slice none 0 0), .sc (.slice none 0 0), .sc (.slice none 0 0)]) (j:=4) bu (by show 4<8;omega) rfl)) (Rt.trans (Rt.wk (Wk.gV (b:=nx+5) (nx:=nx+19) (e:=2) (sz:=1) (by omega) (by omega) (te:=96) (tz:=8) (d:=gO true [.slice none 0 0, .slice none 0 0, .slice none 0 0, .slice none 0 0, .slice none 0 0, .slice none 0 0, .slice none 0 0, .slice none 0 0]) (cs:=[cF u.shared,cF u.cB,cZ u.bw, .sl (nx+11) m.at_.length, .sl (nx+18) 0, .sc (.slice none 0 0), .sc (.slice none 0 0), .sc (.slice none 0 0)]) (j:=5) bu (by show 5<8;omega) rfl)) (Rt.trans (Rt.wk (Wk.gV (b:=nx+5) (nx:=nx+20) (e:=3) (sz:=1) (by omega) (by omega) (te:=96) (tz:=8) (d:=gO true [.slice none 0 0, .slice none 0 0, .slice none 0 0, .slice none 0 0, .slice none 0 0, .slice none 0 0, .slice none 0 0, .slice none 0 0]) (cs:=[cF u.shared,cF u.cB,cZ u.bw, .sl (nx+11) m.at_.length, .sl (nx+18) 0, .sl (nx+19) 0, .sc (.slice none 0 0), .sc (.slice none 0 0)]) (j:=6) bu (by show 6<8;omega) rfl)) (Rt.wk (Wk.gV (b:=nx+5) (nx:=nx+21) (e:=155) (sz:=2) (by omega) (by omega) (te:=96) (tz:=8) (d:=gO true [.slice none 0 0, .slice none 0 0, .slice none 0 0, .slice none 0 0, .slice none 0 0, .slice none 0 0, .slice none 0 0, .slice none 0 0]) (cs:=[cF u.shared,cF u.cB,cZ u.bw, .sl (nx+11) m.at_.length, .sl (nx+18) 0, .sl (nx+19) 0, .sl (nx+20) 0, .sc (.slice none 0 0)]) (j:=7) bu (by show 7<8;omega) rfl)))),cC,Nat.zero_le _,cX,rfl,List.nodup_nil,fun x hx=>(by cases hx),⟨_,bu⟩,⟨_,bu⟩,⟨_,bu⟩,⟨_,bu⟩,⟨_,bu⟩,⟨_,bu⟩,⟨_,bu⟩,⟨_,bu⟩,fun t ht=>absurd ht (Nat.not_lt_zero _),fun y hy=>cE⟩ ?_
 rintro⟨k,ids⟩ H n ⟨hk,hn,hil,hnd,hin,⟨d0,r0'⟩,⟨d1,r1'⟩,⟨d2,r2'⟩,⟨d3,r3'⟩,⟨d4,r4⟩,⟨d5,r5⟩,⟨d6,r6⟩,⟨d7,r7⟩,hls,hkp⟩
 dsimp only at hk hil hnd hin r2' r4 hls ⊢
 have htk:(m.bz.take k).length=k:=by rw[List.length_take];omega
 have hrl:(dR ids (m.bz.take k)).length=k:=by unfold dR;rw[List.length_map,List.length_zip,htk,hil];omega
 by_cases hkl:k<m.bz.length
 ·have e0:∀d,(m.bz.map cT).getD ((k:Int)).toNat d=cT (m.bz.getD k []):=fun d=>by rw[Int.toNat_natCast];exact cx cT m.bz k d hkl
  have a5:((m.bz.getD k []).map i64).length=(m.bz.getD k []).length:=by simp
  have hsll:(m.bz.getD k []).length<=4160:=by
   have h1:=h.B5 k (by omega)
   have h2:=(hr.gr (t:=k) (by omega)).bz
   have h3:=(hr.gr (t:=k) (by omega)).locals
   omega
  refine PJ ?_
  refine zP (Rt.nil 6 2 1 (by omega) rfl) ?_
  refine cP ?_
  have hnx2:dR (ids++[n+5]) (m.bz.take (k+1))=dR ids (m.bz.take k)++[.sl (n+5) (0+((m.bz.getD k []).map i64).length)]:=by
   rw[List.take_succ_eq_append_getElem hkl,oc (by rw[hil,htk]),show m.bz[k]=m.bz.getD k [] by simp[List.getD,hkl]]
   simp
  refine⟨(k+1,ids++[n+5]),by dsimp only;omega,_,_,_,Rt.refl _ _ _,cC,by dsimp only;omega,cX,by simp[hil], ?_, ?_,⟨_,bu⟩,⟨_,bu⟩,⟨_,bu⟩,⟨_,bu⟩,⟨_,by dsimp only;rw[hnx2];exact bu⟩,⟨_,bu⟩,⟨_,bu⟩,⟨_,bu⟩, ?_,fun y hy=>Eq.trans cE (hkp y hy)⟩
  ·refine List.nodup_append.2 ⟨hnd,by simp,fun a ha b hb=> ?_⟩
   simp only[List.mem_cons,List.not_mem_nil,or_false] at hb
   have:=hin _ ha;omega
  ·intro x hx
   rcases List.mem_append.1 hx with hx|hx
   ·have:=hin _ hx;exact⟨this.1,Nat.lt_of_lt_of_le this.2 cX⟩
   ·simp only[List.mem_cons,List.not_mem_nil,or_false] at hx
    subst hx;exact⟨by omega,cX⟩
  ·intro q hq
   have hq:q<k+1:=hq
   by_cases e:q=k
   ·subst e
    have e2:(ids++[n+5]).getD q 0=n+5:=by rw[List.getD,List.getElem?_append_right (by omega),hil,Nat.sub_self];rfl
    dsimp only
    rw[e2];exact⟨_,bu⟩
   ·obtain⟨d,hd⟩:=hls q (by omega)
    have e2:(ids++[n+5]).getD q 0=ids.getD q 0:=by simp[List.getD,List.getElem?_append,show q<ids.length by omega]
    have:=hin _ (eE (l:=ids) (q:=q) (by omega))
    dsimp only
    rw[e2];exact⟨d,Eq.trans cE hd⟩
 ·obtain rfl:k=m.bz.length:=by omega
  rw[List.take_of_length_le (by omega)] at r4
  refine cP ?_
  have hrow:m.rows u (nx+11) (nx+18) (nx+19) (nx+20) (nx+21)= .agg [cF u.shared,cF u.cB,cZ u.bw, .sl (nx+11) m.at_.length, .sl (nx+18) m.bz.length, .sl (nx+19) (0+(m.mem.map i64).length), .sl (nx+20) (0+(m.hold.map i64).length), .sl (nx+21) (0+(m.cA.map cy.av).length)]:=by simp[MS.rows]
  have hno:∀j,j<nx+22->j∉ids:=fun j hj h=>by have:=hin _ h;omega
  refine⟨nx+5,nx+11,nx+18,nx+19,nx+20,nx+21,ids,by rw[hrow];rfl,⟨⟨d2,by rw[hrow];exact bu⟩,⟨_,bu⟩,⟨_,bu⟩,fun t ht=> ?_,⟨_,bu⟩,⟨_,bu⟩,⟨_,bu⟩,hil, ?_⟩,fun x hx=> ?_,cX,fun y hy=>Eq.trans cE (hkp y hy)⟩
  ·obtain⟨d,hd⟩:=hls t ht
   have:=hin _ (eE (l:=ids) (q:=t) (by omega))
   exact⟨d,Eq.trans cE hd⟩
  ·simp only[List.nodup_cons,List.mem_cons,not_or]
   exact⟨⟨by omega,by omega,by omega,by omega,by omega,hno _ (by omega)⟩,⟨by omega,by omega,by omega,by omega,hno _ (by omega)⟩,⟨by omega,by omega,by omega,hno _ (by omega)⟩,⟨by omega,by omega,hno _ (by omega)⟩,⟨by omega,hno _ (by omega)⟩,hno _ (by omega),hnd⟩
  ·simp only[List.mem_cons] at hx
   rcases hx with rfl|rfl|rfl|rfl|rfl|rfl|hx
   all_goals first
    |omega
    |(have:=hin _ hx;exact⟨by omega,Nat.lt_of_lt_of_le this.2 cX⟩)
theorem vF (u:bx) (m:MS) (hg:u.bw.length<=8) (h:eN u m) {t:Nat} (ht:t<u.bw.length):Pure Tryz.prog 88 [m.av u,i64 t] (fun r=>r=(m.node u t).av):=by
 have hl:=h.nG
 obtain⟨p0,p1⟩:=h.iS t ht
 have e0:=fun d=>nV (l:=u.bw) ht d
 have e1:=fun d=>ints_at (l:=m.at_) (k:=t) (by omega) d
 obtain⟨j,hj⟩:∃j:Nat,m.at_.getD t 0=j:=⟨(m.at_.getD t 0).toNat,by omega⟩
 rw[hj] at e1 p1
 have hnd:m.node u t=(u.gr t).nd j:=by unfold MS.node;rw[hj,Int.toNat_natCast]
 rw[hnd]
 rw[show u.bw.getD t default=u.gr t from rfl] at e0
 generalize u.gr t=g at *
 have e2:=fun d=>gm (l:=g.nodes) (i:=j) (by omega) d
 have a0:(u.bw.map cG.av).length=u.bw.length:=by simp
 have a1:(m.at_.map i64).length=u.bw.length:=by simp[hl]
 have a2:(g.nodes.map Node.av).length=g.nodes.length:=by simp
 refine aD aAp rfl ?_
 refine cP ?_
 first|exact rfl|trivial
theorem rl (u:bx) (hr:cg u) (m:MS) (h:eN u m) (t:Int):Pure Tryz.prog 86 [m.av u,i64 t] (fun r=>r=i64 (m.jR u t)):=by
 have hl:=h.nG
 have hg:=hr.oh
 by_cases ht:t<0\/(m.at_.length:Int)<=t
 ·rw[xh ht]
  refine aD NK rfl ?_
  by_cases h1:t<0
  ·refine cP ?_
   first|exact rfl|trivial
  ·have h2:((m.at_.map i64).length:Int)<=t:=by rw[List.length_map];omega
   refine cP ?_
   first|exact rfl|trivial
 ·obtain⟨k,rfl⟩:∃k:Nat,t=k:=⟨t.toNat,by omega⟩
  have hk:k<u.bw.length:=by omega
  have hbar:m.jR u k=if(m.node u k).kind=9 then 70 else if(m.node u k).kind=5/\0<=m.hold.getD (m.node u k).cI.toNat 0 then 71 else 0:=by
   unfold MS.jR;rw[if_neg ht,Int.toNat_natCast]
  rw[hbar]
  have hno:=h.node hr hk
  have c0:=vF u m (by omega) h hk
  generalize m.node u k=n at *
  have a3:(m.hold.map i64).length=u.cB.length:=by simp[h.hl]
  have a4:(m.at_.map i64).length=u.bw.length:=by simp[hl]
  by_cases h9:n.kind=9
  ·have r0:=h9
   rw[if_pos h9]
   refine aD NK rfl ?_
   refine cP ?_
   first|exact rfl|trivial
  ·rw[if_neg h9]
   by_cases h5:n.kind=5
   ·have hth:=hno.cI.1 (by unfold ej;exact decide_eq_true (by omega))
    rw[if_pos (.inl h5)] at hth
    have hhl:=h.hl
    have e3:=fun d=>iq (l:=m.hold) (k:=n.cI) (by omega) d
    have r0:=h5
    by_cases hh:0<=m.hold.getD n.cI.toNat 0
    ·rw[if_pos ⟨h5,hh⟩]
     refine aD NK rfl ?_
     refine cP ?_
     first|exact rfl|trivial
    ·rw[if_neg fun e=>hh e.2]
     refine aD NK rfl ?_
     refine cP ?_
     first|exact rfl|trivial
   ·rw[if_neg fun e=>h5 e.1]
    have r1:=decide_eq_false h5
    refine aD NK rfl ?_
    refine cP ?_
    first|exact rfl|trivial
theorem fc (u:bx) (m:MS) {t:Nat} (v:jz) (ht:t<m.bz.length) (hl:m.bz.length<=8) (hv:lS m t v):Pure Tryz.prog 90 [m.av u,i64 t,v.av] (fun r=>r=i64 (m.val t v)):=by
 unfold MS.val
 have e0:∀d,(m.bz.map cT).getD ((t:Int)).toNat d=cT (m.bz.getD t []):=fun d=>by rw[Int.toNat_natCast];exact cx cT m.bz t d ht
 have a0:(m.bz.map cT).length=m.bz.length:=by simp
 cases hs:v.ir with
 |true=>
  have r0:=hs
  obtain⟨v1,v2⟩:=hv hs
  have a1:((m.bz.getD t []).map i64).length=(m.bz.getD t []).length:=by simp
  have e1:=fun d=>iq (l:=m.bz.getD t []) (k:=v.slot) (by omega) d
  rw[if_pos rfl]
  refine aD Y6 rfl ?_
  refine cP ?_
  first|exact rfl|trivial
 |false=>
  have r0:=hs
  rw[if_neg (by decide)]
  refine aD Y6 rfl ?_
  refine cP ?_
  first|exact rfl|trivial
theorem sa (t:Bool):Pure Tryz.prog 178 [bl t] (fun r=>r= .dI [i64 (tr t),i64 0]):=by
 cases t<;>
 ·refine aD X3 rfl ?_
  refine cP ?_
  first|exact rfl|trivial
theorem JX (a b:Int):Pure Tryz.prog 177 [i64 a,i64 b] (fun r=>r=i64 (A6 a b)):=by
 unfold A6
 by_cases h0:b=0
 ·rw[if_pos h0]
  refine aD NI rfl ?_
  refine cP ?_
  first|exact rfl|trivial
 ·rw[if_neg h0]
  by_cases h1:b=-1
  ·rw[if_pos h1]
   refine aD NI rfl ?_
   refine cP ?_
   first|exact rfl|trivial
  ·rw[if_neg h1]
   refine aD NI rfl ?_
   refine cP ?_
   first|exact rfl|trivial
theorem TF (b:Int):IntKind.u64.wrap (IntKind.i64.wrap ((BitVec.ofInt 64 b&&& BitVec.ofInt 64 63).toNat:Int))=xm b:=by
 have e1:BitVec.ofInt 64 (IntKind.u64.wrap b)=BitVec.ofInt 64 b:=by
  rw[IntKind.wrap_u64]
  apply BitVec.eq_of_toNat_eq
  simp only[BitVec.toNat_ofInt]
  congr 1
  omega
 unfold xm
 rw[e1]
 have h:(BitVec.ofInt 64 b&&& BitVec.ofInt 64 63).toNat<=63:=by
  rw[BitVec.toNat_and]
  refine Nat.le_trans Nat.and_le_right ?_
  decide
 generalize (BitVec.ofInt 64 b&&& BitVec.ofInt 64 63).toNat=n at *
 rw[IntKind.wrap_i64,IntKind.wrap_u64,IntKind.wrap_u64]
 omega
theorem Q7 (op a b:Int) (h:dv op=true):Pure Tryz.prog 143 [u8 op,i64 a,i64 b] (fun r=>r= .dI [i64 (OZ op a b),i64 0]):=by
 have c0:=JX a b
 have k0:=sa
 have hc:=TF b
 have hn:0<=xm b:=by unfold xm;rw[IntKind.wrap_u64];omega
 have a0:0<=IntKind.u64.wrap (IntKind.i64.wrap ((BitVec.ofInt IntKind.i64.bits b&&& BitVec.ofInt IntKind.i64.bits 63).toNat:Int)):=by
  show 0<=IntKind.u64.wrap (IntKind.i64.wrap ((BitVec.ofInt 64 b&&& BitVec.ofInt 64 63).toNat:Int))
  rw[hc];exact hn
 refine aD XD rfl ?_
 rcases xM h with rfl|rfl|rfl|rfl|rfl|rfl|rfl|rfl|rfl|rfl|rfl|rfl|rfl|rfl|rfl|rfl
 case inr.inr.inr.inr.inl=>
  by_cases h0:b=0
  ·refine cP ?_
   show _=AV.dI [i64 (yN a b),i64 0]
   unfold yN
   rw[if_pos h0]
  ·refine cP ?_
   show _=AV.dI [i64 (yN a b),i64 0]
   unfold yN
   rw[if_neg h0]
 case inr.inr.inr.inr.inr.inr.inr.inr.inl=>
  refine cP ?_
  show _=AV.dI [i64 (RG a b),i64 0]
  unfold RG
  rw[<-hc]
  rfl
 case inr.inr.inr.inr.inr.inr.inr.inr.inr.inl=>
  refine cP ?_
  show _=AV.dI [i64 (J2 a b),i64 0]
  unfold J2
  rw[<-hc]
  rfl
 all_goals (refine cP ?_;exact rfl)
theorem N8 (op a:Int) (h:op=17\/op=18):Pure Tryz.prog 144 [u8 op,i64 a] (fun r=>r= .dI [i64 (NZ op a),i64 0]):=by
 have k0:=sa
 refine aD XE rfl ?_
 rcases h with rfl|rfl
 all_goals (refine cP ?_;exact rfl)
theorem yS (u:bx) (m:MS) {t:Nat} (n:Node) (ht:t<m.bz.length) (hl:m.bz.length<=8) (hva:lS m t n.a) (hvb:dv n.op=true->lS m t n.b) (hop:0<=n.op/\n.op<19):Pure Tryz.prog 89 [m.av u,i64 t,n.av] (fun r=>r=i64 (m.nk t n)):=by
 have hfr:∀(v:jz) (H1:Hp),[m.av u,i64 t,v.av].map (cw.dY H1 6)=[m.av u,i64 t,v.av]:=fun v H1=>by
  rw[List.map_cons,List.map_cons,List.map_cons,List.map_nil,dA _ (F4 0 u m),dA _ (show cH 0 (i64 t) by simp[cH]),dA _ (show cH 0 v.av by simp[cH])]
 have c2:=gw n.op
 unfold MS.nk
 cases h2:dv n.op with
 |true=>
  rw[h2] at c2
  have c3:=Q7 n.op (m.val t n.a) (m.val t n.b) h2
  have hne:¬n.op=0:=by unfold dv at h2;simp only[Bool.and_eq_true,decide_eq_true_eq] at h2;omega
  rw[if_pos rfl]
  refine aD T6 rfl ?_
  refine cP ?_
  refine aP (fc u m n.a ht hl hva) (hfr n.a _) (by simp[c8,cH]) trivial ?_
  refine cP ?_
  refine aU [] (fc u m n.b ht hl (hvb h2)) (fun H1 h1=>hfr n.b H1) (by simp[c8,cH]) trivial ?_
  refine cP ?_
  first|exact rfl|trivial
 |false=>
  rw[h2] at c2
  rw[if_neg (by decide)]
  by_cases h0:n.op=0
  ·rw[if_neg (fun e=>e h0)]
   refine aD T6 rfl ?_
   refine cP ?_
   refine aP (fc u m n.a ht hl hva) (hfr n.a _) (by simp[c8,cH]) trivial ?_
   refine cP ?_
   first|exact rfl|trivial
  ·rw[if_pos h0]
   have c1:=N8 n.op (m.val t n.a) (by unfold dv at h2;simp only[Bool.and_eq_false_iff,decide_eq_false_iff_not] at h2;omega)
   refine aD T6 rfl ?_
   refine cP ?_
   refine aP (fc u m n.a ht hl hva) (hfr n.a _) (by simp[c8,cH]) trivial ?_
   refine cP ?_
   first|exact rfl|trivial
theorem A8 (u:bx) (hr:cg u) (m:MS) (h:eN u m):Pure Tryz.prog 157 [m.av u] (fun r=>r=bl (m.ended u)):=by
 have hl:=h.nG
 have hgl:=hr.oh
 refine aD XP rfl ?_
 refine cP ?_
 rw[List.length_map]
 refine aF (fun i:Nat=>[(1, .pt 0 1 0 0),(6,i64 m.at_.length),(7,i64 i)]) (fun i H n=>i<=m.at_.length/\1<=n/\(∃d,bt H 0=some (.row 96 8 d [m.av u]))/\∀j:Nat,j<i->m.jR u j=70) (fun i=>m.at_.length - i) 0 cC ⟨Nat.zero_le _,cX,⟨_,bu⟩,fun j hj=>by omega⟩ ?_
 rintro i H n ⟨hi,hn,⟨d,r1⟩,hall⟩
 by_cases hil:i<m.at_.length
 ·have c0:=rl u hr m h i
  by_cases hb:m.jR u i=70
  ·refine cP ?_
   exact⟨i+1,by omega,cC,by omega,cX,⟨_,bu⟩,fun j hj=>by
    by_cases e:j=i
    ·rw[e];exact hb
    ·exact hall j (by omega)⟩
  ·refine cP ?_
   refine eD (Eq.symm ?_)
   unfold MS.ended
   rw[List.all_eq_false]
   exact⟨i,List.mem_range.2 hil,by simpa using hb⟩
 ·refine cP ?_
  refine eD (Eq.symm ?_)
  unfold MS.ended
  rw[List.all_eq_true]
  intro j hj
  exact decide_eq_true (hall j (by have:=List.mem_range.1 hj;omega))
theorem JY (u:bx) (hr:cg u) (m:MS) (h:eN u m) (t:Int) (hb:m.jR u t≠0):Pure Tryz.prog 52 [m.av u,i64 t] (fun r=>r= .dI [m.av u,VQ.av,i64 (m.jR u t)]):=by
 have c0:=rl u hr m h t
 have r0:=decide_eq_true hb
 refine cp ?_ (by simp[cH,c8,fp.cells])
 refine aJ Y2 rfl ?_
 refine cP ?_
 exact⟨dA 6 (by simp[cH,c8])⟩
theorem pf {u:bx} {m:MS} {L:ML} {H H1:Hp} (hL:L.Nt u m H) (h1:∀y∈L.all,bt H1 y=bt H y) (l:List AV) (hl:c8 0 l):(m.rows u L.a L.s L.me L.ho L.pr::l).map (cw.dY H1 6)=m.av u::l:=by
 rw[List.map_cons,(hL.cc h1).QG 3]
 congr 1
 exact uh fun a ha=>dA _ (nQ hl a ha)
theorem NV {u:bx} {m:MS} {mr a s me ho pr:Nat} {ids:List Nat} {H H':Hp} (h:R3 u m mr a s me ho pr ids H) (b:Nat) (hb:b∉a::s::me::ho::pr::ids) (r:∃d,bt H' b=some (.row 96 8 d [m.rows u a s me ho pr])) (hk:∀y∈a::s::me::ho::pr::ids,bt H' y=bt H y):ML.Nt ⟨b,a,s,me,ho,pr,ids⟩ u m H':=by
 obtain⟨d2,h2⟩:=h.rA
 obtain⟨d3,h3⟩:=h.rS
 obtain⟨d4,h4⟩:=h.rE
 obtain⟨d5,h5⟩:=h.rH
 obtain⟨d6,h6⟩:=h.rP
 refine⟨r,⟨d2,(hk _ (by simp)).trans h2⟩,⟨d3,(hk _ (by simp)).trans h3⟩,fun t ht=> ?_,⟨d4,(hk _ (by simp)).trans h4⟩,⟨d5,(hk _ (by simp)).trans h5⟩,⟨d6,(hk _ (by simp)).trans h6⟩,h.len,List.nodup_cons.2 ⟨hb,(List.nodup_cons.1 h.nodup).2⟩⟩
 obtain⟨d,hd⟩:=h.rL t ht
 have:ids.getD t 0∈ids:=eE (by rw[h.len];exact ht)
 exact⟨d,(hk _ (by simp only[List.mem_cons];exact .inr (.inr (.inr (.inr (.inr this)))))).trans hd⟩
theorem ij {u:bx} {m:MS} {L:ML} {H:Hp} (hL:L.Nt u m H) (d:fp):cw.dY H 6 (.dI [m.rows u L.a L.s L.me L.ho L.pr,d.av,i64 0])= .dI [m.av u,d.av,i64 0]:=by
 show AV.dI (List.map (cw.dY H 5) [m.rows u L.a L.s L.me L.ho L.pr,d.av,i64 0])=_
 rw[List.map_cons,List.map_cons,List.map_cons,List.map_nil,hL.QG 2,dA _ (show cH 0 d.av by simp[cH,c8,fp.cells]),dA _ (show cH 0 (i64 0) by simp[cH])]
set_option maxHeartbeats 4000000 in
theorem ES (u:bx) (hu:u.Wf) (hr:cg u) (m:MS) (h:eN u m) (hp:m.cA.length<=1048576) (t:Nat) (ht:t<u.bw.length) (hb:m.jR u t=0):Pure Tryz.prog 52 [m.av u,i64 t] (fun r=>r= .dI [(m.step u t).1.av u,(m.step u t).2.av,i64 0]):=by
 have c0:=rl u hr m h t
 rw[hb] at c0
 have hgl:=hr.oh
 have hal:=h.nG
 have hsl:=h.sl
 obtain⟨hk9,_⟩:=jW h ht hb
 have hao:=h.R5 hu hr ht hk9
 refine cp ?_ (by simp[cH,c8,fp.cells])
 refine aJ Y2 rfl ?_
 refine cP ?_
 refine aG (vC u hr m h (fun e=>by rw[e] at hal;simp at hal;omega) hp _ _) ?_
 rintro _ H1 n1 ⟨mr,a,s,me,ho,pr,ids,rfl,hN,hin,hn1,hk1⟩
 have q0:∃d,bt H1 0=some (.row 96 8 d [m.av u]):=⟨_,(hk1 0 (by omega)).trans bu⟩
 have q1:∃d,bt H1 1=some (.row 96 8 d [gO true [.slice none 0 0, .slice none 0 0, .slice none 0 0, .slice none 0 0, .slice none 0 0, .slice none 0 0, .slice none 0 0, .slice none 0 0]]):=⟨_,(hk1 1 (by omega)).trans bu⟩
 have q2:∃d,bt H1 2=some (.row 53 6 d [gO true [.int .i64 0, .int .i64 0, .int .u8 0, .int .i64 0, .int .i64 0, .int .i64 0]]):=⟨_,(hk1 2 (by omega)).trans bu⟩
 clear hk1
 obtain⟨d0,q0⟩:=q0
 obtain⟨d1,q1⟩:=q1
 obtain⟨d2,q2⟩:=q2
 have hno:=vF u m (by omega) h ht
 refine Eq.mpr (by rw[MS.rows]) (?_:Go _)
 refine cP ?_
 refine aP hno (pf (L:=⟨0,a,s,me,ho,pr,ids⟩) (NV hN 0 ?_ ⟨_,(bu:bt _ 0=some (.row _ 8 _ [m.rows u a s me ho pr]))⟩ fun y hy=> ?_) (fun y hy=>rfl) [i64 t] (by simp[c8,cH])) (by simp[c8,cH]) (by simp[gT,mi,Node.cells]) ?_
 ·simp only[List.mem_cons,not_or]
  exact⟨by have:=hin a (by simp);omega,by have:=hin s (by simp);omega,by have:=hin me (by simp);omega,by have:=hin ho (by simp);omega,by have:=hin pr (by simp);omega,fun hy=>by have:=hin 0 (by simp[hy]);omega⟩
 ·have:=hin y (List.mem_cons_of_mem _ hy);exact cE
 refine PJ ?_
 have hz:(0:Nat)∉a::s::me::ho::pr::ids:=fun hy=>by have:=hin 0 (List.mem_cons_of_mem _ hy);omega
 refine HJ (Rt.refl _ _ _) (fun H=>ML.Nt ⟨0,a,s,me,ho,pr,ids⟩ u m H/\(∃d,bt H 0=some (.row 96 8 d [.agg [cF u.shared,cF u.cB,cZ u.bw, .sl a m.at_.length, .sl s m.bz.length, .sl me m.mem.length, .sl ho m.hold.length, .sl pr m.cA.length]]))/\(∃d,bt H 1=some (.row 96 8 d [gO true [.slice none 0 0, .slice none 0 0, .slice none 0 0, .slice none 0 0, .slice none 0 0, .slice none 0 0, .slice none 0 0, .slice none 0 0]]))/\(∃d,bt H 2=some (.row 53 6 d [gO true [.int .i64 0, .int .i64 0, .int .u8 0, .int .i64 0, .int .i64 0, .int .i64 0]]))/\∃d,bt H (n1+3)=some (.row 65 13 d [(m.node u t).av])) ⟨NV hN 0 hz ⟨_,(bu:bt _ 0=some (.row _ 8 _ [m.rows u a s me ho pr]))⟩ (fun y hy=>by have:=hin y (List.mem_cons_of_mem _ hy);exact cE),⟨_,bu⟩,⟨_,Eq.trans cE q1⟩,⟨_,Eq.trans cE q2⟩,⟨_,bu⟩⟩ ?_
 clear q0 q1 q2 hN hz
 rintro H ⟨hL,⟨d0,r0'⟩,⟨d1,q1⟩,⟨d2,q2⟩,⟨d3,r3'⟩⟩
 have pa:=hin a (by simp)
 have ps:=hin s (by simp)
 have pme:=hin me (by simp)
 have pho:=hin ho (by simp)
 have ppr:=hin pr (by simp)
 have hil:ids.getD t 0∈ids:=eE (by have:=hL.len;simp only at this;omega)
 have pit:=hin (ids.getD t 0) (List.mem_cons_of_mem _ (List.mem_cons_of_mem _ (List.mem_cons_of_mem _ (List.mem_cons_of_mem _ (List.mem_cons_of_mem _ (List.mem_cons_of_mem _ hil))))))
 obtain⟨-,-,x1,x2,x3,x4,x5⟩:=lF hL (t:=t) (by omega)
 have x1:ids.getD t 0≠a:=x1
 have x2:ids.getD t 0≠s:=x2
 have x3:ids.getD t 0≠me:=x3
 have x4:ids.getD t 0≠ho:=x4
 have x5:ids.getD t 0≠pr:=x5
 have hdd:(a≠s/\a≠me/\a≠ho/\a≠pr)/\(s≠me/\s≠ho/\s≠pr)/\(me≠ho/\me≠pr)/\ho≠pr:=by
  have:=hL.nodup
  simp only[List.nodup_cons,List.mem_cons,not_or] at this
  exact⟨⟨this.2.1.1,this.2.1.2.1,this.2.1.2.2.1,this.2.1.2.2.2.1⟩,⟨this.2.2.1.1,this.2.2.1.2.1,this.2.2.1.2.2.1⟩,⟨this.2.2.2.1.1,this.2.2.2.1.2.1⟩,this.2.2.2.2.1.1⟩
 obtain⟨⟨y1,y2,y3,y4⟩,⟨y5,y6,y7⟩,⟨y8,y9⟩,y10⟩:=hdd
 have hall:∀y∈ML.all ⟨0,a,s,me,ho,pr,ids⟩,y=0\/3<=y/\y<n1:=fun y hy=>by
  rcases List.mem_cons.1 hy with e|hy
  ·exact .inl e
  ·have:=hin y (List.mem_cons_of_mem _ hy);omega
 obtain⟨da,ra⟩:∃d,bt H a=some (.row 3 1 d (m.at_.map i64)):=hL.rA
 obtain⟨ds,rs⟩:∃d,bt H s=some (.row 93 1 d (dR ids m.bz)):=hL.rS
 obtain⟨dt,rt⟩:∃d,bt H (ids.getD t 0)=some (.row 2 1 d ((m.bz.getD t []).map i64)):=hL.rL t (by omega)
 obtain⟨de,re⟩:∃d,bt H me=some (.row 2 1 d (m.mem.map i64)):=hL.rE
 obtain⟨dh,rh⟩:∃d,bt H ho=some (.row 3 1 d (m.hold.map i64)):=hL.rH
 obtain⟨dp,rp⟩:∃d,bt H pr=some (.row 155 2 d (m.cA.map cy.av)):=hL.rP
 have e0:∀d,(m.at_.map i64).getD ((t:Int)).toNat d=i64 (m.at_.getD t 0):=fun d=>ints_at (by omega) d
 have a0:(m.at_.map i64).length=m.at_.length:=by simp
 have a1:(m.mem.map i64).length=m.mem.length:=by simp
 have a2:(m.hold.map i64).length=m.hold.length:=by simp
 have a3:((m.bz.getD t []).map i64).length=(m.bz.getD t []).length:=by simp
 have a4:(dR ids m.bz).length=m.bz.length:=ru hL.len
 have hst:m.step u t=({ (m.act t (m.node u t)).1 with at_:=m.at_.set t (m.act t (m.node u t)).2.1 },⟨t,m.at_.getD t 0,(m.node u t).kind,(m.act t (m.node u t)).2.2.1,(m.act t (m.node u t)).2.2.2.1,(m.act t (m.node u t)).2.2.2.2⟩):=rfl
 rw[hst]
 clear hst c0 hno hb
 have hno':=h.node hr ht
 generalize m.node u t=n at *
 obtain⟨k1,k8⟩:=hao.kind
 have hkk:n.kind=1\/n.kind=2\/n.kind=3\/n.kind=4\/n.kind=5\/n.kind=6\/n.kind=7\/n.kind=8:=by omega
 rcases hkk with hk|hk|hk|hk|hk|hk|hk|hk
 case inr.inr.inr.inr.inl=>
  have r0:=hk
  obtain⟨g1,g2⟩:=hao.hold (.inl hk)
  have hact:m.act t n=({ m with hold:=m.hold.set n.cI.toNat (t:Int) },n.next,n.cI,0,0):=by unfold MS.act;simp[hk]
  rw[hact]
  have fin:∀(H':Hp) (d:fp),ML.Nt ⟨0,a,s,me,ho,pr,ids⟩ u ({ m with hold:=m.hold.set n.cI.toNat (t:Int),at_:=m.at_.set t n.next }) H'->cw.dY H' 6 (.dI [.agg [cF u.shared,cF u.cB,cZ u.bw, .sl a m.at_.length, .sl s m.bz.length, .sl me m.mem.length, .sl ho m.hold.length, .sl pr m.cA.length],d.av,i64 0])= .dI [({ m with hold:=m.hold.set n.cI.toNat (t:Int),at_:=m.at_.set t n.next }:MS).av u,d.av,i64 0]:=fun H' d h=>by
   have:=ij h d
   rw[show({ m with hold:=m.hold.set n.cI.toNat (t:Int),at_:=m.at_.set t n.next }:MS).rows u a s me ho pr= .agg [cF u.shared,cF u.cB,cZ u.bw, .sl a m.at_.length, .sl s m.bz.length, .sl me m.mem.length, .sl ho m.hold.length, .sl pr m.cA.length] by simp[MS.rows,MS.eB]] at this
   exact this
  have hm1:ML.Nt ⟨0,a,s,me,ho,pr,ids⟩ u ({ m with hold:=m.hold.set n.cI.toNat (t:Int) }) ((ho,some (.row 3 1 dh ((m.hold.map i64).set n.cI.toNat (i64 (t:Int)))))::H):=hL.zm (t:=t) (by omega) n.cI (t:Int) ⟨_,ca _ _ _⟩ fun y hy hne=>cN hne
  refine cP ?_
  refine⟨fin _ ⟨_,_,_,_,_,_⟩ (ML.Nt.G8 (t:=t) hm1 (by simp only[MS.eB,List.length_set];omega) t _ ⟨_,bu⟩ fun y hy hne=> ?_)⟩
  have:=hall y hy
  by_cases e:y=ho
  ·subst e;exact Eq.trans bu (ca _ _ _).symm
  ·rw[cN e];exact cE
 case inr.inr.inr.inr.inr.inl=>
  have r0:=hk
  obtain⟨g1,g2⟩:=hao.hold (.inr hk)
  have hact:m.act t n=({ m with hold:=m.hold.set n.cI.toNat (-1) },n.next,n.cI,0,0):=by unfold MS.act;simp[hk]
  rw[hact]
  have fin:∀(H':Hp) (d:fp),ML.Nt ⟨0,a,s,me,ho,pr,ids⟩ u ({ m with hold:=m.hold.set n.cI.toNat (-1),at_:=m.at_.set t n.next }) H'->cw.dY H' 6 (.dI [.agg [cF u.shared,cF u.cB,cZ u.bw, .sl a m.at_.length, .sl s m.bz.length, .sl me m.mem.length, .sl ho m.hold.length, .sl pr m.cA.length],d.av,i64 0])= .dI [({ m with hold:=m.hold.set n.cI.toNat (-1),at_:=m.at_.set t n.next }:MS).av u,d.av,i64 0]:=fun H' d h=>by
   have:=ij h d
   rw[show({ m with hold:=m.hold.set n.cI.toNat (-1),at_:=m.at_.set t n.next }:MS).rows u a s me ho pr= .agg [cF u.shared,cF u.cB,cZ u.bw, .sl a m.at_.length, .sl s m.bz.length, .sl me m.mem.length, .sl ho m.hold.length, .sl pr m.cA.length] by simp[MS.rows,MS.eB]] at this
   exact this
  have hm1:ML.Nt ⟨0,a,s,me,ho,pr,ids⟩ u ({ m with hold:=m.hold.set n.cI.toNat (-1) }) ((ho,some (.row 3 1 dh ((m.hold.map i64).set n.cI.toNat (i64 (-1)))))::H):=hL.zm (t:=t) (by omega) n.cI (-1) ⟨_,ca _ _ _⟩ fun y hy hne=>cN hne
  refine cP ?_
  refine⟨fin _ ⟨_,_,_,_,_,_⟩ (ML.Nt.G8 (t:=t) hm1 (by simp only[MS.eB,List.length_set];omega) t _ ⟨_,bu⟩ fun y hy hne=> ?_)⟩
  have:=hall y hy
  by_cases e:y=ho
  ·subst e;exact Eq.trans bu (ca _ _ _).symm
  ·rw[cN e];exact cE
 case inl=>
  have r0:=hk
  have r1:n.cI=0:=hno'.cI.2 (by unfold ej;exact decide_eq_false (by omega))
  obtain⟨g3,g4⟩:=hao.slot (by omega)
  have e2:∀d,(dR ids m.bz).getD ((t:Int)).toNat d= .sl (ids.getD t 0) (m.bz.getD t []).length:=fun d=>by rw[Int.toNat_natCast];exact qi (L:=⟨0,a,s,me,ho,pr,ids⟩) hL.len (by omega) d
  have hact:m.act t n=(m.eB t n.slot (m.nk t n),n.next,0,(m.nk t n),0):=by unfold MS.act;simp[hk]
  rw[hact]
  have fin:∀(H':Hp) (d:fp),ML.Nt ⟨0,a,s,me,ho,pr,ids⟩ u ({ m.eB t n.slot (m.nk t n) with at_:=m.at_.set t n.next }) H'->cw.dY H' 6 (.dI [.agg [cF u.shared,cF u.cB,cZ u.bw, .sl a m.at_.length, .sl s m.bz.length, .sl me m.mem.length, .sl ho m.hold.length, .sl pr m.cA.length],d.av,i64 0])= .dI [({ m.eB t n.slot (m.nk t n) with at_:=m.at_.set t n.next }:MS).av u,d.av,i64 0]:=fun H' d h=>by
   have:=ij h d
   rw[show({ m.eB t n.slot (m.nk t n) with at_:=m.at_.set t n.next }:MS).rows u a s me ho pr= .agg [cF u.shared,cF u.cB,cZ u.bw, .sl a m.at_.length, .sl s m.bz.length, .sl me m.mem.length, .sl ho m.hold.length, .sl pr m.cA.length] by simp[MS.rows,MS.eB]] at this
   exact this
  have hm1:ML.Nt ⟨0,a,s,me,ho,pr,ids⟩ u (m.eB t n.slot (m.nk t n)) ((ids.getD t 0,some (.row 2 1 dt (((m.bz.getD t []).map i64).set n.slot.toNat (i64 (m.nk t n)))))::H):=hL.eB (t:=t) (by omega) n.slot (m.nk t n) ⟨dt,ca _ _ _⟩ fun y hy hne=>cN hne
  refine cP ?_
  refine aP (yS u m n (by omega) (by omega) (hao.a (by omega)) (hao.b hk) (hao.op hk)) (pf hL (fun y hy=> ?_) [i64 t,n.av] (by simp[c8,cH])) (by simp[c8,cH]) trivial ?_
  ·have:=hall y hy;exact cE
  refine cP ?_
  refine⟨fin _ ⟨_,_,_,_,_,_⟩ (ML.Nt.G8 (t:=t) hm1 (by simp only[MS.eB,List.length_set];omega) t _ ⟨_,bu⟩ fun y hy hne=> ?_)⟩
  have:=hall y hy
  by_cases e:y=ids.getD t 0
  ·rw[e];exact Eq.trans bu (ca _ _ _).symm
  ·rw[cN e];exact cE
 case inr.inl=>
  have r0:=hk
  obtain⟨g1,g2⟩:=hao.mem (by omega)
  obtain⟨g3,g4⟩:=hao.slot (by omega)
  have e1:∀d,(m.mem.map i64).getD n.cI.toNat d=i64 (m.mem.getD n.cI.toNat 0):=fun d=>iq (by omega) d
  have e2:∀d,(dR ids m.bz).getD ((t:Int)).toNat d= .sl (ids.getD t 0) (m.bz.getD t []).length:=fun d=>by rw[Int.toNat_natCast];exact qi (L:=⟨0,a,s,me,ho,pr,ids⟩) hL.len (by omega) d
  have hact:m.act t n=(m.eB t n.slot (m.mem.getD n.cI.toNat 0),n.next,n.cI,(m.mem.getD n.cI.toNat 0),0):=by unfold MS.act;simp[hk]
  rw[hact]
  have fin:∀(H':Hp) (d:fp),ML.Nt ⟨0,a,s,me,ho,pr,ids⟩ u ({ m.eB t n.slot (m.mem.getD n.cI.toNat 0) with at_:=m.at_.set t n.next }) H'->cw.dY H' 6 (.dI [.agg [cF u.shared,cF u.cB,cZ u.bw, .sl a m.at_.length, .sl s m.bz.length, .sl me m.mem.length, .sl ho m.hold.length, .sl pr m.cA.length],d.av,i64 0])= .dI [({ m.eB t n.slot (m.mem.getD n.cI.toNat 0) with at_:=m.at_.set t n.next }:MS).av u,d.av,i64 0]:=fun H' d h=>by
   have:=ij h d
   rw[show({ m.eB t n.slot (m.mem.getD n.cI.toNat 0) with at_:=m.at_.set t n.next }:MS).rows u a s me ho pr= .agg [cF u.shared,cF u.cB,cZ u.bw, .sl a m.at_.length, .sl s m.bz.length, .sl me m.mem.length, .sl ho m.hold.length, .sl pr m.cA.length] by simp[MS.rows,MS.eB]] at this
   exact this
  have hm1:ML.Nt ⟨0,a,s,me,ho,pr,ids⟩ u (m.eB t n.slot (m.mem.getD n.cI.toNat 0)) ((ids.getD t 0,some (.row 2 1 dt (((m.bz.getD t []).map i64).set n.slot.toNat (i64 (m.mem.getD n.cI.toNat 0)))))::H):=hL.eB (t:=t) (by omega) n.slot (m.mem.getD n.cI.toNat 0) ⟨dt,ca _ _ _⟩ fun y hy hne=>cN hne
  refine cP ?_
  refine⟨fin _ ⟨_,_,_,_,_,_⟩ (ML.Nt.G8 (t:=t) hm1 (by simp only[MS.eB,List.length_set];omega) t _ ⟨_,bu⟩ fun y hy hne=> ?_)⟩
  have:=hall y hy
  by_cases e:y=ids.getD t 0
  ·rw[e];exact Eq.trans bu (ca _ _ _).symm
  ·rw[cN e];exact cE
 case inr.inr.inl=>
  have r0:=hk
  obtain⟨g1,g2⟩:=hao.mem (by omega)
  have hact:m.act t n=({ m with mem:=m.mem.set n.cI.toNat (m.val t n.a) },n.next,n.cI,m.val t n.a,0):=by unfold MS.act;simp[hk]
  rw[hact]
  have fin:∀(H':Hp) (d:fp),ML.Nt ⟨0,a,s,me,ho,pr,ids⟩ u ({ m with mem:=m.mem.set n.cI.toNat (m.val t n.a),at_:=m.at_.set t n.next }) H'->cw.dY H' 6 (.dI [.agg [cF u.shared,cF u.cB,cZ u.bw, .sl a m.at_.length, .sl s m.bz.length, .sl me m.mem.length, .sl ho m.hold.length, .sl pr m.cA.length],d.av,i64 0])= .dI [({ m with mem:=m.mem.set n.cI.toNat (m.val t n.a),at_:=m.at_.set t n.next }:MS).av u,d.av,i64 0]:=fun H' d h=>by
   have:=ij h d
   rw[show({ m with mem:=m.mem.set n.cI.toNat (m.val t n.a),at_:=m.at_.set t n.next }:MS).rows u a s me ho pr= .agg [cF u.shared,cF u.cB,cZ u.bw, .sl a m.at_.length, .sl s m.bz.length, .sl me m.mem.length, .sl ho m.hold.length, .sl pr m.cA.length] by simp[MS.rows,MS.eB]] at this
   exact this
  have hm1:ML.Nt ⟨0,a,s,me,ho,pr,ids⟩ u ({ m with mem:=m.mem.set n.cI.toNat (m.val t n.a) }) ((me,some (.row 2 1 de ((m.mem.map i64).set n.cI.toNat (i64 (m.val t n.a)))))::H):=hL.gI (t:=t) (by omega) n.cI (m.val t n.a) ⟨_,ca _ _ _⟩ fun y hy hne=>cN hne
  refine cP ?_
  refine aP (fc u m n.a (by omega) (by omega) (hao.a (by omega))) (pf hL (fun y hy=> ?_) [i64 t,n.a.av] (by simp[c8,cH])) (by simp[c8,cH]) trivial ?_
  ·have:=hall y hy;exact cE
  refine cP ?_
  refine⟨fin _ ⟨_,_,_,_,_,_⟩ (ML.Nt.G8 (t:=t) hm1 (by simp only[MS.eB,List.length_set];omega) t _ ⟨_,bu⟩ fun y hy hne=> ?_)⟩
  have:=hall y hy
  by_cases e:y=me
  ·subst e;exact Eq.trans bu (ca _ _ _).symm
  ·rw[cN e];exact cE
 case inr.inr.inr.inl=>
  have r0:=hk
  obtain⟨g1,g2⟩:=hao.mem (by omega)
  obtain⟨g3,g4⟩:=hao.slot (by omega)
  have e1:∀d,(m.mem.map i64).getD n.cI.toNat d=i64 (m.mem.getD n.cI.toNat 0):=fun d=>iq (by omega) d
  have e2:∀d,(dR ids m.bz).getD ((t:Int)).toNat d= .sl (ids.getD t 0) (m.bz.getD t []).length:=fun d=>by rw[Int.toNat_natCast];exact qi (L:=⟨0,a,s,me,ho,pr,ids⟩) hL.len (by omega) d
  have hact:m.act t n=({ m.eB t n.slot (m.mem.getD n.cI.toNat 0) with mem:=m.mem.set n.cI.toNat (m.val t n.a) },n.next,n.cI,(m.mem.getD n.cI.toNat 0),m.val t n.a):=by unfold MS.act;simp[hk]
  rw[hact]
  have fin:∀(H':Hp) (d:fp),ML.Nt ⟨0,a,s,me,ho,pr,ids⟩ u ({ m.eB t n.slot (m.mem.getD n.cI.toNat 0) with mem:=m.mem.set n.cI.toNat (m.val t n.a),at_:=m.at_.set t n.next }) H'->cw.dY H' 6 (.dI [.agg [cF u.shared,cF u.cB,cZ u.bw, .sl a m.at_.length, .sl s m.bz.length, .sl me m.mem.length, .sl ho m.hold.length, .sl pr m.cA.length],d.av,i64 0])= .dI [({ m.eB t n.slot (m.mem.getD n.cI.toNat 0) with mem:=m.mem.set n.cI.toNat (m.val t n.a),at_:=m.at_.set t n.next }:MS).av u,d.av,i64 0]:=fun H' d h=>by
   have:=ij h d
   rw[show({ m.eB t n.slot (m.mem.getD n.cI.toNat 0) with mem:=m.mem.set n.cI.toNat (m.val t n.a),at_:=m.at_.set t n.next }:MS).rows u a s me ho pr= .agg [cF u.shared,cF u.cB,cZ u.bw, .sl a m.at_.length, .sl s m.bz.length, .sl me m.mem.length, .sl ho m.hold.length, .sl pr m.cA.length] by simp[MS.rows,MS.eB]] at this
   exact this
  have hm0:ML.Nt ⟨0,a,s,me,ho,pr,ids⟩ u (m.eB t n.slot (m.mem.getD n.cI.toNat 0)) ((ids.getD t 0,some (.row 2 1 dt (((m.bz.getD t []).map i64).set n.slot.toNat (i64 (m.mem.getD n.cI.toNat 0)))))::H):=hL.eB (t:=t) (by omega) n.slot (m.mem.getD n.cI.toNat 0) ⟨dt,ca _ _ _⟩ fun y hy hne=>cN hne
  have hm1:ML.Nt ⟨0,a,s,me,ho,pr,ids⟩ u ({ m.eB t n.slot (m.mem.getD n.cI.toNat 0) with mem:=m.mem.set n.cI.toNat (m.val t n.a) }) ((me,some (.row 2 1 de ((m.mem.map i64).set n.cI.toNat (i64 (m.val t n.a)))))::((ids.getD t 0,some (.row 2 1 dt (((m.bz.getD t []).map i64).set n.slot.toNat (i64 (m.mem.getD n.cI.toNat 0)))))::H)):=hm0.gI (t:=t) (by simp only[MS.eB,List.length_set];omega) n.cI (m.val t n.a) ⟨_,ca _ _ _⟩ fun y hy hne=>cN hne
  refine cP ?_
  refine aP (fc u m n.a (by omega) (by omega) (hao.a (by omega))) (pf hL (fun y hy=> ?_) [i64 t,n.a.av] (by simp[c8,cH])) (by simp[c8,cH]) trivial ?_
  ·have:=hall y hy;exact cE
  refine cP ?_
  refine⟨fin _ ⟨_,_,_,_,_,_⟩ (ML.Nt.G8 (t:=t) hm1 (by simp only[MS.eB,List.length_set];omega) t _ ⟨_,bu⟩ fun y hy hne=> ?_)⟩
  have:=hall y hy
  by_cases e:y=me
  ·subst e;exact Eq.trans bu (ca _ _ _).symm
  ·rw[cN e]
   by_cases e:y=ids.getD t 0
   ·rw[e];exact Eq.trans bu (ca _ _ _).symm
   ·rw[cN e];exact cE
 case inr.inr.inr.inr.inr.inr.inl=>
  have r0:=hk
  have r1:n.cI=0:=hno'.cI.2 (by unfold ej;exact decide_eq_false (by omega))
  have hact:m.act t n=({ m with cA:=m.cA++[⟨(t:Int),m.val t n.a⟩] },n.next,0,m.val t n.a,0):=by unfold MS.act;simp[hk]
  rw[hact]
  have fin:∀(H':Hp) (d:fp),ML.Nt ⟨0,a,s,me,ho,pr,ids⟩ u ({ m with cA:=m.cA++[⟨(t:Int),m.val t n.a⟩],at_:=m.at_.set t n.next }) H'->cw.dY H' 6 (.dI [.agg [cF u.shared,cF u.cB,cZ u.bw, .sl a m.at_.length, .sl s m.bz.length, .sl me m.mem.length, .sl ho m.hold.length, .sl pr (m.cA.length+1)],d.av,i64 0])= .dI [({ m with cA:=m.cA++[⟨(t:Int),m.val t n.a⟩],at_:=m.at_.set t n.next }:MS).av u,d.av,i64 0]:=fun H' d h=>by
   have:=ij h d
   rw[show({ m with cA:=m.cA++[⟨(t:Int),m.val t n.a⟩],at_:=m.at_.set t n.next }:MS).rows u a s me ho pr= .agg [cF u.shared,cF u.cB,cZ u.bw, .sl a m.at_.length, .sl s m.bz.length, .sl me m.mem.length, .sl ho m.hold.length, .sl pr (m.cA.length+1)] by simp[MS.rows,MS.eB]] at this
   exact this
  have hm1:ML.Nt ⟨0,a,s,me,ho,pr,ids⟩ u ({ m with cA:=m.cA++[⟨(t:Int),m.val t n.a⟩] }) ((0,some (.row 96 8 d0 [.agg [cF u.shared,cF u.cB,cZ u.bw, .sl a m.at_.length, .sl s m.bz.length, .sl me m.mem.length, .sl ho m.hold.length, .sl pr (m.cA.length+1)]]))::(pr,some (.row 155 2 dp (m.cA.map cy.av++[(⟨(t:Int),m.val t n.a⟩:cy).av])))::H):=hL.D6 (t:=t) (by omega) ⟨(t:Int),m.val t n.a⟩ ⟨d0,by rw[show({ m with cA:=m.cA++[⟨(t:Int),m.val t n.a⟩] }:MS).rows u (ML.a ⟨0,a,s,me,ho,pr,ids⟩) (ML.s ⟨0,a,s,me,ho,pr,ids⟩) (ML.me ⟨0,a,s,me,ho,pr,ids⟩) (ML.ho ⟨0,a,s,me,ho,pr,ids⟩) (ML.pr ⟨0,a,s,me,ho,pr,ids⟩)= .agg [cF u.shared,cF u.cB,cZ u.bw, .sl a m.at_.length, .sl s m.bz.length, .sl me m.mem.length, .sl ho m.hold.length, .sl pr (m.cA.length+1)] by simp[MS.rows]];exact ca _ _ _⟩ ⟨dp,(cN (by show pr≠0;omega)).trans (ca _ _ _)⟩ fun y hy h1 h2=>(cN h2).trans (cN h1)
  have a5:(m.cA.map cy.av).length=m.cA.length:=by simp
  refine cP ?_
  refine aP (fc u m n.a (by omega) (by omega) (hao.a (by omega))) (pf hL (fun y hy=> ?_) [i64 t,n.a.av] (by simp[c8,cH])) (by simp[c8,cH]) trivial ?_
  ·have:=hall y hy;exact cE
  refine cP ?_
  refine⟨fin _ ⟨_,_,_,_,_,_⟩ (ML.Nt.G8 (t:=t) hm1 (by simp only[MS.eB,List.length_set];omega) t _ ⟨_,bu⟩ fun y hy hne=> ?_)⟩
  have:=hall y hy
  by_cases e:y=0
  ·subst e;exact Eq.trans bu (ca _ _ _).symm
  ·rw[cN e]
   by_cases e:y=pr
   ·subst e;exact Eq.trans bu (ca _ _ _).symm
   ·rw[cN e];exact cE
 case inr.inr.inr.inr.inr.inr.inr=>
  have r0:=hk
  have r1:n.cI=0:=hno'.cI.2 (by unfold ej;exact decide_eq_false (by omega))
  have hv:=hao.a (by omega)
  by_cases hz0:m.val t n.a=0
  ·have hact:m.act t n=(m,n.rN,0,m.val t n.a,0):=by unfold MS.act;simp[hk,hz0]
   rw[hact]
   have fin:∀(H':Hp) (d:fp),ML.Nt ⟨0,a,s,me,ho,pr,ids⟩ u ({ m with at_:=m.at_.set t n.rN }) H'->cw.dY H' 6 (.dI [.agg [cF u.shared,cF u.cB,cZ u.bw, .sl a m.at_.length, .sl s m.bz.length, .sl me m.mem.length, .sl ho m.hold.length, .sl pr m.cA.length],d.av,i64 0])= .dI [({ m with at_:=m.at_.set t n.rN }:MS).av u,d.av,i64 0]:=fun H' d h=>by
    have:=ij h d
    rw[show({ m with at_:=m.at_.set t n.rN }:MS).rows u a s me ho pr= .agg [cF u.shared,cF u.cB,cZ u.bw, .sl a m.at_.length, .sl s m.bz.length, .sl me m.mem.length, .sl ho m.hold.length, .sl pr m.cA.length] by simp[MS.rows,MS.eB]] at this
    exact this
   refine cP ?_
   refine aP (fc u m n.a (by omega) (by omega) hv) (pf hL (fun y hy=> ?_) [i64 t,n.a.av] (by simp[c8,cH])) (by simp[c8,cH]) trivial ?_
   ·have:=hall y hy;exact cE
   rw[hz0]
   refine cP ?_
   refine⟨fin _ ⟨_,_,_,_,_,_⟩ (ML.Nt.G8 (t:=t) hL (by omega) t _ ⟨_,bu⟩ fun y hy hne=> ?_)⟩
   have:=hall y hy
   exact cE
  ·have hact:m.act t n=(m,n.next,0,m.val t n.a,0):=by unfold MS.act;simp[hk,hz0]
   rw[hact]
   have fin:∀(H':Hp) (d:fp),ML.Nt ⟨0,a,s,me,ho,pr,ids⟩ u ({ m with at_:=m.at_.set t n.next }) H'->cw.dY H' 6 (.dI [.agg [cF u.shared,cF u.cB,cZ u.bw, .sl a m.at_.length, .sl s m.bz.length, .sl me m.mem.length, .sl ho m.hold.length, .sl pr m.cA.length],d.av,i64 0])= .dI [({ m with at_:=m.at_.set t n.next }:MS).av u,d.av,i64 0]:=fun H' d h=>by
    have:=ij h d
    rw[show({ m with at_:=m.at_.set t n.next }:MS).rows u a s me ho pr= .agg [cF u.shared,cF u.cB,cZ u.bw, .sl a m.at_.length, .sl s m.bz.length, .sl me m.mem.length, .sl ho m.hold.length, .sl pr m.cA.length] by simp[MS.rows,MS.eB]] at this
    exact this
   refine cP ?_
   refine aP (fc u m n.a (by omega) (by omega) hv) (pf hL (fun y hy=> ?_) [i64 t,n.a.av] (by simp[c8,cH])) (by simp[c8,cH]) trivial ?_
   ·have:=hall y hy;exact cE
   refine cP ?_
   refine⟨fin _ ⟨_,_,_,_,_,_⟩ (ML.Nt.G8 (t:=t) hL (by omega) t _ ⟨_,bu⟩ fun y hy hne=> ?_)⟩
   have:=hall y hy
   exact cE
theorem EC (u:bx) (hr:cg u) (m:MS) (h:eN u m) (hne:m.at_≠[]) (hp:m.cA.length<=1048576):Pure Tryz.prog 87 [m.av u] (fun r=>r=m.av u):=
 cp ((vC u hr m h hne hp [] 0).mono fun r H n ⟨mr,a,s,me,ho,pr,ids,hr,hN,_⟩=>by rw[hr];exact hN.QG 3) (F4 0 u m)
theorem QH {H:Hp} {a b:Nat} {ps:List cy} {ws:List Int} {x:Bool} (h1:∃d,bt H a=some (.row 155 2 d (ps.map cy.av))) (h2:∃d,bt H b=some (.row 2 1 d (ws.map i64))):cw.dY H 6 (.agg [.sl a (0+(ps.map cy.av).length), .sl b (0+(ws.map i64).length),bl x])= .agg [fY ps,cT ws,bl x]:=by
 obtain⟨d1,h1⟩:=h1
 obtain⟨d2,h2⟩:=h2
 rw[oL,List.map_cons,List.map_cons,List.map_cons,List.map_nil,dH h1 (by simp),dH h2 (by simp),cn _ ((cD _ _).2 fun _ _=>by simp[cH]),cn _ ((cD _ _).2 fun _ _=>by simp[cH]),dA _ (show cH 0 (bl x) by simp[cH])]
theorem xH (u:bx) (hr:cg u) (m:MS) (h:eN u m) (hp:m.cA.length<=1048576):Pure Tryz.prog 102 [m.av u] (fun r=>r=(m.end_ u).av):=by
 have hgl:=hr.oh
 have hml:=h.ml
 have a0:(m.cA.map cy.av).length=m.cA.length:=by simp
 have a1:(m.mem.map i64).length=m.mem.length:=by simp
 have c0:=A8 u hr m h
 refine cp ?_ (by simp[cH,c8,cD,cY.cells])
 refine aJ WN rfl ?_
 refine cP ?_
 exact⟨QH (x:=m.ended u) ⟨_,bu⟩ ⟨_,bu⟩⟩
abbrev iT (x y:List UInt8):Bool:=Op.bytesLess x y
theorem wM:∀x:List UInt8,iT x x=false
 |[]=>rfl
 |a::x=>by
  have:=wM x
  simp only[iT,Op.bytesLess] at this ⊢
  simp[this]
theorem tn:∀{x y z:List UInt8},iT x y=true->iT y z=true->iT x z=true
 |_,[],_,h,_=>by simp[iT,Op.bytesLess] at h
 |_,_::_,[],_,h=>by simp[iT,Op.bytesLess] at h
 |[],_::_,_::_,_,_=>by simp[iT,Op.bytesLess]
 |a::x,b::y,c::z,h1,h2=>by
  have ih:=fun h1 h2=>tn (x:=x) (y:=y) (z:=z) h1 h2
  simp only[iT,Op.bytesLess,Bool.or_eq_true,Bool.and_eq_true,decide_eq_true_eq,beq_iff_eq] at h1 h2 ih ⊢
  rcases h1 with h1|⟨rfl,h1⟩<;>rcases h2 with h2|⟨rfl,h2⟩
  ·exact .inl (UInt8.lt_trans h1 h2)
  ·exact .inl h1
  ·exact .inl h2
  ·exact .inr ⟨rfl,ih h1 h2⟩
theorem wN:∀{x y:List UInt8},x≠y->iT x y=true\/iT y x=true
 |[],[],h=>absurd rfl h
 |[],_::_,_=>by simp[iT,Op.bytesLess]
 |_::_,[],_=>by simp[iT,Op.bytesLess]
 |a::x,b::y,h=>by
  simp only[iT,Op.bytesLess,Bool.or_eq_true,Bool.and_eq_true,decide_eq_true_eq,beq_iff_eq]
  by_cases e:a=b
  ·subst e
   have:=wN (x:=x) (y:=y) (fun e=>h (by rw[e]))
   rcases this with h1|h1
   ·exact .inl (.inr ⟨rfl,h1⟩)
   ·exact .inr (.inr ⟨rfl,h1⟩)
  ·rcases UInt8.lt_or_lt_of_ne e with h1|h1
   ·exact .inl (.inl h1)
   ·exact .inr (.inl h1)
def yj (l:List (List UInt8)):Prop:=l.Pairwise fun x y=>iT x y=true
def spot (l:List (List UInt8)) (k:List UInt8):Nat:=l.countP fun x=>iT x k
theorem tI (l:List (List UInt8)) (k:List UInt8):spot l k<=l.length:=List.countP_le_length
theorem lu {k:List UInt8}:∀{l:List (List UInt8)},yj l->∀j,j<l.length->(iT (l.getD j []) k=true↔j<spot l k)
 |[],_,j,h=>by simp at h
 |x::l,hr,j,h=>by
  obtain⟨h1,h2⟩:=List.pairwise_cons.1 hr
  unfold spot
  rw[List.countP_cons]
  by_cases hx:iT x k=true
  ·rw[if_pos hx]
   cases j with
   |zero=>simp[List.getD,hx]
   |succ j=>
    have:=lu (k:=k) h2 j (by simpa using h)
    unfold spot at this
    rw[show(x::l).getD (j+1) []=l.getD j [] by simp[List.getD]]
    rw[this];omega
  ·rw[if_neg hx]
   have h0:l.countP (fun x=>iT x k)=0:=by
    rw[List.countP_eq_zero]
    exact fun y hy hyk=>hx (tn (h1 y hy) hyk)
   rw[h0]
   cases j with
   |zero=>simp[List.getD,hx]
   |succ j=>
    rw[show(x::l).getD (j+1) []=l.getD j [] by simp[List.getD]]
    have hj:j<l.length:=by simpa using h
    constructor
    ·intro hyk
     exact absurd (tn (h1 _ (cO [] hj)) hyk) hx
    ·intro h;omega
theorem pb {l:List (List UInt8)} (hr:yj l) (k:List UInt8):k∈l↔spot l k<l.length/\l.getD (spot l k) []=k:=by
 constructor
 ·intro h
  obtain⟨j,hj,rfl⟩:=List.mem_iff_getElem.1 h
  have e:l.getD j []=l[j]:=by simp[List.getD,hj]
  have h1:¬j<spot l l[j]:=fun h=>by
   have:=(lu hr j hj).2 h
   rw[e,wM] at this
   cases this
  have h2:¬spot l l[j]<j:=fun h=>by
   have:=List.pairwise_iff_getElem.1 hr (spot l l[j]) j (by omega) hj h
   have h3:=(lu (k:=l[j]) hr (spot l l[j]) (by omega)).1 (by rw[List.getD,List.getElem?_eq_getElem (by omega)];exact this)
   omega
  have h3:spot l l[j]=j:=by omega
  rw[h3]
  exact⟨hj,e⟩
 ·rintro⟨h1,h2⟩
  rw[<-h2]
  exact cO [] h1
abbrev eY (k:List UInt8):AV:= .sc (.string (ez k))
abbrev OI (l:List (List UInt8)):AV:= .im 1 .any (l.map eY)
theorem mc (k:List UInt8):(ez k).toList=k:=by rw[ByteArray.toList_eq]
theorem Z9 (a b:ByteArray):(a==b)=decide (a=b):=by
 obtain⟨d⟩:=a
 obtain⟨d'⟩:=b
 show(d==d')=_
 rw[Bool.eq_iff_iff]
 simp
set_option maxHeartbeats 2000000 in
theorem J9 (l:List (List UInt8)) (k:List UInt8) (hr:yj l) (hl:l.length<=65536):Pure Tryz.prog 155 [OI l,eY k] (fun r=>r= .dI [i64 (spot l k),bl (decide (k∈l))]):=by
 have hs:=tI l k
 have a0:(l.map eY).length=l.length:=by simp
 refine aD XN rfl ?_
 refine cP ?_
 simp only[List.length_map]
 refine aF (fun σ:Nat×Nat=>[(0,OI l),(1,eY k),(6,i64 σ.1),(7,i64 σ.2)]) (fun σ H n=>σ.1<=spot l k/\spot l k<=σ.2/\σ.2<=l.length) (fun σ=>σ.2 - σ.1) (0,l.length) cC ⟨Nat.zero_le _,hs,Nat.le_refl _⟩ ?_
 rintro⟨lo,hi⟩ H n ⟨h1,h2,h3⟩
 dsimp only at h1 h2 h3 ⊢
 by_cases hlt:lo<hi
 ·have r1:((lo:Int)+(hi:Int)).tdiv 2=(((lo+hi) /2:Nat):Int):=by rw[Int.tdiv_eq_ediv_of_nonneg (by omega)];omega
  have hm:(lo+hi) /2<l.length:=by omega
  have e0:∀d,(l.map eY).getD (((lo+hi) /2:Nat):Int).toNat d=eY (l.getD ((lo+hi) /2) []):=fun d=>by rw[Int.toNat_natCast];exact cx eY l _ d hm
  have hiff:=lu (k:=k) hr _ hm
  have r2:IntKind.i64.wrap (((lo+hi) /2:Nat):Int)=(((lo+hi) /2:Nat):Int):=by rw[IntKind.wrap_i64];omega
  have hb1:lo<=(lo+hi) /2/\(lo+hi) /2<hi:=by omega
  by_cases hb:iT (l.getD ((lo+hi) /2) []) k=true
  ·have r0:Op.bytesLess (ez (l.getD ((((lo+hi) /2:Nat):Int)).toNat default)).toList (ez k).toList=true:=by rw[Int.toNat_natCast,mc,mc];exact hb
   have:=hiff.1 hb
   refine cP ?_
   exact⟨((lo+hi) /2+1,hi),by dsimp only;omega,cC,by dsimp only;omega,h2,h3⟩
  ·have r0:Op.bytesLess (ez (l.getD ((((lo+hi) /2:Nat):Int)).toNat default)).toList (ez k).toList=false:=by rw[Int.toNat_natCast,mc,mc];exact Bool.eq_false_iff.2 hb
   have:¬(lo+hi) /2<spot l k:=fun h=>hb (hiff.2 h)
   refine cP ?_
   exact⟨(lo,(lo+hi) /2),by dsimp only;omega,cC,h1,by dsimp only;omega,by dsimp only;omega⟩
 ·have e:lo=spot l k:=by omega
  subst e
  by_cases hlt2:spot l k<l.length
  ·have e0:∀d,(l.map eY).getD ((spot l k:Nat):Int).toNat d=eY (l.getD (spot l k) []):=fun d=>by rw[Int.toNat_natCast];exact cx eY l _ d hlt2
   have hth:(k∈l)↔l.getD (spot l k) []=k:=⟨fun h=>((pb hr k).1 h).2,fun h=>(pb hr k).2 ⟨hlt2,h⟩⟩
   have r0:decide (((spot l k:Nat):Int)<(((l.map eY).length:Nat):Int))=true:=decide_eq_true (by rw[a0];omega)
   refine cP ?_
   have hq:(ez (l.getD (spot l k) [])==ez k)=decide (k∈l):=by
    rw[Z9]
    by_cases h:l.getD (spot l k) []=k
    ·rw[h,decide_eq_true rfl,decide_eq_true (hth.2 h)]
    ·rw[decide_eq_false (fun e=>h (hth.1 e)),decide_eq_false fun e=>h (GS e)]
   first|(rw[hq];exact rfl)|(rw[<-hq];exact rfl)
  ·have hth:¬k∈l:=fun h=>hlt2 ((pb hr k).1 h).1
   rw[decide_eq_false hth]
   have r0:decide (((spot l k:Nat):Int)<(((l.map eY).length:Nat):Int))=false:=decide_eq_false (by rw[a0];omega)
   refine cP ?_
   first|exact rfl|trivial
def fT (l:List (List UInt8)) (i:Nat) (x:List UInt8):List (List UInt8):=l.take i++x::l.drop i
theorem jv {l:List (List UInt8)} {i:Nat} {x:List UInt8} (hi:i<=l.length):(fT l i x).length=l.length+1:=by
 unfold fT;rw[List.length_append,List.length_cons,List.length_take,List.length_drop];omega
theorem JN (l:List (List UInt8)) (x:List UInt8):fT l l.length x=l++[x]:=by simp[fT]
theorem xF {l:List (List UInt8)} {i:Nat} {x y:List UInt8} (hi:i<=l.length):(fT l i x).set i y=fT l i y:=by
 unfold fT
 rw[List.set_append,if_neg (by rw[List.length_take];omega),List.length_take,Nat.min_eq_left hi,Nat.sub_self,List.set_cons_zero]
theorem EB {l:List (List UInt8)} {i:Nat} (hi:i<l.length):fT l (i+1) (l.getD i [])=fT l i (l.getD i []):=by
 unfold fT
 rw[List.take_succ_eq_append_getElem hi,List.append_assoc,List.drop_eq_getElem_cons hi]
 simp[List.getD,hi]
theorem N4 {l:List (List UInt8)} {i:Nat} {x:List UInt8} (hi:i<l.length):(fT l (i+1) x).getD i []=l.getD i []:=by
 unfold fT
 rw[List.getD,List.getElem?_append_left (by rw[List.length_take];omega),List.getElem?_take,if_pos (by omega)]
 rfl
theorem EA {l:List (List UInt8)} (hr:yj l) {k:List UInt8} (hk:k∉l):yj (fT l (spot l k) k):=by
 have hs:=tI l k
 unfold fT yj
 rw[List.pairwise_append,List.pairwise_cons]
 refine⟨hr.sublist (List.take_sublist _ _),⟨fun y hy=> ?_,hr.sublist (List.drop_sublist _ _)⟩,fun a ha b hb=> ?_⟩
 ·obtain⟨j,hj,rfl⟩:=List.mem_iff_getElem.1 hy
  rw[List.length_drop] at hj
  rw[List.getElem_drop]
  have h1:=(lu (k:=k) hr (spot l k+j) (by omega))
  rw[show l.getD (spot l k+j) []=l[spot l k+j]'(by omega) by simp[List.getD,show spot l k+j<l.length by omega]] at h1
  rcases wN (x:=k) (y:=l[spot l k+j]'(by omega)) (fun e=>hk (by rw[e];exact List.getElem_mem _)) with h|h
  ·exact h
  ·have:=h1.1 h;omega
 ·obtain⟨j,hj,rfl⟩:=List.mem_iff_getElem.1 ha
  rw[List.length_take] at hj
  have h1:=(lu (k:=k) hr j (by omega)).2 (by omega)
  rw[show l.getD j []=l[j]'(by omega) by simp[List.getD,show j<l.length by omega]] at h1
  rw[List.getElem_take]
  rcases List.mem_cons.1 hb with rfl|hb
  ·exact h1
  ·obtain⟨q,hq,rfl⟩:=List.mem_iff_getElem.1 hb
   rw[List.length_drop] at hq
   rw[List.getElem_drop]
   exact List.pairwise_iff_getElem.1 hr j (spot l k+q) (by omega) (by omega) (by omega)
set_option maxHeartbeats 2000000 in
theorem zw (l:List (List UInt8)) (p:Nat) (k:List UInt8) (hp:p<=l.length) (hl:l.length<=65536) {b nx:Nat} {H:Hp} (hb:b<nx) (r:∃d,bt H b=some (.row 9 1 d (l.map eY))):
 cU Tryz.prog 156 [.sl b l.length,i64 p,eY k] H nx (fun r H' n=>r= .sl b (l.length+1)/\(∃d,bt H' b=some (.row 9 1 d ((fT l p k).map eY)))/\nx<=n/\∀y,y<nx->y≠b->bt H' y=bt H y):=by
 obtain⟨d,r⟩:=r
 have a0:(l.map eY).length=l.length:=by simp
 refine aJ XO rfl ?_
 refine cP ?_
 refine aF (fun i:Nat=>[(0, .sl b (l.length+1)),(1,i64 p),(2,eY k),(7,i64 i)]) (fun i H' n=>p<=i/\i<=l.length/\nx<=n/\(∃x d,bt H' b=some (.row 9 1 d ((fT l i x).map eY)))/\∀y,y<nx->y≠b->bt H' y=bt H y) (fun i=>i) l.length ⟨rfl,rfl,rfl,by show i64 (IntKind.i64.wrap (((l.length+1:Nat):Int) - 1))=i64 l.length;rw[IntKind.wrap_i64];congr 3;omega,trivial⟩ ⟨hp,Nat.le_refl _,cX,⟨k,_,by rw[JN,List.map_append];exact bu⟩,fun y y1 y2=>cE⟩ ?_
 rintro i H' n ⟨h1,h2,hn,⟨x,d2,r2⟩,hkp⟩
 have a1:((fT l i x).map eY).length=l.length+1:=by rw[List.length_map,jv h2]
 by_cases hlt:p<i
 ·obtain⟨j,rfl⟩:∃j,i=j+1:=⟨i - 1,by omega⟩
  have e0:∀d,((fT l (j+1) x).map eY).getD (((j+1:Nat):Int) - 1).toNat d=eY (l.getD j []):=fun d=>by
   rw[show(((j+1:Nat):Int) - 1).toNat=j by omega,cx eY _ j d (by rw[jv h2];omega)]
   exact congrArg eY (N4 (by omega))
  have e1:∀d,((fT l (j+1) x).map eY).getD (((j+1:Nat):Int)).toNat d=eY ((fT l (j+1) x).getD (j+1) []):=fun d=>by rw[Int.toNat_natCast];exact cx eY _ _ d (by rw[jv h2];omega)
  have hnx:((fT l (j+1) x).map eY).set (((j+1:Nat):Int)).toNat (eY (l.getD j []))=(fT l j (l.getD j [])).map eY:=by rw[Int.toNat_natCast,<-List.map_set,xF (by omega),EB (by omega)]
  refine cP ?_
  exact⟨j,by omega,cC,by omega,by omega,cX,⟨_,_,by rw[<-hnx];exact bu⟩,fun y y1 y2=>Eq.trans cE (hkp y y1 y2)⟩
 ·obtain rfl:i=p:=by omega
  have e1:∀d,((fT l i x).map eY).getD ((i:Int)).toNat d=eY ((fT l i x).getD i []):=fun d=>by rw[Int.toNat_natCast];exact cx eY _ _ d (by rw[jv h2];omega)
  have hnx:((fT l i x).map eY).set ((i:Int)).toNat (eY k)=(fT l i k).map eY:=by rw[Int.toNat_natCast,<-List.map_set,xF h2]
  refine cP ?_
  exact⟨⟨rfl,⟨_,by rw[<-hnx];exact bu⟩,cX,fun y y1 y2=>Eq.trans cE (hkp y y1 y2)⟩⟩
def mX (u:bx) (p:cV×Bool):List AV:=[cF u.shared,cF u.cB,cZ u.bw,cT p.1.m.at_,tH p.1.m.bz,cT p.1.m.mem,cT p.1.m.hold,fY p.1.m.cA,i64 p.1.from_,i64 p.1.cr,bl p.2]
abbrev j7 (u:bx) (p:cV×Bool):AV:= .agg (mX u p)
noncomputable def vA (u:bx) (mo:Nat):AV:=match gP u mo with
 |none=> .dI [.sc (.slice none 0 0),i64 3]
 |some l=> .dI [.im 11 .any (l.map fun f=>j7 u (f,f.m.stuck u)),i64 0]
theorem MG {H:Hp} {d:AV} {es:List AV} {n:Nat} (h:bt H 28=some (.row 173 11 d es)) (hf:c8 0 es) (hl:es.length=n):cw.dY H 6 (.dI [.sl 28 n,i64 0])= .dI [.im 11 .any es,i64 0]:=by
 show AV.dI (List.map (cw.dY H 5) [.sl 28 n,i64 0])=_
 rw[List.map_cons,List.map_cons,List.map_nil,dH h hl,cn _ hf,dA _ (show cH 0 (i64 0) by simp[cH])]
def gG (u:bx) (i t j:Nat) (m:MS):Bool:=if j<i then m.stuck u else if j=i then(List.range t).all fun s=>decide (m.jR u s≠0) else true
theorem H6 (u:bx) (i:Nat) (m:MS):gG u i 0 i m=true:=by simp[gG]
theorem flag_on {u:bx} {i t:Nat} {m:MS} (h:m.jR u t≠0):gG u i (t+1) i m=gG u i t i m:=by
 simp[gG,List.range_succ,h]
theorem flag_off {u:bx} {i t:Nat} {m:MS} (h:m.jR u t=0):gG u i (t+1) i m=false:=by
 simp[gG,List.range_succ,h]
theorem MB {u:bx} {i:Nat} {m:MS} (h:eN u m):gG u i u.bw.length i m=m.stuck u:=by
 unfold gG MS.stuck
 rw[if_neg (Nat.lt_irrefl _),if_pos rfl,h.nG]
theorem w6 {u:bx} {i t t' j:Nat} {m:MS} (h:j≠i):gG u i t j m=gG u i t' j m:=by simp[gG,h]
theorem HZ {u:bx} {i t j:Nat} {m:MS} (h:j≠i):gG u (i+1) 0 j m=gG u i t j m:=by
 unfold gG
 by_cases h1:j<i
 ·rw[if_pos h1,if_pos (by omega)]
 ·rw[if_neg h1,if_neg h,if_neg (by omega)]
  split<;>simp
structure tR (u:bx) (i t:Nat) (lb:List (cV×Bool)) (S:List (List UInt8)):Prop where
 fs:iF u (lb.map Prod.fst)
 OE:yj S
 mem:∀k,k∈S↔k∈hP (lb.map Prod.fst)
 len:S.length=lb.length
 flag:∀j,j<lb.length->(lb.getD j default).2=gG u i t j (lb.getD j default).1.m
theorem tR.same {u:bx} {i t:Nat} {lb:List (cV×Bool)} {S:List (List UInt8)} (h:tR u i t lb S) (hb:(lb.getD i default).1.m.jR u t≠0):tR u i (t+1) lb S:=
 ⟨h.fs,h.OE,h.mem,h.len,fun j hj=>by
  rw[h.flag j hj]
  by_cases e:j=i
  ·subst e;exact(flag_on hb).symm
  ·exact w6 e⟩
theorem yY {lb:List (cV×Bool)} {i:Nat} (b:Bool) (hi:i<lb.length):(lb.set i ((lb.getD i default).1,b)).map Prod.fst=lb.map Prod.fst:=by
 rw[List.map_set]
 apply List.ext_getElem (by simp)
 intro j h1 h2
 rw[List.getElem_set]
 split
 ·rename_i e;subst e;simp[List.getD,hi]
 ·rfl
theorem tR.off {u:bx} {i t:Nat} {lb:List (cV×Bool)} {S:List (List UInt8)} (h:tR u i t lb S) (hi:i<lb.length) (hb:(lb.getD i default).1.m.jR u t=0):tR u i (t+1) (lb.set i ((lb.getD i default).1,false)) S:=
 ⟨by rw[yY _ hi];exact h.fs,h.OE,fun k=>by rw[yY _ hi];exact h.mem k,by rw[List.length_set];exact h.len,fun j hj=>by
  rw[List.length_set] at hj
  by_cases e:j=i
  ·subst e
   rw[eM hj]
   exact(flag_off hb).symm
  ·rw[getD_set_ne (Ne.symm e),h.flag j hj]
   exact w6 e⟩
theorem tR.add {u:bx} {i t:Nat} {lb:List (cV×Bool)} {S:List (List UInt8)} (h:tR u i t lb S) (hi:i<lb.length) {f:cV} (hf:iF u ((lb++[(f,true)]).map Prod.fst)) (hk:fO f.m∉hP (lb.map Prod.fst)):tR u i t (lb++[(f,true)]) (fT S (spot S (fO f.m)) (fO f.m)):=
 ⟨hf,EA h.OE fun e=>hk ((h.mem _).1 e),fun k=>by
  have hm:=h.mem k
  unfold fT
  have h1:k∈S↔k∈S.take (spot S (fO f.m))\/k∈S.drop (spot S (fO f.m)):=by
   conv=>lhs;rw[<-List.take_append_drop (spot S (fO f.m)) S]
   exact List.mem_append
  rw[h1] at hm
  simp only[List.mem_append,List.mem_cons,hP,List.map_append,List.map_cons,List.map_nil,List.not_mem_nil,or_false] at hm ⊢
  constructor
  ·rintro(e|e|e)
   ·exact .inl (hm.1 (.inl e))
   ·exact .inr e
   ·exact .inl (hm.1 (.inr e))
  ·rintro(e|e)
   ·rcases hm.2 e with e|e
    ·exact .inl e
    ·exact .inr (.inr e)
   ·exact .inr (.inl e),by rw[jv (tI _ _),List.length_append,h.len];rfl,fun j hj=>by
  rw[List.length_append,List.length_cons,List.length_nil] at hj
  by_cases e:j=lb.length
  ·subst e
   rw[pP]
   unfold gG
   rw[if_neg (by omega),if_neg (by omega)]
  ·rw[fi (by omega)]
   exact h.flag j (by omega)⟩
set_option maxHeartbeats 4000000 in
theorem JO (u:bx) (hu:u.Wf) (hr:cg u) (mo:Nat) (hmo:1<=mo/\mo<=65536) (c0:Pure Tryz.prog 37 [u.av] (fun r=>r=mE (0,0,0))):Pure Tryz.prog 100 [u.av,i64 mo] (fun r=>r=vA u mo):=by
 have c1:=JU u hu hr c0
 have hgl:=hr.oh
 have hF:=iF.init u hu hr
 have hm0:=(hF.ok 0 hF.pos).1
 have hm0':(List.getD (kD u) 0 default).m=cz u:=rfl
 rw[hm0'] at hm0
 have c2:=xI u (cz u) (hm0.VG hr (by simp[cz]))
 have a0:(u.bw.map cG.av).length=u.bw.length:=by simp
 refine cp ?_ (by unfold vA;split<;>simp[cH,c8,cD,mX])
 refine aJ NF rfl ?_
 refine cP ?_
 refine aF (fun σ:Nat×List (cV×Bool)×List (List UInt8)=>[(1,i64 mo),(2, .pt 0 1 0 0),(11, .sl 28 σ.2.1.length),(12, .sl 31 σ.2.2.length),(13,i64 σ.1)])
  (fun σ H n=>σ.1<=σ.2.1.length/\σ.2.1.length<=mo/\tR u σ.1 0 σ.2.1 σ.2.2/\sg u mo (mo - σ.1) σ.1 (σ.2.1.map Prod.fst)=gP u mo/\34<=n/\(∃d,bt H 0=some (.row 25 3 d [u.av]))/\(∃d,bt H 28=some (.row 173 11 d (σ.2.1.map (j7 u))))/\(∃d,bt H 31=some (.row 9 1 d (σ.2.2.map eY)))) (fun σ=>mo - σ.1) (0,[(⟨cz u,-1,0⟩,true)],[fO (cz u)])
  cC ⟨Nat.zero_le _,by show 1<=mo;omega,⟨hF,by simp[yj],fun k=>by simp[hP],rfl,fun j hj=>by
   have:j=0:=by simpa using hj
   subst this;exact(H6 _ _ _).symm⟩,rfl,cX,⟨_,bu⟩,⟨_,bu⟩,⟨_,bu⟩⟩ ?_
 clear c0 c1 c2 hm0 hm0'
 rintro⟨i,lb,S⟩ H n ⟨hi,hl,hI,hall,hn,⟨d0,r0'⟩,⟨d1,r1'⟩,⟨d2,r2'⟩⟩
 dsimp only at hi hl hI hall r1' r2' ⊢
 by_cases hil:i<lb.length
 ·obtain⟨hmok,hpl⟩:=hI.fs.ok i (by simpa using hil)
  have hgd:∀(lb:List (cV×Bool)) (j:Nat),j<lb.length->(lb.map Prod.fst).getD j default=(lb.getD j default).1:=fun lb j hj=>by simp[List.getD,hj]
  rw[hgd _ _ hil] at hmok hpl
  have hmk:mo - i=(mo - (i+1))+1:=by omega
  rw[hmk,sg,if_pos (by simpa using hil)] at hall
  generalize hmm:(lb.getD i default).1.m=m at hmok hpl
  refine cP ?_
  refine aF (fun σ:Nat×List (cV×Bool)×List (List UInt8)=>[(1,i64 mo),(2, .pt 0 1 0 0),(11, .sl 28 σ.2.1.length),(12, .sl 31 σ.2.2.length),(13,i64 i),(14,i64 σ.1)])
   (fun σ H n=>σ.1<=u.bw.length/\i<σ.2.1.length/\σ.2.1.length<=mo/\tR u i σ.1 σ.2.1 σ.2.2/\(σ.2.1.getD i default).1.m=m/\(match vv u mo i ((List.range u.bw.length).drop σ.1) (σ.2.1.map Prod.fst) with
    |none=>none
    |some l2=>sg u mo (mo - (i+1)) (i+1) l2)=gP u mo/\34<=n/\(∃d,bt H 0=some (.row 25 3 d [u.av]))/\(∃d,bt H 28=some (.row 173 11 d (σ.2.1.map (j7 u))))/\(∃d,bt H 31=some (.row 9 1 d (σ.2.2.map eY)))) (fun σ=>u.bw.length - σ.1) (0,lb,S)
   cC ⟨Nat.zero_le _,hil,hl,hI,hmm,hall,cX,⟨_,bu⟩,⟨_,bu⟩,⟨_,bu⟩⟩ ?_
  clear r0' r1' r2' hall hI hl hil hn hmm hi
  rintro⟨t,lb,S⟩ H n ⟨ht,hil,hl,hI,hmm,hall,hn,⟨d0,r0'⟩,⟨d1,r1'⟩,⟨d2,r2'⟩⟩
  dsimp only at ht hil hl hI hmm hall r1' r2' ⊢
  have a1:(lb.map (j7 u)).length=lb.length:=by simp
  have a2:(S.map eY).length=S.length:=by simp
  have e0:∀d,(lb.map (j7 u)).getD ((i:Int)).toNat d=j7 u (lb.getD i default):=fun d=>by rw[Int.toNat_natCast];exact cx (j7 u) lb i d hil
  have hmm2:((lb.map Prod.fst).getD i default).m=m:=by rw[hgd _ _ hil,hmm]
  by_cases htl:t<u.bw.length
  ·rw[show(List.range u.bw.length).drop t=t::(List.range u.bw.length).drop (t+1) by rw[List.drop_eq_getElem_cons (by simpa using htl)];simp,vv] at hall
   have hne:m.at_≠[]:=fun e=>by have:=hmok.nG;rw[e] at this;simp at this;omega
   have c3:=EC u hr m hmok hne (by omega)
   by_cases hb:m.jR u t=0
   ·have c4:=ES u hu hr m hmok (by omega) t htl hb
    have hm2:=tJ hu hr hmok htl (jW hmok htl hb).1
    have hp2:=ko u m t
    have htry:vS u mo i t (lb.map Prod.fst)=if fO (m.step u t).1∈hP (lb.map Prod.fst) then some (lb.map Prod.fst) else if(lb.map Prod.fst).length=mo then none else some (lb.map Prod.fst++[⟨(m.step u t).1,i,t⟩]):=by
     unfold vS
     rw[hmm2,if_neg (fun e=>e hb)]
    have hadd:fO (m.step u t).1∉hP (lb.map Prod.fst)->iF u (lb.map Prod.fst++[⟨(m.step u t).1,i,t⟩]):=fun hn=>by
     have:=hI.fs.add hu hr (k:=i) (t:=t) (by simpa using hil) htl (by rw[hmm2];exact hb) (by rw[hmm2];exact hn)
     rw[hmm2] at this
     exact this
    rw[htry] at hall
    have c5:=xI u (m.step u t).1 (hm2.VG hr (by omega))
    have hoff:=hI.off hil (t:=t) (by rw[hmm];exact hb)
    have hrow:(lb.map (j7 u)).set ((i:Int)).toNat (.agg ((mX u (lb.getD i default)).set 10 (bl false)))=(lb.set i ((lb.getD i default).1,false)).map (j7 u):=by
     rw[Int.toNat_natCast,List.map_set];rfl
    have hfst:=yY (lb:=lb) (i:=i) false hil
    have hmm3:((lb.set i ((lb.getD i default).1,false)).getD i default).1.m=m:=by rw[eM hil];exact hmm
    have hSl:=hI.len
    have hsp:=tI S (fO (m.step u t).1)
    generalize m.step u t=ms at *
    obtain⟨m2,act⟩:=ms
    dsimp only at hm2 hp2 hall hadd c4 c5 hsp
    refine cP ?_
    show iR _ _ [MS.av u (lb.getD i default).1.m] _ _ _
    rw[hmm]
    refine cP ?_
    refine aP (J9 S (fO m2) hI.OE (by omega)) ?_ (by simp[c8,cH,cD]) (by simp[gT]) ?_
    ·rw[List.map_cons,List.map_cons,List.map_nil,dH (b:=31) bu a2,cn _ ((cD _ _).2 fun _ _=>by simp[cH]),dA _ (show cH 0 (eY (fO m2)) by simp[cH])]
    by_cases hin:fO m2∈hP (lb.map Prod.fst)
    ·rw[decide_eq_true ((hI.mem _).2 hin)]
     rw[if_pos hin] at hall
     refine cP ?_
     exact⟨(t+1,lb.set i ((lb.getD i default).1,false),S),by dsimp only;omega,cC,by dsimp only;omega,by dsimp only;rw[List.length_set];exact hil,by dsimp only;rw[List.length_set];exact hl,hoff,hmm3,by dsimp only;rw[hfst];exact hall,cX,⟨_,bu⟩,⟨_,by dsimp only;rw[<-hrow];exact bu⟩,⟨_,bu⟩⟩
    ·rw[decide_eq_false fun e=>hin ((hI.mem _).1 e)]
     rw[if_neg hin] at hall
     have hll:(lb.map Prod.fst).length=lb.length:=by simp
     have hl2:(((lb.map (j7 u)).set ((i:Int)).toNat (.agg ((mX u (lb.getD i default)).set 10 (bl false))))).length=lb.length:=by simp
     by_cases hfull:lb.length=mo
     ·rw[if_pos (by rw[hll];exact hfull)] at hall
      have hall2:none=gP u mo:=hall
      refine cP ?_
      refine⟨?_⟩
      unfold vA
      rw[<-hall2]
      exact dA 6 (by simp[cH,c8])
     ·rw[if_neg (by rw[hll];exact hfull)] at hall
      have hnew:=hoff.add (f:=⟨m2,i,t⟩) (by rw[List.length_set];exact hil) (by rw[List.map_append,hfst];exact hadd hin) (by rw[hfst];exact hin)
      have hrow2:(lb.set i ((lb.getD i default).1,false)++[((⟨m2,i,t⟩:cV),true)]).map (j7 u)=(lb.map (j7 u)).set ((i:Int)).toNat (.agg ((mX u (lb.getD i default)).set 10 (bl false)))++[j7 u (⟨m2,i,t⟩,true)]:=by rw[List.map_append,<-hrow];rfl
      refine cP ?_
      refine aG (zw S (spot S (fO m2)) (fO m2) hsp (by omega) cX ⟨_,bu⟩) ?_
      rintro r H2 n2 ⟨rfl,⟨d3,r3'⟩,hn2,hk2⟩
      have q0:∃d,bt H2 0=some (.row 25 3 d [u.av]):=⟨_,(hk2 0 cX (by omega)).trans bu⟩
      have q15:∃d,bt H2 (n+15)=some (.row 96 8 d [m2.av u]):=⟨_,(hk2 (n+15) cX (by omega)).trans bu⟩
      have q28:∃d,bt H2 28=some (.row 173 11 d ((lb.map (j7 u)).set ((i:Int)).toNat (.agg ((mX u (lb.getD i default)).set 10 (bl false))))):=⟨_,(hk2 28 cX (by omega)).trans bu⟩
      clear hk2
      obtain⟨d5,q0⟩:=q0
      obtain⟨d6,q15⟩:=q15
      obtain⟨d7,q28⟩:=q28
      have e11:(lb.set i ((lb.getD i default).1,false)++[((⟨m2,i,t⟩:cV),true)]).length=lb.length+1:=by simp
      have e12:(fT S (spot S (fO m2)) (fO m2)).length=S.length+1:=jv hsp
      refine cP ?_
      exact⟨(t+1,lb.set i ((lb.getD i default).1,false)++[((⟨m2,i,t⟩:cV),true)],fT S (spot S (fO m2)) (fO m2)),by dsimp only;omega,by dsimp only;rw[e11,e12];exact cC,by dsimp only;omega,by dsimp only;rw[e11];omega,by dsimp only;rw[e11];omega,hnew,by dsimp only;rw[fi (by rw[List.length_set];exact hil)];exact hmm3,by dsimp only;rw[List.map_append,hfst];exact hall,cX,⟨_,bu⟩,⟨_,by dsimp only;rw[hrow2];exact bu⟩,⟨_,bu⟩⟩
   ·have c4:=JY u hr m hmok t hb
    have r0:=decide_eq_true hb
    have htry:vS u mo i t (lb.map Prod.fst)=some (lb.map Prod.fst):=by
     unfold vS
     rw[hmm2,if_pos hb]
    rw[htry] at hall
    refine cP ?_
    show iR _ _ [MS.av u (lb.getD i default).1.m] _ _ _
    rw[hmm]
    refine cP ?_
    exact⟨(t+1,lb,S),by dsimp only;omega,cC,by dsimp only;omega,hil,hl,hI.same (by rw[hmm];exact hb),hmm,hall,cX,⟨_,bu⟩,⟨_,bu⟩,⟨_,bu⟩⟩
  ·have htG:t=u.bw.length:=by omega
   subst htG
   rw[List.drop_of_length_le (by simp),vv] at hall
   refine cP ?_
   refine⟨(i+1,lb,S),by dsimp only;omega,cC,by dsimp only;omega,hl,⟨hI.fs,hI.OE,hI.mem,hI.len,fun j hj=> ?_⟩,hall,cX,⟨_,bu⟩,⟨_,bu⟩,⟨_,bu⟩⟩
   rw[hI.flag j hj]
   by_cases e:j=i
   ·subst e
    rw[hmm,MB hmok]
    unfold gG
    rw[if_pos (Nat.lt_succ_self _)]
   ·exact(HZ e).symm
 ·have hi2:i=lb.length:=by omega
  have hl2:gP u mo=some (lb.map Prod.fst):=by
   rw[<-hall]
   subst hi2
   cases h:mo - lb.length with
   |zero=>rfl
   |succ q=>rw[sg,if_neg (by simp)]
  have hrow:lb.map (j7 u)=(lb.map Prod.fst).map fun f=>j7 u (f,f.m.stuck u):=by
   rw[List.map_map]
   refine List.map_congr_left fun p hp=> ?_
   obtain⟨j,hj,rfl⟩:=List.mem_iff_getElem.1 hp
   have:=hI.flag j hj
   rw[show lb.getD j default=lb[j] by simp[List.getD,hj]] at this
   show j7 u lb[j]=j7 u (lb[j].1,lb[j].1.m.stuck u)
   rw[show lb[j].1.m.stuck u=lb[j].2 by rw[this];unfold gG;rw[if_pos (by omega)]]
  refine cP ?_
  refine⟨?_⟩
  unfold vA
  rw[hl2]
  exact(MG (es:=lb.map (j7 u)) bu ((cD _ _).2 fun _ _=>by simp[cH,c8,cD,mX]) (by simp)).trans (by rw[hrow])
def fS:List cY->cY->List cY
 |[],e=>[e]
 |x::l,e=>if eJ x e<0 then x::fS l e else if eJ x e=0 then x::l else e::x::l
def lz (l:List cY):Prop:=l.Pairwise fun x y=>eJ x y<0
theorem uy {e y:cY}:∀{l:List cY},y∈fS l e↔y=e\/y∈l
 |[]=>by simp[fS]
 |x::l=>by
  rw[fS]
  split
  ·rw[List.mem_cons,uy,List.mem_cons]
   constructor
   ·rintro(h|h|h)
    ·exact .inr (.inl h)
    ·exact .inl h
    ·exact .inr (.inr h)
   ·rintro(h|h|h)
    ·exact .inr (.inl h)
    ·exact .inl h
    ·exact .inr (.inr h)
  ·split
   ·rename_i h0
    have:=(gF.zero _ _).1 h0
    subst this
    simp
   ·simp
theorem sX {e:cY}:∀{l:List cY},lz l->lz (fS l e)
 |[],_=>by simp[fS,lz]
 |x::l,h=>by
  obtain⟨h1,h2⟩:=List.pairwise_cons.1 h
  rw[fS]
  split
  ·rename_i hx
   refine List.pairwise_cons.2 ⟨fun y hy=> ?_,sX h2⟩
   rcases uy.1 hy with rfl|hy
   ·exact hx
   ·exact h1 y hy
  ·rename_i hx
   split
   ·exact h
   ·rename_i h0
    have hex:eJ e x<0:=by have:=gF.neg x e;omega
    refine List.pairwise_cons.2 ⟨fun y hy=> ?_,h⟩
    rcases List.mem_cons.1 hy with rfl|hy
    ·exact hex
    ·exact gF.tr _ _ _ hex (h1 y hy)
theorem vP:∀{l m:List cY},lz l->lz m->(∀e,e∈l↔e∈m)->l=m
 |[],[],_,_,_=>rfl
 |[],y::m,_,_,h=>absurd ((h y).2 (by simp)) (by simp)
 |x::l,[],_,_,h=>absurd ((h x).1 (by simp)) (by simp)
 |x::l,y::m,hl,hm,h=>by
  obtain⟨h1,h2⟩:=List.pairwise_cons.1 hl
  obtain⟨h3,h4⟩:=List.pairwise_cons.1 hm
  have irr:∀z:cY,¬eJ z z<0:=fun z hz=>by rw[(gF.zero _ _).2 rfl] at hz;omega
  have e:x=y:=by
   rcases List.mem_cons.1 ((h x).1 (by simp)) with e|hx
   ·exact e
   ·rcases List.mem_cons.1 ((h y).2 (by simp)) with e|hy
    ·exact e.symm
    ·exact absurd (gF.tr _ _ _ (h3 x hx) (h1 y hy)) (irr y)
  subst e
  refine congrArg (x::·) (vP h2 h4 fun z=> ?_)
  constructor
  ·intro hz
   rcases List.mem_cons.1 ((h z).1 (List.mem_cons_of_mem _ hz)) with e|hz'
   ·exact absurd (h1 z hz) (e▸irr z)
   ·exact hz'
  ·intro hz
   rcases List.mem_cons.1 ((h z).2 (List.mem_cons_of_mem _ hz)) with e|hz'
   ·exact absurd (h3 z hz) (e▸irr z)
   ·exact hz'
theorem SE {l:List cY}:∀{m:List cY},lz m->lz (l.foldl fS m)/\∀e,e∈l.foldl fS m↔e∈m\/e∈l:=by
 induction l with
 |nil=>exact fun h=>⟨h,fun e=>by simp⟩
 |cons x l ih=>
  intro m h
  obtain⟨h1,h2⟩:=ih (sX (e:=x) h)
  refine⟨h1,fun e=> ?_⟩
  rw[List.foldl_cons,h2 e,uy,List.mem_cons]
  constructor
  ·rintro((h|h)|h)
   ·exact .inr (.inl h)
   ·exact .inl h
   ·exact .inr (.inr h)
  ·rintro(h|h|h)
   ·exact .inl (.inr h)
   ·exact .inl (.inl h)
   ·exact .inr h
theorem N5 (u:bx) (l:List cV):(dU u l l.length).foldl fS []=iG u l:=by
 obtain⟨h1,h2⟩:=SE (l:=dU u l l.length) (m:=[]) List.Pairwise.nil
 refine vP h1 (qI u l) fun e=> ?_
 rw[h2 e,oG]
 simp
def fR (l:List cY) (e:cY):Nat:=(l.takeWhile fun x=>decide (eJ x e<0)).length
theorem OM (l:List cY) (e:cY):fR l e<=l.length:=(List.takeWhile_sublist _).length_le
theorem GL (e:cY):∀l:List cY,fS l e=if fR l e<l.length/\eJ (l.getD (fR l e) default) e=0 then l else l.take (fR l e)++e::l.drop (fR l e)
 |[]=>by simp[fS,fR]
 |x::l=>by
  rw[fS]
  have ih:=GL e l
  split
  ·rename_i hx
   have hs:fR (x::l) e=fR l e+1:=by simp[fR,List.takeWhile_cons,hx]
   rw[hs,ih,show(x::l).getD (fR l e+1) default=l.getD (fR l e) default by simp[List.getD],List.length_cons]
   by_cases h:fR l e<l.length/\eJ (l.getD (fR l e) default) e=0
   ·rw[if_pos h,if_pos ⟨by omega,h.2⟩]
   ·rw[if_neg h,if_neg (fun h'=>h ⟨by omega,h'.2⟩)]
    simp
  ·rename_i hx
   have hs:fR (x::l) e=0:=by simp[fR,List.takeWhile_cons,hx]
   rw[hs]
   split
   ·rename_i h0
    rw[if_pos ⟨by simp,by simpa[List.getD] using h0⟩]
   ·rename_i h0
    rw[if_neg (fun h'=>h0 (by simpa[List.getD] using h'.2))]
    simp
theorem ON {l:List cY} {e:cY}:∀j,j<fR l e->eJ (l.getD j default) e<0:=by
 unfold fR
 induction l with
 |nil=>intro j h;simp at h
 |cons x l ih=>
  intro j h
  rw[List.takeWhile_cons] at h
  split at h
  ·rename_i hx
   cases j with
   |zero=>simpa[List.getD] using hx
   |succ j=>
    have:=ih j (by simpa using h)
    simpa[List.getD] using this
  ·simp at h
theorem E8 {l:List cY} {e:cY} (h:fR l e<l.length):¬eJ (l.getD (fR l e) default) e<0:=by
 unfold fR at *
 induction l with
 |nil=>simp at h
 |cons x l ih=>
  rw[List.takeWhile_cons] at h ⊢
  split at h
  ·rename_i hx
   rw[if_pos hx]
   have:=ih (by simpa using h)
   simpa[List.getD] using this
  ·rename_i hx
   rw[if_neg hx]
   simpa[List.getD] using hx
set_option maxHeartbeats 4000000 in
theorem N6 (l:List cY) (e:cY) (hok:∀x∈l,tO x) (hl:l.length<=65536):Pure Tryz.prog 101 [fI l,e.av] (fun r=>r=fI (fS l e)):=by
 have a0:(l.map cY.av).length=l.length:=by simp
 have hsl:=OM l e
 refine cp ?_ (by simp[cH,cD])
 refine aJ WM rfl ?_
 refine cP ?_
 refine aF (fun i:Nat=>[(0,fI l),(3, .pt 0 1 0 0),(5,i64 i)]) (fun i H n=>i<=fR l e/\1<=n/\∃d,bt H 0=some (.row 105 3 d [e.av])) (fun i=>fR l e - i) 0 cC ⟨Nat.zero_le _,cX,⟨_,bu⟩⟩ ?_
 rintro i H n ⟨hi,hn,⟨d0,r0'⟩⟩
 by_cases h1:i<fR l e
 ·have e0:∀d,(l.map cY.av).getD ((i:Int)).toNat d=(l.getD i default).av:=fun d=>by rw[Int.toNat_natCast];exact cx cY.av l i d (by omega)
  obtain⟨q1,q2⟩:=hok _ (cO default (show i<l.length by omega))
  have c0:=mW (l.getD i default) e q1 q2
  have hlt:=ON (l:=l) (e:=e) i h1
  have r0:decide ((i:Int)<(((l.map cY.av).length:Nat):Int))=true:=decide_eq_true (by rw[a0];omega)
  have r1:decide (eJ (l.getD i default) e<0)=true:=decide_eq_true hlt
  refine cP ?_
  exact⟨i+1,by omega,cC,by omega,cX,⟨_,bu⟩⟩
 ·obtain rfl:i=fR l e:=by omega
  have hput:=GL e l
  by_cases h2:fR l e<l.length
  ·have e0:∀d,(l.map cY.av).getD ((fR l e:Nat):Int).toNat d=(l.getD (fR l e) default).av:=fun d=>by rw[Int.toNat_natCast];exact cx cY.av l _ d h2
   obtain⟨q1,q2⟩:=hok _ (cO default h2)
   have c0:=mW (l.getD (fR l e) default) e q1 q2
   have hst:=E8 h2
   have r0:decide (((fR l e:Nat):Int)<(((l.map cY.av).length:Nat):Int))=true:=decide_eq_true (by rw[a0];omega)
   generalize fR l e=p at *
   by_cases h3:eJ (l.getD p default) e=0
   ·rw[if_pos ⟨h2,h3⟩] at hput
    rw[h3] at c0
    rw[hput]
    refine cP ?_
    exact⟨dA 6 (by simp[cH,cD])⟩
   ·rw[if_neg (fun h=>h3 h.2)] at hput
    rw[hput]
    have r1:decide (eJ (l.getD p default) e=0)=false:=decide_eq_false h3
    have r2:List.take ((p:Int).toNat - 0) (List.drop 0 (l.map cY.av))=(l.take p).map cY.av:=by rw[Int.toNat_natCast,Nat.sub_zero,List.drop_zero,List.map_take]
    have a1:((l.take p).map cY.av).length=p:=by rw[List.length_map,List.length_take];omega
    have r3:List.take ((l.map cY.av).length - (p:Int).toNat) (List.drop (p:Int).toNat (l.map cY.av))=(l.drop p).map cY.av:=by rw[Int.toNat_natCast,List.take_of_length_le (by rw[List.length_drop];exact Nat.le_refl _),List.map_drop]
    have a2:((l.drop p).map cY.av).length=l.length - p:=by rw[List.length_map,List.length_drop]
    refine cP ?_
    refine⟨Ask.mk (show(0+((l.take p).map cY.av).length+1+((l.drop p).map cY.av).length) * 56<=175921860444160 by rw[a1,a2];omega),sB ?_⟩
    refine cP ?_
    refine⟨(dH (e:=105) (sz:=3) (es:=(l.take p).map cY.av++[e.av]++(l.drop p).map cY.av) bu ?_).trans ?_⟩
    ·show _=0+_+1+_
     simp only[List.length_append,List.length_cons,List.length_nil]
     omega
    ·rw[cn _ (by rw[show(l.take p).map cY.av++[e.av]++(l.drop p).map cY.av=(l.take p++e::l.drop p).map cY.av by simp];exact(cD _ _).2 fun _ _=>by simp[cH])]
     simp
  ·have hq:fR l e=l.length:=by omega
   rw[if_neg (fun h=>h2 h.1),hq,List.take_length,List.drop_length] at hput
   rw[hput,hq]
   have r0:decide (((l.length:Nat):Int)<(((l.map cY.av).length:Nat):Int))=false:=decide_eq_false (by rw[a0];omega)
   have r2:List.take (((l.length:Nat):Int).toNat - 0) (List.drop 0 (l.map cY.av))=l.map cY.av:=by rw[Int.toNat_natCast,Nat.sub_zero,List.drop_zero,List.take_of_length_le (by simp)]
   have r3:List.take ((l.map cY.av).length - ((l.length:Nat):Int).toNat) (List.drop ((l.length:Nat):Int).toNat (l.map cY.av))=[]:=by rw[Int.toNat_natCast,List.drop_of_length_le (by simp)];simp
   refine cP ?_
   refine⟨Ask.mk (show(0+(l.map cY.av).length+1+0) * 56<=175921860444160 by rw[a0];omega),sB ?_⟩
   refine cP ?_
   refine⟨(dH (e:=105) (sz:=3) (es:=l.map cY.av++[e.av]++[]) bu ?_).trans ?_⟩
   ·show _=0+_+1+_
    simp only[List.length_append,List.length_cons,List.length_nil]
    omega
   ·rw[cn _ (by rw[show l.map cY.av++[e.av]++[]=(l++[e]).map cY.av by simp];exact(cD _ _).2 fun _ _=>by simp[cH])]
    simp
abbrev GO (u:bx) (l:List cV):AV:= .im 11 .any (l.map fun f=>j7 u (f,f.m.stuck u))
noncomputable def GM (u:bx) (most:Int):AV:=if(dZ u most).1=0 then .dI [GO u (dZ u most).2,i64 0] else .dI [.sc (.slice none 0 0),i64 (dZ u most).1]
theorem vB (u:bx) (hu:u.Wf) (most:Int) (c0:Pure Tryz.prog 37 [u.av] (fun r=>r=mE (gQ u))):Pure Tryz.prog 100 [u.av,i64 most] (fun r=>r=GM u most):=by
 unfold GM
 by_cases hr:cg u
 ·rw[js.2 hr] at c0
  by_cases hm:1<=most/\most<=65536
  ·obtain⟨mo,rfl⟩:∃mo:Nat,most=mo:=⟨most.toNat,by omega⟩
   have:=JO u hu hr mo (by omega) c0
   rw[mB hr hm,Int.toNat_natCast]
   unfold vA at this
   cases h:gP u mo with
   |none=>rw[h] at this;rw[if_neg (by decide)];exact this
   |some l=>rw[h] at this;rw[if_pos rfl];exact this
  ·rw[jL hr hm,if_neg (by decide)]
   refine aD NF rfl ?_
   by_cases h1:most<1
   ·refine cP ?_
    first|exact rfl|trivial
   ·refine cP ?_
    first|exact rfl|trivial
 ·rw[lV hr,if_neg (by decide)]
  have hb:=pH hr
  generalize gQ u=ck at *
  obtain⟨x,y,z⟩:=ck
  dsimp only at hb
  subst hb
  refine aD NF rfl ?_
  refine cP ?_
  first|exact rfl|trivial
end Go.Proofs.YtjopoheligmmoaaGreatDoor
namespace Go.cw
open Go.RowKit
theorem Wk.jE (H:Hp) (nx sz:Nat):Wk (.sc (.slice none 0 0)) H nx (.im sz .any []) H nx:=by
 refine Wk.tell (Nat.le_refl _) (fun b e sz' d es he=> .inl ⟨d,es,he,rfl⟩) (fun w0 c c2 hS hU hc hc2 hw hle hnew hM=>⟨db.jE c c2 sz .any,fun b e sz' d es d0 es0 h1 h2=> ?_⟩)
 rw[h1] at h2
 cases h2
 exact dW.cc hle _
end Go.cw
namespace Go.Proofs.YtjopoheligmmoaaGreatDoor
open Go Go.cw Go.Proofs
set_option linter.unusedSimpArgs false
set_option linter.unusedVariables false
set_option maxRecDepth 8000
theorem OC {u:bx} {l:List cV} {i:Nat} (hi:i<l.length) (d:AV):(l.map fun f=>j7 u (f,f.m.stuck u)).getD ((i:Int)).toNat d=j7 u (l.getD i default,(l.getD i default).m.stuck u):=by
 rw[Int.toNat_natCast];exact cx (fun f=>j7 u (f,f.m.stuck u)) l i d hi
theorem A5 (e:cY):∀l:List cY,(fS l e).length<=l.length+1
 |[]=>by simp[fS]
 |x::l=>by
  rw[fS]
  have:=A5 e l
  split
  ·simp only[List.length_cons];omega
  ·split<;>simp
theorem w7:∀(l m:List cY),(l.foldl fS m).length<=m.length+l.length
 |[],m=>Nat.le_refl _
 |x::l,m=>by
  rw[List.foldl_cons,List.length_cons]
  have h1:=w7 l (fS m x)
  have h2:=A5 x m
  omega
theorem EG (u:bx) (hu:u.Wf) (most:Int) (cK:Pure Tryz.prog 37 [u.av] (fun r=>r=mE (gQ u))):Pure Tryz.prog 57 [u.av,i64 most] (fun r=>r=qH u most):=by
 have c0:=vB u hu most cK
 unfold GM at c0
 unfold qH
 refine aD aA1 rfl ?_
 rcases tY u hu most with⟨h1,h2⟩|⟨l,hr,hm1,hm2,hs,hE,hf,hlm⟩
 ·rw[if_neg h1] at c0 ⊢
  generalize (dZ u most).1=e at *
  refine cP ?_
  refine aF (fun i:Nat=>[(6, .sc (.slice none 0 0)),(7,i64 e),(8, .sc (.slice none 0 0)),(9,i64 i)]) (fun i H n=>i=0) (fun i=>i) 0 cC rfl ?_
  rintro i H n rfl
  refine cP ?_
  first|exact rfl|trivial
 ·rw[hE,if_pos rfl] at c0 ⊢
  dsimp only at c0 ⊢
  have a0:(l.map fun f=>j7 u (f,f.m.stuck u)).length=l.length:=by simp
  refine cP ?_
  refine aR (fun i:Nat=>[(6,GO u l),(7,i64 0),(8,fI ((dU u l i).foldl fS [])),(9,i64 i)]) (fun i H n=>i<=l.length) (fun i=>l.length - i) 0 ⟨_,_,_,Rt.slot 8 rfl (Wk.jE _ _ 3),cC,Nat.zero_le _⟩ ?_
  rintro i H n hi
  by_cases hil:i<l.length
  ·have e0:=fun d=>OC (u:=u) hil d
   obtain⟨hok,hpl⟩:=hf.ok i hil
   have c1:=xH u hr (l.getD i default).m hok (by omega)
   have hsc:=sJ (u:=u) hil
   by_cases hst:(l.getD i default).m.stuck u=true
   ·rw[if_pos hst] at hsc
    have hlen:=w7 (dU u l i) []
    have hle:=kC u l i
    have c2:=N6 ((dU u l i).foldl fS []) ((l.getD i default).m.end_ u) (fun x hx=>by
     rcases((SE (l:=dU u l i) (m:=[]) List.Pairwise.nil).2 x).1 hx with h|h
     ·cases h
     ·exact oH hr hf (by omega) i x h) (by simp only[List.length_nil] at hlen;omega)
    have r0:=hst
    refine cP ?_
    show iR _ _ [MS.av u (l.getD i default).m] _ _ _
    refine cP ?_
    refine⟨i+1,by omega,_,_,_,Rt.refl _ _ _, ?_,by omega⟩
    rw[hsc,List.foldl_append]
    exact cC
   ·rw[if_neg hst,List.append_nil] at hsc
    have r0:(l.getD i default).m.stuck u=false:=Bool.eq_false_iff.2 hst
    refine cP ?_
    refine⟨i+1,by omega,_,_,_,Rt.refl _ _ _, ?_,by omega⟩
    rw[hsc]
    exact cC
  ·obtain rfl:i=l.length:=by omega
   rw[<-N5]
   refine cP ?_
   first|exact rfl|trivial
noncomputable def yV (u:bx) (most:Int) (e:cY):AV:=if(dZ u most).1=0 then(match fP u (dZ u most).2 e (dZ u most).2.length with
 |none=> .dI [.sc (.slice none 0 0),bl false,i64 0]
 |some i=> .dI [cT (iV (dZ u most).2 (some i)),bl true,i64 0]) else .dI [.sc (.slice none 0 0),bl false,i64 (dZ u most).1]
theorem QI {H:Hp} {b n:Nat} {d:AV} {O:List Int} (h:bt H b=some (.row 3 1 d (O.map i64))) (hl:(O.map i64).length=n):cw.dY H 6 (.dI [.sl b n,bl true,i64 0])= .dI [cT O,bl true,i64 0]:=by
 show AV.dI (List.map (cw.dY H 5) [.sl b n,bl true,i64 0])=_
 rw[List.map_cons,List.map_cons,List.map_cons,List.map_nil,dH h hl,cn _ ((cD _ _).2 fun _ _=>by simp[cH]),dA _ (show cH 0 (bl true) by simp[cH]),dA _ (show cH 0 (i64 0) by simp[cH])]
set_option maxHeartbeats 4000000 in
theorem J0 (u:bx) (hu:u.Wf) (most:Int) (e:cY) (he1:e.cA.length * 16<=140737488355328) (he2:e.mem.length * 8<=140737488355328) (cK:Pure Tryz.prog 37 [u.av] (fun r=>r=mE (gQ u))):Pure Tryz.prog 64 [u.av,i64 most,e.av] (fun r=>r=yV u most e):=by
 have c0:=vB u hu most cK
 unfold GM at c0
 refine cp ?_ (by unfold yV;split<;>(try split)<;>simp[cH,c8,cD])
 unfold yV
 refine aJ aA7 rfl ?_
 rcases tY u hu most with⟨h1,h2⟩|⟨l,hr,hm1,hm2,hs,hE,hf,hlm⟩
 ·rw[if_neg h1] at c0 ⊢
  generalize (dZ u most).1=e at *
  refine cP ?_
  refine aF (fun i:Nat=>[(9, .sc (.slice none 0 0)),(10,i64 e),(11,i64 i)]) (fun i H n=>i=0) (fun i=>i) 0 cC rfl ?_
  rintro i H n rfl
  refine cP ?_
  exact⟨dA 6 (by simp[cH,c8])⟩
 ·rw[hE,if_pos rfl] at c0 ⊢
  dsimp only at c0 ⊢
  have a0:(l.map fun f=>j7 u (f,f.m.stuck u)).length=l.length:=by simp
  refine cP ?_
  refine aF (fun i:Nat=>[(5, .pt 1 1 0 0),(9,GO u l),(10,i64 0),(11,i64 i)]) (fun i H n=>i<=l.length/\2<=n/\fP u l e i=none/\∃d,bt H 1=some (.row 105 3 d [e.av])) (fun i=>l.length - i) 0 cC ⟨Nat.zero_le _,cX,rfl,⟨_,bu⟩⟩ ?_
  rintro i H n ⟨hi,hn,hh,⟨d1,r1'⟩⟩
  by_cases hil:i<l.length
  ·have e0:=fun d=>OC (u:=u) hil d
   obtain⟨hok,hpl⟩:=hf.ok i hil
   have hml:=hok.ml
   have hgl:=hr.oh
   have c1:=xH u hr (l.getD i default).m hok (by omega)
   have c2:=mW ((l.getD i default).m.end_ u) e (by show(l.getD i default).m.cA.length<_;omega) (by show(l.getD i default).m.mem.length<_;omega)
   have hsc:=pV u l e i
   rw[hh] at hsc
   dsimp only at hsc
   by_cases hst:(l.getD i default).m.stuck u=true
   ·rw[hst,Bool.true_and] at hsc
    by_cases hc:eJ ((l.getD i default).m.end_ u) e=0
    ·rw[decide_eq_true hc,if_pos rfl] at hsc
     rw[hc] at c2
     have hfind:fP u l e l.length=some i:=by
      have key:∀k,i+1<=k->fP u l e k=some i:=by
       intro k hk
       induction k with
       |zero=>omega
       |succ k ih=>
        by_cases ek:k=i
        ·rw[ek];exact hsc
        ·rw[pV,ih (by omega)]
      exact key _ (by omega)
     rw[hfind]
     dsimp only
     have r0:=hst
     refine cP ?_
     show kU _ _ _ [MS.av u (l.getD i default).m] _ _
     refine cP ?_
     refine aR (fun σ:Nat×List Int=>[(9,GO u l),(12, .sl (n+22) σ.2.length),(13,i64 σ.1)]) (fun σ H n2=>σ.1<l.length/\σ.2.length+σ.1<=i/\n+23<=n2/\σ.2++kW l σ.1=kW l i/\∃d,bt H (n+22)=some (.row 3 1 d (σ.2.map i64))) (fun σ=>σ.1) (i,[]) ⟨_,_,_,Rt.nil 12 3 1 (by omega) rfl,cC,hil,by simp,cX,rfl,⟨_,bu⟩⟩ ?_
     clear r0 c1 c2 e0 r1' hsc hc hst hh hok hpl hml
     rintro⟨q,B⟩ H2 n2 ⟨hq,hB,hn2,hBq,⟨d2,r2'⟩⟩
     dsimp only at hq hB hBq r2' ⊢
     have e0:=fun d=>OC (u:=u) hq d
     have a1:(B.map i64).length=B.length:=by simp
     by_cases h0:0<=(l.getD q default).from_
     ·obtain⟨g1,g2⟩:=hf.tD hq h0
      have hon:=py hf hq h0
      refine cP ?_
      refine⟨((l.getD q default).from_.toNat,B++[(l.getD q default).cr]),g1,_,_,_,Rt.refl _ _ _, ?_,by dsimp only;omega,by dsimp only;rw[List.length_append,List.length_cons,List.length_nil];omega,cX,by dsimp only;rw[List.append_assoc,<-hBq,hon];rfl,⟨_,by dsimp only;rw[List.map_append];exact bu⟩⟩
      dsimp only
      rw[Int.toNat_of_nonneg h0,List.length_append]
      exact cC
     ·rw[rD h0,List.append_nil] at hBq
      have hBl:B.length<=65536:=by omega
      refine cP ?_
      refine aR (fun σ:Int×List Int=>[(12, .sl (n+22) B.length),(14, .sl (n2+11) σ.2.length),(15,i64 σ.1)]) (fun σ H n3=>σ.1=(B.length:Int) - 1 - (σ.2.length:Int)/\σ.2.length<=B.length/\σ.2=B.reverse.take σ.2.length/\n2+12<=n3/\(∃d,bt H (n+22)=some (.row 3 1 d (B.map i64)))/\∃d,bt H (n2+11)=some (.row 3 1 d (σ.2.map i64))) (fun σ=>(σ.1+1).toNat) ((B.length:Int) - 1,[]) ⟨_,_,_,Rt.nil 14 3 1 (by omega) rfl,cC,by simp,Nat.zero_le _,by simp,cX,⟨_,(cN (by omega)).trans bu⟩,⟨_,bu⟩⟩ ?_
      clear r2' e0 hB
      rintro⟨k,O⟩ H3 n3 ⟨hk,hO,hOt,hn3,⟨d3,r3'⟩,⟨d4,r4'⟩⟩
      dsimp only at hk hO hOt r4' ⊢
      have a2:(O.map i64).length=O.length:=by simp
      by_cases hk0:0<=k
      ·have e0:∀d,(B.map i64).getD k.toNat d=i64 (B.getD k.toNat 0):=fun d=>iq (by omega) d
       have hnx:O++[B.getD k.toNat 0]=B.reverse.take (O.length+1):=by
        rw[List.take_succ_eq_append_getElem (by rw[List.length_reverse];omega),<-hOt,List.getElem_reverse]
        congr 2
        rw[List.getD,List.getElem?_eq_getElem (by omega),Option.getD_some]
        congr 1
        omega
       clear hOt
       refine cP ?_
       refine⟨(k - 1,O++[B.getD k.toNat 0]),by dsimp only;omega,_,_,_,Rt.refl _ _ _,by dsimp only;rw[List.length_append];exact cC,by dsimp only;rw[List.length_append,List.length_cons,List.length_nil];omega,by dsimp only;rw[List.length_append,List.length_cons,List.length_nil];omega,by dsimp only;rw[List.length_append,List.length_cons,List.length_nil,Nat.zero_add];exact hnx,cX,⟨_,bu⟩,⟨_,by dsimp only;rw[List.map_append];exact bu⟩⟩
      ·have hOB:O=iV l (some i):=by
        rw[hOt,List.take_of_length_le (by rw[List.length_reverse];omega),hBq];rfl
       clear hOt
       rw[<-hOB]
       clear hOB
       refine cP ?_
       refine⟨?_⟩
       exact QI bu a2
    ·rw[decide_eq_false hc,if_neg (by decide)] at hsc
     have r0:=hst
     have r1:=decide_eq_false hc
     refine cP ?_
     show kU _ _ _ [MS.av u (l.getD i default).m] _ _
     refine cP ?_
     exact⟨i+1,by omega,cC,by omega,cX,hsc,⟨_,bu⟩⟩
   ·have r0:(l.getD i default).m.stuck u=false:=Bool.eq_false_iff.2 hst
    rw[r0,Bool.false_and,if_neg (by decide)] at hsc
    refine cP ?_
    exact⟨i+1,by omega,cC,by omega,cX,hsc,⟨_,bu⟩⟩
  ·obtain rfl:i=l.length:=by omega
   rw[hh]
   refine cP ?_
   exact⟨dA 6 (by simp[cH,c8])⟩
theorem DP {l:List cY} {i:Nat} (h:i<l.length):iI (l.take (i+1))=if(l.getD i default).ended=true then iI (l.take i) else iI (l.take i)++[l.getD i default]:=by
 rw[List.take_succ_eq_append_getElem h,show l[i]=l.getD i default by simp[List.getD,h]]
 unfold iI
 rw[List.filter_append]
 cases he:(l.getD i default).ended<;>simp[he,-List.getD_eq_getElem?_getD]
theorem oe {u:bx} {most:Int} (h:(dZ u most).1≠0):dz u most=[]:=by unfold dz;rw[if_neg h]
theorem MF {H:Hp} {b n:Nat} {e:TypeId} {d:AV} {l:List cY} (h:bt H b=some (.row e 3 d (l.map cY.av))) (hl:l.length=n):cw.dY H 6 (.dI [.sl b n, .sc (.int .i64 0)])= .dI [fI l,i64 0]:=by
 show AV.dI (List.map (cw.dY H 5) [.sl b n, .sc (.int .i64 0)])=_
 rw[List.map_cons,List.map_cons,List.map_nil,dH h (by rw[List.length_map,hl]),cn _ (iH l),dA _ (show cH 0 (i64 0) by simp[cH])]
set_option maxHeartbeats 4000000 in
theorem s9 (u:bx) (hu:u.Wf) (most:Int):Pure Tryz.prog 24 [u.av,i64 most] (fun r=>r= .dI [fI (dz u most),i64 (dZ u most).1]):=by
 have cK:=sY u hu
 have c0:=EG u hu most cK
 clear cK
 unfold qH at c0
 by_cases h0:(dZ u most).1=0
 ·rw[if_pos h0] at c0
  rw[h0]
  unfold dz
  rw[if_pos h0]
  have hl:=x8 hu h0
  have hel:=uJ u (dZ u most).2
  generalize iG u (dZ u most).2=es at *
  have a0:(es.map cY.av).length=es.length:=List.length_map _
  refine cp ?_ (tC _ _)
  refine aJ YW rfl ?_
  refine cP ?_
  refine aR (fun σ:Nat×Nat=>[(6,fI es),(7,i64 0),(8, .sl σ.1 (iI (es.take σ.2)).length),(9,i64 σ.2)])
   (fun σ H n=>σ.2<=es.length/\σ.1<n/\∃d,bt H σ.1=some (.row 105 3 d ((iI (es.take σ.2)).map cY.av))) (fun σ=>es.length - σ.2)
   (_,0) ⟨_,_,_,Rt.nil 8 105 3 (by omega) rfl,cC,Nat.zero_le _,cX,⟨_,bu⟩⟩ ?_
  clear c0
  rintro⟨b,i⟩ H n ⟨hi,hb,⟨d0,r0'⟩⟩
  dsimp only at hi hb r0' ⊢
  by_cases hil:i<es.length
  ·have e0:∀d,(es.map cY.av).getD ((i:Int)).toNat d=(es.getD i default).av:=fun d=>by rw[Int.toNat_natCast];exact hX hil d
   have hnx:=DP hil
   have hlen:(iI (es.take i)).length<=i:=Nat.le_trans (List.length_filter_le _ _) (by rw[List.length_take];omega)
   have a1:((iI (es.take i)).map cY.av).length=(iI (es.take i)).length:=List.length_map _
   generalize es.getD i default=e at *
   generalize iI (es.take i)=l at *
   cases he:e.ended with
   |true=>
    rw[if_pos he] at hnx
    have r0:e.ended=true:=he
    refine cP ?_
    refine⟨(b,i+1),by dsimp only;omega,_,_,_,Rt.refl _ _ _,by dsimp only;rw[hnx];exact cC,by dsimp only;omega,cX,⟨_,by dsimp only;rw[hnx];exact bu⟩⟩
   |false=>
    rw[if_neg (by rw[he];simp)] at hnx
    have r0:e.ended=false:=he
    refine cP ?_
    refine⟨(b,i+1),by dsimp only;omega,_,_,_,Rt.refl _ _ _,by dsimp only;rw[hnx];exact cC,by dsimp only;omega,cX,⟨_,by dsimp only;rw[hnx,List.map_append];exact bu⟩⟩
  ·obtain rfl:i=es.length:=by omega
   rw[List.take_length] at r0' ⊢
   refine cP ?_
   exact⟨MF bu rfl⟩
 ·rw[if_neg h0] at c0
  rw[oe h0]
  have key:Pure Tryz.prog 24 [u.av,i64 most] (fun r=>r= .dI [.sc (.slice none 0 0),i64 (dZ u most).1]):=by
   generalize (dZ u most).1=x at *
   refine aD YW rfl ?_
   refine cP ?_
   refine aF (fun i:Nat=>[(6, .sc (.slice none 0 0)),(7,i64 x),(8, .sc (.slice none 0 0)),(9,i64 i)]) (fun i H n=>i=0) (fun i=>i) 0 cC rfl ?_
   rintro i H n rfl
   refine cP ?_
   first|exact rfl|trivial
  exact jw key (tC _ _) fun c=>db.dI (.cons (db.jE _ _ _ _) (.cons (fun _ h=>h) .nil))
theorem kR {x y:Int}:eG x y=0↔x=y:=by
 unfold eG
 split
 ·omega
 ·split<;>omega
theorem xQ {x y:Int}:eG x y<0↔x<y:=by
 unfold eG
 split
 ·omega
 ·split<;>omega
theorem LO (a b:List Int):si a b<0↔a.length<b.length\/a.length=b.length/\eR eG a b<0:=by
 unfold si
 simp only[lG]
 by_cases h:eG (a.length:Int) (b.length:Int)=0
 ·rw[if_pos h]
  have:=kR.1 h
  by_cases h2:eR eG a b=0
  ·rw[if_pos h2];constructor
   ·intro h;omega
   ·intro h;omega
  ·rw[if_neg h2];omega
 ·rw[if_neg h,xQ]
  have:¬(a.length:Int)=b.length:=fun e=>h (kR.2 e)
  omega
theorem B3:∀{a b:List Int} (i:Nat),a.length=b.length->(∀j,j<i->a.getD j 0=b.getD j 0)->i<a.length->a.getD i 0≠b.getD i 0->(eR eG a b<0↔a.getD i 0<b.getD i 0)
 |[],b,i,hl,hj,hi,hn=>by simp at hi
 |x::a,[],i,hl,hj,hi,hn=>by simp at hl
 |x::a,y::b,0,hl,hj,hi,hn=>by
  have hn:x≠y:=hn
  rw[eR,if_neg fun e=>hn (kR.1 e),xQ]
  exact Iff.rfl
 |x::a,y::b,i+1,hl,hj,hi,hn=>by
  have h0:x=y:=hj 0 (by omega)
  rw[eR,if_pos (kR.2 h0)]
  exact B3 i (by simpa using hl) (fun j h=>hj (j+1) (by omega)) (by simpa using hi) hn
theorem vX:∀{a b:List Int},a.length=b.length->(∀j,j<a.length->a.getD j 0=b.getD j 0)->eR eG a b=0
 |[],[],_,_=>rfl
 |[],y::b,hl,_=>by simp at hl
 |x::a,[],hl,_=>by simp at hl
 |x::a,y::b,hl,hj=>by
  have h0:x=y:=hj 0 (by simp)
  rw[eR,if_pos (kR.2 h0)]
  exact vX (by simpa using hl) fun j h=>hj (j+1) (by simpa using h)
theorem FG (a b:List Int) (hl:a.length=b.length) (hle:a.length<=65536):Pure Tryz.prog 65 [cT a,cT b] (fun r=>r=bl (decide (eR eG a b<0))):=by
 have a0:(a.map i64).length=a.length:=List.length_map _
 have a1:(b.map i64).length=a.length:=by rw[List.length_map,hl]
 refine aD aA8 rfl ?_
 refine cP ?_
 refine aF (fun i:Nat=>[(0,cT a),(1,cT b),(5,i64 i)]) (fun i H n=>i<=a.length/\∀j,j<i->a.getD j 0=b.getD j 0) (fun i=>a.length - i) 0 cC ⟨Nat.zero_le _,fun _ h=>by omega⟩ ?_
 rintro i H n ⟨hi,hall⟩
 by_cases hil:i<a.length
 ·have e0:∀d,(a.map i64).getD ((i:Int)).toNat d=i64 (a.getD i 0):=fun d=>ints_at hil d
  have e1:∀d,(b.map i64).getD ((i:Int)).toNat d=i64 (b.getD i 0):=fun d=>ints_at (by omega) d
  by_cases h:a.getD i 0=b.getD i 0
  ·have r0:decide (a.getD i 0≠b.getD i 0)=false:=decide_eq_false fun hh=>hh h
   refine cP ?_
   refine⟨i+1,by omega,cC,by omega,fun j hj=> ?_⟩
   by_cases hji:j=i
   ·subst hji;exact h
   ·exact hall j (by omega)
  ·have r0:decide (a.getD i 0≠b.getD i 0)=true:=decide_eq_true h
   have hc:=B3 i hl hall hil h
   refine cP ?_
   exact eD (by simp only[hc])
 ·obtain rfl:i=a.length:=by omega
  refine cP ?_
  refine eD (Eq.symm (decide_eq_false ?_))
  rw[vX hl hall];omega
theorem xB:∀(l:List (List Int)) (w x:List Int),lh w (l++[x])=if si x (lh w l)<0 then x else lh w l
 |[],w,x=>rfl
 |y::l,w,x=>by
  rw[List.cons_append,lh,lh]
  exact xB l _ x
def ot (l:List (List Int)) (i:Nat):List Int:=if i=0 then[] else lh (l.getD 0 []) ((l.take i).drop 1)
theorem CJ {l:List (List Int)} {i:Nat} (h:i<l.length):ot l (i+1)=if i=0\/si (l.getD i []) (ot l i)<0 then l.getD i [] else ot l i:=by
 unfold ot
 rw[if_neg (Nat.succ_ne_zero i)]
 by_cases h0:i=0
 ·subst h0
  rw[if_pos (.inl rfl)]
  cases l with
  |nil=>simp at h
  |cons a l=>rfl
 ·rw[if_neg h0,List.take_succ_eq_append_getElem h,List.drop_append_of_le_length (by rw[List.length_take];omega),xB,show l[i]=l.getD i [] by simp[List.getD,h]]
  by_cases hc:si (l.getD i []) (lh (l.getD 0 []) ((l.take i).drop 1))<0
  ·rw[if_pos hc,if_pos (.inr hc)]
  ·rw[if_neg hc,if_neg fun e=>e.elim h0 hc]
set_option maxHeartbeats 4000000 in
theorem EV (u:bx) (hu:u.Wf) (most:Int):Pure Tryz.prog 26 [u.av,i64 most] (fun r=>r= .dI [cT (kT u most),bl (decide (dz u most≠[])),i64 (dZ u most).1]):=by
 have cK:=sY u hu
 have c0:=s9 u hu most
 by_cases h0:(dZ u most).1=0
 ·have hway:∀e∈dz u most,Pure Tryz.prog 64 [u.av,i64 most,e.av] (fun r=>r= .dI [cT (iD u most e),bl true,i64 0])/\(iD u most e).length<=65536:=fun e he=>by
   obtain⟨hr,hf,hl⟩:=x7 hu h0
   obtain⟨i,g1,g2,g3,g4,g5⟩:=ry hu h0 he
   have hin:=zR hu h0 e (by
    unfold dz at he
    rw[if_pos h0] at he
    exact(List.mem_filter.1 he).1)
   obtain⟨q1,q2⟩:=hf.ok i g1
   have hm:=q1.ml
   have hs:=hr.oh
   have c:=J0 u hu most e (by rw[<-g4];show(((dZ u most).2.getD i default).m.cA).length * 16<=_;omega) (by rw[<-g4];show(((dZ u most).2.getD i default).m.mem).length * 8<=_;omega) cK
   unfold yV at c
   rw[if_pos h0,g2] at c
   refine⟨?_,(sC hu h0 he).2⟩
   unfold iD;rw[g2];exact c
  clear cK
  rw[h0] at c0 ⊢
  have hsl:=pc hu h0
  unfold kT kQ
  generalize dz u most=es at *
  have a0:(es.map cY.av).length=es.length:=List.length_map _
  have hbest:∀i,i<=es.length->(ot (es.map (iD u most)) i).length<=65536:=fun i hi=>by
   unfold ot
   split
   ·exact Nat.zero_le _
   ·rcases uj (((es.map (iD u most)).take i).drop 1) ((es.map (iD u most)).getD 0 []) with h|h
    ·rw[h]
     have:(es.map (iD u most)).getD 0 []=iD u most (es.getD 0 default):=by
      have h1:0<es.length:=by omega
      simp[List.getD,h1]
     rw[this]
     exact(hway _ (cO default (by omega))).2
    ·have:=List.mem_of_mem_take (List.mem_of_mem_drop h)
     obtain⟨e,he,hx⟩:=List.mem_map.1 this
     rw[<-hx]
     exact(hway e he).2
  refine cp ?_ (jt _ _ _)
  refine aJ YX rfl ?_
  refine cP ?_
  refine aR (fun i:Nat=>[(1,i64 most),(2, .pt 0 1 0 0),(7,fI es),(9,cT (ot (es.map (iD u most)) i)),(10,bl (decide (i≠0))),(11,i64 i)])
   (fun i H n=>i<=es.length/\1<=n/\∃d,bt H 0=some (.row 25 3 d [u.av])) (fun i=>es.length - i) 0
   ⟨_,_,_,Rt.slot 9 rfl (Wk.jE _ _ 1),cC,Nat.zero_le _,cX,⟨_,bu⟩⟩ ?_
  clear c0
  rintro i H n ⟨hi,hn,⟨d0,r0'⟩⟩
  by_cases hil:i<es.length
  ·have e0:∀d,(es.map cY.av).getD ((i:Int)).toNat d=(es.getD i default).av:=fun d=>by rw[Int.toNat_natCast];exact hX hil d
   have hmem:=cO (default:cY) hil
   obtain⟨c0,hwl⟩:=hway _ hmem
   have hg:(es.map (iD u most)).getD i []=iD u most (es.getD i default):=by simp[List.getD,hil]
   have hnx:=CJ (l:=es.map (iD u most)) (i:=i) (by rw[List.length_map];exact hil)
   rw[hg] at hnx
   have hb:=hbest i hi
   have hni:decide (i+1≠0)=true:=decide_eq_true (Nat.succ_ne_zero i)
   generalize ot (es.map (iD u most)) i=B at *
   generalize iD u most (es.getD i default)=W at *
   have a1:(W.map i64).length=W.length:=List.length_map _
   have a2:(B.map i64).length=B.length:=List.length_map _
   by_cases hi0:i=0
   ·subst hi0
    rw[if_pos (.inl rfl)] at hnx
    have r0:decide ((0:Nat)≠0)=false:=rfl
    refine cP ?_
    exact⟨0+1,by omega,_,_,_,Rt.refl _ _ _,by rw[hnx,hni];exact cC,by omega,cX,⟨_,bu⟩⟩
   ·have r0:decide (i≠0)=true:=decide_eq_true hi0
    have hW:=LO W B
    by_cases hlt:W.length<B.length
    ·have r1:decide (((W.map i64).length:Int)<((B.map i64).length:Int))=true:=decide_eq_true (by omega)
     rw[if_pos (.inr (hW.2 (.inl hlt)))] at hnx
     refine cP ?_
     exact⟨i+1,by omega,_,_,_,Rt.refl _ _ _,by rw[hnx,hni];exact cC,by omega,cX,⟨_,bu⟩⟩
    ·have r1:decide (((W.map i64).length:Int)<((B.map i64).length:Int))=false:=decide_eq_false (by omega)
     by_cases heq:W.length=B.length
     ·have r2:decide (((W.map i64).length:Int)=((B.map i64).length:Int))=true:=decide_eq_true (by omega)
      have c1:=FG W B heq hwl
      by_cases hc:eR eG W B<0
      ·rw[decide_eq_true hc] at c1
       rw[if_pos (.inr (hW.2 (.inr ⟨heq,hc⟩)))] at hnx
       refine cP ?_
       exact⟨i+1,by omega,_,_,_,Rt.refl _ _ _,by rw[hnx,hni];exact cC,by omega,cX,⟨_,bu⟩⟩
      ·rw[decide_eq_false hc] at c1
       rw[if_neg fun h=>(hW.1 (h.resolve_left hi0)).elim hlt fun h=>hc h.2] at hnx
       refine cP ?_
       exact⟨i+1,by omega,_,_,_,Rt.refl _ _ _,by rw[hnx,hni];exact cC,by omega,cX,⟨_,bu⟩⟩
     ·have r2:decide (((W.map i64).length:Int)=((B.map i64).length:Int))=false:=decide_eq_false (by omega)
      rw[if_neg fun h=>(hW.1 (h.resolve_left hi0)).elim hlt fun h=>heq h.1] at hnx
      refine cP ?_
      exact⟨i+1,by omega,_,_,_,Rt.refl _ _ _,by rw[hnx,hni];exact cC,by omega,cX,⟨_,bu⟩⟩
  ·obtain rfl:i=es.length:=by omega
   have hfin:ot (es.map (iD u most)) es.length=lh ((es.map (iD u most)).getD 0 []) ((es.map (iD u most)).drop 1):=by
    unfold ot
    split
    ·rename_i h
     rw[List.length_eq_zero_iff] at h
     subst h;rfl
    ·rw[List.take_of_length_le (by rw[List.length_map];exact Nat.le_refl _)]
   have hany:decide (es.length≠0)=decide (es≠[]):=by
    congr 1
    rw[ne_eq,ne_eq,List.length_eq_zero_iff]
   rw[hfin,hany]
   refine cP ?_
   exact⟨rfl⟩
 ·have hne:=oe h0
  have hw:kT u most=[]:=by unfold kT kQ;rw[hne];rfl
  rw[hne] at c0 ⊢
  rw[hw,decide_eq_false fun h=>h rfl]
  have key:Pure Tryz.prog 26 [u.av,i64 most] (fun r=>r= .dI [.sc (.slice none 0 0),bl false,i64 (dZ u most).1]):=by
   generalize (dZ u most).1=x at *
   refine aD YX rfl ?_
   refine cP ?_
   first|exact rfl|trivial
  exact jw key (jt _ _ _) fun c=>db.dI (.cons (db.jE _ _ _ _) (.cons (fun _ h=>h) (.cons (fun _ h=>h) .nil)))
theorem BY {u:bx} (hu:u.Wf) (most:Int):(kT u most).length<=65536:=by
 by_cases hne:dz u most=[]
 ·have hw:kT u most=[]:=by unfold kT kQ;rw[hne];rfl
  rw[hw];exact Nat.zero_le _
 ·exact(OQ (KM hu hne).2).2.1
theorem KN (u:bx) (hu:u.Wf) (most:Int):Pure Tryz.prog 5 [u.av,i64 most] (fun r=>r=bl true):=by
 have c0:=vQ u hu most
 have c1:=s9 u hu most
 have c2:=ZS u hu most
 have c3:=EV u hu most
 have hin:∀e∈dz u most,tO e:=fun e he=>by
  by_cases h0:(dZ u most).1=0
  ·exact zR hu h0 e (by
    unfold dz at he
    rw[if_pos h0] at he
    exact(List.mem_filter.1 he).1)
  ·rw[oe h0] at he;cases he
 have hsl:(dz u most).length<=65536:=by
  by_cases h0:(dZ u most).1=0
  ·exact pc hu h0
  ·rw[oe h0];exact Nat.zero_le _
 have c4:=yW (dz u most) (dz u most) hin hsl hsl
 rw[decide_eq_true rfl] at c4
 have c5:=kY (kT u most) (kT u most) (by have:=BY hu most;omega) (by have:=BY hu most;omega)
 rw[decide_eq_true rfl] at c5
 have c6:=yz
 generalize (dZ u most).1=e at *
 generalize decide (dz u most≠[])=b at *
 have r0:decide (e=e)=true:=decide_eq_true rfl
 refine aD lf5 rfl ?_
 cases b<;>
 ·refine cP ?_
  first|exact rfl|trivial
end Go.Proofs.YtjopoheligmmoaaGreatDoor
