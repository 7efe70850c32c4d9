import Derived.Test.YtekfmjjmihomlaaGreatM38
section
/- Each end has a way, which a machine goes; its prints are shown: the law's walk. -/
namespace Go.Proofs.YtekfmjjmihomlaaGreat
open Go Go.cO Go.Proofs
set_option linter.unusedSimpArgs false
set_option linter.unusedVariables false
set_option maxRecDepth 8000
set_option maxHeartbeats 8000000 in
theorem mn (u:bf) (hu:u.Wf) (most:Int) (hw:di most):Pure Tryz.prog 9 [u.av,i64 most] (fun r=>r=bl true):=by
 have c0:=sq
 have c1:=mm u hu most
 have a0:(u.bk.map cC.av).length=u.bk.length:=by simp
 refine aI LD rfl ?_
 rcases v7 u hu most with⟨h1,h2⟩|⟨l,hr,hm1,hm2,hs,hE,hf,hlm⟩
 ·unfold ln at c1
  rw[if_neg h1] at c1
  generalize (fZ u most).1=e at *
  refine cM ?_
  first|exact rfl|trivial
 ·unfold ln at c1
  rw[hE,if_pos rfl] at c1
  dsimp only at c1
  obtain⟨M,rfl⟩:∃M:Nat,most=M:=⟨most.toNat,by omega⟩
  rw[Int.toNat_natCast] at hs hlm
  have hgl:=hr.AP
  have hel:=yz u l
  have hstr:=rk u l
  have hit:=fun e (h:e∈j6 u l)=>FM h
  generalize hEE:j6 u l=E at *
  have a1:(E.map dD.av).length=E.length:=by simp
  refine cM ?_
  refine aR (fun i:Nat=>[(1,i64 M),(2, .pt 0 1 0 0),(5,jQ E),(7,i64 i)]) (fun i H n=>i≤E.length∧1≤n∧∃d,bd H 0=some (.row 25 3 d [u.av])) (fun i=>E.length - i) 0 cJ ⟨Nat.zero_le _,cW,⟨_,bg⟩⟩ ?_
  clear c0 c1 hEE
  rintro i H n ⟨hi,hn,⟨d0,r0'⟩⟩
  by_cases h1:i<E.length
  ·have e0:∀d,(E.map dD.av).getD ((i:Int)).toNat d=(E.getD i default).av:=fun d=>by rw[Int.toNat_natCast];exact dJ dD.av E i d h1
   have e1:∀d,(E.map dD.av).getD ((i:Int) - 1).toNat d=(E.getD (i - 1) default).av:=fun d=>by rw[show((i:Int) - 1).toNat=i - 1 by omega];exact dJ dD.av E (i - 1) d (by omega)
   obtain⟨q,hq,hhit,hst,hend⟩:=hit _ (cU default h1)
   obtain⟨hok,hpl⟩:=hf.ok q hq
   obtain⟨hway,hrun⟩:=EK hf q hq
   have hbeg:=sN hf q hq
   have hstk:=(AG hok).1 hst
   have hml:(l.getD q default).m.mem.length≤65536:=by have:=hok.ml;omega
   have hepl:(E.getD i default).bh.length≤65536:=by rw[←hend];show(l.getD q default).m.bh.length≤_;omega
   have heml:(E.getD i default).mem.length≤65536:=by rw[←hend];show(l.getD q default).m.mem.length≤_;omega
   have c2:=vO u hu M (E.getD i default) (by omega) (by omega)
   unfold pe at c2
   rw[hE,if_pos rfl] at c2
   dsimp only at c2
   rw[hhit] at c2
   have hprev:i≠0→dq (E.getD (i - 1) default) (E.getD i default)<0:=fun h=>oG hstr default (by omega) h1
   have c1:i≠0→Pure Tryz.prog 19 [(E.getD (i - 1) default).av,(E.getD i default).av] (fun r=>r=i64 (dq (E.getD (i - 1) default) (E.getD i default))):=fun h=>by
    obtain⟨q',hq',_,_,hend'⟩:=hit _ (cU default (show i - 1<E.length by omega))
    obtain⟨hok',hpl'⟩:=hf.ok q' hq'
    have:=hok'.ml
    refine mi _ _ ?_ ?_
    ·rw[←hend'];show(l.getD q' default).m.bh.length<_;omega
    ·rw[←hend'];show(l.getD q' default).m.mem.length<_;omega
   clear hstr hit
   by_cases h0:i=0
   ·clear c1 hprev e1
    have r0:decide ((0:Int)<(i:Int))=false:=decide_eq_false (by omega)
    refine cM ?_
    clear r0
    refine aJ (mD u hu hr _ _) ?_
    rintro r H1 n1 ⟨L,rfl,hM,hlt,hn1,hk1⟩
    refine cM ?_
    have hWl:(ef l (some q)).length≤65536:=by show(j5 l q).reverse.length≤_;rw[List.length_reverse];exact Nat.le_trans (kM l q q) (by omega)
    generalize hW:ef l (some q)=W at *
    have a2:(W.map i64).length=W.length:=by simp
    refine aR (fun k:Nat=>[(1,i64 M),(2, .pt 0 1 0 0),(5,jQ E),(7,i64 i),(8,cr W),(11, .pt L.mr 1 0 0),(13,i64 k)]) (fun k H n=>k≤W.length∧L.At u (runM u (dK u) (W.take k)) H∧(∀y∈L.all,0<y∧y<n)∧1≤n∧∃d,bd H 0=some (.row 25 3 d [u.av])) (fun k=>W.length - k) 0 cJ ⟨Nat.zero_le _,hM.cE (fun y hy=>by have:=hlt y hy;exact bq),fun y hy=>⟨by have:=hlt y hy;omega,Nat.lt_of_lt_of_le (hlt y hy).2 cW⟩,cW,⟨_,Eq.trans bq ((hk1 0 (by omega)).trans (Eq.trans bq r0'))⟩⟩ ?_
    clear hM hlt hn1 hk1 r0' hn c2
    rintro k H2 n2 ⟨hk,hM,hlt,hn2,⟨d0,r0'⟩⟩
    have hz:(0:Nat)∉L.all:=fun h=>by have:=hlt _ h;omega
    by_cases hkl:k<W.length
    ·obtain⟨⟨j,hj,hmj⟩,ht⟩:=hway k hk
     obtain⟨t,ht1,ht2,ht3⟩:=ht hkl
     have hnx:=qp u (dK u) W hkl
     rw[ht1,Int.toNat_natCast] at hnx
     obtain⟨hokj,hplj⟩:=hf.ok j hj
     rw[←hmj] at hokj hplj
     have e1:∀d,(W.map i64).getD ((k:Int)).toNat d=i64 t:=fun d=>by rw[eV (l:=W) hkl d,ht1]
     clear ht hway hmj
     generalize runM u (dK u) (W.take k)=m at *
     refine cM ?_
     refine aJ (nL hu hr hokj (hM.cE fun y hy=> ?_) (fun y hy=>Nat.lt_of_lt_of_le (hlt y hy).2 cW) (by omega) ht2 ht3) ?_
     ·have:=hlt y hy;exact bq
     rintro r H3 n3 ⟨rfl,hM3,hn3,hk3⟩
     rw[←hnx] at hM3
     refine cM ?_
     exact⟨k+1,by omega,cJ,by omega,hM3.cE (fun y hy=>by have:=hlt y hy;exact bq),fun y hy=>⟨(hlt y hy).1,Nat.lt_of_lt_of_le (hlt y hy).2 cW⟩,cW,⟨_,Eq.trans bq ((hk3 0 (by omega) hz).trans bg)⟩⟩
    ·rw[List.take_of_length_le (by omega),hrun] at hM
     generalize (l.getD q default).m=m at *
     refine cM ?_
     refine aU (fun k:Nat=>[(1,i64 M),(2, .pt 0 1 0 0),(5,jQ E),(7,i64 i),(11,m.fz u),(16,i64 k)]) (fun k H n=>k≤u.bk.length∧1≤n∧∃d,bd H 0=some (.row 25 3 d [u.av])) (fun k=>u.bk.length - k) 0 ⟨_,_,_,Rt.slot 11 rfl (BA (hM.cE fun y hy=> ?_) _),cJ,Nat.zero_le _,cW,⟨_,(dN hz).trans (Eq.trans bq r0')⟩⟩ ?_
     ·have:=hlt y hy;exact bq
     clear hM hlt r0' hway hrun hk hn2 hkl hz
     rintro k2 H3 n3 ⟨hk2,hn3,⟨d0,r0'⟩⟩
     by_cases hk2l:k2<u.bk.length
     ·have c1:=rZ u hr m hok k2
      rw[decide_eq_false (hstk k2 hk2l)] at c1
      refine cM ?_
      exact⟨k2+1,by omega,_,_,_,Rt.refl _ _ _,cJ,by omega,cW,⟨_,bg⟩⟩
     ·have c1:=nc u hr m hok (by omega) (by omega)
      rw[hend] at c1
      have hpr:m.bh=(E.getD i default).bh:=by rw[←hend];rfl
      rw[hpr] at hbeg
      clear hstk hpr hend hok hpl hml
      generalize E.getD i default=e at *
      have c3:=pU e e (by omega) (by omega)
      rw[(gP.zero _ _).2 rfl] at c3
      have a3:(e.bh.map cL.av).length=e.bh.length:=by simp
      by_cases h20:i≤20
      ·refine cM ?_
       refine aR (fun k:Nat=>[(1,i64 M),(2, .pt 0 1 0 0),(5,jQ E),(7,i64 i),(17,i64 k)]) (fun k H n=>k≤e.bh.length+1∧1≤n∧∃d,bd H 0=some (.row 25 3 d [u.av])) (fun k=>e.bh.length+1 - k) 0 cJ ⟨Nat.zero_le _,cW,⟨_,bg⟩⟩ ?_
       clear r0' hn3 hk2 hk2l c1 c3
       rintro k H4 n4 ⟨hk,hn4,⟨d0,r0'⟩⟩
       by_cases hkl:k≤e.bh.length
       ·have c1:=pY u hu M (e.bh.take k) (by rw[List.length_take];omega)
        obtain⟨j,hj,hp⟩:=hbeg k hkl
        rw[hE,←hp] at c1
        dsimp only at c1
        rw[nb hj,hp] at c1
        have hfl:cN 0 (List.take k (e.bh.map cL.av)):=by rw[←List.map_take];exact(bz _ _).2 fun _ _=>by simp[bx]
        have e9:(AV.im 2 .any (List.take ((k:Int).toNat - 0) (List.drop 0 (e.bh.map cL.av))))=dH (e.bh.take k):=by rw[Int.toNat_natCast,Nat.sub_zero,List.drop_zero,←List.map_take]
        refine cM ?_
        refine aT c1 ?_ (by simp[cN,bx,hfl]) (by simp[fe]) ?_
        ·rw[List.map_cons,List.map_cons,List.map_cons,List.map_nil,e9,dB _ (show bx 0 (AV.agg u.cells) by simp[bx]),dB _ (show bx 0 (i64 M) by simp[bx]),dB _ (show bx 0 (dH (e.bh.take k)) by simp[bx,hfl])]
        refine cM ?_
        exact⟨k+1,by omega,cJ,by omega,cW,⟨_,bg⟩⟩
       ·refine cM ?_
        exact⟨i+1,by omega,cJ,by omega,cW,⟨_,bg⟩⟩
      ·first
        |(exfalso;omega)
        |(refine cM ?_
          exact⟨i+1,by omega,cJ,by omega,cW,⟨_,bg⟩⟩)
   ·have c1:=c1 h0
    have hprev:=hprev h0
    refine cM ?_
    clear c1 hprev e1
    refine aJ (mD u hu hr _ _) ?_
    rintro r H1 n1 ⟨L,rfl,hM,hlt,hn1,hk1⟩
    refine cM ?_
    have hWl:(ef l (some q)).length≤65536:=by show(j5 l q).reverse.length≤_;rw[List.length_reverse];exact Nat.le_trans (kM l q q) (by omega)
    generalize hW:ef l (some q)=W at *
    have a2:(W.map i64).length=W.length:=by simp
    refine aR (fun k:Nat=>[(1,i64 M),(2, .pt 0 1 0 0),(5,jQ E),(7,i64 i),(8,cr W),(11, .pt L.mr 1 0 0),(13,i64 k)]) (fun k H n=>k≤W.length∧L.At u (runM u (dK u) (W.take k)) H∧(∀y∈L.all,0<y∧y<n)∧1≤n∧∃d,bd H 0=some (.row 25 3 d [u.av])) (fun k=>W.length - k) 0 cJ ⟨Nat.zero_le _,hM.cE (fun y hy=>by have:=hlt y hy;exact bq),fun y hy=>⟨by have:=hlt y hy;omega,Nat.lt_of_lt_of_le (hlt y hy).2 cW⟩,cW,⟨_,Eq.trans bq ((hk1 0 (by omega)).trans (Eq.trans bq r0'))⟩⟩ ?_
    clear hM hlt hn1 hk1 r0' hn c2
    rintro k H2 n2 ⟨hk,hM,hlt,hn2,⟨d0,r0'⟩⟩
    have hz:(0:Nat)∉L.all:=fun h=>by have:=hlt _ h;omega
    by_cases hkl:k<W.length
    ·obtain⟨⟨j,hj,hmj⟩,ht⟩:=hway k hk
     obtain⟨t,ht1,ht2,ht3⟩:=ht hkl
     have hnx:=qp u (dK u) W hkl
     rw[ht1,Int.toNat_natCast] at hnx
     obtain⟨hokj,hplj⟩:=hf.ok j hj
     rw[←hmj] at hokj hplj
     have e1:∀d,(W.map i64).getD ((k:Int)).toNat d=i64 t:=fun d=>by rw[eV (l:=W) hkl d,ht1]
     clear ht hway hmj
     generalize runM u (dK u) (W.take k)=m at *
     refine cM ?_
     refine aJ (nL hu hr hokj (hM.cE fun y hy=> ?_) (fun y hy=>Nat.lt_of_lt_of_le (hlt y hy).2 cW) (by omega) ht2 ht3) ?_
     ·have:=hlt y hy;exact bq
     rintro r H3 n3 ⟨rfl,hM3,hn3,hk3⟩
     rw[←hnx] at hM3
     refine cM ?_
     exact⟨k+1,by omega,cJ,by omega,hM3.cE (fun y hy=>by have:=hlt y hy;exact bq),fun y hy=>⟨(hlt y hy).1,Nat.lt_of_lt_of_le (hlt y hy).2 cW⟩,cW,⟨_,Eq.trans bq ((hk3 0 (by omega) hz).trans bg)⟩⟩
    ·rw[List.take_of_length_le (by omega),hrun] at hM
     generalize (l.getD q default).m=m at *
     refine cM ?_
     refine aU (fun k:Nat=>[(1,i64 M),(2, .pt 0 1 0 0),(5,jQ E),(7,i64 i),(11,m.fz u),(16,i64 k)]) (fun k H n=>k≤u.bk.length∧1≤n∧∃d,bd H 0=some (.row 25 3 d [u.av])) (fun k=>u.bk.length - k) 0 ⟨_,_,_,Rt.slot 11 rfl (BA (hM.cE fun y hy=> ?_) _),cJ,Nat.zero_le _,cW,⟨_,(dN hz).trans (Eq.trans bq r0')⟩⟩ ?_
     ·have:=hlt y hy;exact bq
     clear hM hlt r0' hway hrun hk hn2 hkl hz
     rintro k2 H3 n3 ⟨hk2,hn3,⟨d0,r0'⟩⟩
     by_cases hk2l:k2<u.bk.length
     ·have c1:=rZ u hr m hok k2
      rw[decide_eq_false (hstk k2 hk2l)] at c1
      refine cM ?_
      exact⟨k2+1,by omega,_,_,_,Rt.refl _ _ _,cJ,by omega,cW,⟨_,bg⟩⟩
     ·have c1:=nc u hr m hok (by omega) (by omega)
      rw[hend] at c1
      have hpr:m.bh=(E.getD i default).bh:=by rw[←hend];rfl
      rw[hpr] at hbeg
      clear hstk hpr hend hok hpl hml
      generalize E.getD i default=e at *
      have c3:=pU e e (by omega) (by omega)
      rw[(gP.zero _ _).2 rfl] at c3
      have a3:(e.bh.map cL.av).length=e.bh.length:=by simp
      by_cases h20:i≤20
      ·refine cM ?_
       refine aR (fun k:Nat=>[(1,i64 M),(2, .pt 0 1 0 0),(5,jQ E),(7,i64 i),(17,i64 k)]) (fun k H n=>k≤e.bh.length+1∧1≤n∧∃d,bd H 0=some (.row 25 3 d [u.av])) (fun k=>e.bh.length+1 - k) 0 cJ ⟨Nat.zero_le _,cW,⟨_,bg⟩⟩ ?_
       clear r0' hn3 hk2 hk2l c1 c3
       rintro k H4 n4 ⟨hk,hn4,⟨d0,r0'⟩⟩
       by_cases hkl:k≤e.bh.length
       ·have c1:=pY u hu M (e.bh.take k) (by rw[List.length_take];omega)
        obtain⟨j,hj,hp⟩:=hbeg k hkl
        rw[hE,←hp] at c1
        dsimp only at c1
        rw[nb hj,hp] at c1
        have hfl:cN 0 (List.take k (e.bh.map cL.av)):=by rw[←List.map_take];exact(bz _ _).2 fun _ _=>by simp[bx]
        have e9:(AV.im 2 .any (List.take ((k:Int).toNat - 0) (List.drop 0 (e.bh.map cL.av))))=dH (e.bh.take k):=by rw[Int.toNat_natCast,Nat.sub_zero,List.drop_zero,←List.map_take]
        refine cM ?_
        refine aT c1 ?_ (by simp[cN,bx,hfl]) (by simp[fe]) ?_
        ·rw[List.map_cons,List.map_cons,List.map_cons,List.map_nil,e9,dB _ (show bx 0 (AV.agg u.cells) by simp[bx]),dB _ (show bx 0 (i64 M) by simp[bx]),dB _ (show bx 0 (dH (e.bh.take k)) by simp[bx,hfl])]
        refine cM ?_
        exact⟨k+1,by omega,cJ,by omega,cW,⟨_,bg⟩⟩
       ·refine cM ?_
        exact⟨i+1,by omega,cJ,by omega,cW,⟨_,bg⟩⟩
      ·first
        |(exfalso;omega)
        |(refine cM ?_
          exact⟨i+1,by omega,cJ,by omega,cW,⟨_,bg⟩⟩)
  ·refine cM ?_
   first|exact rfl|trivial
end Go.Proofs.YtekfmjjmihomlaaGreat
end
section
/- Each end has a way, which a machine goes and comes to it; its prints are shown, and each beginning of them; ends stand in order, each once: for every unit. No conditions. -/
namespace Go.Proofs.YtekfmjjmihomlaaGreat
open Go Go.cO Go.Proofs Go.RowKit Go.ChangeShapes Go.WideShapes Go.ChangeAt
set_option linter.unusedSimpArgs false
set_option linter.unusedVariables false
set_option maxRecDepth 100000 in
theorem lF (os:Os) (started:os.Started) (H:Type) (enc:TypeId×Value→H):
 ReturnsInHanded {} Tryz.checked os 9 .any (Rows.exploreGoesSpec.pre6 enc Tryz.prog Tryz.f9 Rows.exploreGoesRow.domain false) (Rows.exploreGoesSpec.post enc Tryz.prog Tryz.f9 false true false false):=by
 refine returnsInHanded_of_change_sized (C:=Tryz.checked) own started (by kernel_rfl) Tryz.func9
  (ChangeSpec.witness6 (enc:=enc) (C:=Tryz.checked) false ⟨#[],#[.agg #[.slice none 0 0, .slice none 0 0, .slice none 0 0], .int .i64 0],[]⟩ 8 (by kernel_rfl) (by kernel_rfl) (by kernel_rfl) (by kernel_rfl)) ?_
 intro W base args ds gs before hval hW _ hr _
 refine sD (ts:=[25,3]) (tb:=4) laidOut (by kernel_rfl) rfl Tryz.underlying4 (by kernel_rfl) (fun ds h=> ?_) (fun t ht=> ?_)
  (ku (ag:=true) (by kernel_rfl) w6 (fun h=>by cases h) (ku (ag:=false) (by kernel_rfl) (dY Tryz.underlying3) (fun _ _ _=>rfl) sI))
  (fun a h=> ?_) hval hW hr
 ·match ds,h with
  |[d0,d1],_=>rfl
 ·have:∀t∈[25,3],Tryz.prog.readableRec t=true∧t<Tryz.prog.types.size:=by
   simp only[List.forall_mem_cons]
   refine⟨⟨by kernel_rfl,of_decide_eq_true (by kernel_rfl)⟩,⟨by kernel_rfl,of_decide_eq_true (by kernel_rfl)⟩,by simp⟩
  exact this t ht
 ·exact mn a.1 h.1 a.2.1 h.2.1
theorem exploreGoes_holds:Rows.ExploreGoesSaid:=
 OpenClaim.holds_of_wide 9 Tryz.f9 rfl rfl rfl rfl rfl rfl rfl ⟨rfl,rfl,rfl,rfl,rfl⟩ rfl rfl rfl rfl rfl (by kernel_rfl) Tryz.func9 (by kernel_rfl)
  (of_decide_eq_true (by kernel_rfl)) (by unfold Func.isWrapper;first|(rw[if_pos (by decide+kernel)];kernel_rfl)|(rw[if_neg (by decide+kernel)];exact⟨rfl,rfl⟩))
  (fun os started H enc _=>lF os started H enc)
end Go.Proofs.YtekfmjjmihomlaaGreat
end
