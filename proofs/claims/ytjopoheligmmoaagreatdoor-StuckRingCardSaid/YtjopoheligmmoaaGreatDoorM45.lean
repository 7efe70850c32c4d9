import Derived.Test.YtjopoheligmmoaaGreatDoorM44
import Derived.Test.YtjopoheligmmoaaGreatDoorM41
import Derived.Test.YtjopoheligmmoaaGreatDoorM34
section
/- Ring: the walk. -/
namespace Go.Proofs.YtjopoheligmmoaaGreatDoor
open Go Go.cX Go.Proofs
set_option linter.unusedSimpArgs false
set_option linter.unusedVariables false
set_option maxRecDepth 8000
theorem _root_.Go.cX.WC.last {P:Program} {n lo:Nat} {fr:Fr} {H:Hp} {nx:Nat} {Q:QT} {code:Code} {lc:LC} (hl:cd P n code=some lc) (h:Go (W P n lo lc fr H nx Q)):WC P n lo code fr H nx Q:=WC.low hl (eo h)
theorem pB {a:AV} {H:Hp} {nx:Nat} {R:AV→Hp→Nat→Prop} (h:WC Tryz.prog 86 nx iS (iE 0 [a]) H nx (s7 [.tmp 2, .tmp 3, .tmp 4] R)):cI Tryz.prog 15 [a] H nx R:=by
 have hn:(Tryz.f15).ntmps=86:=OP
 refine cI.SA Tryz.func15 (by kernel_rfl) (show _=some iS by kernel_rfl) (lrs:=[.tmp 2, .tmp 3, .tmp 4]) (by kernel_rfl) (by rw[hn];exact(by decide:1≤86)) ?_
 rw[hn]
 exact h
theorem contains_nil (x:Int):Pure Tryz.prog 39 [.sc (.slice none 0 0),i64 x] (fun r=>r=bl false):=
 Pure.args (je [] x (by decide)) fun c=> .cons (cX.dQ.nE c c 1 .any) (.cons (fun _ h=>h) .nil)
theorem GO {H:Hp} {b:Nat} {e:TypeId} {d:AV} {l:List Int} (x:Int) (h:br H b=some (.row e 1 d (l.map i64))):[AV.sl b l.length,i64 x].map (cX.dU H 6)=[cR l,i64 x]:=by
 show[cX.dU H 6 (.sl b l.length),i64 x]=_
 rw[de (k:=5) h (by simp),cx _ ((cB _ _).2 fun _ _=>by simp[cK])]
theorem JC {L:List (Int×Nat)} (hb:(L.map (·.2)).Nodup) {p q:Int×Nat} (hp:p∈L) (hq:q∈L) (e:p.2=q.2):p=q:=by
 obtain⟨i,hi,rfl⟩:=List.getElem_of_mem hp
 obtain⟨j,hj,rfl⟩:=List.getElem_of_mem hq
 have:=(List.getElem_inj (xs:=L.map (·.2)) (h₀:=by simpa using hi) (h₁:=by simpa using hj) hb).1 (by simpa using e)
 subst this;rfl
theorem JA {L:List (Int×Nat)} (hb:(L.map (·.1)).Nodup) {p q:Int×Nat} (hp:p∈L) (hq:q∈L) (e:p.1=q.1):p=q:=by
 obtain⟨i,hi,rfl⟩:=List.getElem_of_mem hp
 obtain⟨j,hj,rfl⟩:=List.getElem_of_mem hq
 have:=(List.getElem_inj (xs:=L.map (·.1)) (h₀:=by simpa using hi) (h₁:=by simpa using hj) hb).1 (by simpa using e)
 subst this;rfl
theorem BU {L:List (Int×Nat)} {S S':Int→List Int} (h:∀p∈L,(S' p.1).length=(S p.1).length):eR L S'=eR L S:=List.map_congr_left fun p hp=>by rw[h p hp]
def KJ (u:bt) (r:AV) (H:Hp):Prop:=match lq u with
 |none=>r= .dP [.sc (.slice none 0 0),bl false,i64 0]
 |some w=>∃b d,r= .dP [.sl b w.length,bl true,i64 0]∧br H b=some (.row 3 1 d (w.map i64))
theorem OQ (u:bt) (hu:u.Wf) (hr:¬cY u):cI Tryz.prog 15 [u.av] [] 0 (fun r H n=>r= .dP [.sc (.slice none 0 0),bl false,i64 60]):=by
 have c0:=tq u hu hr
 refine pB ?_
 rw[ue]
 refine WC.cut ZL.ok ?_
 refine cT ?_
 refine⟨_,_,_,Rt.refl _ _ _,WC.cut ZM.ok ?_⟩
 refine cT ?_
 refine⟨_,_,_,Rt.refl _ _ _,WC.cut ZN.ok ?_⟩
 refine cT ?_
 exact⟨rfl⟩
set_option maxHeartbeats 4000000 in
theorem JN (u:bt) (hu:u.Wf) (hr:cY u):cI Tryz.prog 15 [u.av] [] 0 (fun r H n=>KJ u r H):=by
 have c0:=nR u hu hr
 have hel:=mL hr (Nat.le_refl u.bw.length)
 have hgl:=hr.qN.2.2
 have hle:=hr.qN.2.1
 change (dG u).length≤_ at hel
 refine pB ?_
 rw[ue]
 refine WC.cut ZL.ok ?_
 refine cT ?_
 refine⟨_,_,_,Rt.refl _ _ _,WC.cut ZM.ok ?_⟩
 refine cT ?_
 refine⟨_,_,_,Rt.refl _ _ _,WC.cut ZN.ok ?_⟩
 refine cT ?_
 refine⟨_,_,_,Rt.refl _ _ _,WC.cut ZY.ok ?_⟩
 refine cT ?_
 refine⟨_,_,_,Rt.refl _ _ _,WC.cut ZZ.ok ?_⟩
 refine cT ?_
 simp only[List.length_map]
 clear c0
 have hR:∀r H,KJ u r H=match jA (ef u) u.cC.length u.cC.length with
  |none=>r= .dP [.sc (.slice none 0 0),bl false,i64 0]
  |some w=>∃b d,r= .dP [.sl b w.length,bl true,i64 0]∧br H b=some (.row 3 1 d (w.map i64)):=fun _ _=>rfl
 have hles:∀i h,(iz ((dG u).take i) h).length≤16:=fun i h=>DQ hr (fun e he=>List.mem_of_mem_take he) h
 refine aL (fun σ:Nat×List (Int×Nat)=>[(1, .pt 0 1 0 0),(7, .mp 12),(23,mK (dG u)),(24,i64 (dG u).length),(25,i64 σ.1)])
  (fun σ H n=>σ.1≤(dG u).length∧13≤n∧(∃d,br H 0=some (.row 25 3 d [u.av]))∧pQ 12 σ.2 (iz ((dG u).take σ.1)) H∧(σ.2.map (·.2)).Nodup∧(∀p∈σ.2,13≤p.2∧p.2<n)∧∀h,h∈σ.2.map (·.1)↔iz ((dG u).take σ.1) h≠[]) (fun σ=>(dG u).length - σ.1) (0,[])
  cF ⟨Nat.zero_le _,cZ,⟨_,bu⟩,⟨⟨_,bu⟩,(fun p hp=>by cases hp),List.nodup_nil⟩,List.nodup_nil,(fun p hp=>by cases hp),fun h=>by simp[iz]⟩ ?_
 rintro⟨i,L⟩ H n ⟨hi,hn,⟨d0,r0⟩,hL,hb,hids,hkeys⟩
 dsimp only at hi hL hb hids hkeys ⊢
 have a0:((dG u).map dz.av).length=(dG u).length:=List.length_map _
 obtain⟨d1,r1⟩:=hL.map
 by_cases hil:i<(dG u).length
 ·have e0:∀d,((dG u).map dz.av).getD ((i:Int)).toNat d=((dG u).getD i default).av:=fun d=>by rw[Int.toNat_natCast];exact cy dz.av (dG u) i d hil
  have hsn:=fun h=>pS ((dG u).take i) ((dG u).getD i default) h
  rw[show(dG u).take i++[(dG u).getD i default]=(dG u).take (i+1) by rw[List.take_succ_eq_append_getElem hil];simp[List.getD,hil]] at hsn
  have hl1:=hles i
  have hl2:=hles (i+1)
  generalize (dG u).getD i default=e at *
  generalize h2:iz ((dG u).take (i+1))=S2 at *
  generalize iz ((dG u).take i)=S at *
  obtain⟨hd,tk,th,nd⟩:=e
  dsimp only at hsn
  by_cases hx:hd∈L.map (·.1)
  ·obtain⟨p,hp,hpe⟩:=List.mem_map.1 hx
   have g0:=xq (S:=S) (.sc (.slice none 0 0)) hp hL.keys
   obtain⟨d4,r4⟩:=hL.row p hp
   obtain⟨hp0,hp1⟩:=hids p hp
   rw[hpe] at g0 r4
   have hlS:=hl1 hd
   have hc:=je (S hd) tk (by omega)
   refine cT ?_
   refine aS hc (GO tk bu) (by simp only[cW,cK];exact⟨(cB _ _).2 fun _ _=>by simp[cK],trivial,trivial⟩) (by simp[ft]) ?_
   clear hc
   by_cases hm:tk∈S hd
   ·have r2:=decide_eq_true hm
    have hSS:S2=S:=funext fun h=>by rw[hsn,if_neg fun c=>c.2 (by rw[←c.1];exact hm)]
    rw[hSS] at h2
    refine cT ?_
    refine⟨(i+1,L),by dsimp only;omega,cF,by dsimp only;omega,cZ,⟨_,bu⟩, ?_,hb,fun q hq=>⟨(hids q hq).1,Nat.lt_of_lt_of_le (hids q hq).2 cZ⟩, ?_⟩
    ·dsimp only
     rw[h2]
     refine⟨⟨_,bu⟩,fun q hq=> ?_,hL.keys⟩
     obtain⟨dq,rq⟩:=hL.row q hq
     have hq1:=hids q hq
     exact⟨dq,bu⟩
    ·dsimp only
     rw[h2]
     exact hkeys
   ·have r2:=decide_eq_false hm
    have hS2:∀x,x≠hd→S2 x=S x:=fun x hx=>by rw[hsn,if_neg fun c=>hx c.1.symm]
    have hS3:S2 hd=S hd++[tk]:=by rw[hsn,if_pos ⟨rfl,hm⟩]
    have g1:=vt (S:=S) (S':=S2) hp hL.keys (fun x hx=>hS2 x (by rw[←hpe];exact hx))
    rw[hpe,hS3,List.length_append,List.length_singleton] at g1
    refine cT ?_
    refine⟨(i+1,L),by dsimp only;omega,cF,by dsimp only;omega,cZ,⟨_,bu⟩, ?_,hb,fun q hq=>⟨(hids q hq).1,Nat.lt_of_lt_of_le (hids q hq).2 cZ⟩, ?_⟩
    ·dsimp only
     rw[h2]
     refine⟨⟨_,bu⟩,fun q hq=> ?_,hL.keys⟩
     by_cases hqp:q=p
     ·subst hqp
      rw[hpe,hS3,List.map_append]
      exact⟨_,bu⟩
     ·obtain⟨dq,rq⟩:=hL.row q hq
      have hq1:=hids q hq
      have hq2:q.2≠p.2:=fun e=>hqp (JC hb hq hp e)
      have hq3:q.1≠hd:=fun e=>hqp (JA hL.keys hq hp (e.trans hpe.symm))
      rw[hS2 _ hq3]
      exact⟨dq,bu⟩
    ·dsimp only
     rw[h2]
     intro h
     by_cases e:h=hd
     ·rw[e,hS3]
      exact⟨fun _=>by simp,fun _=>hx⟩
     ·rw[hS2 h e];exact hkeys h
  ·have g0:=uY (S:=S) (.sc (.slice none 0 0)) hx
   have c0:=contains_nil tk
   have hS0:S hd=[]:=by
    have:=mt (hkeys hd).2 hx
    simpa using this
   have hS2:∀x,x≠hd→S2 x=S x:=fun x hx=>by rw[hsn,if_neg fun c=>hx c.1.symm]
   have hS3:S2 hd=[tk]:=by rw[hsn,hS0,if_pos ⟨rfl,by simp⟩];rfl
   have g1:=vr (S:=S) (S':=S2) (n+22) hx hS2
   rw[hS3,List.length_singleton] at g1
   refine cT ?_
   refine⟨(i+1,L++[(hd,n+22)]),by dsimp only;omega,cF,by dsimp only;omega,cZ,⟨_,bu⟩, ?_, ?_,fun q hq=> ?_, ?_⟩
   ·dsimp only
    rw[h2]
    refine⟨⟨_,bu⟩,fun q hq=> ?_, ?_⟩
    ·rcases List.mem_append.1 hq with hq|hq
     ·obtain⟨dq,rq⟩:=hL.row q hq
      have hq1:=hids q hq
      have hq3:q.1≠hd:=fun e=>hx (by rw[←e];exact List.mem_map.2 ⟨q,hq,rfl⟩)
      rw[hS2 _ hq3]
      exact⟨dq,bu⟩
     ·simp only[List.mem_cons,List.not_mem_nil,or_false] at hq
      subst hq
      dsimp only
      rw[hS3]
      exact⟨_,bu⟩
    ·rw[List.map_append]
     refine List.nodup_append.2 ⟨hL.keys,by simp,fun a ha b hb=> ?_⟩
     simp only[List.map_cons,List.map_nil,List.mem_cons,List.not_mem_nil,or_false] at hb
     subst hb
     exact fun e=>hx (e▸ha)
   ·dsimp only
    rw[List.map_append]
    refine List.nodup_append.2 ⟨hb,by simp,fun a ha b hb=> ?_⟩
    simp only[List.map_cons,List.map_nil,List.mem_cons,List.not_mem_nil,or_false] at hb
    subst hb
    obtain⟨q,hq,rfl⟩:=List.mem_map.1 ha
    have:=(hids q hq).2
    omega
   ·rcases List.mem_append.1 hq with hq|hq
    ·exact⟨(hids q hq).1,Nat.lt_of_lt_of_le (hids q hq).2 cZ⟩
    ·simp only[List.mem_cons,List.not_mem_nil,or_false] at hq
     subst hq
     refine⟨by dsimp only;omega, ?_⟩
     exact cZ
   ·dsimp only
    rw[h2]
    intro h
    rw[List.map_append,List.mem_append]
    by_cases e:h=hd
    ·rw[e,hS3];simp
    ·rw[hS2 h e,←hkeys h];simp[e]
 ·obtain rfl:i=(dG u).length:=by omega
  rw[List.take_length] at hL hkeys r1
  refine cT ?_
  have hne:∀p∈L,iz (dG u) p.1≠[]:=fun p hp=>(hkeys p.1).1 (List.mem_map.2 ⟨p,hp,rfl⟩)
  have hls:∀h,(iz (dG u) h).length≤16:=fun h=>DQ hr (fun e he=>he) h
  have h12:(12:Nat)∉L.map (·.2):=fun h=>by
   obtain⟨p,hp,e⟩:=List.mem_map.1 h
   have:=(hids p hp).1
   omega
  have h00:(0:Nat)∉L.map (·.2):=fun h=>by
   obtain⟨p,hp,e⟩:=List.mem_map.1 h
   have:=(hids p hp).1
   omega
  refine⟨[(1, .pt 0 1 0 0),(7, .mp 12)],_,_,Rt.less cF,WC.seq (VN (L:=L) (S:=iz (dG u)) JO (by decide) rfl (by simp[tL,c8]) hb hL.keys h12 ⟨_,bu⟩ (fun p hp=> ?_) (fun p hp=>⟨hne p hp,by have:=hls p.1;omega⟩) fun H' hrows hrest=> ?_)⟩
  ·obtain⟨dp,rp⟩:=hL.row p hp
   have:=hids p hp
   exact⟨dp,bu⟩
  have hL':pQ 12 L (ef u) H':=by
   refine⟨⟨d1, ?_⟩,hrows,hL.keys⟩
   rw[hrest 12 h12,show eR L (ef u)=eR L (iz (dG u)) from BU fun p _=>kP _]
   exact bu
  have hu0:∃d,br H' 0=some (.row 25 3 d [u.av]):=⟨d0,by rw[hrest 0 h00];exact bu⟩
  have hlead:lF L (ef u)=ef u:=by
   funext x
   unfold lF
   split
   ·rfl
   ·rename_i hx
    have:=mt (hkeys x).2 hx
    simp only[ne_eq,Classical.not_not] at this
    unfold ef
    rw[this];simp[eF]
  have hin:=xp hr
  clear r0 r1 hrest hrows hL
  obtain⟨d0,r0⟩:=hu0
  show WC Tryz.prog 86 0 _ _ H' _ _
  refine WC.last Z0.ok ?_
  refine cT ?_
  simp only[List.length_map]
  have hids1:∀p∈L,p.2<n+1:=fun p hp=>Nat.lt_succ_of_lt (hids p hp).2
  refine aL (fun σ:Nat×AV=>[(1, .pt 0 1 0 0),(7, .mp 12),(11,σ.2),(61,i64 u.cC.length),(62,i64 σ.1)])
   (fun σ H2 n2=>σ.1≤u.cC.length∧n+1≤n2∧(∀y,y<n+1→br H2 y=br H' y)∧((jA (ef u) u.cC.length σ.1=none∧σ.2= .sc (.slice none 0 0))∨∃w b d,jA (ef u) u.cC.length σ.1=some w∧σ.2= .sl b w.length∧n+1≤b∧b<n2∧br H2 b=some (.row 3 1 d (w.map i64)))) (fun σ=>u.cC.length - σ.1) (0, .sc (.slice none 0 0))
   cF ⟨Nat.zero_le _,cZ,fun y hy=>cA, .inl ⟨rfl,rfl⟩⟩ ?_
  rintro⟨k,bA⟩ H2 n2 ⟨hk,hn2,hkeep,hbest⟩
  dsimp only at hk hbest ⊢
  have hL2:=hL'.cP (by omega:12<n+1) hids1 hkeep
  have r2:br H2 0=some (.row 25 3 d0 [u.av]):=(hkeep 0 (by omega)).trans r0
  by_cases hkl:k<u.cC.length
  ·have hnx:=fun w hw=>((lT (lead:=ef u) (n:=u.cC.length) (first:=(k:Int)) hin ⟨by omega,by omega⟩).1 w hw)
   have hstep:jA (ef u) u.cC.length (k+1)=match pW (ef u) u.cC.length (k:Int),jA (ef u) u.cC.length k with
    |none,b=>b
    |some l,none=>some l
    |some l,some b=>if l.length<b.length then some l else some b:=rfl
   rcases hbest with⟨hb0,rfl⟩|⟨w,b,d3,hb0,rfl,hb1,hb2,r3⟩
   ·rw[hb0] at hstep
    refine cT ?_
    refine aJ (nH (n:=u.cC.length) (first:=(k:Int)) (hL2.cP (nx:=n2) (by omega) (fun p hp=>by have:=hids p hp;omega) fun y hy=>cA) ?_ ?_ (by rw[hlead];exact hin) hle (fun x=>by unfold ef;rw[kP];exact hls x) ⟨by omega,by omega⟩) ?_
    ·exact cZ
    ·exact fun p hp=>Nat.lt_of_lt_of_le (hids p hp).2 cZ
    rintro r H4 m4 ⟨hm4,hkeep4,hR4⟩
    rw[hlead] at hR4
    unfold nJ at hR4
    cases hq:pW (ef u) u.cC.length (k:Int) with
    |none=>
     rw[hq] at hR4 hstep
     dsimp only at hR4 hstep
     subst hR4
     refine cT ?_
     refine⟨(k+1, .sc (.slice none 0 0)),by dsimp only;omega,cF,by dsimp only;omega,cZ,fun y hy=>Eq.trans cA (Eq.trans (hkeep4 y ?_) (Eq.trans cA (hkeep y hy))), .inl ⟨hstep,rfl⟩⟩
     exact Nat.lt_of_lt_of_le (Nat.lt_of_lt_of_le hy hn2) cZ
    |some w=>
     rw[hq] at hR4 hstep
     dsimp only at hR4 hstep
     obtain⟨b,d4,hb1,hb2,rfl,r4⟩:=hR4
     obtain⟨_,hcy,_,hwin,_⟩:=hnx w hq
     have hwl:=hcy.pos
     refine cT ?_
     refine aV (wA bu ⟨by simp,hwl⟩) ?_
     refine cT ?_
     refine⟨(k+1, .sl b w.length),by dsimp only;omega,cF,by dsimp only;omega,cZ,fun y hy=>Eq.trans cA (Eq.trans (hkeep4 y ?_) (Eq.trans cA (hkeep y hy))), .inr ⟨w,b,d4,hstep,rfl, ?_, ?_,bu⟩⟩
     ·exact Nat.lt_of_lt_of_le (Nat.lt_of_lt_of_le hy hn2) cZ
     ·omega
     ·exact Nat.lt_of_lt_of_le hb2 cZ
   ·rw[hb0] at hstep
    refine cT ?_
    refine aJ (nH (n:=u.cC.length) (first:=(k:Int)) (hL2.cP (nx:=n2) (by omega) (fun p hp=>by have:=hids p hp;omega) fun y hy=>cA) ?_ ?_ (by rw[hlead];exact hin) hle (fun x=>by unfold ef;rw[kP];exact hls x) ⟨by omega,by omega⟩) ?_
    ·exact cZ
    ·exact fun p hp=>Nat.lt_of_lt_of_le (Nat.lt_of_lt_of_le (hids1 p hp) hn2) cZ
    rintro r H4 m4 ⟨hm4,hkeep4,hR4⟩
    rw[hlead] at hR4
    unfold nJ at hR4
    have hb3:=hkeep4 b (Nat.lt_of_lt_of_le hb2 cZ)
    have r5:br H4 b=some (.row 3 1 d3 (w.map i64)):=hb3.trans bu
    clear hb3
    have hwl:0<w.length:=by
     obtain⟨f,hf,hbf,_⟩:=jw hb0
     exact(((lT (lead:=ef u) (n:=u.cC.length) (first:=(f:Int)) hin ⟨by omega,by omega⟩).1 w hbf).2.1).pos
    cases hq:pW (ef u) u.cC.length (k:Int) with
    |none=>
     rw[hq] at hR4 hstep
     dsimp only at hR4 hstep
     subst hR4
     refine cT ?_
     refine⟨(k+1, .sl b w.length),by dsimp only;omega,cF,by dsimp only;omega,cZ,fun y hy=>Eq.trans cA (Eq.trans (hkeep4 y ?_) (Eq.trans cA (hkeep y hy))), .inr ⟨w,b,d3,hstep,rfl,hb1, ?_,bu⟩⟩
     ·exact Nat.lt_of_lt_of_le (Nat.lt_of_lt_of_le hy hn2) cZ
     ·exact Nat.lt_of_lt_of_le hb2 cZ
    |some w2=>
     rw[hq] at hR4 hstep
     dsimp only at hR4 hstep
     obtain⟨b4,d4,hb4,hb5,rfl,r4⟩:=hR4
     obtain⟨_,hcy,_,hwin,_⟩:=hnx w2 hq
     have hwl2:=hcy.pos
     have a1:(w.map i64).length=w.length:=List.length_map _
     have a2:(w2.map i64).length=w2.length:=List.length_map _
     by_cases hlt:w2.length<w.length
     ·rw[if_pos hlt] at hstep
      have r6:=decide_eq_true (show((w2.length:Int))<w.length by omega)
      refine cT ?_
      refine⟨(k+1, .sl b4 w2.length),by dsimp only;omega,cF,by dsimp only;omega,cZ,fun y hy=>Eq.trans cA (Eq.trans (hkeep4 y ?_) (Eq.trans cA (hkeep y hy))), .inr ⟨w2,b4,d4,hstep,rfl, ?_, ?_,bu⟩⟩
      ·exact Nat.lt_of_lt_of_le (Nat.lt_of_lt_of_le hy hn2) cZ
      ·omega
      ·exact Nat.lt_of_lt_of_le hb5 cZ
     ·rw[if_neg hlt] at hstep
      refine cT ?_
      refine aA (fun hc=>absurd hc (by simp;omega)) (fun hc=> ?_)
      refine cT ?_
      refine⟨(k+1, .sl b w.length),by dsimp only;omega,cF,by dsimp only;omega,cZ,fun y hy=>Eq.trans cA (Eq.trans (hkeep4 y ?_) (Eq.trans cA (hkeep y hy))), .inr ⟨w,b,d3,hstep,rfl,hb1, ?_,bu⟩⟩
      ·exact Nat.lt_of_lt_of_le (Nat.lt_of_lt_of_le hy hn2) cZ
      ·exact Nat.lt_of_lt_of_le hb2 cZ
  ·obtain rfl:k=u.cC.length:=by omega
   rcases hbest with⟨hb0,rfl⟩|⟨w,b,d3,hb0,rfl,hb1,hb2,r3⟩
   ·refine cT ?_
    exact⟨by rw[hR,hb0];rfl⟩
   ·have hwl:0<w.length:=by
     obtain⟨f,hf,hbf,_⟩:=jw hb0
     exact(((lT (lead:=ef u) (n:=u.cC.length) (first:=(f:Int)) hin ⟨by omega,by omega⟩).1 w hbf).2.1).pos
    refine cT ?_
    refine aV (wA bu ⟨by simp,hwl⟩) ?_
    refine cT ?_
    exact⟨by rw[hR,hb0];exact⟨b,d3,rfl,bu⟩⟩
end Go.Proofs.YtjopoheligmmoaaGreatDoor
end
section
/- How a machine stands, as an end; a slot told anew ahead of a drawn stretch. -/
namespace Go.Proofs.YtjopoheligmmoaaGreatDoor
open Go Go.cX Go.Proofs
set_option linter.unusedSimpArgs false
set_option linter.unusedVariables false
set_option maxRecDepth 8000
theorem UD {u:bt} {m:MS} {L:ML} {H:Hp} (hM:L.At u m H) (nx:Nat):Wk (.pt L.mr 1 0 0) H nx (m.fz u) (lE (j9 L.all H) H) nx:=by
 have:=Wk.XC (nx:=nx) (r:= .pt L.mr 1 0 0) (j9 L.all H) 6 (fun b q hq=>qE hq)
 rwa[hM.tF 2] at this
end Go.Proofs.YtjopoheligmmoaaGreatDoor
end
section
/- Who waits for whom: the walks. -/
namespace Go.cX
open Go.RowKit
section
variable {P:Program} {n lo:Nat} {fr:Fr} {H:Hp} {nx:Nat} {Q:QT}
theorem WL.rt {lc:LC} {fr2:Fr} {H2:Hp} {nx2:Nat} (hw:Rt fr H nx fr2 H2 nx2) (h:WL P n lo lc fr2 H2 nx2 Q):WL P n lo lc fr H nx Q:=
 fun code hc w0 M0 c0 a w hh=>h code hc w0 M0 c0 a w (hw _ _ _ _ _ _ _ hh)
theorem WL.cut {a b:LC} (h:Go (W P n lo a fr H nx (gp (fun fr' H' nx'=>∃fr2 H2 nx2,Rt fr' H' nx' fr2 H2 nx2∧WL P n lo b fr2 H2 nx2 Q) Q))):WL P n lo (.seq a b) fr H nx Q:=
 WL.seq ((eo h).mono fun e fr H nx hh=>by
  cases e with
  |normal=>
   obtain⟨fr2,H2,nx2,h1,h2⟩:=hh
   exact WL.rt h1 h2
  |exit id=>exact hh
  |ret=>exact hh)
theorem ar {f:FuncId} {args:List AV} {R:AV→Hp→Nat→Prop} (X:cr P f) (ha:Nat.ble args.length X.n=true) (h:WL P X.n nx X.lc (iE 0 args) H nx (s7 X.rs R)):cI P f args H nx R:=by
 obtain⟨fn,h1,h2,h3,h4,h5⟩:=X.ok
 have h6:X.n=fn.ntmps:=h5
 rw[h6] at h ha
 exact cI.kK h1 h2 h3 h4 (Nat.le_of_ble_eq_true ha) (h.mono fun _ _ _ _=>wK)
theorem WL.last {lc:LC} (h:Go (W P n lo lc fr H nx Q)):WL P n lo lc fr H nx Q:=eo h
theorem af {lc:LC} {b:Nat} {q:Option eQ} (h:br H b=q) (k:∀H2:Hp,br H2 b=q→Go (W P n lo lc fr H2 nx Q)):W P n lo lc fr H nx Q:=k H h
end
end Go.cX
namespace Go.Proofs.YtjopoheligmmoaaGreatDoor
open Go Go.cX Go.Proofs
set_option linter.unusedSimpArgs false
set_option linter.unusedVariables false
set_option maxRecDepth 8000
theorem W0 (u:bt) (m:MS) (h:eM u m) {t:Nat} (ht:t<u.bw.length):Pure Tryz.prog 30 [m.fz u,i64 t] (fun r=>r=i64 (m.at_.getD t 0)):=by
 have c0:=zq u m t
 have hl:=h.pV
 rw[decide_eq_true (by omega:¬((t:Int)<0∨(m.at_.length:Int)≤t))] at c0
 have e0:=fun d=>ints_at (l:=m.at_) (k:=t) (by omega) d
 have a0:(m.at_.map i64).length=u.bw.length:=by simp[hl]
 refine aI M5 rfl ?_
 refine cT ?_
 first|exact rfl|trivial
theorem IA (u:bt) (m:MS) (h:eM u m) {x:Nat} (hx:x<u.cC.length):Pure Tryz.prog 33 [m.fz u,i64 x] (fun r=>r=i64 (m.hold.getD x 0)):=by
 have hl:=h.hl
 have e0:=fun d=>ints_at (l:=m.hold) (k:=x) (by omega) d
 have a0:(m.hold.map i64).length=u.cC.length:=by simp[hl]
 refine aI M7 rfl ?_
 refine cT ?_
 refine aA (fun hc=>absurd hc (by simp[hl];omega)) fun hc=> ?_
 refine cT ?_
 first|exact rfl|trivial
abbrev nr (u:bt) (m:MS):AV:= .agg [cq u.shared,cq u.cC,db u.bw,m.fz u]
theorem oT (u:bt) (hr:cY u) (m:MS) (h:eM u m) {t:Nat} (ht:t<u.bw.length):Pure Tryz.prog 50 [nr u m,i64 t] (fun r=>r=i64 (fV u m t)):=by
 have c0:=W0 u m h ht
 have hno:=h.node hr ht
 obtain⟨p0,p1⟩:=h.gQ t ht
 have e0:∀d,(u.bw.map cD.av).getD ((t:Int)).toNat d=(u.gr t).av:=fun d=>sC ht d
 have a0:(u.bw.map cD.av).length=u.bw.length:=by simp
 have hh:fV u m t=if((u.gr t).nd (m.at_.getD t 0).toNat).kind=5 then m.hold.getD ((u.gr t).nd (m.at_.getD t 0).toNat).cO.toNat 0 else -1:=by
  unfold fV MS.node;rw[Int.toNat_natCast]
 rw[hh]
 unfold MS.node at hno
 obtain⟨j,hj⟩:∃j:Nat,m.at_.getD t 0=j:=⟨(m.at_.getD t 0).toNat,by omega⟩
 rw[hj] at c0 p1 hno ⊢
 rw[Int.toNat_natCast] at hno ⊢
 generalize u.gr t=g at *
 have e1:∀d,(g.nodes.map Node.av).getD ((j:Int)).toNat d=(g.nd j).av:=fun d=>j4 (by omega) d
 have a1:(g.nodes.map Node.av).length=g.nodes.length:=by simp
 generalize g.nd j=n at *
 by_cases h5:n.kind=5
 ·obtain⟨x0,x1⟩:=fi hno (.inl h5)
  have c1:=IA u m h (x:=n.cO.toNat) (by omega)
  rw[Int.toNat_of_nonneg x0] at c1
  rw[if_pos h5]
  have r0:decide (n.kind≠5)=false:=decide_eq_false fun e=>e h5
  refine aI IS rfl ?_
  refine cT ?_
  first|exact rfl|trivial
 ·rw[if_neg h5]
  have r0:decide (n.kind≠5)=true:=decide_eq_true h5
  refine aI IS rfl ?_
  refine cT ?_
  first|exact rfl|trivial
set_option maxHeartbeats 2000000 in
theorem CW (u:bt) (hr:cY u) (m:MS) (h:eM u m) {t:Nat} (ht:t<u.bw.length) (H0:Hp) (nx:Nat):
 cI Tryz.prog 49 [i64 t, .fn (.func 50) [nr u m] []] H0 nx (fun r H k=>nx≤k∧(∀y,y<nx→br H y=br H0 y)∧nJ (qB (fV u m) u.bw.length (t:Int)) nx k r H):=by
 have hfew:=hr.qN.2.2
 have c0:=oT u hr m h ht
 have hf:cK 0 (nr u m):=by simp[cK,cW,cB]
 refine aM NF rfl ?_
 refine cT ?_
 generalize hfn:fV u m=hd at *
 have hlt:∀x:Int,0≤x→x<u.bw.length→-1≤hd x∧hd x<u.bw.length:=fun x h0 h1=>by rw[←hfn];exact IB hr h ⟨h0,h1⟩
 have hcw:∀x:Int,0≤x→x<u.bw.length→Pure Tryz.prog 50 [nr u m,i64 x] (fun r=>r=i64 (hd x)):=fun x h0 h1=>by
  obtain⟨k,rfl⟩:∃k:Nat,x=k:=⟨x.toNat,by omega⟩
  rw[←hfn];exact oT u hr m h (by omega)
 refine aL (fun σ:Int×List Int=>[(0,i64 t),(1, .fn (.func 50) [nr u m] []),(5, .sl (nx+2) σ.2.length),(6,i64 σ.1)])
  (fun σ H2 n2=>kS hd (t:Int) σ.2∧(∀x∈σ.2,0≤x∧x<u.bw.length)∧σ.1=hd (σ.2.getD (σ.2.length - 1) 0)∧nk hd (t:Int) (u.bw.length+1 - σ.2.length) σ.2 σ.1=qB hd u.bw.length (t:Int)∧nx+3≤n2∧(∃d,br H2 (nx+2)=some (.row 3 1 d (σ.2.map i64)))∧∀y,y<nx→br H2 y=br H0 y) (fun σ=>u.bw.length+1 - σ.2.length) (hd t,[(t:Int)])
  cF ⟨.one (by omega),fun x hx=>by simp only[List.mem_cons,List.not_mem_nil,or_false] at hx;omega,rfl,rfl,cZ,⟨_,bu⟩,fun y hy=>cA⟩ ?_
 clear c0
 rintro⟨s,out⟩ H2 n2 ⟨hg,hin,hs,hR,hn2,⟨d1,r1⟩,hkeep⟩
 dsimp only at hg hin hs hR r1 ⊢
 have hol:=gA _ _ hg.nd hin
 have hp:=hg.pos
 have hlast:=hin _ (cQ 0 (show out.length - 1<out.length by omega))
 have hsl:=hlt _ hlast.1 hlast.2
 rw[←hs] at hsl
 have a0:(out.map i64).length=out.length:=List.length_map _
 rw[show u.bw.length+1 - out.length=(u.bw.length - out.length)+1 by omega,nk] at hR
 by_cases hst:s=t
 ·rw[if_pos hst] at hR
  have r0:decide (s≠t)=false:=decide_eq_false fun e=>e hst
  rw[←hR]
  refine cT ?_
  refine⟨⟨?_,fun y hy=>Eq.trans cA (hkeep y hy),nx+2,d1,by omega, ?_,rfl,bu⟩⟩
  ·exact cZ
  ·exact cZ
 ·rw[if_neg hst] at hR
  have r0:decide (s≠t)=true:=decide_eq_true hst
  have hview:∀H3,br H3 (nx+2)=some (.row 3 1 d1 (out.map i64))→[AV.sl (nx+2) out.length,i64 s].map (cX.dU H3 6)=[cR out,i64 s]:=fun H3 h3=>GO s h3
  have hfit:cW 0 [cR out,i64 s]:=by
   simp only[cW,cK];exact⟨(cB _ _).2 fun _ _=>by simp[cK],trivial,trivial⟩
  refine cT ?_
  refine bG (fun _=>je out s (by omega)) (hview _ bu) hfit (by simp[ft]) ?_
  by_cases h0:s<0
  ·rw[if_pos (.inl h0)] at hR
   rw[←hR]
   refine cT ?_
   refine⟨⟨?_,fun y hy=>Eq.trans cA (hkeep y hy),rfl⟩⟩
   exact cZ
  ·by_cases hm:s∈out
   ·rw[if_pos (.inr hm)] at hR
    rw[←hR]
    rw[decide_eq_true hm]
    refine cT ?_
    refine⟨⟨?_,fun y hy=>Eq.trans cA (hkeep y hy),rfl⟩⟩
    exact cZ
   ·rw[if_neg fun e=>e.elim h0 hm] at hR
    rw[decide_eq_false hm]
    have c0:=hcw s (by omega) hsl.2
    refine cT ?_
    have hm2:=hg.more hs (by omega) hm
    have hin2:∀x∈out++[s],0≤x∧x<u.bw.length:=fun x hx=>by
     rcases List.mem_append.1 hx with hx|hx
     ·exact hin x hx
     ·simp only[List.mem_cons,List.not_mem_nil,or_false] at hx;omega
    refine⟨(hd s,out++[s]), ?_,by rw[List.length_append];exact cF,hm2,hin2, ?_, ?_,cZ,⟨_,by dsimp only;rw[List.map_append];exact bu⟩,fun y hy=>Eq.trans cA (hkeep y hy)⟩
    ·dsimp only;rw[List.length_append,List.length_singleton];omega
    ·dsimp only;rw[List.length_append,List.length_singleton,Nat.add_sub_cancel,fA]
    ·dsimp only
     rw[List.length_append,List.length_singleton,show u.bw.length+1 - (out.length+1)=u.bw.length - out.length by omega]
     exact hR
end Go.Proofs.YtjopoheligmmoaaGreatDoor
end
section
/- Knot: the walk. -/
namespace Go.Proofs.YtjopoheligmmoaaGreatDoor
open Go Go.cX Go.Proofs
set_option linter.unusedSimpArgs false
set_option linter.unusedVariables false
set_option maxRecDepth 8000
abbrev WI (u:bt) (m:MS) (t:Int):MS:=if m.mI u t=0 then(m.step u t.toNat).1 else m
theorem CC (u:bt) (m:MS) (t:Int):(WI u m t).cM.length≤m.cM.length+1:=by
 unfold WI
 split
 ·exact lz u m _
 ·omega
theorem wP {u:bt} {m:MS} {L:ML} {H:Hp} {nx:Nat} (hu:u.Wf) (hr:cY u) (h:eM u m) (hM:L.At u m H) (hlt:∀y∈L.all,y<nx) (hpl:m.cM.length≤1048576) (t:Int):
 cI Tryz.prog 31 [.pt L.mr 1 0 0,i64 t] H nx (fun r H' k=>(∃d e,r= .dP [.agg d,i64 e])∧L.At u (WI u m t) H'∧nx≤k∧∀y,y<nx→y∉L.all→br H' y=br H y):=by
 by_cases hb:m.mI u t=0
 ·obtain⟨k,rfl,hk⟩:=AN h hb
  have:=uj hu hr h hM hlt hpl hk hb
  refine this.mono ?_
  rintro r H' n ⟨rfl,h1,h2,h3⟩
  refine⟨⟨_,_,rfl⟩, ?_,h2,h3⟩
  unfold WI;rw[if_pos hb,Int.toNat_natCast];exact h1
 ·refine(OY hr h hM hlt t hb).mono ?_
  rintro r H' n ⟨rfl,h2,h3⟩
  refine⟨⟨_,_,rfl⟩, ?_,h2,fun y hy _=>h3 y hy⟩
  unfold WI;rw[if_neg hb]
  exact hM.cP fun y hy=>h3 y (hlt y hy)
theorem JF (u:bt) (m:MS) (w:List Int) {i:Nat} (hi:i<w.length):iF u m (w.take (i+1))=WI u (iF u m (w.take i)) (w.getD i 0):=by
 rw[List.take_succ_eq_append_getElem hi,ua,show w[i]=w.getD i 0 by simp[List.getD,hi]]
 rfl
theorem xm {u:bt} {m:MS} {k:Nat} {l:List Int} (h:l8 u m k=some l):∀n,k≤n→l8 u m n=some l:=by
 intro n hn
 obtain⟨d,rfl⟩:∃d,n=k+d:=⟨n - k,by omega⟩
 induction d with
 |zero=>exact h
 |succ d ih=>
  rw[←Nat.add_assoc,l8,ih (by omega)]
def DN (u:bt) (m:MS) (r:AV) (H:Hp):Prop:=match EF u m with
 |none=>r= .dP [.sc (.slice none 0 0),bl false,i64 0]
 |some w=>∃b d,r= .dP [.sl b w.length,bl true,i64 0]∧br H b=some (.row 3 1 d (w.map i64))
set_option maxHeartbeats 4000000 in
theorem IH (u:bt) (hu:u.Wf) (hr:cY u) (w:List Int) (hw:w.length≤1048576):cI Tryz.prog 21 [u.av,cR w] [] 0 (fun r H n=>DN u (iF u (dn u) w) r H):=by
 have a0:(w.map i64).length=w.length:=List.length_map _
 have hgl:=hr.qN.2.2
 refine ar M4 rfl ?_
 refine WL.cut ?_
 refine cT ?_
 refine⟨_,_,_,Rt.refl _ _ _,WL.cut ?_⟩
 refine cT ?_
 refine aJ (sU u hu hr _ _) ?_
 rintro _ H1 n1 ⟨L,rfl,hM,hL,hn1,hkp⟩
 refine cT ?_
 refine⟨_,_,_,Rt.refl _ _ _,WL.cut ?_⟩
 refine cT ?_
 refine⟨_,_,_,Rt.refl _ _ _,WL.cut ?_⟩
 refine cT ?_
 obtain⟨d0,r0⟩:∃d,br H1 0=some (.row 25 3 d [u.av]):=⟨_,Eq.trans (hkp 0 (by omega)) bu⟩
 have hL0:∀x∈L.all,1≤x:=fun x hx=>by have:=(hL x hx).1;omega
 have hL1:∀x∈L.all,x<n1:=fun x hx=>(hL x hx).2
 clear hkp hL
 refine⟨_,_,_,Rt.refl _ _ _,WL.cut ?_⟩
 refine cT ?_
 rw[a0]
 refine aL (fun i:Nat=>[(2, .pt 0 1 0 0),(7, .pt L.mr 1 0 0),(25,cR w),(26,i64 w.length),(27,i64 i)])
  (fun i H n=>i≤w.length∧n1≤n∧L.At u (iF u (dn u) (w.take i)) H∧(iF u (dn u) (w.take i)).cM.length≤i∧∃d,br H 0=some (.row 25 3 d [u.av])) (fun i=>w.length - i) 0
  cF ⟨Nat.zero_le _,cZ,hM.cP fun y hy=> ?_,Nat.zero_le _,⟨_,bu⟩⟩ ?_
 ·have:=hL1 y hy;have:=hL0 y hy;exact cA
 clear r0 hM
 rintro i H n ⟨hi,hn,hM,hpr,⟨d0,r0⟩⟩
 have hsit:w7 u (iF u (dn u) (w.take i)):=w7.OF hu hr (w7.new hu hr)
 by_cases hil:i<w.length
 ·have e0:∀d,(w.map i64).getD ((i:Int)).toNat d=i64 (w.getD i 0):=fun d=>ints_at hil d
  have hpn:=JF u (dn u) w hil
  have hp2:=CC u (iF u (dn u) (w.take i)) (w.getD i 0)
  rw[←hpn] at hp2
  refine cT ?_
  refine aJ (wP hu hr hsit.ok (hM.cP fun y hy=> ?_) (fun y hy=> ?_) (by omega) (w.getD i 0)) ?_
  ·have:=hL1 y hy;have:=hL0 y hy;exact cA
  ·exact Nat.lt_of_lt_of_le (Nat.lt_of_lt_of_le (hL1 y hy) hn) cZ
  rintro _ H2 n2 ⟨⟨d,e,rfl⟩,hM2,hn2,hkeep2⟩
  rw[←hpn] at hM2
  have r1:br H2 0=some (.row 25 3 d0 [u.av]):=Eq.trans (hkeep2 0 (by omega) fun h=>by have:=hL0 0 h;omega) bu
  refine cT ?_
  refine⟨i+1,by omega,cF,by omega,cZ,hM2.cP fun y hy=> ?_,by omega,⟨_,bu⟩⟩
  have:=hL1 y hy;have:=hL0 y hy;exact cA
 ·obtain rfl:i=w.length:=by omega
  rw[List.take_length] at hM hpr hsit
  refine cT ?_
  generalize iF u (dn u) w=m at *
  have hz:(0:Nat)∉L.all:=fun h=>by have:=hL0 0 h;omega
  have hM2:L.At u m (cz H none):=hM.cP fun y hy=>by have:=hL1 y hy;have:=hL0 y hy;exact cA
  refine⟨[(2, .pt 0 1 0 0),(7,m.fz u)],_,_,Rt.trans (Rt.slot 7 rfl (UD hM2 _)) (Rt.less cF),WL.last (af (b:=0) (q:=some (.row 25 3 d0 [u.av])) ((eE hz).trans (Eq.trans cA r0)) fun H2 r3=> ?_)⟩
  clear hM hM2 r0 hpr
  refine cT ?_
  simp only[List.length_map]
  refine aL (fun t:Nat=>[(2, .pt 0 1 0 0),(11, .pt (n+4) 1 0 0),(39,db u.bw),(40,i64 u.bw.length),(41,i64 t)])
   (fun t H3 n3=>t≤u.bw.length∧n+5≤n3∧l8 u m t=none∧∃d,br H3 (n+4)=some (.row 90 4 d [nr u m])) (fun t=>u.bw.length - t) 0
   cF ⟨Nat.zero_le _,cZ,rfl,⟨_,bu⟩⟩ ?_
  clear r3
  rintro t H3 n3 ⟨ht,hn3,hkt,⟨d4,r4⟩⟩
  have hnx:l8 u m (t+1)=qB (fV u m) u.bw.length (t:Int):=by
   rw[l8,hkt]
  by_cases htl:t<u.bw.length
  ·refine cT ?_
   refine aJ (CW u hr m hsit.ok htl _ _) ?_
   rintro r H5 n5 ⟨hn5,hkeep5,hR⟩
   have r5:br H5 (n+4)=some (.row 90 4 d4 [nr u m]):=Eq.trans (hkeep5 (n+4) (Nat.lt_of_lt_of_le (by omega) (show n3≤_ from cZ))) bu
   unfold nJ at hR
   cases hq:qB (fV u m) u.bw.length (t:Int) with
   |none=>
    rw[hq] at hR hnx
    dsimp only at hR
    subst hR
    refine cT ?_
    exact⟨t+1,by omega,cF,by omega,cZ,hnx,⟨_,bu⟩⟩
   |some l=>
    rw[hq] at hR hnx
    dsimp only at hR
    obtain⟨b,d6,hb1,hb2,rfl,r6⟩:=hR
    have hl:=(z7 (by omega) hq).1.pos
    have a2:(l.map i64).length=l.length:=List.length_map _
    refine cT ?_
    refine⟨?_⟩
    unfold DN EF
    rw[xm hnx _ (by omega)]
    exact⟨b,d6,rfl,bu⟩
  ·obtain rfl:t=u.bw.length:=by omega
   refine cT ?_
   refine⟨?_⟩
   unfold DN EF
   rw[hkt]
end Go.Proofs.YtjopoheligmmoaaGreatDoor
end
