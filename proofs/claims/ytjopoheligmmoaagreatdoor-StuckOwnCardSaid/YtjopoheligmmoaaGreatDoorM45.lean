import Derived.Test.YtjopoheligmmoaaGreatDoorM44
import Derived.Test.YtjopoheligmmoaaGreatDoorM41
import Derived.Test.YtjopoheligmmoaaGreatDoorM34
section
/- Ring: the walk. -/
namespace Go.Proofs.YtjopoheligmmoaaGreatDoor
open Go Go.cZ Go.Proofs
set_option linter.unusedSimpArgs false
set_option linter.unusedVariables false
set_option maxRecDepth 8000
theorem _root_.Go.cZ.WC.last {P:Program} {n lo:Nat} {fr:Fr} {H:Hp} {nx:Nat} {Q:QT} {code:Code} {lc:LC} (hl:cj P n code=some lc) (h:Go (W P n lo lc fr H nx Q)):WC P n lo code fr H nx Q:=WC.low hl (ez h)
theorem pS {a:AV} {H:Hp} {nx:Nat} {R:AV→Hp→Nat→Prop} (h:WC Tryz.prog 86 nx ir (iQ 0 [a]) H nx (tJ [.tmp 2, .tmp 3, .tmp 4] R)):cG Tryz.prog 15 [a] H nx R:=by
 have hn:(Tryz.f15).ntmps=86:=PO
 refine cG.TD Tryz.func15 (by kernel_rfl) (show _=some ir by kernel_rfl) (lrs:=[.tmp 2, .tmp 3, .tmp 4]) (by kernel_rfl) (by rw[hn];exact(by decide:1≤86)) ?_
 rw[hn]
 exact h
theorem contains_nil (x:Int):Pure Tryz.prog 39 [.sc (.slice none 0 0),i64 x] (fun r=>r=bl false):=
 Pure.args (jx [] x (by decide)) fun c=> .cons (cZ.dN.kb c c 1 .any) (.cons (fun _ h=>h) .nil)
theorem HU {H:Hp} {b:Nat} {e:TypeId} {d:AV} {l:List Int} (x:Int) (h:bu H b=some (.row e 1 d (l.map i64))):[AV.sl b l.length,i64 x].map (cZ.dV H 6)=[cM l,i64 x]:=by
 show[cZ.dV H 6 (.sl b l.length),i64 x]=_
 rw[dc (k:=5) h (by simp),cy _ ((cB _ _).2 fun _ _=>by simp[cI])]
theorem KA {L:List (Int×Nat)} (hb:(L.map (·.2)).Nodup) {p q:Int×Nat} (hp:p∈L) (hq:q∈L) (e:p.2=q.2):p=q:=by
 obtain⟨i,hi,rfl⟩:=List.getElem_of_mem hp
 obtain⟨j,hj,rfl⟩:=List.getElem_of_mem hq
 have:=(List.getElem_inj (xs:=L.map (·.2)) (h₀:=by simpa using hi) (h₁:=by simpa using hj) hb).1 (by simpa using e)
 subst this;rfl
theorem J8 {L:List (Int×Nat)} (hb:(L.map (·.1)).Nodup) {p q:Int×Nat} (hp:p∈L) (hq:q∈L) (e:p.1=q.1):p=q:=by
 obtain⟨i,hi,rfl⟩:=List.getElem_of_mem hp
 obtain⟨j,hj,rfl⟩:=List.getElem_of_mem hq
 have:=(List.getElem_inj (xs:=L.map (·.1)) (h₀:=by simpa using hi) (h₁:=by simpa using hj) hb).1 (by simpa using e)
 subst this;rfl
theorem CT {L:List (Int×Nat)} {S S':Int→List Int} (h:∀p∈L,(S' p.1).length=(S p.1).length):eV L S'=eV L S:=List.map_congr_left fun p hp=>by rw[h p hp]
def xM (u:bx) (r:AV) (H:Hp):Prop:=match j3 u with
 |none=>r= .dK [.sc (.slice none 0 0),bl false,i64 0]
 |some w=>∃b d,r= .dK [.sl b w.length,bl true,i64 0]∧bu H b=some (.row 3 1 d (w.map i64))
theorem PS (u:bx) (hu:u.Wf) (hr:¬cT u):cG Tryz.prog 15 [u.av] [] 0 (fun r H n=>r= .dK [.sc (.slice none 0 0),bl false,i64 60]):=by
 have c0:=uX u hu hr
 refine pS ?_
 rw[vN]
 refine WC.cut lr0.ok ?_
 refine cV ?_
 refine⟨_,_,_,Rt.refl _ _ _,WC.cut lr1.ok ?_⟩
 refine cV ?_
 refine⟨_,_,_,Rt.refl _ _ _,WC.cut lr2.ok ?_⟩
 refine cV ?_
 exact⟨rfl⟩
set_option maxHeartbeats 4000000 in
theorem qW (u:bx) (hu:u.Wf) (hr:cT u):cG Tryz.prog 15 [u.av] [] 0 (fun r H n=>xM u r H):=by
 have c0:=sM u hu hr
 have hel:=mf hr (Nat.le_refl u.bz.length)
 have hgl:=hr.pz.2.2
 have hle:=hr.pz.2.1
 change (dJ u).length≤_ at hel
 refine pS ?_
 rw[vN]
 refine WC.cut lr0.ok ?_
 refine cV ?_
 refine⟨_,_,_,Rt.refl _ _ _,WC.cut lr1.ok ?_⟩
 refine cV ?_
 refine⟨_,_,_,Rt.refl _ _ _,WC.cut lr2.ok ?_⟩
 refine cV ?_
 refine⟨_,_,_,Rt.refl _ _ _,WC.cut lr3.ok ?_⟩
 refine cV ?_
 refine⟨_,_,_,Rt.refl _ _ _,WC.cut lr4.ok ?_⟩
 refine cV ?_
 simp only[List.length_map]
 clear c0
 have hR:∀r H,xM u r H=match jM (eo u) u.cE.length u.cE.length with
  |none=>r= .dK [.sc (.slice none 0 0),bl false,i64 0]
  |some w=>∃b d,r= .dK [.sl b w.length,bl true,i64 0]∧bu H b=some (.row 3 1 d (w.map i64)):=fun _ _=>rfl
 have hles:∀i h,(jL ((dJ u).take i) h).length≤16:=fun i h=>EO hr (fun e he=>List.mem_of_mem_take he) h
 refine aN (fun σ:Nat×List (Int×Nat)=>[(1, .pt 0 1 0 0),(7, .mp 12),(23,wI (dJ u)),(24,i64 (dJ u).length),(25,i64 σ.1)])
  (fun σ H n=>σ.1≤(dJ u).length∧13≤n∧(∃d,bu H 0=some (.row 25 3 d [u.av]))∧pe 12 σ.2 (jL ((dJ u).take σ.1)) H∧(σ.2.map (·.2)).Nodup∧(∀p∈σ.2,13≤p.2∧p.2<n)∧∀h,h∈σ.2.map (·.1)↔jL ((dJ u).take σ.1) h≠[]) (fun σ=>(dJ u).length - σ.1) (0,[])
  cK ⟨Nat.zero_le _,ca,⟨_,bw⟩,⟨⟨_,bw⟩,(fun p hp=>by cases hp),List.nodup_nil⟩,List.nodup_nil,(fun p hp=>by cases hp),fun h=>by simp[jL]⟩ ?_
 rintro⟨i,L⟩ H n ⟨hi,hn,⟨d0,r0⟩,hL,hb,hids,hkeys⟩
 dsimp only at hi hL hb hids hkeys ⊢
 have a0:((dJ u).map dX.av).length=(dJ u).length:=List.length_map _
 obtain⟨d1,r1⟩:=hL.map
 by_cases hil:i<(dJ u).length
 ·have e0:∀d,((dJ u).map dX.av).getD ((i:Int)).toNat d=((dJ u).getD i default).av:=fun d=>by rw[Int.toNat_natCast];exact dQ dX.av (dJ u) i d hil
  have hsn:=fun h=>pg ((dJ u).take i) ((dJ u).getD i default) h
  rw[show(dJ u).take i++[(dJ u).getD i default]=(dJ u).take (i+1) by rw[List.take_succ_eq_append_getElem hil];simp[List.getD,hil]] at hsn
  have hl1:=hles i
  have hl2:=hles (i+1)
  generalize (dJ u).getD i default=e at *
  generalize h2:jL ((dJ u).take (i+1))=S2 at *
  generalize jL ((dJ u).take i)=S at *
  obtain⟨hd,tk,th,nd⟩:=e
  dsimp only at hsn
  by_cases hx:hd∈L.map (·.1)
  ·obtain⟨p,hp,hpe⟩:=List.mem_map.1 hx
   have g0:=y7 (S:=S) (.sc (.slice none 0 0)) hp hL.keys
   obtain⟨d4,r4⟩:=hL.row p hp
   obtain⟨hp0,hp1⟩:=hids p hp
   rw[hpe] at g0 r4
   have hlS:=hl1 hd
   have hc:=jx (S hd) tk (by omega)
   refine cV ?_
   refine aT hc (HU tk bw) (by simp only[cX,cI];exact⟨(cB _ _).2 fun _ _=>by simp[cI],trivial,trivial⟩) (by simp[fc]) ?_
   clear hc
   by_cases hm:tk∈S hd
   ·have r2:=decide_eq_true hm
    have hSS:S2=S:=funext fun h=>by rw[hsn,if_neg fun c=>c.2 (by rw[←c.1];exact hm)]
    rw[hSS] at h2
    refine cV ?_
    refine⟨(i+1,L),by dsimp only;omega,cK,by dsimp only;omega,ca,⟨_,bw⟩, ?_,hb,fun q hq=>⟨(hids q hq).1,Nat.lt_of_lt_of_le (hids q hq).2 ca⟩, ?_⟩
    ·dsimp only
     rw[h2]
     refine⟨⟨_,bw⟩,fun q hq=> ?_,hL.keys⟩
     obtain⟨dq,rq⟩:=hL.row q hq
     have hq1:=hids q hq
     exact⟨dq,bw⟩
    ·dsimp only
     rw[h2]
     exact hkeys
   ·have r2:=decide_eq_false hm
    have hS2:∀x,x≠hd→S2 x=S x:=fun x hx=>by rw[hsn,if_neg fun c=>hx c.1.symm]
    have hS3:S2 hd=S hd++[tk]:=by rw[hsn,if_pos ⟨rfl,hm⟩]
    have g1:=wY (S:=S) (S':=S2) hp hL.keys (fun x hx=>hS2 x (by rw[←hpe];exact hx))
    rw[hpe,hS3,List.length_append,List.length_singleton] at g1
    refine cV ?_
    refine⟨(i+1,L),by dsimp only;omega,cK,by dsimp only;omega,ca,⟨_,bw⟩, ?_,hb,fun q hq=>⟨(hids q hq).1,Nat.lt_of_lt_of_le (hids q hq).2 ca⟩, ?_⟩
    ·dsimp only
     rw[h2]
     refine⟨⟨_,bw⟩,fun q hq=> ?_,hL.keys⟩
     by_cases hqp:q=p
     ·subst hqp
      rw[hpe,hS3,List.map_append]
      exact⟨_,bw⟩
     ·obtain⟨dq,rq⟩:=hL.row q hq
      have hq1:=hids q hq
      have hq2:q.2≠p.2:=fun e=>hqp (KA hb hq hp e)
      have hq3:q.1≠hd:=fun e=>hqp (J8 hL.keys hq hp (e.trans hpe.symm))
      rw[hS2 _ hq3]
      exact⟨dq,bw⟩
    ·dsimp only
     rw[h2]
     intro h
     by_cases e:h=hd
     ·rw[e,hS3]
      exact⟨fun _=>by simp,fun _=>hx⟩
     ·rw[hS2 h e];exact hkeys h
  ·have g0:=vD (S:=S) (.sc (.slice none 0 0)) hx
   have c0:=contains_nil tk
   have hS0:S hd=[]:=by
    have:=mt (hkeys hd).2 hx
    simpa using this
   have hS2:∀x,x≠hd→S2 x=S x:=fun x hx=>by rw[hsn,if_neg fun c=>hx c.1.symm]
   have hS3:S2 hd=[tk]:=by rw[hsn,hS0,if_pos ⟨rfl,by simp⟩];rfl
   have g1:=wX (S:=S) (S':=S2) (n+22) hx hS2
   rw[hS3,List.length_singleton] at g1
   refine cV ?_
   refine⟨(i+1,L++[(hd,n+22)]),by dsimp only;omega,cK,by dsimp only;omega,ca,⟨_,bw⟩, ?_, ?_,fun q hq=> ?_, ?_⟩
   ·dsimp only
    rw[h2]
    refine⟨⟨_,bw⟩,fun q hq=> ?_, ?_⟩
    ·rcases List.mem_append.1 hq with hq|hq
     ·obtain⟨dq,rq⟩:=hL.row q hq
      have hq1:=hids q hq
      have hq3:q.1≠hd:=fun e=>hx (by rw[←e];exact List.mem_map.2 ⟨q,hq,rfl⟩)
      rw[hS2 _ hq3]
      exact⟨dq,bw⟩
     ·simp only[List.mem_cons,List.not_mem_nil,or_false] at hq
      subst hq
      dsimp only
      rw[hS3]
      exact⟨_,bw⟩
    ·rw[List.map_append]
     refine List.nodup_append.2 ⟨hL.keys,by simp,fun a ha b hb=> ?_⟩
     simp only[List.map_cons,List.map_nil,List.mem_cons,List.not_mem_nil,or_false] at hb
     subst hb
     exact fun e=>hx (e▸ha)
   ·dsimp only
    rw[List.map_append]
    refine List.nodup_append.2 ⟨hb,by simp,fun a ha b hb=> ?_⟩
    simp only[List.map_cons,List.map_nil,List.mem_cons,List.not_mem_nil,or_false] at hb
    subst hb
    obtain⟨q,hq,rfl⟩:=List.mem_map.1 ha
    have:=(hids q hq).2
    omega
   ·rcases List.mem_append.1 hq with hq|hq
    ·exact⟨(hids q hq).1,Nat.lt_of_lt_of_le (hids q hq).2 ca⟩
    ·simp only[List.mem_cons,List.not_mem_nil,or_false] at hq
     subst hq
     refine⟨by dsimp only;omega, ?_⟩
     exact ca
   ·dsimp only
    rw[h2]
    intro h
    rw[List.map_append,List.mem_append]
    by_cases e:h=hd
    ·rw[e,hS3];simp
    ·rw[hS2 h e,←hkeys h];simp[e]
 ·obtain rfl:i=(dJ u).length:=by omega
  rw[List.take_length] at hL hkeys r1
  refine cV ?_
  have hne:∀p∈L,jL (dJ u) p.1≠[]:=fun p hp=>(hkeys p.1).1 (List.mem_map.2 ⟨p,hp,rfl⟩)
  have hls:∀h,(jL (dJ u) h).length≤16:=fun h=>EO hr (fun e he=>he) h
  have h12:(12:Nat)∉L.map (·.2):=fun h=>by
   obtain⟨p,hp,e⟩:=List.mem_map.1 h
   have:=(hids p hp).1
   omega
  have h00:(0:Nat)∉L.map (·.2):=fun h=>by
   obtain⟨p,hp,e⟩:=List.mem_map.1 h
   have:=(hids p hp).1
   omega
  refine⟨[(1, .pt 0 1 0 0),(7, .mp 12)],_,_,Rt.less cK,WC.seq (WX (L:=L) (S:=jL (dJ u)) KM (by decide) rfl (by simp[uA,cc]) hb hL.keys h12 ⟨_,bw⟩ (fun p hp=> ?_) (fun p hp=>⟨hne p hp,by have:=hls p.1;omega⟩) fun H' hrows hrest=> ?_)⟩
  ·obtain⟨dp,rp⟩:=hL.row p hp
   have:=hids p hp
   exact⟨dp,bw⟩
  have hL':pe 12 L (eo u) H':=by
   refine⟨⟨d1, ?_⟩,hrows,hL.keys⟩
   rw[hrest 12 h12,show eV L (eo u)=eV L (jL (dJ u)) from CT fun p _=>kq _]
   exact bw
  have hu0:∃d,bu H' 0=some (.row 25 3 d [u.av]):=⟨d0,by rw[hrest 0 h00];exact bw⟩
  have hlead:lZ L (eo u)=eo u:=by
   funext x
   unfold lZ
   split
   ·rfl
   ·rename_i hx
    have:=mt (hkeys x).2 hx
    simp only[ne_eq,Classical.not_not] at this
    unfold eo
    rw[this];simp[eH]
  have hin:=y6 hr
  clear r0 r1 hrest hrows hL
  obtain⟨d0,r0⟩:=hu0
  show WC Tryz.prog 86 0 _ _ H' _ _
  refine WC.last lr6.ok ?_
  refine cV ?_
  simp only[List.length_map]
  have hids1:∀p∈L,p.2<n+1:=fun p hp=>Nat.lt_succ_of_lt (hids p hp).2
  refine aN (fun σ:Nat×AV=>[(1, .pt 0 1 0 0),(7, .mp 12),(11,σ.2),(61,i64 u.cE.length),(62,i64 σ.1)])
   (fun σ H2 n2=>σ.1≤u.cE.length∧n+1≤n2∧(∀y,y<n+1→bu H2 y=bu H' y)∧((jM (eo u) u.cE.length σ.1=none∧σ.2= .sc (.slice none 0 0))∨∃w b d,jM (eo u) u.cE.length σ.1=some w∧σ.2= .sl b w.length∧n+1≤b∧b<n2∧bu H2 b=some (.row 3 1 d (w.map i64)))) (fun σ=>u.cE.length - σ.1) (0, .sc (.slice none 0 0))
   cK ⟨Nat.zero_le _,ca,fun y hy=>cD, .inl ⟨rfl,rfl⟩⟩ ?_
  rintro⟨k,bA⟩ H2 n2 ⟨hk,hn2,hkeep,hbest⟩
  dsimp only at hk hbest ⊢
  have hL2:=hL'.cU (by omega:12<n+1) hids1 hkeep
  have r2:bu H2 0=some (.row 25 3 d0 [u.av]):=(hkeep 0 (by omega)).trans r0
  by_cases hkl:k<u.cE.length
  ·have hnx:=fun w hw=>((lq (lead:=eo u) (n:=u.cE.length) (first:=(k:Int)) hin ⟨by omega,by omega⟩).1 w hw)
   have hstep:jM (eo u) u.cE.length (k+1)=match pn (eo u) u.cE.length (k:Int),jM (eo u) u.cE.length k with
    |none,b=>b
    |some l,none=>some l
    |some l,some b=>if l.length<b.length then some l else some b:=rfl
   rcases hbest with⟨hb0,rfl⟩|⟨w,b,d3,hb0,rfl,hb1,hb2,r3⟩
   ·rw[hb0] at hstep
    refine cV ?_
    refine aL (nX (n:=u.cE.length) (first:=(k:Int)) (hL2.cU (nx:=n2) (by omega) (fun p hp=>by have:=hids p hp;omega) fun y hy=>cD) ?_ ?_ (by rw[hlead];exact hin) hle (fun x=>by unfold eo;rw[kq];exact hls x) ⟨by omega,by omega⟩) ?_
    ·exact ca
    ·exact fun p hp=>Nat.lt_of_lt_of_le (hids p hp).2 ca
    rintro r H4 m4 ⟨hm4,hkeep4,hR4⟩
    rw[hlead] at hR4
    unfold nZ at hR4
    cases hq:pn (eo u) u.cE.length (k:Int) with
    |none=>
     rw[hq] at hR4 hstep
     dsimp only at hR4 hstep
     subst hR4
     refine cV ?_
     refine⟨(k+1, .sc (.slice none 0 0)),by dsimp only;omega,cK,by dsimp only;omega,ca,fun y hy=>Eq.trans cD (Eq.trans (hkeep4 y ?_) (Eq.trans cD (hkeep y hy))), .inl ⟨hstep,rfl⟩⟩
     exact Nat.lt_of_lt_of_le (Nat.lt_of_lt_of_le hy hn2) ca
    |some w=>
     rw[hq] at hR4 hstep
     dsimp only at hR4 hstep
     obtain⟨b,d4,hb1,hb2,rfl,r4⟩:=hR4
     obtain⟨_,hcy,_,hwin,_⟩:=hnx w hq
     have hwl:=hcy.pos
     refine cV ?_
     refine aW (w7 bw ⟨by simp,hwl⟩) ?_
     refine cV ?_
     refine⟨(k+1, .sl b w.length),by dsimp only;omega,cK,by dsimp only;omega,ca,fun y hy=>Eq.trans cD (Eq.trans (hkeep4 y ?_) (Eq.trans cD (hkeep y hy))), .inr ⟨w,b,d4,hstep,rfl, ?_, ?_,bw⟩⟩
     ·exact Nat.lt_of_lt_of_le (Nat.lt_of_lt_of_le hy hn2) ca
     ·omega
     ·exact Nat.lt_of_lt_of_le hb2 ca
   ·rw[hb0] at hstep
    refine cV ?_
    refine aL (nX (n:=u.cE.length) (first:=(k:Int)) (hL2.cU (nx:=n2) (by omega) (fun p hp=>by have:=hids p hp;omega) fun y hy=>cD) ?_ ?_ (by rw[hlead];exact hin) hle (fun x=>by unfold eo;rw[kq];exact hls x) ⟨by omega,by omega⟩) ?_
    ·exact ca
    ·exact fun p hp=>Nat.lt_of_lt_of_le (Nat.lt_of_lt_of_le (hids1 p hp) hn2) ca
    rintro r H4 m4 ⟨hm4,hkeep4,hR4⟩
    rw[hlead] at hR4
    unfold nZ at hR4
    have hb3:=hkeep4 b (Nat.lt_of_lt_of_le hb2 ca)
    have r5:bu H4 b=some (.row 3 1 d3 (w.map i64)):=hb3.trans bw
    clear hb3
    have hwl:0<w.length:=by
     obtain⟨f,hf,hbf,_⟩:=kP hb0
     exact(((lq (lead:=eo u) (n:=u.cE.length) (first:=(f:Int)) hin ⟨by omega,by omega⟩).1 w hbf).2.1).pos
    cases hq:pn (eo u) u.cE.length (k:Int) with
    |none=>
     rw[hq] at hR4 hstep
     dsimp only at hR4 hstep
     subst hR4
     refine cV ?_
     refine⟨(k+1, .sl b w.length),by dsimp only;omega,cK,by dsimp only;omega,ca,fun y hy=>Eq.trans cD (Eq.trans (hkeep4 y ?_) (Eq.trans cD (hkeep y hy))), .inr ⟨w,b,d3,hstep,rfl,hb1, ?_,bw⟩⟩
     ·exact Nat.lt_of_lt_of_le (Nat.lt_of_lt_of_le hy hn2) ca
     ·exact Nat.lt_of_lt_of_le hb2 ca
    |some w2=>
     rw[hq] at hR4 hstep
     dsimp only at hR4 hstep
     obtain⟨b4,d4,hb4,hb5,rfl,r4⟩:=hR4
     obtain⟨_,hcy,_,hwin,_⟩:=hnx w2 hq
     have hwl2:=hcy.pos
     have a1:(w.map i64).length=w.length:=List.length_map _
     have a2:(w2.map i64).length=w2.length:=List.length_map _
     by_cases hlt:w2.length<w.length
     ·rw[if_pos hlt] at hstep
      have r6:=decide_eq_true (show((w2.length:Int))<w.length by omega)
      refine cV ?_
      refine⟨(k+1, .sl b4 w2.length),by dsimp only;omega,cK,by dsimp only;omega,ca,fun y hy=>Eq.trans cD (Eq.trans (hkeep4 y ?_) (Eq.trans cD (hkeep y hy))), .inr ⟨w2,b4,d4,hstep,rfl, ?_, ?_,bw⟩⟩
      ·exact Nat.lt_of_lt_of_le (Nat.lt_of_lt_of_le hy hn2) ca
      ·omega
      ·exact Nat.lt_of_lt_of_le hb5 ca
     ·rw[if_neg hlt] at hstep
      refine cV ?_
      refine aA (fun hc=>absurd hc (by simp;omega)) (fun hc=> ?_)
      refine cV ?_
      refine⟨(k+1, .sl b w.length),by dsimp only;omega,cK,by dsimp only;omega,ca,fun y hy=>Eq.trans cD (Eq.trans (hkeep4 y ?_) (Eq.trans cD (hkeep y hy))), .inr ⟨w,b,d3,hstep,rfl,hb1, ?_,bw⟩⟩
      ·exact Nat.lt_of_lt_of_le (Nat.lt_of_lt_of_le hy hn2) ca
      ·exact Nat.lt_of_lt_of_le hb2 ca
  ·obtain rfl:k=u.cE.length:=by omega
   rcases hbest with⟨hb0,rfl⟩|⟨w,b,d3,hb0,rfl,hb1,hb2,r3⟩
   ·refine cV ?_
    exact⟨by rw[hR,hb0];rfl⟩
   ·have hwl:0<w.length:=by
     obtain⟨f,hf,hbf,_⟩:=kP hb0
     exact(((lq (lead:=eo u) (n:=u.cE.length) (first:=(f:Int)) hin ⟨by omega,by omega⟩).1 w hbf).2.1).pos
    refine cV ?_
    refine aW (w7 bw ⟨by simp,hwl⟩) ?_
    refine cV ?_
    exact⟨by rw[hR,hb0];exact⟨b,d3,rfl,bw⟩⟩
end Go.Proofs.YtjopoheligmmoaaGreatDoor
end
section
/- How a machine stands, as an end; a slot told anew ahead of a drawn stretch. -/
namespace Go.Proofs.YtjopoheligmmoaaGreatDoor
open Go Go.cZ Go.Proofs
set_option linter.unusedSimpArgs false
set_option linter.unusedVariables false
set_option maxRecDepth 8000
theorem VJ {u:bx} {m:MS} {L:ML} {H:Hp} (hM:L.At u m H) (nx:Nat):Wk (.pt L.mr 1 0 0) H nx (m.fz u) (lY (jr L.all H) H) nx:=by
 have:=Wk.YF (nx:=nx) (r:= .pt L.mr 1 0 0) (jr L.all H) 6 (fun b q hq=>qY hq)
 rwa[hM.tq 2] at this
end Go.Proofs.YtjopoheligmmoaaGreatDoor
end
section
/- Who waits for whom: the walks. -/
namespace Go.cZ
open Go.RowKit
set_option linter.unusedSimpArgs false
set_option linter.unusedVariables false
section
variable {P:Program} {n lo:Nat} {fr:Fr} {H:Hp} {nx:Nat} {Q:QT}
theorem WL.rt {lc:LC} {fr2:Fr} {H2:Hp} {nx2:Nat} (hw:Rt fr H nx fr2 H2 nx2) (h:WL P n lo lc fr2 H2 nx2 Q):WL P n lo lc fr H nx Q:=
 fun code hc w0 M0 c0 a w hh=>h code hc w0 M0 c0 a w (hw _ _ _ _ _ _ _ hh)
theorem WL.cut {a b:LC} (h:Go (W P n lo a fr H nx (hX (fun fr' H' nx'=>∃fr2 H2 nx2,Rt fr' H' nx' fr2 H2 nx2∧WL P n lo b fr2 H2 nx2 Q) Q))):WL P n lo (.seq a b) fr H nx Q:=
 WL.seq ((ez h).mono fun e fr H nx hh=>by
  cases e with
  |normal=>
   obtain⟨fr2,H2,nx2,h1,h2⟩:=hh
   exact WL.rt h1 h2
  |exit id=>exact hh
  |ret=>exact hh)
theorem au {f:FuncId} {args:List AV} {R:AV→Hp→Nat→Prop} (X:cu P f) (ha:Nat.ble args.length X.n=true) (h:WL P X.n nx X.lc (iQ 0 args) H nx (tJ X.rs R)):cG P f args H nx R:=by
 obtain⟨fn,h1,h2,h3,h4,h5⟩:=X.ok
 have h6:X.n=fn.ntmps:=h5
 rw[h6] at h ha
 exact cG.kd h1 h2 h3 h4 (Nat.le_of_ble_eq_true ha) (h.mono fun _ _ _ _=>wm)
theorem WL.last {lc:LC} (h:Go (W P n lo lc fr H nx Q)):WL P n lo lc fr H nx Q:=ez h
theorem ah {lc:LC} {b:Nat} {q:Option eU} (h:bu H b=q) (k:∀H2:Hp,bu H2 b=q→Go (W P n lo lc fr H2 nx Q)):W P n lo lc fr H nx Q:=k H h
end
end Go.cZ
namespace Go.Proofs.YtjopoheligmmoaaGreatDoor
open Go Go.cZ Go.Proofs
set_option linter.unusedSimpArgs false
set_option linter.unusedVariables false
set_option maxRecDepth 8000
theorem X3 (u:bx) (m:MS) (h:eN u m) {t:Nat} (ht:t<u.bz.length):Pure Tryz.prog 30 [m.fz u,i64 t] (fun r=>r=i64 (m.at_.getD t 0)):=by
 have c0:=A6 u m t
 have hl:=h.pk
 rw[decide_eq_true (by omega:¬((t:Int)<0∨(m.at_.length:Int)≤t))] at c0
 have e0:=fun d=>ints_at (l:=m.at_) (k:=t) (by omega) d
 have a0:(m.at_.map i64).length=u.bz.length:=by simp[hl]
 refine aJ N5 rfl ?_
 refine cV ?_
 first|exact rfl|trivial
theorem JD (u:bx) (m:MS) (h:eN u m) {x:Nat} (hx:x<u.cE.length):Pure Tryz.prog 33 [m.fz u,i64 x] (fun r=>r=i64 (m.hold.getD x 0)):=by
 have hl:=h.hl
 have e0:=fun d=>ints_at (l:=m.hold) (k:=x) (by omega) d
 have a0:(m.hold.map i64).length=u.cE.length:=by simp[hl]
 refine aJ N7 rfl ?_
 refine cV ?_
 refine aA (fun hc=>absurd hc (by simp[hl];omega)) fun hc=> ?_
 refine cV ?_
 first|exact rfl|trivial
abbrev oJ (u:bx) (m:MS):AV:= .agg [ct u.shared,ct u.cE,di u.bz,m.fz u]
theorem oq (u:bx) (hr:cT u) (m:MS) (h:eN u m) {t:Nat} (ht:t<u.bz.length):Pure Tryz.prog 50 [oJ u m,i64 t] (fun r=>r=i64 (eM u m t)):=by
 have c0:=X3 u m h ht
 have hno:=h.node hr ht
 obtain⟨p0,p1⟩:=h.gb t ht
 have e0:∀d,(u.bz.map cF.av).getD ((t:Int)).toNat d=(u.gr t).av:=fun d=>s9 ht d
 have a0:(u.bz.map cF.av).length=u.bz.length:=by simp
 have hh:eM u m t=if((u.gr t).nd (m.at_.getD t 0).toNat).kind=5 then m.hold.getD ((u.gr t).nd (m.at_.getD t 0).toNat).cQ.toNat 0 else -1:=by
  unfold eM MS.node;rw[Int.toNat_natCast]
 rw[hh]
 unfold MS.node at hno
 obtain⟨j,hj⟩:∃j:Nat,m.at_.getD t 0=j:=⟨(m.at_.getD t 0).toNat,by omega⟩
 rw[hj] at c0 p1 hno ⊢
 rw[Int.toNat_natCast] at hno ⊢
 generalize u.gr t=g at *
 have e1:∀d,(g.nodes.map Node.av).getD ((j:Int)).toNat d=(g.nd j).av:=fun d=>jj (by omega) d
 have a1:(g.nodes.map Node.av).length=g.nodes.length:=by simp
 generalize g.nd j=n at *
 by_cases h5:n.kind=5
 ·obtain⟨x0,x1⟩:=fV hno (.inl h5)
  have c1:=JD u m h (x:=n.cQ.toNat) (by omega)
  rw[Int.toNat_of_nonneg x0] at c1
  rw[if_pos h5]
  have r0:decide (n.kind≠5)=false:=decide_eq_false fun e=>e h5
  refine aJ JR rfl ?_
  refine cV ?_
  first|exact rfl|trivial
 ·rw[if_neg h5]
  have r0:decide (n.kind≠5)=true:=decide_eq_true h5
  refine aJ JR rfl ?_
  refine cV ?_
  first|exact rfl|trivial
set_option maxHeartbeats 2000000 in
theorem DU (u:bx) (hr:cT u) (m:MS) (h:eN u m) {t:Nat} (ht:t<u.bz.length) (H0:Hp) (nx:Nat):
 cG Tryz.prog 49 [i64 t, .fn (.func 50) [oJ u m] []] H0 nx (fun r H k=>nx≤k∧(∀y,y<nx→bu H y=bu H0 y)∧nZ (kD (eM u m) u.bz.length (t:Int)) nx k r H):=by
 have hfew:=hr.pz.2.2
 have c0:=oq u hr m h ht
 have hf:cI 0 (oJ u m):=by simp[cI,cX,cB]
 refine aM OE rfl ?_
 refine cV ?_
 generalize hfn:eM u m=hd at *
 have hlt:∀x:Int,0≤x→x<u.bz.length→-1≤hd x∧hd x<u.bz.length:=fun x h0 h1=>by rw[←hfn];exact qF hr h ⟨h0,h1⟩
 have hcw:∀x:Int,0≤x→x<u.bz.length→Pure Tryz.prog 50 [oJ u m,i64 x] (fun r=>r=i64 (hd x)):=fun x h0 h1=>by
  obtain⟨k,rfl⟩:∃k:Nat,x=k:=⟨x.toNat,by omega⟩
  rw[←hfn];exact oq u hr m h (by omega)
 refine aN (fun σ:Int×List Int=>[(0,i64 t),(1, .fn (.func 50) [oJ u m] []),(5, .sl (nx+2) σ.2.length),(6,i64 σ.1)])
  (fun σ H2 n2=>ju hd (t:Int) σ.2∧(∀x∈σ.2,0≤x∧x<u.bz.length)∧σ.1=hd (σ.2.getD (σ.2.length - 1) 0)∧kC hd (t:Int) (u.bz.length+1 - σ.2.length) σ.2 σ.1=kD hd u.bz.length (t:Int)∧nx+3≤n2∧(∃d,bu H2 (nx+2)=some (.row 3 1 d (σ.2.map i64)))∧∀y,y<nx→bu H2 y=bu H0 y) (fun σ=>u.bz.length+1 - σ.2.length) (hd t,[(t:Int)])
  cK ⟨.one (by omega),fun x hx=>by simp only[List.mem_cons,List.not_mem_nil,or_false] at hx;omega,rfl,rfl,ca,⟨_,bw⟩,fun y hy=>cD⟩ ?_
 clear c0
 rintro⟨s,out⟩ H2 n2 ⟨hg,hin,hs,hR,hn2,⟨d1,r1⟩,hkeep⟩
 dsimp only at hg hin hs hR r1 ⊢
 have hol:=ft _ _ hg.nd hin
 have hp:=hg.pos
 have hlast:=hin _ (cR 0 (show out.length - 1<out.length by omega))
 have hsl:=hlt _ hlast.1 hlast.2
 rw[←hs] at hsl
 have a0:(out.map i64).length=out.length:=List.length_map _
 rw[show u.bz.length+1 - out.length=(u.bz.length - out.length)+1 by omega,kC] at hR
 by_cases hst:s=t
 ·rw[if_pos hst] at hR
  have r0:decide (s≠t)=false:=decide_eq_false fun e=>e hst
  rw[←hR]
  refine cV ?_
  refine⟨⟨?_,fun y hy=>Eq.trans cD (hkeep y hy),nx+2,d1,by omega, ?_,rfl,bw⟩⟩
  ·exact ca
  ·exact ca
 ·rw[if_neg hst] at hR
  have r0:decide (s≠t)=true:=decide_eq_true hst
  have hview:∀H3,bu H3 (nx+2)=some (.row 3 1 d1 (out.map i64))→[AV.sl (nx+2) out.length,i64 s].map (cZ.dV H3 6)=[cM out,i64 s]:=fun H3 h3=>HU s h3
  have hfit:cX 0 [cM out,i64 s]:=by
   simp only[cX,cI];exact⟨(cB _ _).2 fun _ _=>by simp[cI],trivial,trivial⟩
  refine cV ?_
  refine bI (fun _=>jx out s (by omega)) (hview _ bw) hfit (by simp[fc]) ?_
  by_cases h0:s<0
  ·rw[if_pos (.inl h0)] at hR
   rw[←hR]
   refine cV ?_
   refine⟨⟨?_,fun y hy=>Eq.trans cD (hkeep y hy),rfl⟩⟩
   exact ca
  ·by_cases hm:s∈out
   ·rw[if_pos (.inr hm)] at hR
    rw[←hR]
    rw[decide_eq_true hm]
    refine cV ?_
    refine⟨⟨?_,fun y hy=>Eq.trans cD (hkeep y hy),rfl⟩⟩
    exact ca
   ·rw[if_neg fun e=>e.elim h0 hm] at hR
    rw[decide_eq_false hm]
    have c0:=hcw s (by omega) hsl.2
    refine cV ?_
    have hm2:=hg.more hs (by omega) hm
    have hin2:∀x∈out++[s],0≤x∧x<u.bz.length:=fun x hx=>by
     rcases List.mem_append.1 hx with hx|hx
     ·exact hin x hx
     ·simp only[List.mem_cons,List.not_mem_nil,or_false] at hx;omega
    refine⟨(hd s,out++[s]), ?_,by rw[List.length_append];exact cK,hm2,hin2, ?_, ?_,ca,⟨_,by dsimp only;rw[List.map_append];exact bw⟩,fun y hy=>Eq.trans cD (hkeep y hy)⟩
    ·dsimp only;rw[List.length_append,List.length_singleton];omega
    ·dsimp only;rw[List.length_append,List.length_singleton,Nat.add_sub_cancel,fF]
    ·dsimp only
     rw[List.length_append,List.length_singleton,show u.bz.length+1 - (out.length+1)=u.bz.length - out.length by omega]
     exact hR
end Go.Proofs.YtjopoheligmmoaaGreatDoor
end
section
/- Knot: the walk. -/
namespace Go.Proofs.YtjopoheligmmoaaGreatDoor
open Go Go.cZ Go.Proofs
set_option linter.unusedSimpArgs false
set_option linter.unusedVariables false
set_option maxRecDepth 8000
abbrev XO (u:bx) (m:MS) (t:Int):MS:=if m.kx u t=0 then(m.step u t.toNat).1 else m
theorem DA (u:bx) (m:MS) (t:Int):(XO u m t).cP.length≤m.cP.length+1:=by
 unfold XO
 split
 ·exact mS u m _
 ·omega
theorem wx {u:bx} {m:MS} {L:ML} {H:Hp} {nx:Nat} (hu:u.Wf) (hr:cT u) (h:eN u m) (hM:L.At u m H) (hlt:∀y∈L.all,y<nx) (hpl:m.cP.length≤1048576) (t:Int):
 cG Tryz.prog 31 [.pt L.mr 1 0 0,i64 t] H nx (fun r H' k=>(∃d e,r= .dK [.agg d,i64 e])∧L.At u (XO u m t) H'∧nx≤k∧∀y,y<nx→y∉L.all→bu H' y=bu H y):=by
 by_cases hb:m.kx u t=0
 ·obtain⟨k,rfl,hk⟩:=BP h hb
  have:=vS hu hr h hM hlt hpl hk hb
  refine this.mono ?_
  rintro r H' n ⟨rfl,h1,h2,h3⟩
  refine⟨⟨_,_,rfl⟩, ?_,h2,h3⟩
  unfold XO;rw[if_pos hb,Int.toNat_natCast];exact h1
 ·refine(P0 hr h hM hlt t hb).mono ?_
  rintro r H' n ⟨rfl,h2,h3⟩
  refine⟨⟨_,_,rfl⟩, ?_,h2,fun y hy _=>h3 y hy⟩
  unfold XO;rw[if_neg hb]
  exact hM.cU fun y hy=>h3 y (hlt y hy)
theorem KE (u:bx) (m:MS) (w:List Int) {i:Nat} (hi:i<w.length):fO u m (w.take (i+1))=XO u (fO u m (w.take i)) (w.getD i 0):=by
 rw[List.take_succ_eq_append_getElem hi,vK,show w[i]=w.getD i 0 by simp[List.getD,hi]]
 rfl
theorem yW {u:bx} {m:MS} {k:Nat} {l:List Int} (h:iI u m k=some l):∀n,k≤n→iI u m n=some l:=by
 intro n hn
 obtain⟨d,rfl⟩:∃d,n=k+d:=⟨n - k,by omega⟩
 induction d with
 |zero=>exact h
 |succ d ih=>
  rw[←Nat.add_assoc,iI,ih (by omega)]
def rV (u:bx) (m:MS) (r:AV) (H:Hp):Prop:=match iR u m with
 |none=>r= .dK [.sc (.slice none 0 0),bl false,i64 0]
 |some w=>∃b d,r= .dK [.sl b w.length,bl true,i64 0]∧bu H b=some (.row 3 1 d (w.map i64))
theorem yX (u:bx) (hu:u.Wf) (hr:¬cT u) (w:List Int):Pure Tryz.prog 21 [u.av,cM w] (fun r=>r= .dK [.sc (.slice none 0 0),bl false,i64 60]):=by
 have c0:=HC u hu hr
 refine aJ CW rfl ?_
 refine cV ?_
 first|exact rfl|trivial
set_option maxHeartbeats 4000000 in
theorem vA (u:bx) (hu:u.Wf) (hr:cT u) (w:List Int) (hw:1048576<w.length):cG Tryz.prog 21 [u.av,cM w] [] 0 (fun r H n=>r= .dK [.sc (.slice none 0 0),bl false,i64 3]):=by
 have a0:(w.map i64).length=w.length:=List.length_map _
 refine aM CW rfl ?_
 refine cV ?_
 refine aL (pF u hu hr _ _) ?_
 rintro _ H1 n1 ⟨L,rfl,hM,hL,hn1,hkp⟩
 refine cV ?_
 exact⟨rfl⟩
set_option maxHeartbeats 4000000 in
theorem mz (u:bx) (hu:u.Wf) (hr:cT u) (w:List Int) (hw:w.length≤1048576):cG Tryz.prog 21 [u.av,cM w] [] 0 (fun r H n=>rV u (fO u (dY u) w) r H):=by
 have a0:(w.map i64).length=w.length:=List.length_map _
 have hgl:=hr.pz.2.2
 refine au CW rfl ?_
 refine WL.cut ?_
 refine cV ?_
 refine⟨_,_,_,Rt.refl _ _ _,WL.cut ?_⟩
 refine cV ?_
 refine aL (pF u hu hr _ _) ?_
 rintro _ H1 n1 ⟨L,rfl,hM,hL,hn1,hkp⟩
 refine cV ?_
 refine⟨_,_,_,Rt.refl _ _ _,WL.cut ?_⟩
 refine cV ?_
 refine⟨_,_,_,Rt.refl _ _ _,WL.cut ?_⟩
 refine cV ?_
 obtain⟨d0,r0⟩:∃d,bu H1 0=some (.row 25 3 d [u.av]):=⟨_,Eq.trans (hkp 0 (by omega)) bw⟩
 have hL0:∀x∈L.all,1≤x:=fun x hx=>by have:=(hL x hx).1;omega
 have hL1:∀x∈L.all,x<n1:=fun x hx=>(hL x hx).2
 clear hkp hL
 refine⟨_,_,_,Rt.refl _ _ _,WL.cut ?_⟩
 refine cV ?_
 rw[a0]
 refine aN (fun i:Nat=>[(2, .pt 0 1 0 0),(7, .pt L.mr 1 0 0),(25,cM w),(26,i64 w.length),(27,i64 i)])
  (fun i H n=>i≤w.length∧n1≤n∧L.At u (fO u (dY u) (w.take i)) H∧(fO u (dY u) (w.take i)).cP.length≤i∧∃d,bu H 0=some (.row 25 3 d [u.av])) (fun i=>w.length - i) 0
  cK ⟨Nat.zero_le _,ca,hM.cU fun y hy=> ?_,Nat.zero_le _,⟨_,bw⟩⟩ ?_
 ·have:=hL1 y hy;have:=hL0 y hy;exact cD
 clear r0 hM
 rintro i H n ⟨hi,hn,hM,hpr,⟨d0,r0⟩⟩
 have hsit:uJ u (fO u (dY u) (w.take i)):=uJ.KD hu hr (uJ.new hu hr)
 by_cases hil:i<w.length
 ·have e0:∀d,(w.map i64).getD ((i:Int)).toNat d=i64 (w.getD i 0):=fun d=>ints_at hil d
  have hpn:=KE u (dY u) w hil
  have hp2:=DA u (fO u (dY u) (w.take i)) (w.getD i 0)
  rw[←hpn] at hp2
  refine cV ?_
  refine aL (wx hu hr hsit.ok (hM.cU fun y hy=> ?_) (fun y hy=> ?_) (by omega) (w.getD i 0)) ?_
  ·have:=hL1 y hy;have:=hL0 y hy;exact cD
  ·exact Nat.lt_of_lt_of_le (Nat.lt_of_lt_of_le (hL1 y hy) hn) ca
  rintro _ H2 n2 ⟨⟨d,e,rfl⟩,hM2,hn2,hkeep2⟩
  rw[←hpn] at hM2
  have r1:bu H2 0=some (.row 25 3 d0 [u.av]):=Eq.trans (hkeep2 0 (by omega) fun h=>by have:=hL0 0 h;omega) bw
  refine cV ?_
  refine⟨i+1,by omega,cK,by omega,ca,hM2.cU fun y hy=> ?_,by omega,⟨_,bw⟩⟩
  have:=hL1 y hy;have:=hL0 y hy;exact cD
 ·obtain rfl:i=w.length:=by omega
  rw[List.take_length] at hM hpr hsit
  refine cV ?_
  generalize fO u (dY u) w=m at *
  have hz:(0:Nat)∉L.all:=fun h=>by have:=hL0 0 h;omega
  have hM2:L.At u m (dC H none):=hM.cU fun y hy=>by have:=hL1 y hy;have:=hL0 y hy;exact cD
  refine⟨[(2, .pt 0 1 0 0),(7,m.fz u)],_,_,Rt.trans (Rt.slot 7 rfl (VJ hM2 _)) (Rt.less cK),WL.last (ah (b:=0) (q:=some (.row 25 3 d0 [u.av])) ((eG hz).trans (Eq.trans cD r0)) fun H2 r3=> ?_)⟩
  clear hM hM2 r0 hpr
  refine cV ?_
  simp only[List.length_map]
  refine aN (fun t:Nat=>[(2, .pt 0 1 0 0),(11, .pt (n+4) 1 0 0),(39,di u.bz),(40,i64 u.bz.length),(41,i64 t)])
   (fun t H3 n3=>t≤u.bz.length∧n+5≤n3∧iI u m t=none∧∃d,bu H3 (n+4)=some (.row 90 4 d [oJ u m])) (fun t=>u.bz.length - t) 0
   cK ⟨Nat.zero_le _,ca,rfl,⟨_,bw⟩⟩ ?_
  clear r3
  rintro t H3 n3 ⟨ht,hn3,hkt,⟨d4,r4⟩⟩
  have hnx:iI u m (t+1)=kD (eM u m) u.bz.length (t:Int):=by
   rw[iI,hkt]
  by_cases htl:t<u.bz.length
  ·refine cV ?_
   refine aL (DU u hr m hsit.ok htl _ _) ?_
   rintro r H5 n5 ⟨hn5,hkeep5,hR⟩
   have r5:bu H5 (n+4)=some (.row 90 4 d4 [oJ u m]):=Eq.trans (hkeep5 (n+4) (Nat.lt_of_lt_of_le (by omega) (show n3≤_ from ca))) bw
   unfold nZ at hR
   cases hq:kD (eM u m) u.bz.length (t:Int) with
   |none=>
    rw[hq] at hR hnx
    dsimp only at hR
    subst hR
    refine cV ?_
    exact⟨t+1,by omega,cK,by omega,ca,hnx,⟨_,bw⟩⟩
   |some l=>
    rw[hq] at hR hnx
    dsimp only at hR
    obtain⟨b,d6,hb1,hb2,rfl,r6⟩:=hR
    have hl:=(mO (by omega) hq).1.pos
    have a2:(l.map i64).length=l.length:=List.length_map _
    refine cV ?_
    refine⟨?_⟩
    unfold rV iR
    rw[yW hnx _ (by omega)]
    exact⟨b,d6,rfl,bw⟩
  ·obtain rfl:t=u.bz.length:=by omega
   refine cV ?_
   refine⟨?_⟩
   unfold rV iR
   rw[hkt]
end Go.Proofs.YtjopoheligmmoaaGreatDoor
end
