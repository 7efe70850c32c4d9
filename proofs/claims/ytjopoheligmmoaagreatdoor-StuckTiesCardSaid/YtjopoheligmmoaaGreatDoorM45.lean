import Derived.Test.YtjopoheligmmoaaGreatDoorM44
import Derived.Test.YtjopoheligmmoaaGreatDoorM41
import Derived.Test.YtjopoheligmmoaaGreatDoorM34
section
/- Ring: the walk. -/
namespace Go.Proofs.YtjopoheligmmoaaGreatDoor
open Go Go.cY Go.Proofs
set_option linter.unusedSimpArgs false
set_option linter.unusedVariables false
set_option maxRecDepth 8000
theorem _root_.Go.cY.WC.last {P:Program} {n lo:Nat} {fr:Fr} {H:Hp} {nx:Nat} {Q:QT} {code:Code} {lc:LC} (hl:cj P n code=some lc) (h:Go (W P n lo lc fr H nx Q)):WC P n lo code fr H nx Q:=WC.low hl (ez h)
theorem wZ {a:AV} {H:Hp} {nx:Nat} {R:AV→Hp→Nat→Prop} (h:WC Tryz.prog 86 nx iX (iK 0 [a]) H nx (sq [.tmp 2, .tmp 3, .tmp 4] R)):cJ Tryz.prog 15 [a] H nx R:=by
 have hn:(Tryz.f15).ntmps=86:=PE
 refine cJ.SX Tryz.func15 (by kernel_rfl) (show _=some iX by kernel_rfl) (lrs:=[.tmp 2, .tmp 3, .tmp 4]) (by kernel_rfl) (by rw[hn];exact(by decide:1≤86)) ?_
 rw[hn]
 exact h
theorem contains_nil (x:Int):Pure Tryz.prog 39 [.sc (.slice none 0 0),i64 x] (fun r=>r=bl false):=
 Pure.args (jm [] x (by decide)) fun c=> .cons (cY.dO.lW c c 1 .any) (.cons (fun _ h=>h) .nil)
theorem G5 {H:Hp} {b:Nat} {e:TypeId} {d:AV} {l:List Int} (x:Int) (h:bt H b=some (.row e 1 d (l.map i64))):[AV.sl b l.length,i64 x].map (cY.dX H 6)=[cO l,i64 x]:=by
 show[cY.dX H 6 (.sl b l.length),i64 x]=_
 rw[dh (k:=5) h (by simp),cy _ ((cC _ _).2 fun _ _=>by simp[cK])]
theorem JR {L:List (Int×Nat)} (hb:(L.map (·.2)).Nodup) {p q:Int×Nat} (hp:p∈L) (hq:q∈L) (e:p.2=q.2):p=q:=by
 obtain⟨i,hi,rfl⟩:=List.getElem_of_mem hp
 obtain⟨j,hj,rfl⟩:=List.getElem_of_mem hq
 have:=(List.getElem_inj (xs:=L.map (·.2)) (h₀:=by simpa using hi) (h₁:=by simpa using hj) hb).1 (by simpa using e)
 subst this;rfl
theorem JP {L:List (Int×Nat)} (hb:(L.map (·.1)).Nodup) {p q:Int×Nat} (hp:p∈L) (hq:q∈L) (e:p.1=q.1):p=q:=by
 obtain⟨i,hi,rfl⟩:=List.getElem_of_mem hp
 obtain⟨j,hj,rfl⟩:=List.getElem_of_mem hq
 have:=(List.getElem_inj (xs:=L.map (·.1)) (h₀:=by simpa using hi) (h₁:=by simpa using hj) hb).1 (by simpa using e)
 subst this;rfl
theorem CA {L:List (Int×Nat)} {S S':Int→List Int} (h:∀p∈L,(S' p.1).length=(S p.1).length):eU L S'=eU L S:=List.map_congr_left fun p hp=>by rw[h p hp]
def K0 (u:bw) (r:AV) (H:Hp):Prop:=match qg u with
 |none=>r= .dP [.sc (.slice none 0 0),bl false,i64 0]
 |some w=>∃b d,r= .dP [.sl b w.length,bl true,i64 0]∧bt H b=some (.row 3 1 d (w.map i64))
set_option maxHeartbeats 4000000 in
theorem J1 (u:bw) (hu:u.Wf) (hr:cT u):cJ Tryz.prog 15 [u.av] [] 0 (fun r H n=>K0 u r H):=by
 have c0:=kr u hu hr
 have hel:=mW hr (Nat.le_refl u.bu.length)
 have hgl:=hr.qX.2.2
 have hle:=hr.qX.2.1
 change (cq u).length≤_ at hel
 refine wZ ?_
 rw[J2]
 refine WC.cut lr0.ok ?_
 refine cU ?_
 refine⟨_,_,_,Rt.refl _ _ _,WC.cut lr1.ok ?_⟩
 refine cU ?_
 refine⟨_,_,_,Rt.refl _ _ _,WC.cut lr2.ok ?_⟩
 refine cU ?_
 refine⟨_,_,_,Rt.refl _ _ _,WC.cut lr3.ok ?_⟩
 refine cU ?_
 refine⟨_,_,_,Rt.refl _ _ _,WC.cut lr4.ok ?_⟩
 refine cU ?_
 simp only[List.length_map]
 clear c0
 have hR:∀r H,K0 u r H=match jF (fb u) u.cE.length u.cE.length with
  |none=>r= .dP [.sc (.slice none 0 0),bl false,i64 0]
  |some w=>∃b d,r= .dP [.sl b w.length,bl true,i64 0]∧bt H b=some (.row 3 1 d (w.map i64)):=fun _ _=>rfl
 have hles:∀i h,(jE ((cq u).take i) h).length≤16:=fun i h=>D6 hr (fun e he=>List.mem_of_mem_take he) h
 refine aM (fun σ:Nat×List (Int×Nat)=>[(1, .pt 0 1 0 0),(7, .mp 12),(23,oV (cq u)),(24,i64 (cq u).length),(25,i64 σ.1)])
  (fun σ H n=>σ.1≤(cq u).length∧13≤n∧(∃d,bt H 0=some (.row 25 3 d [u.av]))∧p7 12 σ.2 (jE ((cq u).take σ.1)) H∧(σ.2.map (·.2)).Nodup∧(∀p∈σ.2,13≤p.2∧p.2<n)∧∀h,h∈σ.2.map (·.1)↔jE ((cq u).take σ.1) h≠[]) (fun σ=>(cq u).length - σ.1) (0,[])
  cH ⟨Nat.zero_le _,c8,⟨_,bx⟩,⟨⟨_,bx⟩,(fun p hp=>by cases hp),List.nodup_nil⟩,List.nodup_nil,(fun p hp=>by cases hp),fun h=>by simp[jE]⟩ ?_
 rintro⟨i,L⟩ H n ⟨hi,hn,⟨d0,r0⟩,hL,hb,hids,hkeys⟩
 dsimp only at hi hL hb hids hkeys ⊢
 have a0:((cq u).map dy.av).length=(cq u).length:=List.length_map _
 obtain⟨d1,r1⟩:=hL.map
 by_cases hil:i<(cq u).length
 ·have e0:∀d,((cq u).map dy.av).getD ((i:Int)).toNat d=((cq u).getD i default).av:=fun d=>by rw[Int.toNat_natCast];exact dA dy.av (cq u) i d hil
  have hsn:=fun h=>pa ((cq u).take i) ((cq u).getD i default) h
  rw[show(cq u).take i++[(cq u).getD i default]=(cq u).take (i+1) by rw[List.take_succ_eq_append_getElem hil];simp[List.getD,hil]] at hsn
  have hl1:=hles i
  have hl2:=hles (i+1)
  generalize (cq u).getD i default=e at *
  generalize h2:jE ((cq u).take (i+1))=S2 at *
  generalize jE ((cq u).take i)=S at *
  obtain⟨hd,tk,th,nd⟩:=e
  dsimp only at hsn
  by_cases hx:hd∈L.map (·.1)
  ·obtain⟨p,hp,hpe⟩:=List.mem_map.1 hx
   have g0:=yG (S:=S) (.sc (.slice none 0 0)) hp hL.keys
   obtain⟨d4,r4⟩:=hL.row p hp
   obtain⟨hp0,hp1⟩:=hids p hp
   rw[hpe] at g0 r4
   have hlS:=hl1 hd
   have hc:=jm (S hd) tk (by omega)
   refine cU ?_
   refine aS hc (G5 tk bx) (by simp only[cZ,cK];exact⟨(cC _ _).2 fun _ _=>by simp[cK],trivial,trivial⟩) (by simp[gA]) ?_
   clear hc
   by_cases hm:tk∈S hd
   ·have r2:=decide_eq_true hm
    have hSS:S2=S:=funext fun h=>by rw[hsn,if_neg fun c=>c.2 (by rw[←c.1];exact hm)]
    rw[hSS] at h2
    refine cU ?_
    refine⟨(i+1,L),by dsimp only;omega,cH,by dsimp only;omega,c8,⟨_,bx⟩, ?_,hb,fun q hq=>⟨(hids q hq).1,Nat.lt_of_lt_of_le (hids q hq).2 c8⟩, ?_⟩
    ·dsimp only
     rw[h2]
     refine⟨⟨_,bx⟩,fun q hq=> ?_,hL.keys⟩
     obtain⟨dq,rq⟩:=hL.row q hq
     have hq1:=hids q hq
     exact⟨dq,bx⟩
    ·dsimp only
     rw[h2]
     exact hkeys
   ·have r2:=decide_eq_false hm
    have hS2:∀x,x≠hd→S2 x=S x:=fun x hx=>by rw[hsn,if_neg fun c=>hx c.1.symm]
    have hS3:S2 hd=S hd++[tk]:=by rw[hsn,if_pos ⟨rfl,hm⟩]
    have g1:=wH (S:=S) (S':=S2) hp hL.keys (fun x hx=>hS2 x (by rw[←hpe];exact hx))
    rw[hpe,hS3,List.length_append,List.length_singleton] at g1
    refine cU ?_
    refine⟨(i+1,L),by dsimp only;omega,cH,by dsimp only;omega,c8,⟨_,bx⟩, ?_,hb,fun q hq=>⟨(hids q hq).1,Nat.lt_of_lt_of_le (hids q hq).2 c8⟩, ?_⟩
    ·dsimp only
     rw[h2]
     refine⟨⟨_,bx⟩,fun q hq=> ?_,hL.keys⟩
     by_cases hqp:q=p
     ·subst hqp
      rw[hpe,hS3,List.map_append]
      exact⟨_,bx⟩
     ·obtain⟨dq,rq⟩:=hL.row q hq
      have hq1:=hids q hq
      have hq2:q.2≠p.2:=fun e=>hqp (JR hb hq hp e)
      have hq3:q.1≠hd:=fun e=>hqp (JP hL.keys hq hp (e.trans hpe.symm))
      rw[hS2 _ hq3]
      exact⟨dq,bx⟩
    ·dsimp only
     rw[h2]
     intro h
     by_cases e:h=hd
     ·rw[e,hS3]
      exact⟨fun _=>by simp,fun _=>hx⟩
     ·rw[hS2 h e];exact hkeys h
  ·have g0:=uj (S:=S) (.sc (.slice none 0 0)) hx
   have c0:=contains_nil tk
   have hS0:S hd=[]:=by
    have:=mt (hkeys hd).2 hx
    simpa using this
   have hS2:∀x,x≠hd→S2 x=S x:=fun x hx=>by rw[hsn,if_neg fun c=>hx c.1.symm]
   have hS3:S2 hd=[tk]:=by rw[hsn,hS0,if_pos ⟨rfl,by simp⟩];rfl
   have g1:=wG (S:=S) (S':=S2) (n+22) hx hS2
   rw[hS3,List.length_singleton] at g1
   refine cU ?_
   refine⟨(i+1,L++[(hd,n+22)]),by dsimp only;omega,cH,by dsimp only;omega,c8,⟨_,bx⟩, ?_, ?_,fun q hq=> ?_, ?_⟩
   ·dsimp only
    rw[h2]
    refine⟨⟨_,bx⟩,fun q hq=> ?_, ?_⟩
    ·rcases List.mem_append.1 hq with hq|hq
     ·obtain⟨dq,rq⟩:=hL.row q hq
      have hq1:=hids q hq
      have hq3:q.1≠hd:=fun e=>hx (by rw[←e];exact List.mem_map.2 ⟨q,hq,rfl⟩)
      rw[hS2 _ hq3]
      exact⟨dq,bx⟩
     ·simp only[List.mem_cons,List.not_mem_nil,or_false] at hq
      subst hq
      dsimp only
      rw[hS3]
      exact⟨_,bx⟩
    ·rw[List.map_append]
     refine List.nodup_append.2 ⟨hL.keys,by simp,fun a ha b hb=> ?_⟩
     simp only[List.map_cons,List.map_nil,List.mem_cons,List.not_mem_nil,or_false] at hb
     subst hb
     exact fun e=>hx (e▸ha)
   ·dsimp only
    rw[List.map_append]
    refine List.nodup_append.2 ⟨hb,by simp,fun a ha b hb=> ?_⟩
    simp only[List.map_cons,List.map_nil,List.mem_cons,List.not_mem_nil,or_false] at hb
    subst hb
    obtain⟨q,hq,rfl⟩:=List.mem_map.1 ha
    have:=(hids q hq).2
    omega
   ·rcases List.mem_append.1 hq with hq|hq
    ·exact⟨(hids q hq).1,Nat.lt_of_lt_of_le (hids q hq).2 c8⟩
    ·simp only[List.mem_cons,List.not_mem_nil,or_false] at hq
     subst hq
     refine⟨by dsimp only;omega, ?_⟩
     exact c8
   ·dsimp only
    rw[h2]
    intro h
    rw[List.map_append,List.mem_append]
    by_cases e:h=hd
    ·rw[e,hS3];simp
    ·rw[hS2 h e,←hkeys h];simp[e]
 ·obtain rfl:i=(cq u).length:=by omega
  rw[List.take_length] at hL hkeys r1
  refine cU ?_
  have hne:∀p∈L,jE (cq u) p.1≠[]:=fun p hp=>(hkeys p.1).1 (List.mem_map.2 ⟨p,hp,rfl⟩)
  have hls:∀h,(jE (cq u) h).length≤16:=fun h=>D6 hr (fun e he=>he) h
  have h12:(12:Nat)∉L.map (·.2):=fun h=>by
   obtain⟨p,hp,e⟩:=List.mem_map.1 h
   have:=(hids p hp).1
   omega
  have h00:(0:Nat)∉L.map (·.2):=fun h=>by
   obtain⟨p,hp,e⟩:=List.mem_map.1 h
   have:=(hids p hp).1
   omega
  refine⟨[(1, .pt 0 1 0 0),(7, .mp 12)],_,_,Rt.less cH,WC.seq (V9 (L:=L) (S:=jE (cq u)) J3 (by decide) rfl (by simp[tY,ca]) hb hL.keys h12 ⟨_,bx⟩ (fun p hp=> ?_) (fun p hp=>⟨hne p hp,by have:=hls p.1;omega⟩) fun H' hrows hrest=> ?_)⟩
  ·obtain⟨dp,rp⟩:=hL.row p hp
   have:=hids p hp
   exact⟨dp,bx⟩
  have hL':p7 12 L (fb u) H':=by
   refine⟨⟨d1, ?_⟩,hrows,hL.keys⟩
   rw[hrest 12 h12,show eU L (fb u)=eU L (jE (cq u)) from CA fun p _=>kZ _]
   exact bx
  have hu0:∃d,bt H' 0=some (.row 25 3 d [u.av]):=⟨d0,by rw[hrest 0 h00];exact bx⟩
  have hlead:lS L (fb u)=fb u:=by
   funext x
   unfold lS
   split
   ·rfl
   ·rename_i hx
    have:=mt (hkeys x).2 hx
    simp only[ne_eq,Classical.not_not] at this
    unfold fb
    rw[this];simp[eG]
  have hin:=NQ hr
  clear r0 r1 hrest hrows hL
  obtain⟨d0,r0⟩:=hu0
  show WC Tryz.prog 86 0 _ _ H' _ _
  refine WC.last lr6.ok ?_
  refine cU ?_
  simp only[List.length_map]
  have hids1:∀p∈L,p.2<n+1:=fun p hp=>Nat.lt_succ_of_lt (hids p hp).2
  refine aM (fun σ:Nat×AV=>[(1, .pt 0 1 0 0),(7, .mp 12),(11,σ.2),(61,i64 u.cE.length),(62,i64 σ.1)])
   (fun σ H2 n2=>σ.1≤u.cE.length∧n+1≤n2∧(∀y,y<n+1→bt H2 y=bt H' y)∧((jF (fb u) u.cE.length σ.1=none∧σ.2= .sc (.slice none 0 0))∨∃w b d,jF (fb u) u.cE.length σ.1=some w∧σ.2= .sl b w.length∧n+1≤b∧b<n2∧bt H2 b=some (.row 3 1 d (w.map i64)))) (fun σ=>u.cE.length - σ.1) (0, .sc (.slice none 0 0))
   cH ⟨Nat.zero_le _,c8,fun y hy=>cA, .inl ⟨rfl,rfl⟩⟩ ?_
  rintro⟨k,bA⟩ H2 n2 ⟨hk,hn2,hkeep,hbest⟩
  dsimp only at hk hbest ⊢
  have hL2:=hL'.cQ (by omega:12<n+1) hids1 hkeep
  have r2:bt H2 0=some (.row 25 3 d0 [u.av]):=(hkeep 0 (by omega)).trans r0
  by_cases hkl:k<u.cE.length
  ·have hnx:=fun w hw=>((rb (lead:=fb u) (n:=u.cE.length) (first:=(k:Int)) hin ⟨by omega,by omega⟩).1 w hw)
   have hstep:jF (fb u) u.cE.length (k+1)=match qm (fb u) u.cE.length (k:Int),jF (fb u) u.cE.length k with
    |none,b=>b
    |some l,none=>some l
    |some l,some b=>if l.length<b.length then some l else some b:=rfl
   rcases hbest with⟨hb0,rfl⟩|⟨w,b,d3,hb0,rfl,hb1,hb2,r3⟩
   ·rw[hb0] at hstep
    refine cU ?_
    refine aJ (nQ (n:=u.cE.length) (first:=(k:Int)) (hL2.cQ (nx:=n2) (by omega) (fun p hp=>by have:=hids p hp;omega) fun y hy=>cA) ?_ ?_ (by rw[hlead];exact hin) hle (fun x=>by unfold fb;rw[kZ];exact hls x) ⟨by omega,by omega⟩) ?_
    ·exact c8
    ·exact fun p hp=>Nat.lt_of_lt_of_le (hids p hp).2 c8
    rintro r H4 m4 ⟨hm4,hkeep4,hR4⟩
    rw[hlead] at hR4
    unfold nS at hR4
    cases hq:qm (fb u) u.cE.length (k:Int) with
    |none=>
     rw[hq] at hR4 hstep
     dsimp only at hR4 hstep
     subst hR4
     refine cU ?_
     refine⟨(k+1, .sc (.slice none 0 0)),by dsimp only;omega,cH,by dsimp only;omega,c8,fun y hy=>Eq.trans cA (Eq.trans (hkeep4 y ?_) (Eq.trans cA (hkeep y hy))), .inl ⟨hstep,rfl⟩⟩
     exact Nat.lt_of_lt_of_le (Nat.lt_of_lt_of_le hy hn2) c8
    |some w=>
     rw[hq] at hR4 hstep
     dsimp only at hR4 hstep
     obtain⟨b,d4,hb1,hb2,rfl,r4⟩:=hR4
     obtain⟨_,hcy,_,hwin,_⟩:=hnx w hq
     have hwl:=hcy.pos
     refine cU ?_
     refine aW (wO bx ⟨by simp,hwl⟩) ?_
     refine cU ?_
     refine⟨(k+1, .sl b w.length),by dsimp only;omega,cH,by dsimp only;omega,c8,fun y hy=>Eq.trans cA (Eq.trans (hkeep4 y ?_) (Eq.trans cA (hkeep y hy))), .inr ⟨w,b,d4,hstep,rfl, ?_, ?_,bx⟩⟩
     ·exact Nat.lt_of_lt_of_le (Nat.lt_of_lt_of_le hy hn2) c8
     ·omega
     ·exact Nat.lt_of_lt_of_le hb2 c8
   ·rw[hb0] at hstep
    refine cU ?_
    refine aJ (nQ (n:=u.cE.length) (first:=(k:Int)) (hL2.cQ (nx:=n2) (by omega) (fun p hp=>by have:=hids p hp;omega) fun y hy=>cA) ?_ ?_ (by rw[hlead];exact hin) hle (fun x=>by unfold fb;rw[kZ];exact hls x) ⟨by omega,by omega⟩) ?_
    ·exact c8
    ·exact fun p hp=>Nat.lt_of_lt_of_le (Nat.lt_of_lt_of_le (hids1 p hp) hn2) c8
    rintro r H4 m4 ⟨hm4,hkeep4,hR4⟩
    rw[hlead] at hR4
    unfold nS at hR4
    have hb3:=hkeep4 b (Nat.lt_of_lt_of_le hb2 c8)
    have r5:bt H4 b=some (.row 3 1 d3 (w.map i64)):=hb3.trans bx
    clear hb3
    have hwl:0<w.length:=by
     obtain⟨f,hf,hbf,_⟩:=mU hb0
     exact(((rb (lead:=fb u) (n:=u.cE.length) (first:=(f:Int)) hin ⟨by omega,by omega⟩).1 w hbf).2.1).pos
    cases hq:qm (fb u) u.cE.length (k:Int) with
    |none=>
     rw[hq] at hR4 hstep
     dsimp only at hR4 hstep
     subst hR4
     refine cU ?_
     refine⟨(k+1, .sl b w.length),by dsimp only;omega,cH,by dsimp only;omega,c8,fun y hy=>Eq.trans cA (Eq.trans (hkeep4 y ?_) (Eq.trans cA (hkeep y hy))), .inr ⟨w,b,d3,hstep,rfl,hb1, ?_,bx⟩⟩
     ·exact Nat.lt_of_lt_of_le (Nat.lt_of_lt_of_le hy hn2) c8
     ·exact Nat.lt_of_lt_of_le hb2 c8
    |some w2=>
     rw[hq] at hR4 hstep
     dsimp only at hR4 hstep
     obtain⟨b4,d4,hb4,hb5,rfl,r4⟩:=hR4
     obtain⟨_,hcy,_,hwin,_⟩:=hnx w2 hq
     have hwl2:=hcy.pos
     have a1:(w.map i64).length=w.length:=List.length_map _
     have a2:(w2.map i64).length=w2.length:=List.length_map _
     by_cases hlt:w2.length<w.length
     ·rw[if_pos hlt] at hstep
      have r6:=decide_eq_true (show((w2.length:Int))<w.length by omega)
      refine cU ?_
      refine⟨(k+1, .sl b4 w2.length),by dsimp only;omega,cH,by dsimp only;omega,c8,fun y hy=>Eq.trans cA (Eq.trans (hkeep4 y ?_) (Eq.trans cA (hkeep y hy))), .inr ⟨w2,b4,d4,hstep,rfl, ?_, ?_,bx⟩⟩
      ·exact Nat.lt_of_lt_of_le (Nat.lt_of_lt_of_le hy hn2) c8
      ·omega
      ·exact Nat.lt_of_lt_of_le hb5 c8
     ·rw[if_neg hlt] at hstep
      refine cU ?_
      refine aA (fun hc=>absurd hc (by simp;omega)) (fun hc=> ?_)
      refine cU ?_
      refine⟨(k+1, .sl b w.length),by dsimp only;omega,cH,by dsimp only;omega,c8,fun y hy=>Eq.trans cA (Eq.trans (hkeep4 y ?_) (Eq.trans cA (hkeep y hy))), .inr ⟨w,b,d3,hstep,rfl,hb1, ?_,bx⟩⟩
      ·exact Nat.lt_of_lt_of_le (Nat.lt_of_lt_of_le hy hn2) c8
      ·exact Nat.lt_of_lt_of_le hb2 c8
  ·obtain rfl:k=u.cE.length:=by omega
   rcases hbest with⟨hb0,rfl⟩|⟨w,b,d3,hb0,rfl,hb1,hb2,r3⟩
   ·refine cU ?_
    exact⟨by rw[hR,hb0];rfl⟩
   ·have hwl:0<w.length:=by
     obtain⟨f,hf,hbf,_⟩:=mU hb0
     exact(((rb (lead:=fb u) (n:=u.cE.length) (first:=(f:Int)) hin ⟨by omega,by omega⟩).1 w hbf).2.1).pos
    refine cU ?_
    refine aW (wO bx ⟨by simp,hwl⟩) ?_
    refine cU ?_
    exact⟨by rw[hR,hb0];exact⟨b,d3,rfl,bx⟩⟩
end Go.Proofs.YtjopoheligmmoaaGreatDoor
end
section
/- How a machine stands, as an end; a slot told anew ahead of a drawn stretch. -/
namespace Go.Proofs.YtjopoheligmmoaaGreatDoor
open Go Go.cY Go.Proofs
set_option linter.unusedSimpArgs false
set_option linter.unusedVariables false
set_option maxRecDepth 8000
theorem LJ {u:bw} {m:MS} {L:ML} {H:Hp} (hM:L.At u m H) (nx:Nat):Wk (.pt L.mr 1 0 0) H nx (m.fz u) (lP (jg L.all H) H) nx:=by
 have:=Wk.XX (nx:=nx) (r:= .pt L.mr 1 0 0) (jg L.all H) 6 (fun b q hq=>qN hq)
 rwa[hM.tT 2] at this
end Go.Proofs.YtjopoheligmmoaaGreatDoor
end
section
/- Who waits for whom: the walks. -/
namespace Go.cY
open Go.RowKit
set_option linter.unusedSimpArgs false
set_option linter.unusedVariables false
section
variable {P:Program} {n lo:Nat} {fr:Fr} {H:Hp} {nx:Nat} {Q:QT}
theorem WL.rt {lc:LC} {fr2:Fr} {H2:Hp} {nx2:Nat} (hw:Rt fr H nx fr2 H2 nx2) (h:WL P n lo lc fr2 H2 nx2 Q):WL P n lo lc fr H nx Q:=
 fun code hc w0 M0 c0 a w hh=>h code hc w0 M0 c0 a w (hw _ _ _ _ _ _ _ hh)
theorem WL.cut {a b:LC} (h:Go (W P n lo a fr H nx (gv (fun fr' H' nx'=>∃fr2 H2 nx2,Rt fr' H' nx' fr2 H2 nx2∧WL P n lo b fr2 H2 nx2 Q) Q))):WL P n lo (.seq a b) fr H nx Q:=
 WL.seq ((ez h).mono fun e fr H nx hh=>by
  cases e with
  |normal=>
   obtain⟨fr2,H2,nx2,h1,h2⟩:=hh
   exact WL.rt h1 h2
  |exit id=>exact hh
  |ret=>exact hh)
theorem ah {f:FuncId} {args:List AV} {R:AV→Hp→Nat→Prop} (X:cu P f) (ha:Nat.ble args.length X.n=true) (h:WL P X.n nx X.lc (iK 0 args) H nx (sq X.rs R)):cJ P f args H nx R:=by
 obtain⟨fn,h1,h2,h3,h4,h5⟩:=X.ok
 have h6:X.n=fn.ntmps:=h5
 rw[h6] at h ha
 exact cJ.kU h1 h2 h3 h4 (Nat.le_of_ble_eq_true ha) (h.mono fun _ _ _ _=>wY)
theorem WL.last {lc:LC} (h:Go (W P n lo lc fr H nx Q)):WL P n lo lc fr H nx Q:=ez h
theorem aV {lc:LC} {b:Nat} {q:Option eT} (h:bt H b=q) (k:∀H2:Hp,bt H2 b=q→Go (W P n lo lc fr H2 nx Q)):W P n lo lc fr H nx Q:=k H h
end
end Go.cY
namespace Go.Proofs.YtjopoheligmmoaaGreatDoor
open Go Go.cY Go.Proofs
set_option linter.unusedSimpArgs false
set_option linter.unusedVariables false
set_option maxRecDepth 8000
theorem LI (u:bw) (m:MS) (h:eM u m) {t:Nat} (ht:t<u.bu.length):Pure Tryz.prog 30 [m.fz u,i64 t] (fun r=>r=i64 (m.at_.getD t 0)):=by
 have c0:=AI u m t
 have hl:=h.pd
 rw[decide_eq_true (by omega:¬((t:Int)<0∨(m.at_.length:Int)≤t))] at c0
 have e0:=fun d=>ints_at (l:=m.at_) (k:=t) (by omega) d
 have a0:(m.at_.map i64).length=u.bu.length:=by simp[hl]
 refine aI NV rfl ?_
 refine cU ?_
 first|exact rfl|trivial
theorem ue (u:bw) (m:MS) (h:eM u m) {x:Nat} (hx:x<u.cE.length):Pure Tryz.prog 33 [m.fz u,i64 x] (fun r=>r=i64 (m.hold.getD x 0)):=by
 have hl:=h.hl
 have e0:=fun d=>ints_at (l:=m.hold) (k:=x) (by omega) d
 have a0:(m.hold.map i64).length=u.cE.length:=by simp[hl]
 refine aI NX rfl ?_
 refine cU ?_
 refine aA (fun hc=>absurd hc (by simp[hl];omega)) fun hc=> ?_
 refine cU ?_
 first|exact rfl|trivial
abbrev oC (u:bw) (m:MS):AV:= .agg [ct u.shared,ct u.cE,de u.bu,m.fz u]
theorem oh (u:bw) (hr:cT u) (m:MS) (h:eM u m) {t:Nat} (ht:t<u.bu.length):Pure Tryz.prog 50 [oC u m,i64 t] (fun r=>r=i64 (eL u m t)):=by
 have c0:=LI u m h ht
 have hno:=h.node hr ht
 obtain⟨p0,p1⟩:=h.fy t ht
 have e0:∀d,(u.bu.map cD.av).getD ((t:Int)).toNat d=(u.gr t).av:=fun d=>oe ht d
 have a0:(u.bu.map cD.av).length=u.bu.length:=by simp
 have hh:eL u m t=if((u.gr t).nd (m.at_.getD t 0).toNat).kind=5 then m.hold.getD ((u.gr t).nd (m.at_.getD t 0).toNat).cM.toNat 0 else -1:=by
  unfold eL MS.node;rw[Int.toNat_natCast]
 rw[hh]
 unfold MS.node at hno
 obtain⟨j,hj⟩:∃j:Nat,m.at_.getD t 0=j:=⟨(m.at_.getD t 0).toNat,by omega⟩
 rw[hj] at c0 p1 hno ⊢
 rw[Int.toNat_natCast] at hno ⊢
 generalize u.gr t=g at *
 have e1:∀d,(g.nodes.map Node.av).getD ((j:Int)).toNat d=(g.nd j).av:=fun d=>ja (by omega) d
 have a1:(g.nodes.map Node.av).length=g.nodes.length:=by simp
 generalize g.nd j=n at *
 by_cases h5:n.kind=5
 ·obtain⟨x0,x1⟩:=eo hno (.inl h5)
  have c1:=ue u m h (x:=n.cM.toNat) (by omega)
  rw[Int.toNat_of_nonneg x0] at c1
  rw[if_pos h5]
  have r0:decide (n.kind≠5)=false:=decide_eq_false fun e=>e h5
  refine aI I8 rfl ?_
  refine cU ?_
  first|exact rfl|trivial
 ·rw[if_neg h5]
  have r0:decide (n.kind≠5)=true:=decide_eq_true h5
  refine aI I8 rfl ?_
  refine cU ?_
  first|exact rfl|trivial
set_option maxHeartbeats 2000000 in
theorem DC (u:bw) (hr:cT u) (m:MS) (h:eM u m) {t:Nat} (ht:t<u.bu.length) (H0:Hp) (nx:Nat):
 cJ Tryz.prog 49 [i64 t, .fn (.func 50) [oC u m] []] H0 nx (fun r H k=>nx≤k∧(∀y,y<nx→bt H y=bt H0 y)∧nS (ju (eL u m) u.bu.length (t:Int)) nx k r H):=by
 have hfew:=hr.qX.2.2
 have c0:=oh u hr m h ht
 have hf:cK 0 (oC u m):=by simp[cK,cZ,cC]
 refine aL N4 rfl ?_
 refine cU ?_
 generalize hfn:eL u m=hd at *
 have hlt:∀x:Int,0≤x→x<u.bu.length→-1≤hd x∧hd x<u.bu.length:=fun x h0 h1=>by rw[←hfn];exact px hr h ⟨h0,h1⟩
 have hcw:∀x:Int,0≤x→x<u.bu.length→Pure Tryz.prog 50 [oC u m,i64 x] (fun r=>r=i64 (hd x)):=fun x h0 h1=>by
  obtain⟨k,rfl⟩:∃k:Nat,x=k:=⟨x.toNat,by omega⟩
  rw[←hfn];exact oh u hr m h (by omega)
 refine aM (fun σ:Int×List Int=>[(0,i64 t),(1, .fn (.func 50) [oC u m] []),(5, .sl (nx+2) σ.2.length),(6,i64 σ.1)])
  (fun σ H2 n2=>jj hd (t:Int) σ.2∧(∀x∈σ.2,0≤x∧x<u.bu.length)∧σ.1=hd (σ.2.getD (σ.2.length - 1) 0)∧jt hd (t:Int) (u.bu.length+1 - σ.2.length) σ.2 σ.1=ju hd u.bu.length (t:Int)∧nx+3≤n2∧(∃d,bt H2 (nx+2)=some (.row 3 1 d (σ.2.map i64)))∧∀y,y<nx→bt H2 y=bt H0 y) (fun σ=>u.bu.length+1 - σ.2.length) (hd t,[(t:Int)])
  cH ⟨.one (by omega),fun x hx=>by simp only[List.mem_cons,List.not_mem_nil,or_false] at hx;omega,rfl,rfl,c8,⟨_,bx⟩,fun y hy=>cA⟩ ?_
 clear c0
 rintro⟨s,out⟩ H2 n2 ⟨hg,hin,hs,hR,hn2,⟨d1,r1⟩,hkeep⟩
 dsimp only at hg hin hs hR r1 ⊢
 have hol:=gE _ _ hg.nd hin
 have hp:=hg.pos
 have hlast:=hin _ (cS 0 (show out.length - 1<out.length by omega))
 have hsl:=hlt _ hlast.1 hlast.2
 rw[←hs] at hsl
 have a0:(out.map i64).length=out.length:=List.length_map _
 rw[show u.bu.length+1 - out.length=(u.bu.length - out.length)+1 by omega,jt] at hR
 by_cases hst:s=t
 ·rw[if_pos hst] at hR
  have r0:decide (s≠t)=false:=decide_eq_false fun e=>e hst
  rw[←hR]
  refine cU ?_
  refine⟨⟨?_,fun y hy=>Eq.trans cA (hkeep y hy),nx+2,d1,by omega, ?_,rfl,bx⟩⟩
  ·exact c8
  ·exact c8
 ·rw[if_neg hst] at hR
  have r0:decide (s≠t)=true:=decide_eq_true hst
  have hview:∀H3,bt H3 (nx+2)=some (.row 3 1 d1 (out.map i64))→[AV.sl (nx+2) out.length,i64 s].map (cY.dX H3 6)=[cO out,i64 s]:=fun H3 h3=>G5 s h3
  have hfit:cZ 0 [cO out,i64 s]:=by
   simp only[cZ,cK];exact⟨(cC _ _).2 fun _ _=>by simp[cK],trivial,trivial⟩
  refine cU ?_
  refine bH (fun _=>jm out s (by omega)) (hview _ bx) hfit (by simp[gA]) ?_
  by_cases h0:s<0
  ·rw[if_pos (.inl h0)] at hR
   rw[←hR]
   refine cU ?_
   refine⟨⟨?_,fun y hy=>Eq.trans cA (hkeep y hy),rfl⟩⟩
   exact c8
  ·by_cases hm:s∈out
   ·rw[if_pos (.inr hm)] at hR
    rw[←hR]
    rw[decide_eq_true hm]
    refine cU ?_
    refine⟨⟨?_,fun y hy=>Eq.trans cA (hkeep y hy),rfl⟩⟩
    exact c8
   ·rw[if_neg fun e=>e.elim h0 hm] at hR
    rw[decide_eq_false hm]
    have c0:=hcw s (by omega) hsl.2
    refine cU ?_
    have hm2:=hg.more hs (by omega) hm
    have hin2:∀x∈out++[s],0≤x∧x<u.bu.length:=fun x hx=>by
     rcases List.mem_append.1 hx with hx|hx
     ·exact hin x hx
     ·simp only[List.mem_cons,List.not_mem_nil,or_false] at hx;omega
    refine⟨(hd s,out++[s]), ?_,by rw[List.length_append];exact cH,hm2,hin2, ?_, ?_,c8,⟨_,by dsimp only;rw[List.map_append];exact bx⟩,fun y hy=>Eq.trans cA (hkeep y hy)⟩
    ·dsimp only;rw[List.length_append,List.length_singleton];omega
    ·dsimp only;rw[List.length_append,List.length_singleton,Nat.add_sub_cancel,fF]
    ·dsimp only
     rw[List.length_append,List.length_singleton,show u.bu.length+1 - (out.length+1)=u.bu.length - out.length by omega]
     exact hR
end Go.Proofs.YtjopoheligmmoaaGreatDoor
end
section
/- Knot: the walk. -/
namespace Go.Proofs.YtjopoheligmmoaaGreatDoor
open Go Go.cY Go.Proofs
set_option linter.unusedSimpArgs false
set_option linter.unusedVariables false
set_option maxRecDepth 8000
abbrev W7 (u:bw) (m:MS) (t:Int):MS:=if m.k9 u t=0 then(m.step u t.toNat).1 else m
theorem si (u:bw) (m:MS) (t:Int):(W7 u m t).cP.length≤m.cP.length+1:=by
 unfold W7
 split
 ·exact mL u m _
 ·omega
theorem pP {u:bw} {m:MS} {L:ML} {H:Hp} {nx:Nat} (hu:u.Wf) (hr:cT u) (h:eM u m) (hM:L.At u m H) (hlt:∀y∈L.all,y<nx) (hpl:m.cP.length≤1048576) (t:Int):
 cJ Tryz.prog 31 [.pt L.mr 1 0 0,i64 t] H nx (fun r H' k=>(∃d e,r= .dP [.agg d,i64 e])∧L.At u (W7 u m t) H'∧nx≤k∧∀y,y<nx→y∉L.all→bt H' y=bt H y):=by
 by_cases hb:m.k9 u t=0
 ·obtain⟨k,rfl,hk⟩:=A5 h hb
  have:=vF hu hr h hM hlt hpl hk hb
  refine this.mono ?_
  rintro r H' n ⟨rfl,h1,h2,h3⟩
  refine⟨⟨_,_,rfl⟩, ?_,h2,h3⟩
  unfold W7;rw[if_pos hb,Int.toNat_natCast];exact h1
 ·refine(PM hr h hM hlt t hb).mono ?_
  rintro r H' n ⟨rfl,h2,h3⟩
  refine⟨⟨_,_,rfl⟩, ?_,h2,fun y hy _=>h3 y hy⟩
  unfold W7;rw[if_neg hb]
  exact hM.cQ fun y hy=>h3 y (hlt y hy)
theorem uy (u:bw) (m:MS) (w:List Int) {i:Nat} (hi:i<w.length):eV u m (w.take (i+1))=W7 u (eV u m (w.take i)) (w.getD i 0):=by
 rw[List.take_succ_eq_append_getElem hi,ux,show w[i]=w.getD i 0 by simp[List.getD,hi]]
 rfl
theorem yD {u:bw} {m:MS} {k:Nat} {l:List Int} (h:iC u m k=some l):∀n,k≤n→iC u m n=some l:=by
 intro n hn
 obtain⟨d,rfl⟩:∃d,n=k+d:=⟨n - k,by omega⟩
 induction d with
 |zero=>exact h
 |succ d ih=>
  rw[←Nat.add_assoc,iC,ih (by omega)]
def wu (u:bw) (m:MS) (r:AV) (H:Hp):Prop:=match jM u m with
 |none=>r= .dP [.sc (.slice none 0 0),bl false,i64 0]
 |some w=>∃b d,r= .dP [.sl b w.length,bl true,i64 0]∧bt H b=some (.row 3 1 d (w.map i64))
theorem NO (u:bw) (hu:u.Wf) (hr:¬cT u) (w:List Int):Pure Tryz.prog 21 [u.av,cO w] (fun r=>r= .dP [.sc (.slice none 0 0),bl false,i64 60]):=by
 have c0:=wN u hu hr
 refine aI CD rfl ?_
 refine cU ?_
 first|exact rfl|trivial
set_option maxHeartbeats 4000000 in
theorem IY (u:bw) (hu:u.Wf) (hr:cT u) (w:List Int) (hw:1048576<w.length):cJ Tryz.prog 21 [u.av,cO w] [] 0 (fun r H n=>r= .dP [.sc (.slice none 0 0),bl false,i64 3]):=by
 have a0:(w.map i64).length=w.length:=List.length_map _
 refine aL CD rfl ?_
 refine cU ?_
 refine aJ (kT u hu hr _ _) ?_
 rintro _ H1 n1 ⟨L,rfl,hM,hL,hn1,hkp⟩
 refine cU ?_
 exact⟨rfl⟩
set_option maxHeartbeats 4000000 in
theorem ug (u:bw) (hu:u.Wf) (hr:cT u) (w:List Int) (hw:w.length≤1048576):cJ Tryz.prog 21 [u.av,cO w] [] 0 (fun r H n=>wu u (eV u (dR u) w) r H):=by
 have a0:(w.map i64).length=w.length:=List.length_map _
 have hgl:=hr.qX.2.2
 refine ah CD rfl ?_
 refine WL.cut ?_
 refine cU ?_
 refine⟨_,_,_,Rt.refl _ _ _,WL.cut ?_⟩
 refine cU ?_
 refine aJ (kT u hu hr _ _) ?_
 rintro _ H1 n1 ⟨L,rfl,hM,hL,hn1,hkp⟩
 refine cU ?_
 refine⟨_,_,_,Rt.refl _ _ _,WL.cut ?_⟩
 refine cU ?_
 refine⟨_,_,_,Rt.refl _ _ _,WL.cut ?_⟩
 refine cU ?_
 obtain⟨d0,r0⟩:∃d,bt H1 0=some (.row 25 3 d [u.av]):=⟨_,Eq.trans (hkp 0 (by omega)) bx⟩
 have hL0:∀x∈L.all,1≤x:=fun x hx=>by have:=(hL x hx).1;omega
 have hL1:∀x∈L.all,x<n1:=fun x hx=>(hL x hx).2
 clear hkp hL
 refine⟨_,_,_,Rt.refl _ _ _,WL.cut ?_⟩
 refine cU ?_
 rw[a0]
 refine aM (fun i:Nat=>[(2, .pt 0 1 0 0),(7, .pt L.mr 1 0 0),(25,cO w),(26,i64 w.length),(27,i64 i)])
  (fun i H n=>i≤w.length∧n1≤n∧L.At u (eV u (dR u) (w.take i)) H∧(eV u (dR u) (w.take i)).cP.length≤i∧∃d,bt H 0=some (.row 25 3 d [u.av])) (fun i=>w.length - i) 0
  cH ⟨Nat.zero_le _,c8,hM.cQ fun y hy=> ?_,Nat.zero_le _,⟨_,bx⟩⟩ ?_
 ·have:=hL1 y hy;have:=hL0 y hy;exact cA
 clear r0 hM
 rintro i H n ⟨hi,hn,hM,hpr,⟨d0,r0⟩⟩
 have hsit:qR u (eV u (dR u) (w.take i)):=qR.zj hu hr (qR.new hu hr)
 by_cases hil:i<w.length
 ·have e0:∀d,(w.map i64).getD ((i:Int)).toNat d=i64 (w.getD i 0):=fun d=>ints_at hil d
  have hpn:=uy u (dR u) w hil
  have hp2:=si u (eV u (dR u) (w.take i)) (w.getD i 0)
  rw[←hpn] at hp2
  refine cU ?_
  refine aJ (pP hu hr hsit.ok (hM.cQ fun y hy=> ?_) (fun y hy=> ?_) (by omega) (w.getD i 0)) ?_
  ·have:=hL1 y hy;have:=hL0 y hy;exact cA
  ·exact Nat.lt_of_lt_of_le (Nat.lt_of_lt_of_le (hL1 y hy) hn) c8
  rintro _ H2 n2 ⟨⟨d,e,rfl⟩,hM2,hn2,hkeep2⟩
  rw[←hpn] at hM2
  have r1:bt H2 0=some (.row 25 3 d0 [u.av]):=Eq.trans (hkeep2 0 (by omega) fun h=>by have:=hL0 0 h;omega) bx
  refine cU ?_
  refine⟨i+1,by omega,cH,by omega,c8,hM2.cQ fun y hy=> ?_,by omega,⟨_,bx⟩⟩
  have:=hL1 y hy;have:=hL0 y hy;exact cA
 ·obtain rfl:i=w.length:=by omega
  rw[List.take_length] at hM hpr hsit
  refine cU ?_
  generalize eV u (dR u) w=m at *
  have hz:(0:Nat)∉L.all:=fun h=>by have:=hL0 0 h;omega
  have hM2:L.At u m (dC H none):=hM.cQ fun y hy=>by have:=hL1 y hy;have:=hL0 y hy;exact cA
  refine⟨[(2, .pt 0 1 0 0),(7,m.fz u)],_,_,Rt.trans (Rt.slot 7 rfl (LJ hM2 _)) (Rt.less cH),WL.last (aV (b:=0) (q:=some (.row 25 3 d0 [u.av])) ((dz hz).trans (Eq.trans cA r0)) fun H2 r3=> ?_)⟩
  clear hM hM2 r0 hpr
  refine cU ?_
  simp only[List.length_map]
  refine aM (fun t:Nat=>[(2, .pt 0 1 0 0),(11, .pt (n+4) 1 0 0),(39,de u.bu),(40,i64 u.bu.length),(41,i64 t)])
   (fun t H3 n3=>t≤u.bu.length∧n+5≤n3∧iC u m t=none∧∃d,bt H3 (n+4)=some (.row 90 4 d [oC u m])) (fun t=>u.bu.length - t) 0
   cH ⟨Nat.zero_le _,c8,rfl,⟨_,bx⟩⟩ ?_
  clear r3
  rintro t H3 n3 ⟨ht,hn3,hkt,⟨d4,r4⟩⟩
  have hnx:iC u m (t+1)=ju (eL u m) u.bu.length (t:Int):=by
   rw[iC,hkt]
  by_cases htl:t<u.bu.length
  ·refine cU ?_
   refine aJ (DC u hr m hsit.ok htl _ _) ?_
   rintro r H5 n5 ⟨hn5,hkeep5,hR⟩
   have r5:bt H5 (n+4)=some (.row 90 4 d4 [oC u m]):=Eq.trans (hkeep5 (n+4) (Nat.lt_of_lt_of_le (by omega) (show n3≤_ from c8))) bx
   unfold nS at hR
   cases hq:ju (eL u m) u.bu.length (t:Int) with
   |none=>
    rw[hq] at hR hnx
    dsimp only at hR
    subst hR
    refine cU ?_
    exact⟨t+1,by omega,cH,by omega,c8,hnx,⟨_,bx⟩⟩
   |some l=>
    rw[hq] at hR hnx
    dsimp only at hR
    obtain⟨b,d6,hb1,hb2,rfl,r6⟩:=hR
    have hl:=(mH (by omega) hq).1.pos
    have a2:(l.map i64).length=l.length:=List.length_map _
    refine cU ?_
    refine⟨?_⟩
    unfold wu jM
    rw[yD hnx _ (by omega)]
    exact⟨b,d6,rfl,bx⟩
  ·obtain rfl:t=u.bu.length:=by omega
   refine cU ?_
   refine⟨?_⟩
   unfold wu jM
   rw[hkt]
end Go.Proofs.YtjopoheligmmoaaGreatDoor
end
