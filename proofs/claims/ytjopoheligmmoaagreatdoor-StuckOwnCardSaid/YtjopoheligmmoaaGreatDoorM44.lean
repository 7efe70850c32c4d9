import Derived.Test.YtjopoheligmmoaaGreatDoorM43
import Derived.Test.YtjopoheligmmoaaGreatDoorM15
import Derived.Test.YtjopoheligmmoaaGreatDoorM38
section
/- The loop of Ring that sorts where each lock leads: what it does. -/
namespace Go.Proofs.YtjopoheligmmoaaGreatDoor
open Go Go.cZ Go.Proofs Go.RowKit
set_option linter.unusedSimpArgs false
set_option linter.unusedVariables false
structure xN (c:Code):Prop where
 ok:∃i1 i2 i3 i4 o1 o2 o3 o4 o5 o6 o7 o8 o9 o10 o11,c= .seq (.region i1 #[o1,o2] false) (.block 2 (.loop (.seq (.region i2 #[o3,o4] false) (.seq (.cond (.tmp 52) .skip (.exit 2)) (.block 3 (.seq (.region i3 #[o5,o6,o7] false) (.region i4 #[o8,o9,o10,o11] false)))))))∧
  (o1.op= .move (.tmp 7)∧o1.dst=some 49∧o1.guard=none)∧(o2.op= .range 76 (.tmp 49)∧o2.dst=some 50∧o2.guard=none)∧
  (o3.op= .next (.tmp 50) false∧o3.dst=some 51∧o3.guard=none)∧(o4.op= .extract (.tmp 51) 0∧o4.dst=some 52∧o4.guard=none)∧
  (o5.op= .entry (.tmp 50)∧o5.dst=some 53∧o5.guard=none)∧(o6.op= .extract (.tmp 53) 0∧o6.dst=some 54∧o6.guard=none)∧(o7.op= .assign (.tmp 54)∧o7.dst=some 10∧o7.guard=none)∧
  (o8.op= .move (.tmp 7)∧o8.dst=some 55∧o8.guard=none)∧(o9.op= .move (.tmp 10)∧o9.dst=some 56∧o9.guard=none)∧(o10.op= .lookup 76 (.tmp 55) (.tmp 56) false∧o10.dst=some 57∧o10.guard=none)∧
  (o11.op= .call { callee:= .value (.func 40),args:=#[.tmp 57],argTypes:=#[31] }∧o11.dst=some 58∧o11.guard=none)
set_option maxRecDepth 100000 in
theorem KM:xN YZ:=⟨⟨_,_,_,_,_,_,_,_,_,_,_,_,_,_,_,rfl,⟨rfl,rfl,rfl⟩,⟨rfl,rfl,rfl⟩,⟨rfl,rfl,rfl⟩,⟨rfl,rfl,rfl⟩,⟨rfl,rfl,rfl⟩,⟨rfl,rfl,rfl⟩,⟨rfl,rfl,rfl⟩,⟨rfl,rfl,rfl⟩,⟨rfl,rfl,rfl⟩,⟨rfl,rfl,rfl⟩,⟨rfl,rfl,rfl⟩⟩⟩
theorem vC (L:List (Int×Nat)) (S:Int→List Int):(eV L S).length=L.length:=by simp[eV]
theorem oF {S:Int→List Int}:∀(L:List (Int×Nat)) (i:Nat) (p:Int×Nat),p∈L→(L.map (·.1)).Nodup→∃j,eZ false (.int .i64 p.1) (eV L S) i=some (some (j, .sl p.2 (S p.1).length))
 |[],_,p,h,_=>by cases h
 |q::r,i,p,h,hn=>by
  rw[List.map_cons,List.nodup_cons] at hn
  show ∃j,eZ false (.int .i64 p.1) (nK (.int .i64 q.1) (.sl q.2 (S q.1).length)::eV r S) i=_
  rcases List.mem_cons.1 h with rfl|h
  ·exact⟨i,by simp[eZ,sP,nK,CQ]⟩
  ·have hne:p.1≠q.1:=fun e=>hn.1 (by rw[←e];exact List.mem_map.2 ⟨p,h,rfl⟩)
   obtain⟨j,hj⟩:=oF r (i+1) p h hn.2
   exact⟨j,by simp[eZ,sP,nK,CQ,hne];exact hj⟩
theorem N1 {c:Cx} {L:List (Int×Nat)} {S:Int→List Int} {ms:List MapEntry} (h:gF c (eV L S) ms) {e:MapEntry} (he:e∈ms):∃p∈L,e.key= .int .i64 p.1∧VR c (.sl p.2 (S p.1).length) e.val:=by
 rw[kK] at h
 obtain⟨i,hi,rfl⟩:=List.getElem_of_mem he
 have hl:i<L.length:=by rw[←vC L S,h.1];exact hi
 have:=h.2 i (nK (.int .i64 L[i].1) (.sl L[i].2 (S L[i].1).length)) ms[i] (by simp[eV,hl]) (by simp[hi])
 obtain⟨h1,h2⟩:=sQ.1 this
 exact⟨L[i],List.getElem_mem hl,h1,h2⟩
theorem N0 {c:Cx} {L:List (Int×Nat)} {S:Int→List Int} {ms:List MapEntry} (h:gF c (eV L S) ms) {p:Int×Nat} (hp:p∈L):∃e∈ms,e.key= .int .i64 p.1:=by
 rw[kK] at h
 obtain⟨i,hi,rfl⟩:=List.getElem_of_mem hp
 have hl:i<ms.length:=by rw[←h.1,vC];exact hi
 have:=h.2 i (nK (.int .i64 L[i].1) (.sl L[i].2 (S L[i].1).length)) ms[i] (by simp[eV,hi]) (by simp[hl])
 obtain⟨h1,_⟩:=sQ.1 this
 exact⟨ms[i],List.getElem_mem hl,h1⟩
section
variable {L:List (Int×Nat)} {S:Int→List Int} {mb nx lo n:Nat} {fr:Fr} {H:Hp} {w0:World} {M0:Nat→Prop} {c0:Cx} {V:List Int} {H':Hp} {ρ:Nat→Option (Nat×Nat×Nat)} {U:Nat→Prop} {seen:Array Nat} {r:Nat} {ms:Array MapEntry} {clk it:Nat} {a:Act} {w:World}
def uA:List Nat:=[10,49,50,51,52,53,54,55,56,57,58]
theorem oh {c:Cx} (hfree:∀t∈uA,cc fr t= .any) (h:FR c fr a.tmps) (l:List (Nat×Value)) (hl:∀p∈l,p.1∈uA):FR c fr (TI a l).tmps:=
 h.aAI fun t ht=>tI l a fun p hp e=>ht (hfree t (e▸hl p hp))
theorem BI.sorted (hI:BI L S mb nx lo n fr H w0 M0 c0 V H' ρ U seen r ms clk it a w) (hfree:∀t∈uA,cc fr t= .any) (hb:(L.map (·.2)).Nodup) (hk:(L.map (·.1)).Nodup) (hmb:mb∉L.map (·.2)) (hmap:∃d,bu H mb=some (.row 3 0 d (mapA (eV L S)))) (hS:∀p∈L,S p.1≠[]∧(S p.1).length<4611686018427387904) {p:Int×Nat} (hp:p∈L) {v:Value}
 (hv:VR ⟨ρ,bu H',U,w,M0⟩ (.sl p.2 (S p.1).length) v) {a2:Act} (hsz:a2.tmps.size=n) (hdf:a2.defers=[]) (hfr:FR ⟨ρ,bu H',U,w,M0⟩ fr a2.tmps) (hreg:a2.eval (.tmp 50)= .pointer (some ⟨it,0,none⟩)):
 Calls Tryz.prog 40 #[v] w fun en w'=>en= .returned (.tuple #[])∧∀u,∃H2,BI L S mb nx lo n fr H w0 M0 c0 (p.1::V) H2 ρ U seen r ms clk it (a2.put (some 58) u) w':=by
 obtain⟨d,hrow⟩:=hI.rows p hp
 obtain⟨s0,s1⟩:=hS p hp
 have hlen:(if p.1∈V then Go.Proofs.YtjopoheligmmoaaGreatDoor.eH (S p.1) else S p.1).length=(S p.1).length:=by split<;>simp[kq]
 have hsort:Go.Proofs.YtjopoheligmmoaaGreatDoor.eH (if p.1∈V then Go.Proofs.YtjopoheligmmoaaGreatDoor.eH (S p.1) else S p.1)=Go.Proofs.YtjopoheligmmoaaGreatDoor.eH (S p.1):=by
  split
  ·exact List.mergeSort_of_pairwise (by
    have:=List.pairwise_mergeSort (le:=fun x y:Int=>decide (x≤y)) (fun a b c h1 h2=>by simp at *;omega) (fun a b=>by simp;omega) (S p.1)
    simpa[Go.Proofs.YtjopoheligmmoaaGreatDoor.eH] using this)
  ·rfl
 refine(D6 (l:=if p.1∈V then Go.Proofs.YtjopoheligmmoaaGreatDoor.eH (S p.1) else S p.1) hI.WY hrow (fun e=>by
  have:=congrArg List.length e
  rw[hlen] at this
  exact s0 (List.eq_nil_of_length_eq_zero this)) (by rw[hlen];exact s1) (by rw[hlen];exact hv)).mono ?_
 rintro en w' ⟨rfl,g1,g2,g3,g4⟩
 rw[hsort] at g1 g2
 refine⟨rfl,fun u=>⟨(p.2,some (.row 3 1 d ((Go.Proofs.YtjopoheligmmoaaGreatDoor.eH (S p.1)).map i64)))::H', ?_⟩⟩
 have hHe:bu ((p.2,some (.row 3 1 d ((Go.Proofs.YtjopoheligmmoaaGreatDoor.eH (S p.1)).map i64)))::H')=ep (bu H') p.2 (some (.row 3 1 d ((Go.Proofs.YtjopoheligmmoaaGreatDoor.eH (S p.1)).map i64))):=dU H' p.2 (.row 3 1 d ((Go.Proofs.YtjopoheligmmoaaGreatDoor.eH (S p.1)).map i64))
 have hl2:∀q∈L,q.2=p.2→q=p:=fun q hq e=>by
  obtain⟨i,hi,rfl⟩:=List.getElem_of_mem hq
  obtain⟨j,hj,rfl⟩:=List.getElem_of_mem hp
  have:=(List.getElem_inj (xs:=L.map (·.2)) (h₀:=by simpa using hi) (h₁:=by simpa using hj) hb).1 (by simpa using e)
  subst this;rfl
 have hl1:∀q∈L,q.1=p.1→q=p:=fun q hq e=>by
  obtain⟨i,hi,rfl⟩:=List.getElem_of_mem hq
  obtain⟨j,hj,rfl⟩:=List.getElem_of_mem hp
  have:=(List.getElem_inj (xs:=L.map (·.1)) (h₀:=by simpa using hi) (h₁:=by simpa using hj) hk).1 (by simpa using e)
  subst this;rfl
 have hpm:p.2∈L.map (·.2):=List.mem_map.2 ⟨p,hp,rfl⟩
 obtain⟨p1,p2⟩:=cw a2 (some 58) u
 have hmrow:bu H' mb=bu H mb:=hI.rest mb hmb
 obtain⟨dm,hmap⟩:=hmap
 have hrne:∀o z,ρ p.2≠some (r,o,z):=fun o z e=>hmb (by
  have:=hI.WY.inj mb p.2 _ _ r 0 0 o z (hmrow.trans hmap) hrow hI.at_ e
  rw[this];exact hpm)
 have hine:∀o z,ρ p.2≠some (it,o,z):=fun o z e=>by
  obtain⟨_,_,hor⟩:=hI.WY.j4 p.2 _ _ _ _ hrow (.inr (by omega))
  rcases hor with⟨h0,_⟩|⟨blk,o',z',h0,_,⟨arr,h1,_⟩,_⟩
  ·simp only at h0;rw[e] at h0;cases h0
  ·simp only at h0 h1;rw[e] at h0;cases h0;rw[hI.iter] at h1;cases h1
 refine⟨p1.trans hsz,p2.trans hdf,fun q hq=> ?_,fun b hbn=> ?_,hI.names,by rw[hHe];exact g1, ?_,by rw[hHe];exact hI.P6.to g2,hI.at_,(g4 r (Array.getElem?_eq_some_iff.1 hI.map).1 hrne).trans hI.map,hI.born, ?_,(g4 it (Array.getElem?_eq_some_iff.1 hI.iter).1 hine).trans hI.iter,(dP (by decide)).trans hreg,hI.low,hI.WJ⟩
 ·by_cases e:q.2=p.2
  ·have:=hl2 q hq e
   subst this
   exact⟨d,by simp[bu]⟩
  ·obtain⟨dq,hq2⟩:=hI.rows q hq
   refine⟨dq, ?_⟩
   simp only[bu,if_neg e]
   rw[hq2]
   have hne:q.1≠p.1:=fun e1=>e (by rw[hl1 q hq e1])
   simp[List.mem_cons,hne]
 ·have:b≠p.2:=fun e=>hbn (e▸hpm)
  simp only[bu,if_neg this]
  exact hI.rest b hbn
 ·rw[hHe]
  intro t
  have:=VR.cU g2 (hfr t)
  by_cases e:t=58
  ·rw[e,hfree 58 (by decide),VR];trivial
  ·rw[qV e];exact this
 ·rw[hHe]
  exact cg.cU g2 hI.ents
end
end Go.Proofs.YtjopoheligmmoaaGreatDoor
end
section
/- The loop of Ring that sorts where each lock leads: the contract. -/
namespace Go.Proofs.YtjopoheligmmoaaGreatDoor
open Go Go.cZ Go.Proofs Go.RowKit
set_option linter.unusedSimpArgs false
set_option linter.unusedVariables false
theorem JM {ms:Array MapEntry} {seen:Array Nat} {e:MapEntry} (he:e∈(leftOf ms seen).toList):(leftOf ms (seen.push e.born)).size<(leftOf ms seen).size:=left_shrinks ms seen e he
set_option maxHeartbeats 2000000 in
theorem WX {L:List (Int×Nat)} {S:Int→List Int} {mb nx lo n:Nat} {fr:Fr} {H:Hp} {Q:QT} {code:Code} (hcode:xN code) (hn:58<n) (hreg:cc fr 7= .mp mb) (hfree:∀t∈uA,cc fr t= .any)
 (hb:(L.map (·.2)).Nodup) (hk:(L.map (·.1)).Nodup) (hmb:mb∉L.map (·.2)) (hmap:∃d,bu H mb=some (.row 3 0 d (mapA (eV L S)))) (hrow:∀p∈L,∃d,bu H p.2=some (.row 3 1 d ((S p.1).map i64)))
 (hS:∀p∈L,S p.1≠[]∧(S p.1).length<4611686018427387904)
 (hQ:∀H',(∀p∈L,∃d,bu H' p.2=some (.row 3 1 d ((Go.Proofs.YtjopoheligmmoaaGreatDoor.eH (S p.1)).map i64)))→(∀b,b∉L.map (·.2)→bu H' b=bu H b)→Q .normal fr H' nx):WC Tryz.prog n lo code fr H nx Q:=by
 obtain⟨i1,i2,i3,i4,o1,o2,o3,o4,o5,o6,o7,o8,o9,o10,o11,rfl,⟨a1,b1,g1⟩,⟨a2,b2,g2⟩,⟨a3,b3,g3⟩,⟨a4,b4,g4⟩,⟨a5,b5,g5⟩,⟨a6,b6,g6⟩,⟨a7,b7,g7⟩,⟨a8,b8,g8⟩,⟨a9,b9,g9⟩,⟨a10,b10,g10⟩,a11,b11,g11⟩:=hcode.ok
 intro w0 M0 c0 a w hh
 obtain⟨hsz,hdf,ρ,U,hU,hSim,hF,hT⟩:=hh
 obtain⟨dm,hmap'⟩:=hmap
 -- the map as it stands
 obtain⟨hUm,rr,x,ms,clk,h0,h1,h2,h3,h4,h5⟩:=hSim.Y0 hmap'
 simp only[mapA,List.cons.injEq,and_true] at h3
 subst h3
 have hE:=gF.of_map h4
 have h7:a.eval (.tmp 7)= .map (some rr):=by
  have:=hF 7
  rw[hreg,VR] at this
  obtain⟨_,r',hr',hrest⟩:=this
  obtain⟨_,hr2⟩:=hrest _ _ _ _ hmap'
  obtain⟨o,z,hρ⟩:=hr2 (by simp[mapA])
  simp only at h0 hρ
  rw[h0] at hρ
  cases hρ
  exact hr'
 -- the range begins
 refine wp_seq (wp_region_list ?_)
 refine ew g1 (v:= .map (some rr)) (w':=w) (by unfold execOp;simp[a1,h7]) ?_
 rw[b1]
 have e49:(a.put (some 49) (.map (some rr))).eval (.tmp 49)= .map (some rr):=dv (by omega)
 have hrun:=run_range_map (P:=Tryz.prog) w 76 3 31 rr ms clk Tryz.underlying76 h2
 refine ew g2 (v:= .pointer (some ⟨w.heap.size,0,none⟩)) (w':=w.alloc (.mapIter (some rr) clk #[] clk)) (by unfold execOp;simp[a2,e49,hrun,Result.andThen]) ?_
 rw[b2]
 refine wpList_nil ?_
 have hturn:pd w (w.alloc (.mapIter (some rr) clk #[] clk)) w.heap.size:=⟨rfl,rfl,rfl,by show w.heap.size≤(w.heap.push _).size;rw[Array.size_push];omega,fun k hk _=>heap_alloc_old w _ hk,fun h=>by omega⟩
 have hlow:w0.heap.size≤w.heap.size:=hSim.below.size
 have hlow0:c0.w.heap.size≤w.heap.size:=hT.2.sz
 have hsz2:((a.put (some 49) (.map (some rr))).put (some 50) (.pointer (some ⟨w.heap.size,0,none⟩))).tmps.size=n:=by
  rw[(cw _ _ _).1,(cw _ _ _).1];exact hsz
 have hstart:BI L S mb nx lo n fr H w0 M0 c0 [] H ρ U #[] rr ms clk w.heap.size ((a.put (some 49) (.map (some rr))).put (some 50) (.pointer (some ⟨w.heap.size,0,none⟩))) (w.alloc (.mapIter (some rr) clk #[] clk)):=by
  refine⟨hsz2, ?_,fun p hp=>by simpa using hrow p hp,fun _ _=>rfl,hU,hSim.gv hturn hlow,(oh hfree hF [(49, .map (some rr)),(50, .pointer (some ⟨w.heap.size,0,none⟩))] (by simp[uA])).gv hturn.at_,hT.gv hturn hlow0,h0, ?_,h5,cg.gv hturn.at_ hE,heap_alloc_new w _, ?_,hlow,hlow0⟩
  ·rw[(cw _ _ _).2,(cw _ _ _).2];exact hdf
  ·rw[heap_alloc_old w _ (Array.getElem?_eq_some_iff.1 h2).1];exact h2
  ·exact dv (by rw[(cw _ _ _).1];omega)
 generalize (a.put (some 49) (.map (some rr))).put (some 50) (.pointer (some ⟨w.heap.size,0,none⟩))=a0 at hstart ⊢
 generalize w.alloc (.mapIter (some rr) clk #[] clk)=wst at hstart ⊢
 generalize w.heap.size=it at hstart
 clear hturn hlow hlow0 hsz2 hrun e49 h7 hE h4 h2 h1 h0 hF hSim hT
 show(Code.block 2 (.loop _)).wp Tryz.prog _ a0 wst
 refine wp_block ?_
 refine K9 (fun m a w=>∃V H' ρ U seen ms clk it,BI L S mb nx lo n fr H w0 M0 c0 V H' ρ U seen rr ms clk it a w∧(∀m∈ms.toList,seen.contains m.born=true→∃k∈V,m.key= .int .i64 k)∧m=(leftOf ms seen).size) ⟨[],H,ρ,U,#[],ms,clk,it,hstart,fun m _ hs=>by simp at hs,rfl⟩ ?_
 clear hstart
 rintro m a w ⟨V,H',ρ,U,seen,ms,clk,it,hI,hgot,rfl⟩
 refine wp_seq (wp_region_list ?_)
 have hsz:=hI.size
 have hreg50:=hI.reg
 rcases AQ (P:=Tryz.prog) w o3.type it rr clk clk seen ms clk hI.iter hI.map hI.born.1 (Nat.le_refl _) with⟨hz,hrun⟩|⟨e,he,w1,hturn,hws,hi1,hrun⟩
 · -- nothing is left
  refine ew g3 (v:= .tuple #[.bool false]) (w':=w) (by unfold execOp;simp[a3,hreg50,hrun,Result.andThen]) ?_
  rw[b3]
  have e51:(a.put (some 51) (.tuple #[.bool false])).eval (.tmp 51)= .tuple #[.bool false]:=dv (by omega)
  refine ew g4 (v:= .bool false) (w':=w) (by unfold execOp;simp[a4,e51,Instr.extract]) ?_
  rw[b4]
  refine wpList_nil ?_
  have e52:((a.put (some 51) (.tuple #[.bool false])).put (some 52) (.bool false)).eval (.tmp 52)= .bool false:=dv (by rw[(cw _ _ _).1];omega)
  show(Code.seq _ _).wp Tryz.prog _ _ w
  refine wp_seq (wp_cond_false e52 (wp_exit ?_))
  simp only[Exit.then,Exit.inBlock,if_true]
  refine⟨.normal,fr,H',nx,rfl,hQ H' (fun p hp=> ?_) hI.rest, ?_, ?_,ρ,U,hI.names,hI.WY,oh hfree hI.fr [(51, .tuple #[.bool false]),(52, .bool false)] (by simp[uA]),hI.P6⟩
  ·obtain⟨d,hd⟩:=hI.rows p hp
   obtain⟨e,he,hek⟩:=N0 hI.ents hp
   obtain⟨k,hkV,hke⟩:=hgot e he (all_seen ms seen hz e he)
   rw[hek] at hke
   simp only[Value.int.injEq,true_and] at hke
   rw[hke,if_pos hkV] at hd
   exact⟨d,by rw[hke];exact hd⟩
  ·rw[(cw _ _ _).1,(cw _ _ _).1];exact hsz
  ·rw[(cw _ _ _).2,(cw _ _ _).2];exact hI.defers
 · -- an entry comes
  obtain⟨hem,hes⟩:=mem_left he
  obtain⟨p,hp,hek,hev⟩:=N1 hI.ents hem
  refine ew g3 (v:= .tuple #[.bool true,e.key,e.val]) (w':=w1) (by unfold execOp;simp[a3,hreg50,hrun,Result.andThen]) ?_
  rw[b3]
  have e51:(a.put (some 51) (.tuple #[.bool true,e.key,e.val])).eval (.tmp 51)= .tuple #[.bool true,e.key,e.val]:=dv (by omega)
  refine ew g4 (v:= .bool true) (w':=w1) (by unfold execOp;simp[a4,e51,Instr.extract]) ?_
  rw[b4]
  refine wpList_nil ?_
  have hI1:BI L S mb nx lo n fr H w0 M0 c0 V H' ρ U seen rr ms clk it a w:=hI
  -- the situation behind the step, but for the registers
  have hrm:w1.heap[rr]?=some (.map ms clk):=by
   rw[hturn.cU rr (Array.getElem?_eq_some_iff.1 hI.map).1 fun e2=>by have:=hI.iter;rw[←e2,hI.map] at this;cases this]
   exact hI.map
  have hent:=wu (P:=Tryz.prog) w1 it rr clk seen ms clk e hi1 hrm hem hI.born.2
  generalize hA2:(a.put (some 51) (.tuple #[.bool true,e.key,e.val])).put (some 52) (.bool true)=A2
  have s2:A2.tmps.size=n:=by rw[←hA2,(cw _ _ _).1,(cw _ _ _).1];exact hsz
  have d2:A2.defers=[]:=by rw[←hA2,(cw _ _ _).2,(cw _ _ _).2];exact hI.defers
  have e52:A2.eval (.tmp 52)= .bool true:=by rw[←hA2];exact dv (by rw[(cw _ _ _).1];omega)
  have r2:A2.eval (.tmp 50)= .pointer (some ⟨it,0,none⟩):=by rw[←hA2,dP (by decide),dP (by decide)];exact hreg50
  have f2:FR ⟨ρ,bu H',U,w1,M0⟩ fr A2.tmps:=by rw[←hA2];exact(oh hfree hI.fr [(51, .tuple #[.bool true,e.key,e.val]),(52, .bool true)] (by simp[uA])).gv hturn.at_
  have sim1:dZ w0 ⟨ρ,bu H',U,w1,M0⟩:=hI.WY.gv hturn hI.low
  have trk1:lj c0 lo ⟨ρ,bu H',U,w1,M0⟩:=hI.P6.gv hturn hI.WJ
  have ent1:gF ⟨ρ,bu H',U,w1,M0⟩ (eV L S) ms.toList:=cg.gv (c:=⟨ρ,bu H',U,w,M0⟩) hturn.at_ hI.ents
  have m7:A2.eval (.tmp 7)= .map (some rr):=by
   have:=f2 7
   rw[hreg,VR] at this
   obtain⟨_,r',hr',hrest⟩:=this
   obtain⟨_,hr2⟩:=hrest _ _ _ _ ((hI.rest mb hmb).trans hmap')
   obtain⟨o,z,hρ⟩:=hr2 (by simp[mapA])
   have h0:=hI.at_
   simp only at h0 hρ
   rw[h0] at hρ
   cases hρ
   exact hr'
  clear hA2
  show(Code.seq _ _).wp Tryz.prog _ A2 w1
  refine wp_seq (wp_cond_true e52 (wp_skip ?_))
  show(Code.block 3 _).wp Tryz.prog _ A2 w1
  refine wp_block (wp_seq (wp_region_list ?_))
  refine ew g5 (v:= .tuple #[e.key,e.val]) (w':=w1) (by unfold execOp;simp[a5,r2,hent,Result.andThen]) ?_
  rw[b5]
  have e53:(A2.put (some 53) (.tuple #[e.key,e.val])).eval (.tmp 53)= .tuple #[e.key,e.val]:=dv (by omega)
  refine ew g6 (v:=e.key) (w':=w1) (by unfold execOp;simp[a6,e53,Instr.extract]) ?_
  rw[b6]
  have e54:((A2.put (some 53) (.tuple #[e.key,e.val])).put (some 54) e.key).eval (.tmp 54)=e.key:=dv (by rw[(cw _ _ _).1];omega)
  refine ew g7 (v:=e.key) (w':=w1) (by unfold execOp;simp[a7,e54]) ?_
  rw[b7]
  refine wpList_nil ?_
  generalize hA3:((A2.put (some 53) (.tuple #[e.key,e.val])).put (some 54) e.key).put (some 10) e.key=A3
  have s3:A3.tmps.size=n:=by rw[←hA3,(cw _ _ _).1,(cw _ _ _).1,(cw _ _ _).1];exact s2
  have d3:A3.defers=[]:=by rw[←hA3,(cw _ _ _).2,(cw _ _ _).2,(cw _ _ _).2];exact d2
  have r3:A3.eval (.tmp 50)= .pointer (some ⟨it,0,none⟩):=by rw[←hA3,dP (by decide),dP (by decide),dP (by decide)];exact r2
  have m3:A3.eval (.tmp 7)= .map (some rr):=by rw[←hA3,dP (by decide),dP (by decide),dP (by decide)];exact m7
  have k3:A3.eval (.tmp 10)=e.key:=by rw[←hA3];exact dv (by rw[(cw _ _ _).1,(cw _ _ _).1];omega)
  have f3:FR ⟨ρ,bu H',U,w1,M0⟩ fr A3.tmps:=by rw[←hA3];exact oh hfree f2 [(53, .tuple #[e.key,e.val]),(54,e.key),(10,e.key)] (by simp[uA])
  clear hA3
  show(Code.region i4 _ false).wp Tryz.prog _ A3 w1
  refine wp_region_list ?_
  refine ew g8 (v:= .map (some rr)) (w':=w1) (by unfold execOp;simp[a8,m3]) ?_
  rw[b8]
  have k4:(A3.put (some 55) (.map (some rr))).eval (.tmp 10)=e.key:=by rw[dP (by decide)];exact k3
  refine ew g9 (v:=e.key) (w':=w1) (by unfold execOp;simp[a9,k4]) ?_
  rw[b9]
  obtain⟨j,hj⟩:=oF (S:=S) L 0 p hp hk
  rcases jW (d:= .int .i64) rfl ent1 hj with⟨q1,_⟩|⟨j2,v,m2,q1,q2,q3,q4,q5,q6⟩
  ·cases q1
  simp only[Option.some.injEq,Prod.mk.injEq] at q1
  obtain⟨rfl,rfl⟩:=q1
  have e55:((A3.put (some 55) (.map (some rr))).put (some 56) e.key).eval (.tmp 55)= .map (some rr):=by rw[dP (by decide)];exact dv (by omega)
  have e56:((A3.put (some 55) (.map (some rr))).put (some 56) e.key).eval (.tmp 56)= .int .i64 p.1:=by rw[←hek];exact dv (by rw[(cw _ _ _).1];omega)
  refine ew g10 (v:=m2.val) (w':=w1) (xK a10 Tryz.underlying76 Tryz.underlying3 rfl rfl e55 e56 hrm q6) ?_
  rw[b10]
  generalize hA4:((A3.put (some 55) (.map (some rr))).put (some 56) e.key).put (some 57) m2.val=A4
  have s4:A4.tmps.size=n:=by rw[←hA4,(cw _ _ _).1,(cw _ _ _).1,(cw _ _ _).1];exact s3
  have d4:A4.defers=[]:=by rw[←hA4,(cw _ _ _).2,(cw _ _ _).2,(cw _ _ _).2];exact d3
  have r4:A4.eval (.tmp 50)= .pointer (some ⟨it,0,none⟩):=by rw[←hA4,dP (by decide),dP (by decide),dP (by decide)];exact r3
  have k57:A4.eval (.tmp 57)=m2.val:=by rw[←hA4];exact dv (by rw[(cw _ _ _).1,(cw _ _ _).1];omega)
  have f4:FR ⟨ρ,bu H',U,w1,M0⟩ fr A4.tmps:=by rw[←hA4];exact oh hfree f3 [(55, .map (some rr)),(56,e.key),(57,m2.val)] (by simp[uA])
  clear hA4
  have hI4:BI L S mb nx lo n fr H w0 M0 c0 V H' ρ U (seen.push e.born) rr ms clk it A4 w1:=⟨s4,d4,hI.rows,hI.rest,hI.names,sim1,f4,trk1,hI.at_,hrm,hI.born,ent1,hi1,r4,hI.low,hI.WJ⟩
  have hrunS:(execOp A4.eval o11).run Tryz.prog w1= .ok (.enter 40 #[m2.val]) w1:=by
   unfold execOp
   simp only[a11,resolve,Sem.run_bind,Sem.run_pure,Result.andThen_ok,List.map_toArray,List.map_cons,List.map_nil,k57]
   obtain⟨fn,e1,e3,e2,_,_⟩:=OB.ok
   cases hcode:fn.body with
   |none=>rw[hcode] at e2;cases e2
   |some code=>
   change (Tryz.prog).funcs[40]?=some fn at e1
   simp only[Act.eval,Sem.run_bind,Deferred.ofValue,Sem.run_pure,Result.andThen_ok,invoke,callFunc,run_program,e1,e3,hcode,Bool.false_eq_true,if_false,Option.isNone_some]
   rfl
  refine wpList_plain g11 fun K hK=> ?_
  unfold Oper.wp
  rw[hrunS,Oper.upon_enter]
  refine(hI4.sorted hfree hb hk hmb ⟨dm,hmap'⟩ hS hp q5 s4 d4 f4 r4).mono ?_
  rintro en w' ⟨rfl,hu⟩
  refine hK _ _ (wpList_nil ?_)
  obtain⟨H2,hI5⟩:=hu (.tuple #[])
  rw[b11]
  show ∃m',m'<_∧_
  refine⟨_,JM he,p.1::V,H2,ρ,U,seen.push e.born,ms,clk,it,hI5,fun m hm hs=> ?_,rfl⟩
  rw[contains_push] at hs
  rcases(Bool.or_eq_true _ _).mp hs with hs|hs
  ·obtain⟨k,hk1,hk2⟩:=hgot m hm hs
   exact⟨k,List.mem_cons_of_mem _ hk1,hk2⟩
  ·have:=born_inj hI.born.2 hm hem (by simpa using hs)
   exact⟨p.1,by simp,by rw[this];exact hek⟩
end Go.Proofs.YtjopoheligmmoaaGreatDoor
end
section
/- Contains; maps with ints for keys. -/
namespace Go.Proofs.YtjopoheligmmoaaGreatDoor
open Go Go.cZ Go.Proofs
set_option linter.unusedSimpArgs false
set_option linter.unusedVariables false
set_option maxRecDepth 8000
def tu (x:Int):List Int→Nat→Int
 |[],_=>-1
 |y::r,i=>if x=y then(i:Int) else tu x r (i+1)
theorem yQ (x:Int):∀(l:List Int) (i:Nat),0≤tu x l i↔x∈l
 |[],i=>by simp[tu]
 |y::r,i=>by
  rw[tu,List.mem_cons]
  split
  ·rename_i e;exact⟨fun _=> .inl e,fun _=>by omega⟩
  ·rename_i e
   rw[yQ x r]
   exact⟨.inr,fun h=>h.resolve_left e⟩
theorem JG {x:Int} {l:List Int} {i:Nat} (h:i<l.length):tu x (l.drop i) i=if x=l.getD i 0 then(i:Int) else tu x (l.drop (i+1)) (i+1):=by
 rw[List.drop_eq_getElem_cons h,tu]
 simp[List.getD,h]
theorem yS (l:List Int) (x:Int) (hl:l.length<9223372036854775807):Pure Tryz.prog 80 [cM l,i64 x] (fun r=>r=i64 (tu x l 0)):=by
 refine aJ OR rfl ?_
 have a0:(l.map i64).length=l.length:=by simp
 refine cV ?_
 refine aN (fun i:Nat=>[(0,cM l),(1,i64 x),(7,i64 l.length),(8,i64 i)]) (fun i H n=>i≤l.length∧tu x (l.drop i) i=tu x l 0) (fun i=>l.length - i) 0 (by rw[List.length_map];exact cK) ⟨Nat.zero_le _,rfl⟩ ?_
 rintro i H n ⟨hi,hx⟩
 by_cases hil:i<l.length
 ·have e0:∀d,(l.map i64).getD ((i:Int)).toNat d=i64 (l.getD i 0):=fun d=>ints_at hil d
  rw[JG hil] at hx
  by_cases he:x=l.getD i 0
  ·have r0:=decide_eq_true he
   rw[if_pos he] at hx
   rw[←hx]
   refine cV ?_
   first|exact rfl|trivial
  ·have r0:=decide_eq_false he
   rw[if_neg he] at hx
   refine cV ?_
   exact⟨i+1,by omega,cK,by omega,hx⟩
 ·obtain rfl:i=l.length:=by omega
  rw[List.drop_length] at hx
  rw[←hx]
  refine cV ?_
  first|exact rfl|trivial
theorem jx (l:List Int) (x:Int) (hl:l.length<9223372036854775807):Pure Tryz.prog 39 [cM l,i64 x] (fun r=>r=bl (decide (x∈l))):=by
 have c0:=yS l x hl
 refine aJ OA rfl ?_
 refine cV ?_
 refine fA ?_
 rw[decide_eq_decide]
 exact yQ x l 0
def NZ (ks:List Int):List AV:=ks.map fun k=>nK (.int .i64 k) (i64 1)
theorem rO:∀(ks:List Int) (x:Int) (i:Nat),eZ false (.int .i64 x) (NZ ks) i=some (if x∈ks then some (i+ks.idxOf x,i64 1) else none)
 |[],x,i=>by simp[NZ,eZ]
 |k::r,x,i=>by
  show eZ false (.int .i64 x) (nK (.int .i64 k) (i64 1)::NZ r) i=_
  by_cases e:x=k
  ·subst e;simp[eZ,nK,sP,CQ]
  ·have e2:¬k=x:=fun h=>e h.symm
   simp only[eZ,nK,sP,CQ,if_true,decide_eq_false e]
   rw[rO r x (i+1)]
   simp only[List.mem_cons,e,false_or,List.idxOf_cons,beq_eq_false_iff_ne.2 e2,cond_false]
   split
   ·simp;omega
   ·rfl
theorem WG (ks:List Int) (x:Int) (h:x∈ks):mK false (.int .i64 x) (NZ ks) (i64 0)=some (i64 1,true):=by
 unfold mK;rw[rO,if_pos h]
theorem RV (ks:List Int) (x:Int) (h:x∉ks):mK false (.int .i64 x) (NZ ks) (i64 0)=some (i64 0,false):=by
 unfold mK;rw[rO,if_neg h]
theorem WH (ks:List Int) (x:Int) (h:x∉ks):pD false (.int .i64 x) (NZ ks) (i64 1)=some (NZ (ks++[x])):=by
 unfold pD;rw[rO,if_neg h]
 simp[NZ,nK]
theorem qJ {S:Int→List Int}:∀(L:List (Int×Nat)) (x:Int) (i:Nat),x∉L.map (·.1)→eZ false (.int .i64 x) (eV L S) i=some none
 |[],x,i,_=>rfl
 |p::r,x,i,h=>by
  rw[List.map_cons,List.mem_cons,not_or] at h
  show eZ false (.int .i64 x) (nK (.int .i64 p.1) (.sl p.2 (S p.1).length)::eV r S) i=_
  simp only[eZ,nK,sP,CQ,if_true,decide_eq_false h.1]
  exact qJ r x (i+1) h.2
theorem vD {S:Int→List Int} {L:List (Int×Nat)} {x:Int} (z:AV) (h:x∉L.map (·.1)):mK false (.int .i64 x) (eV L S) z=some (z,false):=by
 unfold mK;rw[qJ L x 0 h]
theorem y7 {S:Int→List Int} {L:List (Int×Nat)} {p:Int×Nat} (z:AV) (hp:p∈L) (hk:(L.map (·.1)).Nodup):mK false (.int .i64 p.1) (eV L S) z=some (.sl p.2 (S p.1).length,true):=by
 obtain⟨j,hj⟩:=oF (S:=S) L 0 p hp hk
 unfold mK;rw[hj]
end Go.Proofs.YtjopoheligmmoaaGreatDoor
end
section
/- The shortest ring through a lock: the walk. -/
namespace Go.Proofs.YtjopoheligmmoaaGreatDoor
open Go Go.cZ Go.Proofs
set_option linter.unusedSimpArgs false
set_option linter.unusedVariables false
set_option maxRecDepth 8000
structure pe (mb:Nat) (L:List (Int×Nat)) (S:Int→List Int) (H:Hp):Prop where
 map:∃d,bu H mb=some (.row 3 0 d (mapA (eV L S)))
 row:∀p∈L,∃d,bu H p.2=some (.row 3 1 d ((S p.1).map i64))
 keys:(L.map (·.1)).Nodup
def lZ (L:List (Int×Nat)) (S:Int→List Int) (x:Int):List Int:=if x∈L.map (·.1) then S x else[]
theorem pe.cU {mb:Nat} {L:List (Int×Nat)} {S:Int→List Int} {H H':Hp} (h:pe mb L S H) {nx:Nat} (hmb:mb<nx) (hids:∀p∈L,p.2<nx) (hk:∀y,y<nx→bu H' y=bu H y):pe mb L S H':=
 ⟨by obtain⟨d,hd⟩:=h.map;exact⟨d,(hk mb hmb).trans hd⟩,fun p hp=>by obtain⟨d,hd⟩:=h.row p hp;exact⟨d,(hk _ (hids p hp)).trans hd⟩,h.keys⟩
abbrev mX.av (e:mX):AV:= .agg [i64 e.at_,i64 e.from_]
def nZ (R:Option (List Int)) (nx k:Nat) (r:AV) (H:Hp):Prop:=match R with
 |none=>r= .sc (.slice none 0 0)
 |some w=>∃b d,nx≤b∧b<k∧r= .sl b w.length∧bu H b=some (.row 3 1 d (w.map i64))
theorem L3 {l:List mX} (hp:0<l.length) (e:mX):(iF (l++[e])).tail=(iF l).tail++[e.at_]:=by
 cases l with
 |nil=>simp at hp
 |cons a r=>simp[iF]
theorem QZ {l:List mX} {first x:Int} (hp:0<l.length) (h0:l.getD 0 default=⟨first,-1,0⟩) (hx:x≠first):x∈(iF l).tail↔x∈iF l:=by
 cases l with
 |nil=>simp at hp
 |cons a r=>
  have:a=⟨first,-1,0⟩:=by simpa[List.getD] using h0
  subst this
  simp[iF,hx]
theorem MM {lead:Int→List Int} {first:Int} {k:Nat} {l:List mX} (h:j6 lead first k l):∀i,i<l.length→(l.getD i default).dep≤i:=by
 intro i
 induction i using Nat.strongRecOn with
 |_ i ih=>
  intro hi
  by_cases h0:i=0
  ·subst h0;rw[h.zero];exact Nat.le_refl _
  ·obtain⟨p,h1,_,_,_,h5⟩:=h.par i (by omega) hi
   have:=ih p h1 (by omega)
   omega
set_option maxHeartbeats 4000000 in
theorem nX {mb nx n:Nat} {L:List (Int×Nat)} {S:Int→List Int} {H0:Hp} (hL:pe mb L S H0) (hmb:mb<nx) (hids:∀p∈L,p.2<nx) (hin:∀x,∀y∈lZ L S x,0≤y∧y<n) (hn:n≤16) (hS:∀x,(S x).length≤16) {first:Int} (hf:0≤first∧first<n):
 cG Tryz.prog 41 [.mp mb,i64 first] H0 nx (fun r H k=>nx≤k∧(∀y,y<nx→bu H y=bu H0 y)∧nZ (pn (lZ L S) n first) nx k r H):=by
 refine aM OC rfl ?_
 refine cV ?_
 refine aN (fun σ:Nat×List mX=>[(0, .mp mb),(1,i64 first),(5, .sl (nx+3) σ.2.length),(6, .mp (nx+5)),(7,i64 σ.1)])
  (fun σ H k=>σ.1≤n∧j6 (lZ L S) first σ.1 σ.2∧(∀x∈iF σ.2,0≤x∧x<n)∧xb (lZ L S) first (n+1 - σ.1) σ.1 σ.2=pn (lZ L S) n first∧nx+6≤k∧(∃d,bu H (nx+3)=some (.row 144 2 d (σ.2.map mX.av)))∧(∃d,bu H (nx+5)=some (.row 3 0 d (mapA (NZ (iF σ.2).tail))))∧∀y,y<nx→bu H y=bu H0 y) (fun σ=>n+1 - σ.1) (0,[⟨first,-1,0⟩])
  cK ⟨Nat.zero_le _,j6.start _ _,fun x hx=>by simp only[iF,List.map_cons,List.map_nil,List.mem_cons,List.not_mem_nil,or_false] at hx;rw[hx];exact hf,rfl,ca,⟨_,bw⟩,⟨_,bw⟩,fun y hy=>cD⟩ ?_
 rintro⟨k,l⟩ H m ⟨hkn,hI,hat,hB,hm,⟨d1,r1⟩,⟨d2,r2⟩,hkeep⟩
 dsimp only at hkn hI hat hB r1 r2 ⊢
 have hlen:=ft n _ hI.nd hat
 rw[List.length_map] at hlen
 have a0:(l.map mX.av).length=l.length:=List.length_map _
 rw[show n+1 - k=(n - k)+1 by omega,xb] at hB
 by_cases hkl:k<l.length
 ·rw[if_pos hkl] at hB
  have e0:∀d,(l.map mX.av).getD ((k:Int)).toNat d= .agg [i64 (l.getD k default).at_,i64 (l.getD k default).from_]:=fun d=>by rw[Int.toNat_natCast];exact dQ mX.av l k d hkl
  have hL1:=hL.cU hmb hids hkeep
  obtain⟨d3,r3⟩:=hL1.map
  by_cases hx:(l.getD k default).at_∈L.map (·.1)
  ·obtain⟨p,hp,hpe⟩:=List.mem_map.1 hx
   have g0:=y7 (S:=S) (.sc (.slice none 0 0)) hp hL1.keys
   obtain⟨d4,r4⟩:=hL1.row p hp
   rw[hpe] at g0 r4
   have hlead:lZ L S (l.getD k default).at_=S (l.getD k default).at_:=if_pos hx
   rw[hlead] at hB
   have hSx:=hS (l.getD k default).at_
   have hinx:=hin (l.getD k default).at_
   rw[hlead] at hinx
   have hpn:=hids p hp
   have a1:((S (l.getD k default).at_).map i64).length=(S (l.getD k default).at_).length:=List.length_map _
   refine cV ?_
   clear e0 g0 r3
   generalize hxs:S (l.getD k default).at_=xs at *
   refine aN (fun σ:Nat×List mX=>[(0, .mp mb),(1,i64 first),(5, .sl (nx+3) σ.2.length),(6, .mp (nx+5)),(7,i64 k),(28, .sl p.2 xs.length),(29,i64 xs.length),(30,i64 σ.1)])
    (fun σ H2 m2=>σ.1≤xs.length∧j6 (lZ L S) first k σ.2∧l<+:σ.2∧(∀x∈iF σ.2,0≤x∧x<n)∧HN first k (l.getD k default).dep (xs.drop σ.1) σ.2=HN first k (l.getD k default).dep xs l∧m≤m2∧(∃d,bu H2 (nx+3)=some (.row 144 2 d (σ.2.map mX.av)))∧(∃d,bu H2 (nx+5)=some (.row 3 0 d (mapA (NZ (iF σ.2).tail))))∧(∃d,bu H2 p.2=some (.row 3 1 d (xs.map i64)))∧∀y,y<nx→bu H2 y=bu H0 y) (fun σ=>xs.length - σ.1) (0,l)
    cK ⟨Nat.zero_le _,hI,List.prefix_refl _,hat,rfl,ca,⟨_,bw⟩,⟨_,bw⟩,⟨_,bw⟩,fun y hy=>Eq.trans cD (hkeep y hy)⟩ ?_
   clear r1 r2 r4 a0
   rintro⟨j,l2⟩ H2 m2 ⟨hj,hI2,hpre,hat2,hT,hm2,⟨d1,r1⟩,⟨d2,r2⟩,⟨d4,r4⟩,hkeep2⟩
   dsimp only at hj hI2 hpre hat2 hT r1 r2 ⊢
   have hlen2:=ft n _ hI2.nd hat2
   rw[List.length_map] at hlen2
   have hp2:=hI2.pos
   have hkl2:k<l2.length:=Nat.lt_of_lt_of_le hkl hpre.length_le
   have hgk:=kB (d:=default) hpre hkl
   have a0:(l2.map mX.av).length=l2.length:=List.length_map _
   by_cases hjl:j<xs.length
   ·have e0:∀d,(xs.map i64).getD ((j:Int)).toNat d=i64 (xs.getD j 0):=fun d=>ints_at hjl d
    rw[List.drop_eq_getElem_cons hjl,show xs[j]=xs.getD j 0 by simp[List.getD,hjl],HN] at hT
    have hxm:=hinx (xs.getD j 0) (cR 0 hjl)
    have hxl:xs.getD j 0∈lZ L S (l2.getD k default).at_:=by rw[hgk,hlead];exact cR 0 hjl
    generalize xs.getD j 0=x at *
    by_cases hxf:x=first
    ·rw[if_pos hxf] at hT
     rw[←hT] at hB
     dsimp only at hB
     have r0:=decide_eq_true hxf
     refine cV ?_
     clear e0 r0 r2 r4
     have hfrom:∀i,i<l.length→(l.getD i default).from_<l.length:=fun i hi=>by
      by_cases h0:i=0
      ·subst h0;rw[hI.zero];show(-1:Int)<_;omega
      ·obtain⟨q,q1,q2,q3,_⟩:=hI.par i (by omega) hi
       rw[q3];omega
     have hR:nZ (pn (lZ L S) n first) nx=nZ (some (p7 l k)) nx:=by rw[hB]
     rw[hR]
     have hup:tc l2 (k+1) k=tc l (k+1) k:=HR hpre (k+1) k (by omega) hfrom
     have hwl:=(QD hI k hkl).len
     refine aV (fun σ:Int×List Int=>[(5, .sl (nx+3) l2.length),(10, .sl (m2+10) σ.2.length),(11,i64 σ.1)])
      (fun σ H3 m3=>((σ.1=-1∧σ.2=tc l2 (k+1) k)∨∃i:Nat,σ.1=i∧i≤k∧σ.2++tc l2 (i+1) i=tc l2 (k+1) k)∧m2+11≤m3∧(∃d,bu H3 (nx+3)=some (.row 144 2 d (l2.map mX.av)))∧(∃d,bu H3 (m2+10)=some (.row 3 1 d (σ.2.map i64)))∧∀y,y<nx→bu H3 y=bu H0 y) (fun σ=>(σ.1+1).toNat) (k,[])
      ⟨_,_,_,Rt.nil 10 3 1 (by omega) rfl,cK, .inr ⟨k,rfl,Nat.le_refl _,rfl⟩,ca,⟨_,bw⟩,⟨_,bw⟩,fun y hy=>Eq.trans cD (hkeep2 y hy)⟩ ?_
     clear r1
     rintro⟨at_,out⟩ H3 m3 ⟨hcase,hm3,⟨d1,r1⟩,⟨d5,r5⟩,hkeep3⟩
     dsimp only at hcase r5 ⊢
     rcases hcase with⟨rfl,hout⟩|⟨i,rfl,hik,hout⟩
     ·have hol:out.length≤1048576:=by
       have h1:=hwl
       unfold p7 at h1
       rw[List.length_reverse] at h1
       rw[hout,hup,h1]
       have:=hI.mono k k (Nat.le_refl _) hkl
       have hd:(l.getD k default).dep≤k:=MM hI k hkl
       omega
      refine cV ?_
      refine aL (pR (b:=m2+10) (l:=out) ?_ hol ⟨d5, ?_⟩) ?_
      ·exact ca
      ·exact bw
      rintro _ H4 m4 ⟨⟨d6,r6⟩,hm4,hkeep4⟩
      refine cV ?_
      have hw:p7 l k=out.reverse:=by unfold p7;rw[hout,hup]
      rw[hw]
      refine⟨⟨?_,fun y hy=> ?_,m2+10,d6,by omega, ?_,by rw[List.length_reverse],bw⟩⟩
      ·exact ca
      ·refine Eq.trans cD (Eq.trans (hkeep4 y ?_ (by omega)) (Eq.trans cD (hkeep3 y hy)))
       exact ca
      ·exact ca
     ·have hil:i<l2.length:=by omega
      have e0:∀d,(l2.map mX.av).getD ((i:Int)).toNat d= .agg [i64 (l2.getD i default).at_,i64 (l2.getD i default).from_]:=fun d=>by rw[Int.toNat_natCast];exact dQ mX.av l2 i d hil
      have hge:(0:Int)≤i:=by omega
      have hol:out.length≤1048576:=by
       have h1:=congrArg List.length hout
       have h2:=hwl
       unfold p7 at h2
       rw[List.length_reverse] at h2
       rw[hup,h2,List.length_append] at h1
       have hd:(l.getD k default).dep≤k:=MM hI k hkl
       omega
      have a1:(out.map i64).length=out.length:=List.length_map _
      rw[tc,if_neg (by omega),Int.toNat_natCast] at hout
      by_cases h0:i=0
      ·subst h0
       have hz:=hI2.zero
       rw[hz] at e0 hout
       dsimp only at e0 hout
       rw[tc] at hout
       refine cV ?_
       exact⟨(-1,out++[first]),by dsimp only;omega,_,_,_,Rt.refl _ _ _,by rw[List.length_append];exact cK, .inl ⟨rfl,hout⟩,ca,⟨_,bw⟩,⟨_,by dsimp only;rw[List.map_append];exact bw⟩,fun y hy=>Eq.trans cD (hkeep3 y hy)⟩
      ·obtain⟨q,q1,q2,q3,_⟩:=hI2.par i (by omega) hil
       rw[q3,A9 hI2 q (by omega) i q1] at hout
       rw[q3] at e0
       refine cV ?_
       exact⟨((q:Int),out++[(l2.getD i default).at_]),by dsimp only;omega,_,_,_,Rt.refl _ _ _,by rw[List.length_append];exact cK, .inr ⟨q,rfl,by omega,by dsimp only;rw[List.append_assoc];exact hout⟩,ca,⟨_,bw⟩,⟨_,by dsimp only;rw[List.map_append];exact bw⟩,fun y hy=>Eq.trans cD (hkeep3 y hy)⟩
    ·rw[if_neg hxf] at hT
     have r0:=decide_eq_false hxf
     have hmem:=QZ hp2 hI2.zero hxf
     by_cases hin2:x∈iF l2
     ·rw[if_pos hin2] at hT
      have g0:=WG (iF l2).tail x (hmem.2 hin2)
      refine cV ?_
      exact⟨(j+1,l2),by dsimp only;omega,cK,by dsimp only;omega,hI2,hpre,hat2,hT,ca,⟨_,bw⟩,⟨_,bw⟩,⟨_,bw⟩,fun y hy=>Eq.trans cD (hkeep2 y hy)⟩
     ·rw[if_neg hin2] at hT
      have hnm:=mt hmem.1 hin2
      have g0:=RV (iF l2).tail x hnm
      have g1:=WH (iF l2).tail x hnm
      have hadd:=hI2.add hkl2 hxl hxf hin2
      rw[hgk] at hadd
      refine cV ?_
      refine⟨(j+1,l2++[⟨x,k,(l.getD k default).dep+1⟩]),by dsimp only;omega, ?_,by dsimp only;omega,hadd,hpre.trans (List.prefix_append _ _),fun y hy=> ?_,hT,ca, ?_, ?_,⟨_,bw⟩,fun y hy=>Eq.trans cD (hkeep2 y hy)⟩
      ·rw[List.length_append];exact cK
      ·unfold iF at hy
       rw[List.map_append] at hy
       rcases List.mem_append.1 hy with hy|hy
       ·exact hat2 y hy
       ·simp only[List.map_cons,List.map_nil,List.mem_cons,List.not_mem_nil,or_false] at hy
        rw[hy];exact hxm
      ·rw[List.map_append];exact⟨_,bw⟩
      ·rw[L3 hp2];exact⟨_,bw⟩
   ·obtain rfl:j=xs.length:=by omega
    rw[List.drop_length,HN] at hT
    rw[←hT] at hB
    dsimp only at hB
    refine cV ?_
    exact⟨(k+1,l2),by dsimp only;omega,cK,by dsimp only;omega,hI2.on,hat2,by dsimp only;rw[show n+1 - (k+1)=n - k by omega];exact hB,ca,⟨_,bw⟩,⟨_,bw⟩,fun y hy=>Eq.trans cD (hkeep2 y hy)⟩
  ·have g0:=vD (S:=S) (.sc (.slice none 0 0)) hx
   have hlead:lZ L S (l.getD k default).at_=[]:=if_neg hx
   rw[hlead,HN] at hB
   dsimp only at hB
   refine cV ?_
   refine aN (fun _:Nat=>[(0, .mp mb),(1,i64 first),(5, .sl (nx+3) l.length),(6, .mp (nx+5)),(7,i64 k),(29,i64 0),(30,i64 0)])
    (fun _ H2 m2=>m≤m2∧(∃d,bu H2 (nx+3)=some (.row 144 2 d (l.map mX.av)))∧(∃d,bu H2 (nx+5)=some (.row 3 0 d (mapA (NZ (iF l).tail))))∧∀y,y<nx→bu H2 y=bu H0 y) (fun _=>0) 0
    cK ⟨ca,⟨_,bw⟩,⟨_,bw⟩,fun y hy=>Eq.trans cD (hkeep y hy)⟩ ?_
   clear r1 r2
   rintro _ H2 m2 ⟨hm2,⟨d1,r1⟩,⟨d2,r2⟩,hkeep2⟩
   refine cV ?_
   exact⟨(k+1,l),by dsimp only;omega,cK,by dsimp only;omega,hI.on,hat,by dsimp only;rw[show n+1 - (k+1)=n - k by omega];exact hB,ca,⟨_,bw⟩,⟨_,bw⟩,fun y hy=>Eq.trans cD (hkeep2 y hy)⟩
 ·rw[if_neg hkl] at hB
  refine cV ?_
  rw[←hB]
  exact⟨⟨ca,fun y hy=>Eq.trans cD (hkeep y hy),rfl⟩⟩
end Go.Proofs.YtjopoheligmmoaaGreatDoor
end
section
/- Ring: its code in pieces, lowered; where edges lead, in plain data. -/
namespace Go.cZ
structure BH (P:Program) (n:Nat) (c:Code) where
 lc:LC
 ok:cj P n c=some lc
set_option maxRecDepth 100000 in
def J1 {P:Program} {n:Nat} {c:Code} {lc:LC}
 (h:cj P n c=some lc:=by with_unfolding_all conv=>lhs;(reduce;simp only[Int.reduceOfNat,Int.reduceNegSucc])):BH P n c:=⟨lc,h⟩
end Go.cZ
namespace Go.Proofs.YtjopoheligmmoaaGreatDoor
open Go Go.cZ Go.Proofs
set_option linter.unusedSimpArgs false
set_option linter.unusedVariables false
set_option maxRecDepth 100000
noncomputable def YX:Nat:=(Tryz.f15).ntmps
theorem PO:YX=86:=by kernel_rfl
noncomputable def lr0:BH Tryz.prog 86 (Code.l ir):=J1
noncomputable def lr1:BH Tryz.prog 86 (Code.l (Code.r ir)):=J1
noncomputable def lr2:BH Tryz.prog 86 (Code.l (Code.r (Code.r ir))):=J1
noncomputable def lr3:BH Tryz.prog 86 (Code.l (Code.r (Code.r (Code.r ir)))):=J1
noncomputable def lr4:BH Tryz.prog 86 (Code.l (Code.r (Code.r (Code.r (Code.r ir))))):=J1
noncomputable def lr6:BH Tryz.prog 86 (Code.r (Code.r (Code.r (Code.r (Code.r (Code.r ir)))))):=J1
theorem vN:ir= .seq (Code.l ir) (.seq (Code.l (Code.r ir)) (.seq (Code.l (Code.r (Code.r ir))) (.seq (Code.l (Code.r (Code.r (Code.r ir)))) (.seq (Code.l (Code.r (Code.r (Code.r (Code.r ir))))) (.seq YZ (Code.r (Code.r (Code.r (Code.r (Code.r (Code.r ir))))))))))):=by kernel_rfl
end Go.Proofs.YtjopoheligmmoaaGreatDoor
end
section
/- Where edges lead, in plain data. -/
namespace Go.Proofs.YtjopoheligmmoaaGreatDoor
open Go Go.cZ Go.Proofs
set_option linter.unusedSimpArgs false
set_option linter.unusedVariables false
def jL (es:List dX) (h:Int):List Int:=es.foldl (fun a e=>if e.held=h∧e.taken∉a then a++[e.taken] else a) []
theorem pg (es:List dX) (e:dX) (h:Int):jL (es++[e]) h=if e.held=h∧e.taken∉jL es h then jL es h++[e.taken] else jL es h:=by unfold jL;rw[List.foldl_append];rfl
theorem xW {h x:Int}:∀(es:List dX),x∈jL es h↔∃e∈es,e.held=h∧e.taken=x:=by
 intro es
 induction es using zl with
 |h0=>simp[jL]
 |h1 l e ih=>
  rw[pg]
  constructor
  ·intro hx
   split at hx
   ·rename_i hc
    rcases List.mem_append.1 hx with hx|hx
    ·obtain⟨y,hy,h1⟩:=ih.1 hx
     exact⟨y,List.mem_append_left _ hy,h1⟩
    ·simp only[List.mem_cons,List.not_mem_nil,or_false] at hx
     exact⟨e,by simp,hc.1,hx.symm⟩
   ·obtain⟨y,hy,h1⟩:=ih.1 hx
    exact⟨y,List.mem_append_left _ hy,h1⟩
  ·rintro⟨y,hy,h1,h2⟩
   rcases List.mem_append.1 hy with hy|hy
   ·have:=ih.2 ⟨y,hy,h1,h2⟩
    split
    ·exact List.mem_append_left _ this
    ·exact this
   ·simp only[List.mem_cons,List.not_mem_nil,or_false] at hy
    subst hy
    by_cases hm:y.taken∈jL l h
    ·rw[if_neg fun c=>c.2 hm,←h2];exact hm
    ·rw[if_pos ⟨h1,hm⟩,h2];simp
theorem BM {h:Int}:∀(es:List dX),(jL es h).Nodup:=by
 intro es
 induction es using zl with
 |h0=>exact List.nodup_nil
 |h1 l e ih=>
  rw[pg]
  split
  ·rename_i hc
   refine List.nodup_append.2 ⟨ih,by simp,fun a ha b hb=> ?_⟩
   simp only[List.mem_cons,List.not_mem_nil,or_false] at hb
   subst hb
   exact fun e=>hc.2 (e▸ha)
  ·exact ih
theorem EO {u:bx} (hr:cT u) {es:List dX} (hes:∀e∈es,e∈dJ u) (h:Int):(jL es h).length≤16:=by
 have:=ft u.cE.length _ (BM es (h:=h)) fun x hx=>by
  obtain⟨e,he,_,rfl⟩:=(xW es).1 hx
  exact(sL hr (hes e he)).2
 have:=hr.pz.2.1
 omega
theorem y8 {S S':Int→List Int}:∀(L:List (Int×Nat)) (i:Nat) (p:Int×Nat),p∈L→(L.map (·.1)).Nodup→(∀x,x≠p.1→S' x=S x)→∃j,eZ false (.int .i64 p.1) (eV L S) i=some (some (i+j, .sl p.2 (S p.1).length))∧(eV L S).set j (.dK [.sc (.int .i64 p.1), .sl p.2 (S' p.1).length])=eV L S'
 |[],i,p,h,_,_=>by cases h
 |q::r,i,p,h,hn,hS=>by
  rw[List.map_cons,List.nodup_cons] at hn
  have e1:eV (q::r) S=nK (.int .i64 q.1) (.sl q.2 (S q.1).length)::eV r S:=rfl
  have e2:eV (q::r) S'=nK (.int .i64 q.1) (.sl q.2 (S' q.1).length)::eV r S':=rfl
  rw[e1,e2]
  rcases List.mem_cons.1 h with rfl|h
  ·refine⟨0,by simp[eZ,sP,nK,CQ], ?_⟩
   rw[List.set_cons_zero]
   congr 1
   unfold eV
   refine List.map_congr_left fun q hq=> ?_
   rw[hS q.1 fun e=>hn.1 (by rw[←e];exact List.mem_map.2 ⟨q,hq,rfl⟩)]
  ·have hne:p.1≠q.1:=fun e=>hn.1 (by rw[←e];exact List.mem_map.2 ⟨p,h,rfl⟩)
   obtain⟨j,hj,hs⟩:=y8 r (i+1) p h hn.2 hS
   refine⟨j+1, ?_, ?_⟩
   ·simp only[eZ,sP,nK,CQ,if_true,decide_eq_false hne]
    rw[hj]
    simp;omega
   ·rw[List.set_cons_succ,hs,hS q.1 hne.symm]
theorem wY {S S':Int→List Int} {L:List (Int×Nat)} {p:Int×Nat} (hp:p∈L) (hk:(L.map (·.1)).Nodup) (hS:∀x,x≠p.1→S' x=S x):pD false (.int .i64 p.1) (eV L S) (.sl p.2 (S' p.1).length)=some (eV L S'):=by
 obtain⟨j,hj,hs⟩:=y8 L 0 p hp hk hS
 unfold pD
 rw[hj]
 simp only[Nat.zero_add]
 rw[hs]
theorem wX {S S':Int→List Int} {L:List (Int×Nat)} {x:Int} (b:Nat) (hx:x∉L.map (·.1)) (hS:∀y,y≠x→S' y=S y):pD false (.int .i64 x) (eV L S) (.sl b (S' x).length)=some (eV (L++[(x,b)]) S'):=by
 unfold pD
 rw[qJ L x 0 hx]
 simp only[eV,List.map_append,List.map_cons,List.map_nil,Option.some.injEq]
 congr 1
 refine List.map_congr_left fun q hq=> ?_
 rw[hS q.1 fun e=>hx (by rw[←e];exact List.mem_map.2 ⟨q,hq,rfl⟩)]
def eo (u:bx) (h:Int):List Int:=eH (jL (dJ u) h)
theorem qI {u:bx} {h x:Int}:x∈eo u h↔∃e∈dJ u,e.held=h∧e.taken=x:=by unfold eo;rw[KR,xW]
theorem y6 {u:bx} (hr:cT u) (h:Int):∀x∈eo u h,0≤x∧x<u.cE.length:=fun x hx=>by
 obtain⟨e,he,_,rfl⟩:=qI.1 hx
 exact(sL hr he).2
def j3 (u:bx):Option (List Int):=jM (eo u) u.cE.length u.cE.length
end Go.Proofs.YtjopoheligmmoaaGreatDoor
end
