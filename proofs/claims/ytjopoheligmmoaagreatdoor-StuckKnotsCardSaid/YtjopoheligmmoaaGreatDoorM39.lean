import Derived.Test.YtjopoheligmmoaaGreatDoorM38
import Derived.Test.YtjopoheligmmoaaGreatDoorM15
import Derived.Test.YtjopoheligmmoaaGreatDoorM35
import Derived.Test.YtjopoheligmmoaaGreatDoorM37
import Derived.Test.YtjopoheligmmoaaGreatDoorM31
namespace Go.Proofs.YtjopoheligmmoaaGreatDoor
open Go Go.cu Go.Proofs Go.RowKit
set_option linter.unusedSimpArgs false
set_option linter.unusedVariables false
theorem GR {ms:Array MapEntry} {seen:Array Nat} {e:MapEntry} (he:e∈(leftOf ms seen).toList):(leftOf ms (seen.push e.born)).size<(leftOf ms seen).size:=left_shrinks ms seen e he
set_option maxHeartbeats 2000000 in
theorem R4 {L:List (Int×Nat)} {S:Int->List Int} {mb nx lo n:Nat} {fr:Fr} {H:Hp} {Q:QT} {code:Code} (hcode:xf code) (hn:58<n) (hreg:cp fr 7= .mp mb) (hfree:∀t∈ud,cp fr t= .any)
 (hb:(L.map (·.2)).Nodup) (hk:(L.map (·.1)).Nodup) (hmb:mb∉L.map (·.2)) (hmap:∃d,bu H mb=some (.row 3 0 d (mapA (eo L S)))) (hrow:∀p∈L,∃d,bu H p.2=some (.row 3 1 d ((S p.1).map i64)))
 (hS:∀p∈L,S p.1≠[]/\(S p.1).length<4611686018427387904)
 (hQ:∀H',(∀p∈L,∃d,bu H' p.2=some (.row 3 1 d ((Go.Proofs.YtjopoheligmmoaaGreatDoor.eR (S p.1)).map i64)))->(∀b,b∉L.map (·.2)->bu H' b=bu H b)->Q .normal fr H' nx):WC Tryz.prog n lo code fr H nx Q:=by
 obtain⟨i1,i2,i3,i4,o1,o2,o3,o4,o5,o6,o7,o8,o9,o10,o11,rfl,⟨a1,b1,g1⟩,⟨a2,b2,g2⟩,⟨a3,b3,g3⟩,⟨a4,b4,g4⟩,⟨a5,b5,g5⟩,⟨a6,b6,g6⟩,⟨a7,b7,g7⟩,⟨a8,b8,g8⟩,⟨a9,b9,g9⟩,⟨a10,b10,g10⟩,a11,b11,g11⟩:=hcode.ok
 intro w0 M0 c0 a w hh
 obtain⟨hsz,hdf,ρ,U,hU,hSim,hF,hT⟩:=hh
 obtain⟨dm,hmap'⟩:=hmap
 -- the map as it stands
 obtain⟨hUm,rr,x,ms,clk,h0,h1,h2,h3,h4,h5⟩:=hSim.WV hmap'
 simp only[mapA,List.cons.injEq,and_true] at h3
 subst h3
 have hE:=gv.of_map h4
 have h7:a.eval (.tmp 7)= .map (some rr):=by
  have:=hF 7
  rw[hreg,VR] at this
  obtain⟨_,r',hr',hrest⟩:=this
  obtain⟨_,hr2⟩:=hrest _ _ _ _ hmap'
  obtain⟨o,z,hρ⟩:=hr2 (by simp[mapA])
  simp only at h0 hρ
  rw[h0] at hρ
  cases hρ
  exact hr'
 -- the range begins
 refine wp_seq (wp_region_list ?_)
 refine fO g1 (v:= .map (some rr)) (w':=w) (by unfold execOp;simp[a1,h7]) ?_
 rw[b1]
 have e49:(a.put (some 49) (.map (some rr))).eval (.tmp 49)= .map (some rr):=eD (by omega)
 have hrun:=run_range_map (P:=Tryz.prog) w 76 3 31 rr ms clk Tryz.underlying76 h2
 refine fO g2 (v:= .pointer (some ⟨w.heap.size,0,none⟩)) (w':=w.alloc (.mapIter (some rr) clk #[] clk)) (by unfold execOp;simp[a2,e49,hrun,Result.andThen]) ?_
 rw[b2]
 refine wpList_nil ?_
 have hturn:qS w (w.alloc (.mapIter (some rr) clk #[] clk)) w.heap.size:=⟨rfl,rfl,rfl,by show w.heap.size<=(w.heap.push _).size;rw[Array.size_push];omega,fun k hk _=>heap_alloc_old w _ hk,fun h=>by omega⟩
 have hlow:w0.heap.size<=w.heap.size:=hSim.below.size
 have hlow0:c0.w.heap.size<=w.heap.size:=hT.2.sz
 have hsz2:((a.put (some 49) (.map (some rr))).put (some 50) (.pointer (some ⟨w.heap.size,0,none⟩))).tmps.size=n:=by
  rw[(dG _ _ _).1,(dG _ _ _).1];exact hsz
 have hstart:AG L S mb nx lo n fr H w0 M0 c0 [] H ρ U #[] rr ms clk w.heap.size ((a.put (some 49) (.map (some rr))).put (some 50) (.pointer (some ⟨w.heap.size,0,none⟩))) (w.alloc (.mapIter (some rr) clk #[] clk)):=by
  refine⟨hsz2, ?_,fun p hp=>by simpa using hrow p hp,fun _ _=>rfl,hU,hSim.iW hturn hlow,(pR hfree hF [(49, .map (some rr)),(50, .pointer (some ⟨w.heap.size,0,none⟩))] (by simp[ud])).iW hturn.at_,hT.iW hturn hlow0,h0, ?_,h5,ct.iW hturn.at_ hE,heap_alloc_new w _, ?_,hlow,hlow0⟩
  ·rw[(dG _ _ _).2,(dG _ _ _).2];exact hdf
  ·rw[heap_alloc_old w _ (Array.getElem?_eq_some_iff.1 h2).1];exact h2
  ·exact eD (by rw[(dG _ _ _).1];omega)
 generalize (a.put (some 49) (.map (some rr))).put (some 50) (.pointer (some ⟨w.heap.size,0,none⟩))=a0 at hstart ⊢
 generalize w.alloc (.mapIter (some rr) clk #[] clk)=wst at hstart ⊢
 generalize w.heap.size=it at hstart
 clear hturn hlow hlow0 hsz2 hrun e49 h7 hE h4 h2 h1 h0 hF hSim hT
 show(Code.block 2 (.loop _)).wp Tryz.prog _ a0 wst
 refine wp_block ?_
 refine IL (fun m a w=>∃V H' ρ U seen ms clk it,AG L S mb nx lo n fr H w0 M0 c0 V H' ρ U seen rr ms clk it a w/\(∀m∈ms.toList,seen.contains m.born=true->∃k∈V,m.key= .int .i64 k)/\m=(leftOf ms seen).size) ⟨[],H,ρ,U,#[],ms,clk,it,hstart,fun m _ hs=>by simp at hs,rfl⟩ ?_
 clear hstart
 rintro m a w ⟨V,H',ρ,U,seen,ms,clk,it,hI,hgot,rfl⟩
 refine wp_seq (wp_region_list ?_)
 have hsz:=hI.size
 have hreg50:=hI.ZY
 rcases ze (P:=Tryz.prog) w o3.type it rr clk clk seen ms clk hI.iter hI.map hI.born.1 (Nat.le_refl _) with⟨hz,hrun⟩|⟨e,he,w1,hturn,hws,hi1,hrun⟩
 · -- nothing is left
  refine fO g3 (v:= .tuple #[.bool false]) (w':=w) (by unfold execOp;simp[a3,hreg50,hrun,Result.andThen]) ?_
  rw[b3]
  have e51:(a.put (some 51) (.tuple #[.bool false])).eval (.tmp 51)= .tuple #[.bool false]:=eD (by omega)
  refine fO g4 (v:= .bool false) (w':=w) (by unfold execOp;simp[a4,e51,Instr.extract]) ?_
  rw[b4]
  refine wpList_nil ?_
  have e52:((a.put (some 51) (.tuple #[.bool false])).put (some 52) (.bool false)).eval (.tmp 52)= .bool false:=eD (by rw[(dG _ _ _).1];omega)
  show(Code.seq _ _).wp Tryz.prog _ _ w
  refine wp_seq (wp_cond_false e52 (wp_exit ?_))
  simp only[Exit.then,Exit.inBlock,if_true]
  refine⟨.normal,fr,H',nx,rfl,hQ H' (fun p hp=> ?_) hI.rest, ?_, ?_,ρ,U,hI.names,hI.R5,pR hfree hI.fr [(51, .tuple #[.bool false]),(52, .bool false)] (by simp[ud]),hI.MI⟩
  ·obtain⟨d,hd⟩:=hI.rows p hp
   obtain⟨e,he,hek⟩:=KW hI.ents hp
   obtain⟨k,hkV,hke⟩:=hgot e he (all_seen ms seen hz e he)
   rw[hek] at hke
   simp only[Value.int.injEq,true_and] at hke
   rw[hke,if_pos hkV] at hd
   exact⟨d,by rw[hke];exact hd⟩
  ·rw[(dG _ _ _).1,(dG _ _ _).1];exact hsz
  ·rw[(dG _ _ _).2,(dG _ _ _).2];exact hI.defers
 · -- an entry comes
  obtain⟨hem,hes⟩:=mem_left he
  obtain⟨p,hp,hek,hev⟩:=KX hI.ents hem
  refine fO g3 (v:= .tuple #[.bool true,e.key,e.val]) (w':=w1) (by unfold execOp;simp[a3,hreg50,hrun,Result.andThen]) ?_
  rw[b3]
  have e51:(a.put (some 51) (.tuple #[.bool true,e.key,e.val])).eval (.tmp 51)= .tuple #[.bool true,e.key,e.val]:=eD (by omega)
  refine fO g4 (v:= .bool true) (w':=w1) (by unfold execOp;simp[a4,e51,Instr.extract]) ?_
  rw[b4]
  refine wpList_nil ?_
  have hI1:AG L S mb nx lo n fr H w0 M0 c0 V H' ρ U seen rr ms clk it a w:=hI
  -- the situation behind the step, but for the registers
  have hrm:w1.heap[rr]?=some (.map ms clk):=by
   rw[hturn.c8 rr (Array.getElem?_eq_some_iff.1 hI.map).1 fun e2=>by have:=hI.iter;rw[<-e2,hI.map] at this;cases this]
   exact hI.map
  have hent:=xR (P:=Tryz.prog) w1 it rr clk seen ms clk e hi1 hrm hem hI.born.2
  generalize hA2:(a.put (some 51) (.tuple #[.bool true,e.key,e.val])).put (some 52) (.bool true)=A2
  have s2:A2.tmps.size=n:=by rw[<-hA2,(dG _ _ _).1,(dG _ _ _).1];exact hsz
  have d2:A2.defers=[]:=by rw[<-hA2,(dG _ _ _).2,(dG _ _ _).2];exact hI.defers
  have e52:A2.eval (.tmp 52)= .bool true:=by rw[<-hA2];exact eD (by rw[(dG _ _ _).1];omega)
  have r2:A2.eval (.tmp 50)= .pointer (some ⟨it,0,none⟩):=by rw[<-hA2,dY (by decide),dY (by decide)];exact hreg50
  have f2:FR ⟨ρ,bu H',U,w1,M0⟩ fr A2.tmps:=by rw[<-hA2];exact(pR hfree hI.fr [(51, .tuple #[.bool true,e.key,e.val]),(52, .bool true)] (by simp[ud])).iW hturn.at_
  have sim1:du w0 ⟨ρ,bu H',U,w1,M0⟩:=hI.R5.iW hturn hI.low
  have trk1:mQ c0 lo ⟨ρ,bu H',U,w1,M0⟩:=hI.MI.iW hturn hI.RR
  have ent1:gv ⟨ρ,bu H',U,w1,M0⟩ (eo L S) ms.toList:=ct.iW (c:=⟨ρ,bu H',U,w,M0⟩) hturn.at_ hI.ents
  have m7:A2.eval (.tmp 7)= .map (some rr):=by
   have:=f2 7
   rw[hreg,VR] at this
   obtain⟨_,r',hr',hrest⟩:=this
   obtain⟨_,hr2⟩:=hrest _ _ _ _ ((hI.rest mb hmb).trans hmap')
   obtain⟨o,z,hρ⟩:=hr2 (by simp[mapA])
   have h0:=hI.at_
   simp only at h0 hρ
   rw[h0] at hρ
   cases hρ
   exact hr'
  clear hA2
  show(Code.seq _ _).wp Tryz.prog _ A2 w1
  refine wp_seq (wp_cond_true e52 (wp_skip ?_))
  show(Code.block 3 _).wp Tryz.prog _ A2 w1
  refine wp_block (wp_seq (wp_region_list ?_))
  refine fO g5 (v:= .tuple #[e.key,e.val]) (w':=w1) (by unfold execOp;simp[a5,r2,hent,Result.andThen]) ?_
  rw[b5]
  have e53:(A2.put (some 53) (.tuple #[e.key,e.val])).eval (.tmp 53)= .tuple #[e.key,e.val]:=eD (by omega)
  refine fO g6 (v:=e.key) (w':=w1) (by unfold execOp;simp[a6,e53,Instr.extract]) ?_
  rw[b6]
  have e54:((A2.put (some 53) (.tuple #[e.key,e.val])).put (some 54) e.key).eval (.tmp 54)=e.key:=eD (by rw[(dG _ _ _).1];omega)
  refine fO g7 (v:=e.key) (w':=w1) (by unfold execOp;simp[a7,e54]) ?_
  rw[b7]
  refine wpList_nil ?_
  generalize hA3:((A2.put (some 53) (.tuple #[e.key,e.val])).put (some 54) e.key).put (some 10) e.key=A3
  have s3:A3.tmps.size=n:=by rw[<-hA3,(dG _ _ _).1,(dG _ _ _).1,(dG _ _ _).1];exact s2
  have d3:A3.defers=[]:=by rw[<-hA3,(dG _ _ _).2,(dG _ _ _).2,(dG _ _ _).2];exact d2
  have r3:A3.eval (.tmp 50)= .pointer (some ⟨it,0,none⟩):=by rw[<-hA3,dY (by decide),dY (by decide),dY (by decide)];exact r2
  have m3:A3.eval (.tmp 7)= .map (some rr):=by rw[<-hA3,dY (by decide),dY (by decide),dY (by decide)];exact m7
  have k3:A3.eval (.tmp 10)=e.key:=by rw[<-hA3];exact eD (by rw[(dG _ _ _).1,(dG _ _ _).1];omega)
  have f3:FR ⟨ρ,bu H',U,w1,M0⟩ fr A3.tmps:=by rw[<-hA3];exact pR hfree f2 [(53, .tuple #[e.key,e.val]),(54,e.key),(10,e.key)] (by simp[ud])
  clear hA3
  show(Code.region i4 _ false).wp Tryz.prog _ A3 w1
  refine wp_region_list ?_
  refine fO g8 (v:= .map (some rr)) (w':=w1) (by unfold execOp;simp[a8,m3]) ?_
  rw[b8]
  have k4:(A3.put (some 55) (.map (some rr))).eval (.tmp 10)=e.key:=by rw[dY (by decide)];exact k3
  refine fO g9 (v:=e.key) (w':=w1) (by unfold execOp;simp[a9,k4]) ?_
  rw[b9]
  obtain⟨j,hj⟩:=oj (S:=S) L 0 p hp hk
  rcases jv (d:= .int .i64) rfl ent1 hj with⟨q1,_⟩|⟨j2,v,m2,q1,q2,q3,q4,q5,q6⟩
  ·cases q1
  simp only[Option.some.injEq,Prod.mk.injEq] at q1
  obtain⟨rfl,rfl⟩:=q1
  have e55:((A3.put (some 55) (.map (some rr))).put (some 56) e.key).eval (.tmp 55)= .map (some rr):=by rw[dY (by decide)];exact eD (by omega)
  have e56:((A3.put (some 55) (.map (some rr))).put (some 56) e.key).eval (.tmp 56)= .int .i64 p.1:=by rw[<-hek];exact eD (by rw[(dG _ _ _).1];omega)
  refine fO g10 (v:=m2.val) (w':=w1) (xc a10 Tryz.underlying76 Tryz.underlying3 rfl rfl e55 e56 hrm q6) ?_
  rw[b10]
  generalize hA4:((A3.put (some 55) (.map (some rr))).put (some 56) e.key).put (some 57) m2.val=A4
  have s4:A4.tmps.size=n:=by rw[<-hA4,(dG _ _ _).1,(dG _ _ _).1,(dG _ _ _).1];exact s3
  have d4:A4.defers=[]:=by rw[<-hA4,(dG _ _ _).2,(dG _ _ _).2,(dG _ _ _).2];exact d3
  have r4:A4.eval (.tmp 50)= .pointer (some ⟨it,0,none⟩):=by rw[<-hA4,dY (by decide),dY (by decide),dY (by decide)];exact r3
  have k57:A4.eval (.tmp 57)=m2.val:=by rw[<-hA4];exact eD (by rw[(dG _ _ _).1,(dG _ _ _).1];omega)
  have f4:FR ⟨ρ,bu H',U,w1,M0⟩ fr A4.tmps:=by rw[<-hA4];exact pR hfree f3 [(55, .map (some rr)),(56,e.key),(57,m2.val)] (by simp[ud])
  clear hA4
  have hI4:AG L S mb nx lo n fr H w0 M0 c0 V H' ρ U (seen.push e.born) rr ms clk it A4 w1:=⟨s4,d4,hI.rows,hI.rest,hI.names,sim1,f4,trk1,hI.at_,hrm,hI.born,ent1,hi1,r4,hI.low,hI.RR⟩
  have hrunS:(execOp A4.eval o11).run Tryz.prog w1= .ok (.enter 40 #[m2.val]) w1:=by
   unfold execOp
   simp only[a11,resolve,Sem.run_bind,Sem.run_pure,Result.andThen_ok,List.map_toArray,List.map_cons,List.map_nil,k57]
   obtain⟨fn,e1,e3,e2,_,_⟩:=X7.ok
   cases hcode:fn.body with
   |none=>rw[hcode] at e2;cases e2
   |some code=>
   change (Tryz.prog).funcs[40]?=some fn at e1
   simp only[Act.eval,Sem.run_bind,Deferred.ofValue,Sem.run_pure,Result.andThen_ok,invoke,callFunc,run_program,e1,e3,hcode,Bool.false_eq_true,if_false,Option.isNone_some]
   rfl
  refine wpList_plain g11 fun K hK=> ?_
  unfold Oper.wp
  rw[hrunS,Oper.upon_enter]
  refine(hI4.sorted hfree hb hk hmb ⟨dm,hmap'⟩ hS hp q5 s4 d4 f4 r4).mono ?_
  rintro en w' ⟨rfl,hu⟩
  refine hK _ _ (wpList_nil ?_)
  obtain⟨H2,hI5⟩:=hu (.tuple #[])
  rw[b11]
  show ∃m',m'<_/\_
  refine⟨_,GR he,p.1::V,H2,ρ,U,seen.push e.born,ms,clk,it,hI5,fun m hm hs=> ?_,rfl⟩
  rw[contains_push] at hs
  rcases(Bool.or_eq_true _ _).mp hs with hs|hs
  ·obtain⟨k,hk1,hk2⟩:=hgot m hm hs
   exact⟨k,List.mem_cons_of_mem _ hk1,hk2⟩
  ·have:=born_inj hI.born.2 hm hem (by simpa using hs)
   exact⟨p.1,by simp,by rw[this];exact hek⟩
end Go.Proofs.YtjopoheligmmoaaGreatDoor
namespace Go.Proofs.YtjopoheligmmoaaGreatDoor
open Go Go.cu Go.Proofs
set_option linter.unusedSimpArgs false
set_option linter.unusedVariables false
set_option maxRecDepth 8000
def u5 (x:Int):List Int->Nat->Int
 |[],_=>-1
 |y::r,i=>if x=y then(i:Int) else u5 x r (i+1)
theorem yn (x:Int):∀(l:List Int) (i:Nat),0<=u5 x l i↔x∈l
 |[],i=>by simp[u5]
 |y::r,i=>by
  rw[u5,List.mem_cons]
  split
  ·rename_i e;exact⟨fun _=> .inl e,fun _=>by omega⟩
  ·rename_i e
   rw[yn x r]
   exact⟨.inr,fun h=>h.resolve_left e⟩
theorem GI {x:Int} {l:List Int} {i:Nat} (h:i<l.length):u5 x (l.drop i) i=if x=l.getD i 0 then(i:Int) else u5 x (l.drop (i+1)) (i+1):=by
 rw[List.drop_eq_getElem_cons h,u5]
 simp[List.getD,h]
theorem yp (l:List Int) (x:Int) (hl:l.length<9223372036854775807):Pure Tryz.prog 80 [cR l,i64 x] (fun r=>r=i64 (u5 x l 0)):=by
 refine aD YS rfl ?_
 have a0:(l.map i64).length=l.length:=by simp
 refine cV ?_
 refine aN (fun i:Nat=>[(0,cR l),(1,i64 x),(7,i64 l.length),(8,i64 i)]) (fun i H n=>i<=l.length/\u5 x (l.drop i) i=u5 x l 0) (fun i=>l.length - i) 0 (by rw[List.length_map];exact cH) ⟨Nat.zero_le _,rfl⟩ ?_
 rintro i H n ⟨hi,hx⟩
 by_cases hil:i<l.length
 ·have e0:∀d,(l.map i64).getD ((i:Int)).toNat d=i64 (l.getD i 0):=fun d=>ints_at hil d
  rw[GI hil] at hx
  by_cases he:x=l.getD i 0
  ·have r0:=decide_eq_true he
   rw[if_pos he] at hx
   rw[<-hx]
   refine cV ?_
   first|exact rfl|trivial
  ·have r0:=decide_eq_false he
   rw[if_neg he] at hx
   refine cV ?_
   exact⟨i+1,by omega,cH,by omega,hx⟩
 ·obtain rfl:i=l.length:=by omega
  rw[List.drop_length] at hx
  rw[<-hx]
  refine cV ?_
  first|exact rfl|trivial
theorem kV (l:List Int) (x:Int) (hl:l.length<9223372036854775807):Pure Tryz.prog 39 [cR l,i64 x] (fun r=>r=bl (decide (x∈l))):=by
 have c0:=yp l x hl
 refine aD X6 rfl ?_
 refine cV ?_
 refine eK ?_
 rw[decide_eq_decide]
 exact yn x l 0
def KU (ks:List Int):List AV:=ks.map fun k=>nt (.int .i64 k) (i64 1)
theorem sE:∀(ks:List Int) (x:Int) (i:Nat),fA false (.int .i64 x) (KU ks) i=some (if x∈ks then some (i+ks.idxOf x,i64 1) else none)
 |[],x,i=>by simp[KU,fA]
 |k::r,x,i=>by
  show fA false (.int .i64 x) (nt (.int .i64 k) (i64 1)::KU r) i=_
  by_cases e:x=k
  ·subst e;simp[fA,nt,sy,BU]
  ·have e2:¬k=x:=fun h=>e h.symm
   simp only[fA,nt,sy,BU,if_true,decide_eq_false e]
   rw[sE r x (i+1)]
   simp only[List.mem_cons,e,false_or,List.idxOf_cons,beq_eq_false_iff_ne.2 e2,cond_false]
   split
   ·simp;omega
   ·rfl
theorem RI (ks:List Int) (x:Int) (h:x∈ks):my false (.int .i64 x) (KU ks) (i64 0)=some (i64 1,true):=by
 unfold my;rw[sE,if_pos h]
theorem OA (ks:List Int) (x:Int) (h:x∉ks):my false (.int .i64 x) (KU ks) (i64 0)=some (i64 0,false):=by
 unfold my;rw[sE,if_neg h]
theorem RJ (ks:List Int) (x:Int) (h:x∉ks):pc false (.int .i64 x) (KU ks) (i64 1)=some (KU (ks++[x])):=by
 unfold pc;rw[sE,if_neg h]
 simp[KU,nt]
theorem qh {S:Int->List Int}:∀(L:List (Int×Nat)) (x:Int) (i:Nat),x∉L.map (·.1)->fA false (.int .i64 x) (eo L S) i=some none
 |[],x,i,_=>rfl
 |p::r,x,i,h=>by
  rw[List.map_cons,List.mem_cons,not_or] at h
  show fA false (.int .i64 x) (nt (.int .i64 p.1) (.sl p.2 (S p.1).length)::eo r S) i=_
  simp only[fA,nt,sy,BU,if_true,decide_eq_false h.1]
  exact qh r x (i+1) h.2
theorem vm {S:Int->List Int} {L:List (Int×Nat)} {x:Int} (z:AV) (h:x∉L.map (·.1)):my false (.int .i64 x) (eo L S) z=some (z,false):=by
 unfold my;rw[qh L x 0 h]
theorem yz {S:Int->List Int} {L:List (Int×Nat)} {p:Int×Nat} (z:AV) (hp:p∈L) (hk:(L.map (·.1)).Nodup):my false (.int .i64 p.1) (eo L S) z=some (.sl p.2 (S p.1).length,true):=by
 obtain⟨j,hj⟩:=oj (S:=S) L 0 p hp hk
 unfold my;rw[hj]
structure qT (mb:Nat) (L:List (Int×Nat)) (S:Int->List Int) (H:Hp):Prop where
 map:∃d,bu H mb=some (.row 3 0 d (mapA (eo L S)))
 row:∀p∈L,∃d,bu H p.2=some (.row 3 1 d ((S p.1).map i64))
 keys:(L.map (·.1)).Nodup
def mF (L:List (Int×Nat)) (S:Int->List Int) (x:Int):List Int:=if x∈L.map (·.1) then S x else[]
theorem qT.c8 {mb:Nat} {L:List (Int×Nat)} {S:Int->List Int} {H H':Hp} (h:qT mb L S H) {nx:Nat} (hmb:mb<nx) (hids:∀p∈L,p.2<nx) (hk:∀y,y<nx->bu H' y=bu H y):qT mb L S H':=
 ⟨by obtain⟨d,hd⟩:=h.map;exact⟨d,(hk mb hmb).trans hd⟩,fun p hp=>by obtain⟨d,hd⟩:=h.row p hp;exact⟨d,(hk _ (hids p hp)).trans hd⟩,h.keys⟩
abbrev nN.av (e:nN):AV:= .agg [i64 e.at_,i64 e.from_]
def oK (R:Option (List Int)) (nx k:Nat) (r:AV) (H:Hp):Prop:=match R with
 |none=>r= .sc (.slice none 0 0)
 |some w=>∃b d,nx<=b/\b<k/\r= .sl b w.length/\bu H b=some (.row 3 1 d (w.map i64))
theorem JB {l:List nN} (hp:0<l.length) (e:nN):(iw (l++[e])).tail=(iw l).tail++[e.at_]:=by
 cases l with
 |nil=>simp at hp
 |cons a r=>simp[iw]
theorem NB {l:List nN} {first x:Int} (hp:0<l.length) (h0:l.getD 0 default=⟨first,-1,0⟩) (hx:x≠first):x∈(iw l).tail↔x∈iw l:=by
 cases l with
 |nil=>simp at hp
 |cons a r=>
  have:a=⟨first,-1,0⟩:=by simpa[List.getD] using h0
  subst this
  simp[iw,hx]
theorem JO {lead:Int->List Int} {first:Int} {k:Nat} {l:List nN} (h:kB lead first k l):∀i,i<l.length->(l.getD i default).dep<=i:=by
 intro i
 induction i using Nat.strongRecOn with
 |_ i ih=>
  intro hi
  by_cases h0:i=0
  ·subst h0;rw[h.zero];exact Nat.le_refl _
  ·obtain⟨p,h1,_,_,_,h5⟩:=h.par i (by omega) hi
   have:=ih p h1 (by omega)
   omega
set_option maxHeartbeats 4000000 in
theorem oI {mb nx n:Nat} {L:List (Int×Nat)} {S:Int->List Int} {H0:Hp} (hL:qT mb L S H0) (hmb:mb<nx) (hids:∀p∈L,p.2<nx) (hin:∀x,∀y∈mF L S x,0<=y/\y<n) (hn:n<=16) (hS:∀x,(S x).length<=16) {first:Int} (hf:0<=first/\first<n):
 cS Tryz.prog 41 [.mp mb,i64 first] H0 nx (fun r H k=>nx<=k/\(∀y,y<nx->bu H y=bu H0 y)/\oK (rk (mF L S) n first) nx k r H):=by
 refine aI X8 rfl ?_
 refine cV ?_
 refine aN (fun σ:Nat×List nN=>[(0, .mp mb),(1,i64 first),(5, .sl (nx+3) σ.2.length),(6, .mp (nx+5)),(7,i64 σ.1)])
  (fun σ H k=>σ.1<=n/\kB (mF L S) first σ.1 σ.2/\(∀x∈iw σ.2,0<=x/\x<n)/\xy (mF L S) first (n+1 - σ.1) σ.1 σ.2=rk (mF L S) n first/\nx+6<=k/\(∃d,bu H (nx+3)=some (.row 144 2 d (σ.2.map nN.av)))/\(∃d,bu H (nx+5)=some (.row 3 0 d (mapA (KU (iw σ.2).tail))))/\∀y,y<nx->bu H y=bu H0 y) (fun σ=>n+1 - σ.1) (0,[⟨first,-1,0⟩])
  cH ⟨Nat.zero_le _,kB.start _ _,fun x hx=>by simp only[iw,List.map_cons,List.map_nil,List.mem_cons,List.not_mem_nil,or_false] at hx;rw[hx];exact hf,rfl,cZ,⟨_,bx⟩,⟨_,bx⟩,fun y hy=>cC⟩ ?_
 rintro⟨k,l⟩ H m ⟨hkn,hI,hat,hB,hm,⟨d1,r1⟩,⟨d2,r2⟩,hkeep⟩
 dsimp only at hkn hI hat hB r1 r2 ⊢
 have hlen:=gx n _ hI.nd hat
 rw[List.length_map] at hlen
 have a0:(l.map nN.av).length=l.length:=List.length_map _
 rw[show n+1 - k=(n - k)+1 by omega,xy] at hB
 by_cases hkl:k<l.length
 ·rw[if_pos hkl] at hB
  have e0:∀d,(l.map nN.av).getD ((k:Int)).toNat d= .agg [i64 (l.getD k default).at_,i64 (l.getD k default).from_]:=fun d=>by rw[Int.toNat_natCast];exact dN nN.av l k d hkl
  have hL1:=hL.c8 hmb hids hkeep
  obtain⟨d3,r3⟩:=hL1.map
  by_cases hx:(l.getD k default).at_∈L.map (·.1)
  ·obtain⟨p,hp,hpe⟩:=List.mem_map.1 hx
   have g0:=yz (S:=S) (.sc (.slice none 0 0)) hp hL1.keys
   obtain⟨d4,r4⟩:=hL1.row p hp
   rw[hpe] at g0 r4
   have hlead:mF L S (l.getD k default).at_=S (l.getD k default).at_:=if_pos hx
   rw[hlead] at hB
   have hSx:=hS (l.getD k default).at_
   have hinx:=hin (l.getD k default).at_
   rw[hlead] at hinx
   have hpn:=hids p hp
   have a1:((S (l.getD k default).at_).map i64).length=(S (l.getD k default).at_).length:=List.length_map _
   refine cV ?_
   clear e0 g0 r3
   generalize hxs:S (l.getD k default).at_=xs at *
   refine aN (fun σ:Nat×List nN=>[(0, .mp mb),(1,i64 first),(5, .sl (nx+3) σ.2.length),(6, .mp (nx+5)),(7,i64 k),(28, .sl p.2 xs.length),(29,i64 xs.length),(30,i64 σ.1)])
    (fun σ H2 m2=>σ.1<=xs.length/\kB (mF L S) first k σ.2/\l<+:σ.2/\(∀x∈iw σ.2,0<=x/\x<n)/\EU first k (l.getD k default).dep (xs.drop σ.1) σ.2=EU first k (l.getD k default).dep xs l/\m<=m2/\(∃d,bu H2 (nx+3)=some (.row 144 2 d (σ.2.map nN.av)))/\(∃d,bu H2 (nx+5)=some (.row 3 0 d (mapA (KU (iw σ.2).tail))))/\(∃d,bu H2 p.2=some (.row 3 1 d (xs.map i64)))/\∀y,y<nx->bu H2 y=bu H0 y) (fun σ=>xs.length - σ.1) (0,l)
    cH ⟨Nat.zero_le _,hI,List.prefix_refl _,hat,rfl,cZ,⟨_,bx⟩,⟨_,bx⟩,⟨_,bx⟩,fun y hy=>Eq.trans cC (hkeep y hy)⟩ ?_
   clear r1 r2 r4 a0
   rintro⟨j,l2⟩ H2 m2 ⟨hj,hI2,hpre,hat2,hT,hm2,⟨d1,r1⟩,⟨d2,r2⟩,⟨d4,r4⟩,hkeep2⟩
   dsimp only at hj hI2 hpre hat2 hT r1 r2 ⊢
   have hlen2:=gx n _ hI2.nd hat2
   rw[List.length_map] at hlen2
   have hp2:=hI2.pos
   have hkl2:k<l2.length:=Nat.lt_of_lt_of_le hkl hpre.length_le
   have hgk:=kY (d:=default) hpre hkl
   have a0:(l2.map nN.av).length=l2.length:=List.length_map _
   by_cases hjl:j<xs.length
   ·have e0:∀d,(xs.map i64).getD ((j:Int)).toNat d=i64 (xs.getD j 0):=fun d=>ints_at hjl d
    rw[List.drop_eq_getElem_cons hjl,show xs[j]=xs.getD j 0 by simp[List.getD,hjl],EU] at hT
    have hxm:=hinx (xs.getD j 0) (cT 0 hjl)
    have hxl:xs.getD j 0∈mF L S (l2.getD k default).at_:=by rw[hgk,hlead];exact cT 0 hjl
    generalize xs.getD j 0=x at *
    by_cases hxf:x=first
    ·rw[if_pos hxf] at hT
     rw[<-hT] at hB
     dsimp only at hB
     have r0:=decide_eq_true hxf
     refine cV ?_
     clear e0 r0 r2 r4
     have hfrom:∀i,i<l.length->(l.getD i default).from_<l.length:=fun i hi=>by
      by_cases h0:i=0
      ·subst h0;rw[hI.zero];show(-1:Int)<_;omega
      ·obtain⟨q,q1,q2,q3,_⟩:=hI.par i (by omega) hi
       rw[q3];omega
     have hR:oK (rk (mF L S) n first) nx=oK (some (qM l k)) nx:=by rw[hB]
     rw[hR]
     have hup:uR l2 (k+1) k=uR l (k+1) k:=EW hpre (k+1) k (by omega) hfrom
     have hwl:=(MP hI k hkl).len
     refine aS (fun σ:Int×List Int=>[(5, .sl (nx+3) l2.length),(10, .sl (m2+10) σ.2.length),(11,i64 σ.1)])
      (fun σ H3 m3=>((σ.1=-1/\σ.2=uR l2 (k+1) k)\/∃i:Nat,σ.1=i/\i<=k/\σ.2++uR l2 (i+1) i=uR l2 (k+1) k)/\m2+11<=m3/\(∃d,bu H3 (nx+3)=some (.row 144 2 d (l2.map nN.av)))/\(∃d,bu H3 (m2+10)=some (.row 3 1 d (σ.2.map i64)))/\∀y,y<nx->bu H3 y=bu H0 y) (fun σ=>(σ.1+1).toNat) (k,[])
      ⟨_,_,_,Rt.nil 10 3 1 (by omega) rfl,cH, .inr ⟨k,rfl,Nat.le_refl _,rfl⟩,cZ,⟨_,bx⟩,⟨_,bx⟩,fun y hy=>Eq.trans cC (hkeep2 y hy)⟩ ?_
     clear r1
     rintro⟨at_,out⟩ H3 m3 ⟨hcase,hm3,⟨d1,r1⟩,⟨d5,r5⟩,hkeep3⟩
     dsimp only at hcase r5 ⊢
     rcases hcase with⟨rfl,hout⟩|⟨i,rfl,hik,hout⟩
     ·have hol:out.length<=1048576:=by
       have h1:=hwl
       unfold qM at h1
       rw[List.length_reverse] at h1
       rw[hout,hup,h1]
       have:=hI.mono k k (Nat.le_refl _) hkl
       have hd:(l.getD k default).dep<=k:=JO hI k hkl
       omega
      refine cV ?_
      refine aF (qB (b:=m2+10) (l:=out) ?_ hol ⟨d5, ?_⟩) ?_
      ·exact cZ
      ·exact bx
      rintro _ H4 m4 ⟨⟨d6,r6⟩,hm4,hkeep4⟩
      refine cV ?_
      have hw:qM l k=out.reverse:=by unfold qM;rw[hout,hup]
      rw[hw]
      refine⟨⟨?_,fun y hy=> ?_,m2+10,d6,by omega, ?_,by rw[List.length_reverse],bx⟩⟩
      ·exact cZ
      ·refine Eq.trans cC (Eq.trans (hkeep4 y ?_ (by omega)) (Eq.trans cC (hkeep3 y hy)))
       exact cZ
      ·exact cZ
     ·have hil:i<l2.length:=by omega
      have e0:∀d,(l2.map nN.av).getD ((i:Int)).toNat d= .agg [i64 (l2.getD i default).at_,i64 (l2.getD i default).from_]:=fun d=>by rw[Int.toNat_natCast];exact dN nN.av l2 i d hil
      have hge:(0:Int)<=i:=by omega
      have hol:out.length<=1048576:=by
       have h1:=congrArg List.length hout
       have h2:=hwl
       unfold qM at h2
       rw[List.length_reverse] at h2
       rw[hup,h2,List.length_append] at h1
       have hd:(l.getD k default).dep<=k:=JO hI k hkl
       omega
      have a1:(out.map i64).length=out.length:=List.length_map _
      rw[uR,if_neg (by omega),Int.toNat_natCast] at hout
      by_cases h0:i=0
      ·subst h0
       have hz:=hI2.zero
       rw[hz] at e0 hout
       dsimp only at e0 hout
       rw[uR] at hout
       refine cV ?_
       exact⟨(-1,out++[first]),by dsimp only;omega,_,_,_,Rt.refl _ _ _,by rw[List.length_append];exact cH, .inl ⟨rfl,hout⟩,cZ,⟨_,bx⟩,⟨_,by dsimp only;rw[List.map_append];exact bx⟩,fun y hy=>Eq.trans cC (hkeep3 y hy)⟩
      ·obtain⟨q,q1,q2,q3,_⟩:=hI2.par i (by omega) hil
       rw[q3,zw hI2 q (by omega) i q1] at hout
       rw[q3] at e0
       refine cV ?_
       exact⟨((q:Int),out++[(l2.getD i default).at_]),by dsimp only;omega,_,_,_,Rt.refl _ _ _,by rw[List.length_append];exact cH, .inr ⟨q,rfl,by omega,by dsimp only;rw[List.append_assoc];exact hout⟩,cZ,⟨_,bx⟩,⟨_,by dsimp only;rw[List.map_append];exact bx⟩,fun y hy=>Eq.trans cC (hkeep3 y hy)⟩
    ·rw[if_neg hxf] at hT
     have r0:=decide_eq_false hxf
     have hmem:=NB hp2 hI2.zero hxf
     by_cases hin2:x∈iw l2
     ·rw[if_pos hin2] at hT
      have g0:=RI (iw l2).tail x (hmem.2 hin2)
      refine cV ?_
      exact⟨(j+1,l2),by dsimp only;omega,cH,by dsimp only;omega,hI2,hpre,hat2,hT,cZ,⟨_,bx⟩,⟨_,bx⟩,⟨_,bx⟩,fun y hy=>Eq.trans cC (hkeep2 y hy)⟩
     ·rw[if_neg hin2] at hT
      have hnm:=mt hmem.1 hin2
      have g0:=OA (iw l2).tail x hnm
      have g1:=RJ (iw l2).tail x hnm
      have hadd:=hI2.add hkl2 hxl hxf hin2
      rw[hgk] at hadd
      refine cV ?_
      refine⟨(j+1,l2++[⟨x,k,(l.getD k default).dep+1⟩]),by dsimp only;omega, ?_,by dsimp only;omega,hadd,hpre.trans (List.prefix_append _ _),fun y hy=> ?_,hT,cZ, ?_, ?_,⟨_,bx⟩,fun y hy=>Eq.trans cC (hkeep2 y hy)⟩
      ·rw[List.length_append];exact cH
      ·unfold iw at hy
       rw[List.map_append] at hy
       rcases List.mem_append.1 hy with hy|hy
       ·exact hat2 y hy
       ·simp only[List.map_cons,List.map_nil,List.mem_cons,List.not_mem_nil,or_false] at hy
        rw[hy];exact hxm
      ·rw[List.map_append];exact⟨_,bx⟩
      ·rw[JB hp2];exact⟨_,bx⟩
   ·obtain rfl:j=xs.length:=by omega
    rw[List.drop_length,EU] at hT
    rw[<-hT] at hB
    dsimp only at hB
    refine cV ?_
    exact⟨(k+1,l2),by dsimp only;omega,cH,by dsimp only;omega,hI2.on,hat2,by dsimp only;rw[show n+1 - (k+1)=n - k by omega];exact hB,cZ,⟨_,bx⟩,⟨_,bx⟩,fun y hy=>Eq.trans cC (hkeep2 y hy)⟩
  ·have g0:=vm (S:=S) (.sc (.slice none 0 0)) hx
   have hlead:mF L S (l.getD k default).at_=[]:=if_neg hx
   rw[hlead,EU] at hB
   dsimp only at hB
   refine cV ?_
   refine aN (fun _:Nat=>[(0, .mp mb),(1,i64 first),(5, .sl (nx+3) l.length),(6, .mp (nx+5)),(7,i64 k),(29,i64 0),(30,i64 0)])
    (fun _ H2 m2=>m<=m2/\(∃d,bu H2 (nx+3)=some (.row 144 2 d (l.map nN.av)))/\(∃d,bu H2 (nx+5)=some (.row 3 0 d (mapA (KU (iw l).tail))))/\∀y,y<nx->bu H2 y=bu H0 y) (fun _=>0) 0
    cH ⟨cZ,⟨_,bx⟩,⟨_,bx⟩,fun y hy=>Eq.trans cC (hkeep y hy)⟩ ?_
   clear r1 r2
   rintro _ H2 m2 ⟨hm2,⟨d1,r1⟩,⟨d2,r2⟩,hkeep2⟩
   refine cV ?_
   exact⟨(k+1,l),by dsimp only;omega,cH,by dsimp only;omega,hI.on,hat,by dsimp only;rw[show n+1 - (k+1)=n - k by omega];exact hB,cZ,⟨_,bx⟩,⟨_,bx⟩,fun y hy=>Eq.trans cC (hkeep2 y hy)⟩
 ·rw[if_neg hkl] at hB
  refine cV ?_
  rw[<-hB]
  exact⟨⟨cZ,fun y hy=>Eq.trans cC (hkeep y hy),rfl⟩⟩
end Go.Proofs.YtjopoheligmmoaaGreatDoor
namespace Go.cu
structure AF (P:Program) (n:Nat) (c:Code) where
 lc:LC
 ok:cz P n c=some lc
set_option maxRecDepth 100000 in
def GX {P:Program} {n:Nat} {c:Code} {lc:LC}
 (h:cz P n c=some lc:=by with_unfolding_all conv=>lhs;(reduce;simp only[Int.reduceOfNat,Int.reduceNegSucc])):AF P n c:=⟨lc,h⟩
end Go.cu
namespace Go.Proofs.YtjopoheligmmoaaGreatDoor
open Go Go.cu Go.Proofs
set_option linter.unusedSimpArgs false
set_option linter.unusedVariables false
set_option maxRecDepth 100000
set_option maxRecDepth 8000
noncomputable def WQ:Nat:=(Tryz.f15).ntmps
theorem LY:WQ=86:=by kernel_rfl
noncomputable def ZQ:AF Tryz.prog 86 (Code.l jV):=GX
noncomputable def ZR:AF Tryz.prog 86 (Code.l (Code.r jV)):=GX
noncomputable def ZS:AF Tryz.prog 86 (Code.l (Code.r (Code.r jV))):=GX
noncomputable def ZT:AF Tryz.prog 86 (Code.l (Code.r (Code.r (Code.r jV)))):=GX
noncomputable def ZU:AF Tryz.prog 86 (Code.l (Code.r (Code.r (Code.r (Code.r jV))))):=GX
noncomputable def ZV:AF Tryz.prog 86 (Code.r (Code.r (Code.r (Code.r (Code.r (Code.r jV)))))):=GX
theorem HJ:jV= .seq (Code.l jV) (.seq (Code.l (Code.r jV)) (.seq (Code.l (Code.r (Code.r jV))) (.seq (Code.l (Code.r (Code.r (Code.r jV)))) (.seq (Code.l (Code.r (Code.r (Code.r (Code.r jV))))) (.seq WU (Code.r (Code.r (Code.r (Code.r (Code.r (Code.r jV))))))))))):=by kernel_rfl
def ji (es:List ej) (h:Int):List Int:=es.foldl (fun a e=>if e.held=h/\e.taken∉a then a++[e.taken] else a) []
theorem qV (es:List ej) (e:ej) (h:Int):ji (es++[e]) h=if e.held=h/\e.taken∉ji es h then ji es h++[e.taken] else ji es h:=by unfold ji;rw[List.foldl_append];rfl
theorem xm {h x:Int}:∀(es:List ej),x∈ji es h↔∃e∈es,e.held=h/\e.taken=x:=by
 intro es
 induction es using zC with
 |h0=>simp[ji]
 |h1 l e ih=>
  rw[qV]
  constructor
  ·intro hx
   split at hx
   ·rename_i hc
    rcases List.mem_append.1 hx with hx|hx
    ·obtain⟨y,hy,h1⟩:=ih.1 hx
     exact⟨y,List.mem_append_left _ hy,h1⟩
    ·simp only[List.mem_cons,List.not_mem_nil,or_false] at hx
     exact⟨e,by simp,hc.1,hx.symm⟩
   ·obtain⟨y,hy,h1⟩:=ih.1 hx
    exact⟨y,List.mem_append_left _ hy,h1⟩
  ·rintro⟨y,hy,h1,h2⟩
   rcases List.mem_append.1 hy with hy|hy
   ·have:=ih.2 ⟨y,hy,h1,h2⟩
    split
    ·exact List.mem_append_left _ this
    ·exact this
   ·simp only[List.mem_cons,List.not_mem_nil,or_false] at hy
    subst hy
    by_cases hm:y.taken∈ji l h
    ·rw[if_neg fun c=>c.2 hm,<-h2];exact hm
    ·rw[if_pos ⟨h1,hm⟩,h2];simp
theorem AL {h:Int}:∀(es:List ej),(ji es h).Nodup:=by
 intro es
 induction es using zC with
 |h0=>exact List.nodup_nil
 |h1 l e ih=>
  rw[qV]
  split
  ·rename_i hc
   refine List.nodup_append.2 ⟨ih,by simp,fun a ha b hb=> ?_⟩
   simp only[List.mem_cons,List.not_mem_nil,or_false] at hb
   subst hb
   exact fun e=>hc.2 (e▸ha)
  ·exact ih
theorem DT {u:bz} (hr:ca u) {es:List ej} (hes:∀e∈es,e∈df u) (h:Int):(ji es h).length<=16:=by
 have:=gx u.cB.length _ (AL es (h:=h)) fun x hx=>by
  obtain⟨e,he,_,rfl⟩:=(xm es).1 hx
  exact(yL hr (hes e he)).2
 have:=hr.oW.2.1
 omega
theorem zA {S S':Int->List Int}:∀(L:List (Int×Nat)) (i:Nat) (p:Int×Nat),p∈L->(L.map (·.1)).Nodup->(∀x,x≠p.1->S' x=S x)->∃j,fA false (.int .i64 p.1) (eo L S) i=some (some (i+j, .sl p.2 (S p.1).length))/\(eo L S).set j (.dD [.sc (.int .i64 p.1), .sl p.2 (S' p.1).length])=eo L S'
 |[],i,p,h,_,_=>by cases h
 |q::r,i,p,h,hn,hS=>by
  rw[List.map_cons,List.nodup_cons] at hn
  have e1:eo (q::r) S=nt (.int .i64 q.1) (.sl q.2 (S q.1).length)::eo r S:=rfl
  have e2:eo (q::r) S'=nt (.int .i64 q.1) (.sl q.2 (S' q.1).length)::eo r S':=rfl
  rw[e1,e2]
  rcases List.mem_cons.1 h with rfl|h
  ·refine⟨0,by simp[fA,sy,nt,BU], ?_⟩
   rw[List.set_cons_zero]
   congr 1
   unfold eo
   refine List.map_congr_left fun q hq=> ?_
   rw[hS q.1 fun e=>hn.1 (by rw[<-e];exact List.mem_map.2 ⟨q,hq,rfl⟩)]
  ·have hne:p.1≠q.1:=fun e=>hn.1 (by rw[<-e];exact List.mem_map.2 ⟨p,h,rfl⟩)
   obtain⟨j,hj,hs⟩:=zA r (i+1) p h hn.2 hS
   refine⟨j+1, ?_, ?_⟩
   ·simp only[fA,sy,nt,BU,if_true,decide_eq_false hne]
    rw[hj]
    simp;omega
   ·rw[List.set_cons_succ,hs,hS q.1 hne.symm]
theorem wu {S S':Int->List Int} {L:List (Int×Nat)} {p:Int×Nat} (hp:p∈L) (hk:(L.map (·.1)).Nodup) (hS:∀x,x≠p.1->S' x=S x):pc false (.int .i64 p.1) (eo L S) (.sl p.2 (S' p.1).length)=some (eo L S'):=by
 obtain⟨j,hj,hs⟩:=zA L 0 p hp hk hS
 unfold pc
 rw[hj]
 simp only[Nat.zero_add]
 rw[hs]
theorem wq {S S':Int->List Int} {L:List (Int×Nat)} {x:Int} (b:Nat) (hx:x∉L.map (·.1)) (hS:∀y,y≠x->S' y=S y):pc false (.int .i64 x) (eo L S) (.sl b (S' x).length)=some (eo (L++[(x,b)]) S'):=by
 unfold pc
 rw[qh L x 0 hx]
 simp only[eo,List.map_append,List.map_cons,List.map_nil,Option.some.injEq]
 congr 1
 refine List.map_congr_left fun q hq=> ?_
 rw[hS q.1 fun e=>hx (by rw[<-e];exact List.mem_map.2 ⟨q,hq,rfl⟩)]
def gG (u:bz) (h:Int):List Int:=eR (ji (df u) h)
theorem GP {u:bz} {h x:Int}:x∈gG u h↔∃e∈df u,e.held=h/\e.taken=x:=by unfold gG;rw[HW,xm]
theorem KV {u:bz} (hr:ca u) (h:Int):∀x∈gG u h,0<=x/\x<u.cB.length:=fun x hx=>by
 obtain⟨e,he,_,rfl⟩:=GP.1 hx
 exact(yL hr he).2
def rY (u:bz):Option (List Int):=jk (gG u) u.cB.length u.cB.length
theorem _root_.Go.cu.WC.last {P:Program} {n lo:Nat} {fr:Fr} {H:Hp} {nx:Nat} {Q:QT} {code:Code} {lc:LC} (hl:cz P n code=some lc) (h:Go (W P n lo lc fr H nx Q)):WC P n lo code fr H nx Q:=WC.low hl (fP h)
theorem xN {a:AV} {H:Hp} {nx:Nat} {R:AV->Hp->Nat->Prop} (h:WC Tryz.prog 86 nx jV (jq 0 [a]) H nx (tv [.tmp 2, .tmp 3, .tmp 4] R)):cS Tryz.prog 15 [a] H nx R:=by
 have hn:(Tryz.f15).ntmps=86:=LY
 refine cS.OJ Tryz.func15 (by kernel_rfl) (show _=some jV by kernel_rfl) (lrs:=[.tmp 2, .tmp 3, .tmp 4]) (by kernel_rfl) (by rw[hn];exact(by decide:1<=86)) ?_
 rw[hn]
 exact h
theorem contains_nil (x:Int):Pure Tryz.prog 39 [.sc (.slice none 0 0),i64 x] (fun r=>r=bl false):=
 Pure.args (kV [] x (by decide)) fun c=> .cons (cu.dV.jw c c 1 .any) (.cons (fun _ h=>h) .nil)
theorem EZ {H:Hp} {b:Nat} {e:TypeId} {d:AV} {l:List Int} (x:Int) (h:bu H b=some (.row e 1 d (l.map i64))):[AV.sl b l.length,i64 x].map (cu.dX H 6)=[cR l,i64 x]:=by
 show[cu.dX H 6 (.sl b l.length),i64 x]=_
 rw[dI (k:=5) h (by simp),cn _ ((cD _ _).2 fun _ _=>by simp[cK])]
theorem G8 {L:List (Int×Nat)} (hb:(L.map (·.2)).Nodup) {p q:Int×Nat} (hp:p∈L) (hq:q∈L) (e:p.2=q.2):p=q:=by
 obtain⟨i,hi,rfl⟩:=List.getElem_of_mem hp
 obtain⟨j,hj,rfl⟩:=List.getElem_of_mem hq
 have:=(List.getElem_inj (xs:=L.map (·.2)) (h₀:=by simpa using hi) (h₁:=by simpa using hj) hb).1 (by simpa using e)
 subst this;rfl
theorem G6 {L:List (Int×Nat)} (hb:(L.map (·.1)).Nodup) {p q:Int×Nat} (hp:p∈L) (hq:q∈L) (e:p.1=q.1):p=q:=by
 obtain⟨i,hi,rfl⟩:=List.getElem_of_mem hp
 obtain⟨j,hj,rfl⟩:=List.getElem_of_mem hq
 have:=(List.getElem_inj (xs:=L.map (·.1)) (h₀:=by simpa using hi) (h₁:=by simpa using hj) hb).1 (by simpa using e)
 subst this;rfl
theorem BZ {L:List (Int×Nat)} {S S':Int->List Int} (h:∀p∈L,(S' p.1).length=(S p.1).length):eo L S'=eo L S:=List.map_congr_left fun p hp=>by rw[h p hp]
def IW (u:bz) (r:AV) (H:Hp):Prop:=match rY u with
 |none=>r= .dD [.sc (.slice none 0 0),bl false,i64 0]
 |some w=>∃b d,r= .dD [.sl b w.length,bl true,i64 0]/\bu H b=some (.row 3 1 d (w.map i64))
set_option maxHeartbeats 4000000 in
theorem HH (u:bz) (hu:u.Wf) (hr:ca u):cS Tryz.prog 15 [u.av] [] 0 (fun r H n=>IW u r H):=by
 have c0:=su u hu hr
 have hel:=q9 hr (Nat.le_refl u.bw.length)
 have hgl:=hr.oW.2.2
 have hle:=hr.oW.2.1
 change (df u).length<=_ at hel
 refine xN ?_
 rw[HJ]
 refine WC.cut ZQ.ok ?_
 refine cV ?_
 refine⟨_,_,_,Rt.refl _ _ _,WC.cut ZR.ok ?_⟩
 refine cV ?_
 refine⟨_,_,_,Rt.refl _ _ _,WC.cut ZS.ok ?_⟩
 refine cV ?_
 refine⟨_,_,_,Rt.refl _ _ _,WC.cut ZT.ok ?_⟩
 refine cV ?_
 refine⟨_,_,_,Rt.refl _ _ _,WC.cut ZU.ok ?_⟩
 refine cV ?_
 simp only[List.length_map]
 clear c0
 have hR:∀r H,IW u r H=match jk (gG u) u.cB.length u.cB.length with
  |none=>r= .dD [.sc (.slice none 0 0),bl false,i64 0]
  |some w=>∃b d,r= .dD [.sl b w.length,bl true,i64 0]/\bu H b=some (.row 3 1 d (w.map i64)):=fun _ _=>rfl
 have hles:∀i h,(ji ((df u).take i) h).length<=16:=fun i h=>DT hr (fun e he=>List.mem_of_mem_take he) h
 refine aN (fun σ:Nat×List (Int×Nat)=>[(1, .pt 0 1 0 0),(7, .mp 12),(23,w9 (df u)),(24,i64 (df u).length),(25,i64 σ.1)])
  (fun σ H n=>σ.1<=(df u).length/\13<=n/\(∃d,bu H 0=some (.row 25 3 d [u.av]))/\qT 12 σ.2 (ji ((df u).take σ.1)) H/\(σ.2.map (·.2)).Nodup/\(∀p∈σ.2,13<=p.2/\p.2<n)/\∀h,h∈σ.2.map (·.1)↔ji ((df u).take σ.1) h≠[]) (fun σ=>(df u).length - σ.1) (0,[])
  cH ⟨Nat.zero_le _,cZ,⟨_,bx⟩,⟨⟨_,bx⟩,(fun p hp=>by cases hp),List.nodup_nil⟩,List.nodup_nil,(fun p hp=>by cases hp),fun h=>by simp[ji]⟩ ?_
 rintro⟨i,L⟩ H n ⟨hi,hn,⟨d0,r0⟩,hL,hb,hids,hkeys⟩
 dsimp only at hi hL hb hids hkeys ⊢
 have a0:((df u).map ej.av).length=(df u).length:=List.length_map _
 obtain⟨d1,r1⟩:=hL.map
 by_cases hil:i<(df u).length
 ·have e0:∀d,((df u).map ej.av).getD ((i:Int)).toNat d=((df u).getD i default).av:=fun d=>by rw[Int.toNat_natCast];exact dN ej.av (df u) i d hil
  have hsn:=fun h=>qV ((df u).take i) ((df u).getD i default) h
  rw[show(df u).take i++[(df u).getD i default]=(df u).take (i+1) by rw[List.take_succ_eq_append_getElem hil];simp[List.getD,hil]] at hsn
  have hl1:=hles i
  have hl2:=hles (i+1)
  generalize (df u).getD i default=e at *
  generalize h2:ji ((df u).take (i+1))=S2 at *
  generalize ji ((df u).take i)=S at *
  obtain⟨hd,tk,th,nd⟩:=e
  dsimp only at hsn
  by_cases hx:hd∈L.map (·.1)
  ·obtain⟨p,hp,hpe⟩:=List.mem_map.1 hx
   have g0:=yz (S:=S) (.sc (.slice none 0 0)) hp hL.keys
   obtain⟨d4,r4⟩:=hL.row p hp
   obtain⟨hp0,hp1⟩:=hids p hp
   rw[hpe] at g0 r4
   have hlS:=hl1 hd
   have hc:=kV (S hd) tk (by omega)
   refine cV ?_
   refine aR hc (EZ tk bx) (by simp only[cX,cK];exact⟨(cD _ _).2 fun _ _=>by simp[cK],trivial,trivial⟩) (by simp[gN]) ?_
   clear hc
   by_cases hm:tk∈S hd
   ·have r2:=decide_eq_true hm
    have hSS:S2=S:=funext fun h=>by rw[hsn,if_neg fun c=>c.2 (by rw[<-c.1];exact hm)]
    rw[hSS] at h2
    refine cV ?_
    refine⟨(i+1,L),by dsimp only;omega,cH,by dsimp only;omega,cZ,⟨_,bx⟩, ?_,hb,fun q hq=>⟨(hids q hq).1,Nat.lt_of_lt_of_le (hids q hq).2 cZ⟩, ?_⟩
    ·dsimp only
     rw[h2]
     refine⟨⟨_,bx⟩,fun q hq=> ?_,hL.keys⟩
     obtain⟨dq,rq⟩:=hL.row q hq
     have hq1:=hids q hq
     exact⟨dq,bx⟩
    ·dsimp only
     rw[h2]
     exact hkeys
   ·have r2:=decide_eq_false hm
    have hS2:∀x,x≠hd->S2 x=S x:=fun x hx=>by rw[hsn,if_neg fun c=>hx c.1.symm]
    have hS3:S2 hd=S hd++[tk]:=by rw[hsn,if_pos ⟨rfl,hm⟩]
    have g1:=wu (S:=S) (S':=S2) hp hL.keys (fun x hx=>hS2 x (by rw[<-hpe];exact hx))
    rw[hpe,hS3,List.length_append,List.length_singleton] at g1
    refine cV ?_
    refine⟨(i+1,L),by dsimp only;omega,cH,by dsimp only;omega,cZ,⟨_,bx⟩, ?_,hb,fun q hq=>⟨(hids q hq).1,Nat.lt_of_lt_of_le (hids q hq).2 cZ⟩, ?_⟩
    ·dsimp only
     rw[h2]
     refine⟨⟨_,bx⟩,fun q hq=> ?_,hL.keys⟩
     by_cases hqp:q=p
     ·subst hqp
      rw[hpe,hS3,List.map_append]
      exact⟨_,bx⟩
     ·obtain⟨dq,rq⟩:=hL.row q hq
      have hq1:=hids q hq
      have hq2:q.2≠p.2:=fun e=>hqp (G8 hb hq hp e)
      have hq3:q.1≠hd:=fun e=>hqp (G6 hL.keys hq hp (e.trans hpe.symm))
      rw[hS2 _ hq3]
      exact⟨dq,bx⟩
    ·dsimp only
     rw[h2]
     intro h
     by_cases e:h=hd
     ·rw[e,hS3]
      exact⟨fun _=>by simp,fun _=>hx⟩
     ·rw[hS2 h e];exact hkeys h
  ·have g0:=vm (S:=S) (.sc (.slice none 0 0)) hx
   have c0:=contains_nil tk
   have hS0:S hd=[]:=by
    have:=mt (hkeys hd).2 hx
    simpa using this
   have hS2:∀x,x≠hd->S2 x=S x:=fun x hx=>by rw[hsn,if_neg fun c=>hx c.1.symm]
   have hS3:S2 hd=[tk]:=by rw[hsn,hS0,if_pos ⟨rfl,by simp⟩];rfl
   have g1:=wq (S:=S) (S':=S2) (n+22) hx hS2
   rw[hS3,List.length_singleton] at g1
   refine cV ?_
   refine⟨(i+1,L++[(hd,n+22)]),by dsimp only;omega,cH,by dsimp only;omega,cZ,⟨_,bx⟩, ?_, ?_,fun q hq=> ?_, ?_⟩
   ·dsimp only
    rw[h2]
    refine⟨⟨_,bx⟩,fun q hq=> ?_, ?_⟩
    ·rcases List.mem_append.1 hq with hq|hq
     ·obtain⟨dq,rq⟩:=hL.row q hq
      have hq1:=hids q hq
      have hq3:q.1≠hd:=fun e=>hx (by rw[<-e];exact List.mem_map.2 ⟨q,hq,rfl⟩)
      rw[hS2 _ hq3]
      exact⟨dq,bx⟩
     ·simp only[List.mem_cons,List.not_mem_nil,or_false] at hq
      subst hq
      dsimp only
      rw[hS3]
      exact⟨_,bx⟩
    ·rw[List.map_append]
     refine List.nodup_append.2 ⟨hL.keys,by simp,fun a ha b hb=> ?_⟩
     simp only[List.map_cons,List.map_nil,List.mem_cons,List.not_mem_nil,or_false] at hb
     subst hb
     exact fun e=>hx (e▸ha)
   ·dsimp only
    rw[List.map_append]
    refine List.nodup_append.2 ⟨hb,by simp,fun a ha b hb=> ?_⟩
    simp only[List.map_cons,List.map_nil,List.mem_cons,List.not_mem_nil,or_false] at hb
    subst hb
    obtain⟨q,hq,rfl⟩:=List.mem_map.1 ha
    have:=(hids q hq).2
    omega
   ·rcases List.mem_append.1 hq with hq|hq
    ·exact⟨(hids q hq).1,Nat.lt_of_lt_of_le (hids q hq).2 cZ⟩
    ·simp only[List.mem_cons,List.not_mem_nil,or_false] at hq
     subst hq
     refine⟨by dsimp only;omega, ?_⟩
     exact cZ
   ·dsimp only
    rw[h2]
    intro h
    rw[List.map_append,List.mem_append]
    by_cases e:h=hd
    ·rw[e,hS3];simp
    ·rw[hS2 h e,<-hkeys h];simp[e]
 ·obtain rfl:i=(df u).length:=by omega
  rw[List.take_length] at hL hkeys r1
  refine cV ?_
  have hne:∀p∈L,ji (df u) p.1≠[]:=fun p hp=>(hkeys p.1).1 (List.mem_map.2 ⟨p,hp,rfl⟩)
  have hls:∀h,(ji (df u) h).length<=16:=fun h=>DT hr (fun e he=>he) h
  have h12:(12:Nat)∉L.map (·.2):=fun h=>by
   obtain⟨p,hp,e⟩:=List.mem_map.1 h
   have:=(hids p hp).1
   omega
  have h00:(0:Nat)∉L.map (·.2):=fun h=>by
   obtain⟨p,hp,e⟩:=List.mem_map.1 h
   have:=(hids p hp).1
   omega
  refine⟨[(1, .pt 0 1 0 0),(7, .mp 12)],_,_,Rt.less cH,WC.seq (R4 (L:=L) (S:=ji (df u)) HL (by decide) rfl (by simp[ud,cp]) hb hL.keys h12 ⟨_,bx⟩ (fun p hp=> ?_) (fun p hp=>⟨hne p hp,by have:=hls p.1;omega⟩) fun H' hrows hrest=> ?_)⟩
  ·obtain⟨dp,rp⟩:=hL.row p hp
   have:=hids p hp
   exact⟨dp,bx⟩
  have hL':qT 12 L (gG u) H':=by
   refine⟨⟨d1, ?_⟩,hrows,hL.keys⟩
   rw[hrest 12 h12,show eo L (gG u)=eo L (ji (df u)) from BZ fun p _=>lP _]
   exact bx
  have hu0:∃d,bu H' 0=some (.row 25 3 d [u.av]):=⟨d0,by rw[hrest 0 h00];exact bx⟩
  have hlead:mF L (gG u)=gG u:=by
   funext x
   unfold mF
   split
   ·rfl
   ·rename_i hx
    have:=mt (hkeys x).2 hx
    simp only[ne_eq,Classical.not_not] at this
    unfold gG
    rw[this];simp[eR]
  have hin:=KV hr
  clear r0 r1 hrest hrows hL
  obtain⟨d0,r0⟩:=hu0
  show WC Tryz.prog 86 0 _ _ H' _ _
  refine WC.last ZV.ok ?_
  refine cV ?_
  simp only[List.length_map]
  have hids1:∀p∈L,p.2<n+1:=fun p hp=>Nat.lt_succ_of_lt (hids p hp).2
  refine aN (fun σ:Nat×AV=>[(1, .pt 0 1 0 0),(7, .mp 12),(11,σ.2),(61,i64 u.cB.length),(62,i64 σ.1)])
   (fun σ H2 n2=>σ.1<=u.cB.length/\n+1<=n2/\(∀y,y<n+1->bu H2 y=bu H' y)/\((jk (gG u) u.cB.length σ.1=none/\σ.2= .sc (.slice none 0 0))\/∃w b d,jk (gG u) u.cB.length σ.1=some w/\σ.2= .sl b w.length/\n+1<=b/\b<n2/\bu H2 b=some (.row 3 1 d (w.map i64)))) (fun σ=>u.cB.length - σ.1) (0, .sc (.slice none 0 0))
   cH ⟨Nat.zero_le _,cZ,fun y hy=>cC, .inl ⟨rfl,rfl⟩⟩ ?_
  rintro⟨k,bA⟩ H2 n2 ⟨hk,hn2,hkeep,hbest⟩
  dsimp only at hk hbest ⊢
  have hL2:=hL'.c8 (by omega:12<n+1) hids1 hkeep
  have r2:bu H2 0=some (.row 25 3 d0 [u.av]):=(hkeep 0 (by omega)).trans r0
  by_cases hkl:k<u.cB.length
  ·have hnx:=fun w hw=>((sZ (lead:=gG u) (n:=u.cB.length) (first:=(k:Int)) hin ⟨by omega,by omega⟩).1 w hw)
   have hstep:jk (gG u) u.cB.length (k+1)=match rk (gG u) u.cB.length (k:Int),jk (gG u) u.cB.length k with
    |none,b=>b
    |some l,none=>some l
    |some l,some b=>if l.length<b.length then some l else some b:=rfl
   rcases hbest with⟨hb0,rfl⟩|⟨w,b,d3,hb0,rfl,hb1,hb2,r3⟩
   ·rw[hb0] at hstep
    refine cV ?_
    refine aF (oI (n:=u.cB.length) (first:=(k:Int)) (hL2.c8 (nx:=n2) (by omega) (fun p hp=>by have:=hids p hp;omega) fun y hy=>cC) ?_ ?_ (by rw[hlead];exact hin) hle (fun x=>by unfold gG;rw[lP];exact hls x) ⟨by omega,by omega⟩) ?_
    ·exact cZ
    ·exact fun p hp=>Nat.lt_of_lt_of_le (hids p hp).2 cZ
    rintro r H4 m4 ⟨hm4,hkeep4,hR4⟩
    rw[hlead] at hR4
    unfold oK at hR4
    cases hq:rk (gG u) u.cB.length (k:Int) with
    |none=>
     rw[hq] at hR4 hstep
     dsimp only at hR4 hstep
     subst hR4
     refine cV ?_
     refine⟨(k+1, .sc (.slice none 0 0)),by dsimp only;omega,cH,by dsimp only;omega,cZ,fun y hy=>Eq.trans cC (Eq.trans (hkeep4 y ?_) (Eq.trans cC (hkeep y hy))), .inl ⟨hstep,rfl⟩⟩
     exact Nat.lt_of_lt_of_le (Nat.lt_of_lt_of_le hy hn2) cZ
    |some w=>
     rw[hq] at hR4 hstep
     dsimp only at hR4 hstep
     obtain⟨b,d4,hb1,hb2,rfl,r4⟩:=hR4
     obtain⟨_,hcy,_,hwin,_⟩:=hnx w hq
     have hwl:=hcy.pos
     refine cV ?_
     refine aU (xB bx ⟨by simp,hwl⟩) ?_
     refine cV ?_
     refine⟨(k+1, .sl b w.length),by dsimp only;omega,cH,by dsimp only;omega,cZ,fun y hy=>Eq.trans cC (Eq.trans (hkeep4 y ?_) (Eq.trans cC (hkeep y hy))), .inr ⟨w,b,d4,hstep,rfl, ?_, ?_,bx⟩⟩
     ·exact Nat.lt_of_lt_of_le (Nat.lt_of_lt_of_le hy hn2) cZ
     ·omega
     ·exact Nat.lt_of_lt_of_le hb2 cZ
   ·rw[hb0] at hstep
    refine cV ?_
    refine aF (oI (n:=u.cB.length) (first:=(k:Int)) (hL2.c8 (nx:=n2) (by omega) (fun p hp=>by have:=hids p hp;omega) fun y hy=>cC) ?_ ?_ (by rw[hlead];exact hin) hle (fun x=>by unfold gG;rw[lP];exact hls x) ⟨by omega,by omega⟩) ?_
    ·exact cZ
    ·exact fun p hp=>Nat.lt_of_lt_of_le (Nat.lt_of_lt_of_le (hids1 p hp) hn2) cZ
    rintro r H4 m4 ⟨hm4,hkeep4,hR4⟩
    rw[hlead] at hR4
    unfold oK at hR4
    have hb3:=hkeep4 b (Nat.lt_of_lt_of_le hb2 cZ)
    have r5:bu H4 b=some (.row 3 1 d3 (w.map i64)):=hb3.trans bx
    clear hb3
    have hwl:0<w.length:=by
     obtain⟨f,hf,hbf,_⟩:=nQ hb0
     exact(((sZ (lead:=gG u) (n:=u.cB.length) (first:=(f:Int)) hin ⟨by omega,by omega⟩).1 w hbf).2.1).pos
    cases hq:rk (gG u) u.cB.length (k:Int) with
    |none=>
     rw[hq] at hR4 hstep
     dsimp only at hR4 hstep
     subst hR4
     refine cV ?_
     refine⟨(k+1, .sl b w.length),by dsimp only;omega,cH,by dsimp only;omega,cZ,fun y hy=>Eq.trans cC (Eq.trans (hkeep4 y ?_) (Eq.trans cC (hkeep y hy))), .inr ⟨w,b,d3,hstep,rfl,hb1, ?_,bx⟩⟩
     ·exact Nat.lt_of_lt_of_le (Nat.lt_of_lt_of_le hy hn2) cZ
     ·exact Nat.lt_of_lt_of_le hb2 cZ
    |some w2=>
     rw[hq] at hR4 hstep
     dsimp only at hR4 hstep
     obtain⟨b4,d4,hb4,hb5,rfl,r4⟩:=hR4
     obtain⟨_,hcy,_,hwin,_⟩:=hnx w2 hq
     have hwl2:=hcy.pos
     have a1:(w.map i64).length=w.length:=List.length_map _
     have a2:(w2.map i64).length=w2.length:=List.length_map _
     by_cases hlt:w2.length<w.length
     ·rw[if_pos hlt] at hstep
      have r6:=decide_eq_true (show((w2.length:Int))<w.length by omega)
      refine cV ?_
      refine⟨(k+1, .sl b4 w2.length),by dsimp only;omega,cH,by dsimp only;omega,cZ,fun y hy=>Eq.trans cC (Eq.trans (hkeep4 y ?_) (Eq.trans cC (hkeep y hy))), .inr ⟨w2,b4,d4,hstep,rfl, ?_, ?_,bx⟩⟩
      ·exact Nat.lt_of_lt_of_le (Nat.lt_of_lt_of_le hy hn2) cZ
      ·omega
      ·exact Nat.lt_of_lt_of_le hb5 cZ
     ·rw[if_neg hlt] at hstep
      refine cV ?_
      refine aW (fun hc=>absurd hc (by simp;omega)) (fun hc=> ?_)
      refine cV ?_
      refine⟨(k+1, .sl b w.length),by dsimp only;omega,cH,by dsimp only;omega,cZ,fun y hy=>Eq.trans cC (Eq.trans (hkeep4 y ?_) (Eq.trans cC (hkeep y hy))), .inr ⟨w,b,d3,hstep,rfl,hb1, ?_,bx⟩⟩
      ·exact Nat.lt_of_lt_of_le (Nat.lt_of_lt_of_le hy hn2) cZ
      ·exact Nat.lt_of_lt_of_le hb2 cZ
  ·obtain rfl:k=u.cB.length:=by omega
   rcases hbest with⟨hb0,rfl⟩|⟨w,b,d3,hb0,rfl,hb1,hb2,r3⟩
   ·refine cV ?_
    exact⟨by rw[hR,hb0];rfl⟩
   ·have hwl:0<w.length:=by
     obtain⟨f,hf,hbf,_⟩:=nQ hb0
     exact(((sZ (lead:=gG u) (n:=u.cB.length) (first:=(f:Int)) hin ⟨by omega,by omega⟩).1 w hbf).2.1).pos
    refine cV ?_
    refine aU (xB bx ⟨by simp,hwl⟩) ?_
    refine cV ?_
    exact⟨by rw[hR,hb0];exact⟨b,d3,rfl,bx⟩⟩
theorem yK {P:Program} {ss:List sM} {fr fr2:Fr} {H H2:Hp} {nx nx2:Nat} {Q:QT} (h:Rt fr H nx fr2 H2 nx2) (k:gL P ss fr2 H2 nx2 Q):gL P ss fr H nx Q:=
 ⟨fun n lo code hc w0 M0 c0 a w hh=>k.1 n lo code hc w0 M0 c0 a w (h w0 M0 c0 lo n a w hh)⟩
theorem FK {P:Program} {ss:List sM} {fr fr2:Fr} {H H2:Hp} {nx nx2:Nat} {Q:QT} (h:Rt fr H nx fr2 H2 nx2) (C:Hp->Prop) (hC:C H2) (k:∀H3,C H3->gL P ss fr2 H3 nx2 Q):gL P ss fr H nx Q:=yK h (k H2 hC)
theorem QO {u:bz} {m:MS} {L:ML} {H:Hp} (hM:L.At u m H) (nx:Nat):Wk (.pt L.mr 1 0 0) H nx (m.fz u) (mE (kQ L.all H) H) nx:=by
 have:=Wk.TN (nx:=nx) (r:= .pt L.mr 1 0 0) (kQ L.all H) 6 (fun b q hq=>qv hq)
 rwa[hM.u0 2] at this
end Go.Proofs.YtjopoheligmmoaaGreatDoor
namespace Go.cu
open Go.RowKit
set_option linter.unusedSimpArgs false
set_option linter.unusedVariables false
section
variable {P:Program} {n lo:Nat} {fr:Fr} {H:Hp} {nx:Nat} {Q:QT}
theorem WL.rt {lc:LC} {fr2:Fr} {H2:Hp} {nx2:Nat} (hw:Rt fr H nx fr2 H2 nx2) (h:WL P n lo lc fr2 H2 nx2 Q):WL P n lo lc fr H nx Q:=
 fun code hc w0 M0 c0 a w hh=>h code hc w0 M0 c0 a w (hw _ _ _ _ _ _ _ hh)
theorem WL.cut {a b:LC} (h:Go (W P n lo a fr H nx (ic (fun fr' H' nx'=>∃fr2 H2 nx2,Rt fr' H' nx' fr2 H2 nx2/\WL P n lo b fr2 H2 nx2 Q) Q))):WL P n lo (.seq a b) fr H nx Q:=
 WL.seq ((fP h).mono fun e fr H nx hh=>by
  cases e with
  |normal=>
   obtain⟨fr2,H2,nx2,h1,h2⟩:=hh
   exact WL.rt h1 h2
  |exit id=>exact hh
  |ret=>exact hh)
theorem au {f:FuncId} {args:List AV} {R:AV->Hp->Nat->Prop} (X:eB P f) (ha:Nat.ble args.length X.n=true) (h:WL P X.n nx X.lc (jq 0 args) H nx (tv X.rs R)):cS P f args H nx R:=by
 obtain⟨fn,h1,h2,h3,h4,h5⟩:=X.ok
 have h6:X.n=fn.ntmps:=h5
 rw[h6] at h ha
 exact cS.pj h1 h2 h3 h4 (Nat.le_of_ble_eq_true ha) (h.mono fun _ _ _ _=>xM)
theorem WL.last {lc:LC} (h:Go (W P n lo lc fr H nx Q)):WL P n lo lc fr H nx Q:=fP h
theorem af {lc:LC} {b:Nat} {q:Option fC} (h:bu H b=q) (k:∀H2:Hp,bu H2 b=q->Go (W P n lo lc fr H2 nx Q)):W P n lo lc fr H nx Q:=k H h
end
end Go.cu
namespace Go.Proofs.YtjopoheligmmoaaGreatDoor
open Go Go.cu Go.Proofs
set_option linter.unusedSimpArgs false
set_option linter.unusedVariables false
set_option maxRecDepth 8000
theorem S9 (u:bz) (m:MS) (h:eH u m) {t:Nat} (ht:t<u.bw.length):Pure Tryz.prog 30 [m.fz u,i64 t] (fun r=>r=i64 (m.at_.getD t 0)):=by
 have c0:=zr u m t
 have hl:=h.oM
 rw[decide_eq_true (by omega:¬((t:Int)<0\/(m.at_.length:Int)<=t))] at c0
 have e0:=fun d=>ints_at (l:=m.at_) (k:=t) (by omega) d
 have a0:(m.at_.map i64).length=u.bw.length:=by simp[hl]
 refine aD X0 rfl ?_
 refine cV ?_
 first|exact rfl|trivial
theorem GF (u:bz) (m:MS) (h:eH u m) {x:Nat} (hx:x<u.cB.length):Pure Tryz.prog 33 [m.fz u,i64 x] (fun r=>r=i64 (m.hold.getD x 0)):=by
 have hl:=h.hl
 have e0:=fun d=>ints_at (l:=m.hold) (k:=x) (by omega) d
 have a0:(m.hold.map i64).length=u.cB.length:=by simp[hl]
 refine aD X2 rfl ?_
 refine cV ?_
 refine aW (fun hc=>absurd hc (by simp[hl];omega)) fun hc=> ?_
 refine cV ?_
 first|exact rfl|trivial
abbrev oz (u:bz) (m:MS):AV:= .agg [cE u.shared,cE u.cB,cW u.bw,m.fz u]
theorem pZ (u:bz) (hr:ca u) (m:MS) (h:eH u m) {t:Nat} (ht:t<u.bw.length):Pure Tryz.prog 50 [oz u m,i64 t] (fun r=>r=i64 (dJ u m t)):=by
 have c0:=S9 u m h ht
 have hno:=h.node hr ht
 obtain⟨p0,p1⟩:=h.iC t ht
 have e0:∀d,(u.bw.map cF.av).getD ((t:Int)).toNat d=(u.gr t).av:=fun d=>mi ht d
 have a0:(u.bw.map cF.av).length=u.bw.length:=by simp
 have hh:dJ u m t=if((u.gr t).nd (m.at_.getD t 0).toNat).kind=5 then m.hold.getD ((u.gr t).nd (m.at_.getD t 0).toNat).cG.toNat 0 else -1:=by
  unfold dJ MS.node;rw[Int.toNat_natCast]
 rw[hh]
 unfold MS.node at hno
 obtain⟨j,hj⟩:∃j:Nat,m.at_.getD t 0=j:=⟨(m.at_.getD t 0).toNat,by omega⟩
 rw[hj] at c0 p1 hno ⊢
 rw[Int.toNat_natCast] at hno ⊢
 generalize u.gr t=g at *
 have e1:∀d,(g.nodes.map Node.av).getD ((j:Int)).toNat d=(g.nd j).av:=fun d=>gU (by omega) d
 have a1:(g.nodes.map Node.av).length=g.nodes.length:=by simp
 generalize g.nd j=n at *
 by_cases h5:n.kind=5
 ·obtain⟨x0,x1⟩:=fW hno (.inl h5)
  have c1:=GF u m h (x:=n.cG.toNat) (by omega)
  rw[Int.toNat_of_nonneg x0] at c1
  rw[if_pos h5]
  have r0:decide (n.kind≠5)=false:=decide_eq_false fun e=>e h5
  refine aD V5 rfl ?_
  refine cV ?_
  first|exact rfl|trivial
 ·rw[if_neg h5]
  have r0:decide (n.kind≠5)=true:=decide_eq_true h5
  refine aD V5 rfl ?_
  refine cV ?_
  first|exact rfl|trivial
set_option maxHeartbeats 2000000 in
theorem C0 (u:bz) (hr:ca u) (m:MS) (h:eH u m) {t:Nat} (ht:t<u.bw.length) (H0:Hp) (nx:Nat):
 cS Tryz.prog 49 [i64 t, .fn (.func 50) [oz u m] []] H0 nx (fun r H k=>nx<=k/\(∀y,y<nx->bu H y=bu H0 y)/\oK (iR (dJ u m) u.bw.length (t:Int)) nx k r H):=by
 have hfew:=hr.oW.2.2
 have c0:=pZ u hr m h ht
 have hf:cK 0 (oz u m):=by simp[cK,cX,cD]
 refine aI YA rfl ?_
 refine cV ?_
 generalize hfn:dJ u m=hd at *
 have hlt:∀x:Int,0<=x->x<u.bw.length->-1<=hd x/\hd x<u.bw.length:=fun x h0 h1=>by rw[<-hfn];exact nX hr h ⟨h0,h1⟩
 have hcw:∀x:Int,0<=x->x<u.bw.length->Pure Tryz.prog 50 [oz u m,i64 x] (fun r=>r=i64 (hd x)):=fun x h0 h1=>by
  obtain⟨k,rfl⟩:∃k:Nat,x=k:=⟨x.toNat,by omega⟩
  rw[<-hfn];exact pZ u hr m h (by omega)
 refine aN (fun σ:Int×List Int=>[(0,i64 t),(1, .fn (.func 50) [oz u m] []),(5, .sl (nx+2) σ.2.length),(6,i64 σ.1)])
  (fun σ H2 n2=>ij hd (t:Int) σ.2/\(∀x∈σ.2,0<=x/\x<u.bw.length)/\σ.1=hd (σ.2.getD (σ.2.length - 1) 0)/\jR hd (t:Int) (u.bw.length+1 - σ.2.length) σ.2 σ.1=iR hd u.bw.length (t:Int)/\nx+3<=n2/\(∃d,bu H2 (nx+2)=some (.row 3 1 d (σ.2.map i64)))/\∀y,y<nx->bu H2 y=bu H0 y) (fun σ=>u.bw.length+1 - σ.2.length) (hd t,[(t:Int)])
  cH ⟨.one (by omega),fun x hx=>by simp only[List.mem_cons,List.not_mem_nil,or_false] at hx;omega,rfl,rfl,cZ,⟨_,bx⟩,fun y hy=>cC⟩ ?_
 clear c0
 rintro⟨s,out⟩ H2 n2 ⟨hg,hin,hs,hR,hn2,⟨d1,r1⟩,hkeep⟩
 dsimp only at hg hin hs hR r1 ⊢
 have hol:=gx _ _ hg.nd hin
 have hp:=hg.pos
 have hlast:=hin _ (cT 0 (show out.length - 1<out.length by omega))
 have hsl:=hlt _ hlast.1 hlast.2
 rw[<-hs] at hsl
 have a0:(out.map i64).length=out.length:=List.length_map _
 rw[show u.bw.length+1 - out.length=(u.bw.length - out.length)+1 by omega,jR] at hR
 by_cases hst:s=t
 ·rw[if_pos hst] at hR
  have r0:decide (s≠t)=false:=decide_eq_false fun e=>e hst
  rw[<-hR]
  refine cV ?_
  refine⟨⟨?_,fun y hy=>Eq.trans cC (hkeep y hy),nx+2,d1,by omega, ?_,rfl,bx⟩⟩
  ·exact cZ
  ·exact cZ
 ·rw[if_neg hst] at hR
  have r0:decide (s≠t)=true:=decide_eq_true hst
  have hview:∀H3,bu H3 (nx+2)=some (.row 3 1 d1 (out.map i64))->[AV.sl (nx+2) out.length,i64 s].map (cu.dX H3 6)=[cR out,i64 s]:=fun H3 h3=>EZ s h3
  have hfit:cX 0 [cR out,i64 s]:=by
   simp only[cX,cK];exact⟨(cD _ _).2 fun _ _=>by simp[cK],trivial,trivial⟩
  refine cV ?_
  refine bH (fun _=>kV out s (by omega)) (hview _ bx) hfit (by simp[gN]) ?_
  by_cases h0:s<0
  ·rw[if_pos (.inl h0)] at hR
   rw[<-hR]
   refine cV ?_
   refine⟨⟨?_,fun y hy=>Eq.trans cC (hkeep y hy),rfl⟩⟩
   exact cZ
  ·by_cases hm:s∈out
   ·rw[if_pos (.inr hm)] at hR
    rw[<-hR]
    rw[decide_eq_true hm]
    refine cV ?_
    refine⟨⟨?_,fun y hy=>Eq.trans cC (hkeep y hy),rfl⟩⟩
    exact cZ
   ·rw[if_neg fun e=>e.elim h0 hm] at hR
    rw[decide_eq_false hm]
    have c0:=hcw s (by omega) hsl.2
    refine cV ?_
    have hm2:=hg.more hs (by omega) hm
    have hin2:∀x∈out++[s],0<=x/\x<u.bw.length:=fun x hx=>by
     rcases List.mem_append.1 hx with hx|hx
     ·exact hin x hx
     ·simp only[List.mem_cons,List.not_mem_nil,or_false] at hx;omega
    refine⟨(hd s,out++[s]), ?_,by rw[List.length_append];exact cH,hm2,hin2, ?_, ?_,cZ,⟨_,by dsimp only;rw[List.map_append];exact bx⟩,fun y hy=>Eq.trans cC (hkeep y hy)⟩
    ·dsimp only;rw[List.length_append,List.length_singleton];omega
    ·dsimp only;rw[List.length_append,List.length_singleton,Nat.add_sub_cancel,fI]
    ·dsimp only
     rw[List.length_append,List.length_singleton,show u.bw.length+1 - (out.length+1)=u.bw.length - out.length by omega]
     exact hR
abbrev P9 (u:bz) (m:MS) (t:Int):MS:=if m.ja u t=0 then(m.step u t.toNat).1 else m
theorem tm (u:bz) (m:MS) (t:Int):(P9 u m t).cJ.length<=m.cJ.length+1:=by
 unfold P9
 split
 ·exact nH u m _
 ·omega
theorem xU {u:bz} {m:MS} {L:ML} {H:Hp} {nx:Nat} (hu:u.Wf) (hr:ca u) (h:eH u m) (hM:L.At u m H) (hlt:∀y∈L.all,y<nx) (hpl:m.cJ.length<=1048576) (t:Int):
 cS Tryz.prog 31 [.pt L.mr 1 0 0,i64 t] H nx (fun r H' k=>(∃d e,r= .dD [.agg d,i64 e])/\L.At u (P9 u m t) H'/\nx<=k/\∀y,y<nx->y∉L.all->bu H' y=bu H y):=by
 by_cases hb:m.ja u t=0
 ·obtain⟨k,rfl,hk⟩:=wT h hb
  have:=vy hu hr h hM hlt hpl hk hb
  refine this.mono ?_
  rintro r H' n ⟨rfl,h1,h2,h3⟩
  refine⟨⟨_,_,rfl⟩, ?_,h2,h3⟩
  unfold P9;rw[if_pos hb,Int.toNat_natCast];exact h1
 ·refine(MA hr h hM hlt t hb).mono ?_
  rintro r H' n ⟨rfl,h2,h3⟩
  refine⟨⟨_,_,rfl⟩, ?_,h2,fun y hy _=>h3 y hy⟩
  unfold P9;rw[if_neg hb]
  exact hM.c8 fun y hy=>h3 y (hlt y hy)
theorem vt (u:bz) (m:MS) (w:List Int) {i:Nat} (hi:i<w.length):fB u m (w.take (i+1))=P9 u (fB u m (w.take i)) (w.getD i 0):=by
 rw[List.take_succ_eq_append_getElem hi,vr,show w[i]=w.getD i 0 by simp[List.getD,hi]]
 rfl
theorem rR {u:bz} {m:MS} {k:Nat} {l:List Int} (h:gS u m k=some l):∀n,k<=n->gS u m n=some l:=by
 intro n hn
 obtain⟨d,rfl⟩:∃d,n=k+d:=⟨n - k,by omega⟩
 induction d with
 |zero=>exact h
 |succ d ih=>
  rw[<-Nat.add_assoc,gS,ih (by omega)]
def xe (u:bz) (m:MS) (r:AV) (H:Hp):Prop:=match gR u m with
 |none=>r= .dD [.sc (.slice none 0 0),bl false,i64 0]
 |some w=>∃b d,r= .dD [.sl b w.length,bl true,i64 0]/\bu H b=some (.row 3 1 d (w.map i64))
theorem KT (u:bz) (hu:u.Wf) (hr:¬ca u) (w:List Int):Pure Tryz.prog 21 [u.av,cR w] (fun r=>r= .dD [.sc (.slice none 0 0),bl false,i64 60]):=by
 have c0:=EN u hu hr
 refine aD RL rfl ?_
 refine cV ?_
 first|exact rfl|trivial
set_option maxHeartbeats 4000000 in
theorem GM (u:bz) (hu:u.Wf) (hr:ca u) (w:List Int) (hw:1048576<w.length):cS Tryz.prog 21 [u.av,cR w] [] 0 (fun r H n=>r= .dD [.sc (.slice none 0 0),bl false,i64 3]):=by
 have a0:(w.map i64).length=w.length:=List.length_map _
 refine aI RL rfl ?_
 refine cV ?_
 refine aF (pe u hu hr _ _) ?_
 rintro _ H1 n1 ⟨L,rfl,hM,hL,hn1,hkp⟩
 refine cV ?_
 exact⟨rfl⟩
set_option maxHeartbeats 4000000 in
theorem vj (u:bz) (hu:u.Wf) (hr:ca u) (w:List Int) (hw:w.length<=1048576):cS Tryz.prog 21 [u.av,cR w] [] 0 (fun r H n=>xe u (fB u (cr u) w) r H):=by
 have a0:(w.map i64).length=w.length:=List.length_map _
 have hgl:=hr.oW.2.2
 refine au RL rfl ?_
 refine WL.cut ?_
 refine cV ?_
 refine⟨_,_,_,Rt.refl _ _ _,WL.cut ?_⟩
 refine cV ?_
 refine aF (pe u hu hr _ _) ?_
 rintro _ H1 n1 ⟨L,rfl,hM,hL,hn1,hkp⟩
 refine cV ?_
 refine⟨_,_,_,Rt.refl _ _ _,WL.cut ?_⟩
 refine cV ?_
 refine⟨_,_,_,Rt.refl _ _ _,WL.cut ?_⟩
 refine cV ?_
 obtain⟨d0,r0⟩:∃d,bu H1 0=some (.row 25 3 d [u.av]):=⟨_,Eq.trans (hkp 0 (by omega)) bx⟩
 have hL0:∀x∈L.all,1<=x:=fun x hx=>by have:=(hL x hx).1;omega
 have hL1:∀x∈L.all,x<n1:=fun x hx=>(hL x hx).2
 clear hkp hL
 refine⟨_,_,_,Rt.refl _ _ _,WL.cut ?_⟩
 refine cV ?_
 rw[a0]
 refine aN (fun i:Nat=>[(2, .pt 0 1 0 0),(7, .pt L.mr 1 0 0),(25,cR w),(26,i64 w.length),(27,i64 i)])
  (fun i H n=>i<=w.length/\n1<=n/\L.At u (fB u (cr u) (w.take i)) H/\(fB u (cr u) (w.take i)).cJ.length<=i/\∃d,bu H 0=some (.row 25 3 d [u.av])) (fun i=>w.length - i) 0
  cH ⟨Nat.zero_le _,cZ,hM.c8 fun y hy=> ?_,Nat.zero_le _,⟨_,bx⟩⟩ ?_
 ·have:=hL1 y hy;have:=hL0 y hy;exact cC
 clear r0 hM
 rintro i H n ⟨hi,hn,hM,hpr,⟨d0,r0⟩⟩
 have hsit:uQ u (fB u (cr u) (w.take i)):=uQ.CH hu hr (uQ.new hu hr)
 by_cases hil:i<w.length
 ·have e0:∀d,(w.map i64).getD ((i:Int)).toNat d=i64 (w.getD i 0):=fun d=>ints_at hil d
  have hpn:=vt u (cr u) w hil
  have hp2:=tm u (fB u (cr u) (w.take i)) (w.getD i 0)
  rw[<-hpn] at hp2
  refine cV ?_
  refine aF (xU hu hr hsit.ok (hM.c8 fun y hy=> ?_) (fun y hy=> ?_) (by omega) (w.getD i 0)) ?_
  ·have:=hL1 y hy;have:=hL0 y hy;exact cC
  ·exact Nat.lt_of_lt_of_le (Nat.lt_of_lt_of_le (hL1 y hy) hn) cZ
  rintro _ H2 n2 ⟨⟨d,e,rfl⟩,hM2,hn2,hkeep2⟩
  rw[<-hpn] at hM2
  have r1:bu H2 0=some (.row 25 3 d0 [u.av]):=Eq.trans (hkeep2 0 (by omega) fun h=>by have:=hL0 0 h;omega) bx
  refine cV ?_
  refine⟨i+1,by omega,cH,by omega,cZ,hM2.c8 fun y hy=> ?_,by omega,⟨_,bx⟩⟩
  have:=hL1 y hy;have:=hL0 y hy;exact cC
 ·obtain rfl:i=w.length:=by omega
  rw[List.take_length] at hM hpr hsit
  refine cV ?_
  generalize fB u (cr u) w=m at *
  have hz:(0:Nat)∉L.all:=fun h=>by have:=hL0 0 h;omega
  have hM2:L.At u m (dS H none):=hM.c8 fun y hy=>by have:=hL1 y hy;have:=hL0 y hy;exact cC
  refine⟨[(2, .pt 0 1 0 0),(7,m.fz u)],_,_,Rt.trans (Rt.slot 7 rfl (QO hM2 _)) (Rt.less cH),WL.last (af (b:=0) (q:=some (.row 25 3 d0 [u.av])) ((eQ hz).trans (Eq.trans cC r0)) fun H2 r3=> ?_)⟩
  clear hM hM2 r0 hpr
  refine cV ?_
  simp only[List.length_map]
  refine aN (fun t:Nat=>[(2, .pt 0 1 0 0),(11, .pt (n+4) 1 0 0),(39,cW u.bw),(40,i64 u.bw.length),(41,i64 t)])
   (fun t H3 n3=>t<=u.bw.length/\n+5<=n3/\gS u m t=none/\∃d,bu H3 (n+4)=some (.row 90 4 d [oz u m])) (fun t=>u.bw.length - t) 0
   cH ⟨Nat.zero_le _,cZ,rfl,⟨_,bx⟩⟩ ?_
  clear r3
  rintro t H3 n3 ⟨ht,hn3,hkt,⟨d4,r4⟩⟩
  have hnx:gS u m (t+1)=iR (dJ u m) u.bw.length (t:Int):=by
   rw[gS,hkt]
  by_cases htl:t<u.bw.length
  ·refine cV ?_
   refine aF (C0 u hr m hsit.ok htl _ _) ?_
   rintro r H5 n5 ⟨hn5,hkeep5,hR⟩
   have r5:bu H5 (n+4)=some (.row 90 4 d4 [oz u m]):=Eq.trans (hkeep5 (n+4) (Nat.lt_of_lt_of_le (by omega) (show n3<=_ from cZ))) bx
   unfold oK at hR
   cases hq:iR (dJ u m) u.bw.length (t:Int) with
   |none=>
    rw[hq] at hR hnx
    dsimp only at hR
    subst hR
    refine cV ?_
    exact⟨t+1,by omega,cH,by omega,cZ,hnx,⟨_,bx⟩⟩
   |some l=>
    rw[hq] at hR hnx
    dsimp only at hR
    obtain⟨b,d6,hb1,hb2,rfl,r6⟩:=hR
    have hl:=(nC (by omega) hq).1.pos
    have a2:(l.map i64).length=l.length:=List.length_map _
    refine cV ?_
    refine⟨?_⟩
    unfold xe gR
    rw[rR hnx _ (by omega)]
    exact⟨b,d6,rfl,bx⟩
  ·obtain rfl:t=u.bw.length:=by omega
   refine cV ?_
   refine⟨?_⟩
   unfold xe gR
   rw[hkt]
end Go.Proofs.YtjopoheligmmoaaGreatDoor
