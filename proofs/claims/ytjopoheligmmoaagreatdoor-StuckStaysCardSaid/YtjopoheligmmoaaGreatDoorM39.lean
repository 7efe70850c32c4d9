import Derived.Test.YtjopoheligmmoaaGreatDoorM38
import Derived.Test.YtjopoheligmmoaaGreatDoorM15
import Derived.Test.YtjopoheligmmoaaGreatDoorM35
import Derived.Test.YtjopoheligmmoaaGreatDoorM37
import Derived.Test.YtjopoheligmmoaaGreatDoorM31
namespace Go.Proofs.YtjopoheligmmoaaGreatDoor
open Go Go.cp Go.Proofs Go.RowKit
set_option linter.unusedSimpArgs false
set_option linter.unusedVariables false
theorem EM {ms:Array MapEntry} {seen:Array Nat} {e:MapEntry} (he:e∈(leftOf ms seen).toList):(leftOf ms (seen.push e.born)).size<(leftOf ms seen).size:=left_shrinks ms seen e he
set_option maxHeartbeats 2000000 in
theorem PH {L:List (Int×Nat)} {S:Int->List Int} {mb nx lo n:Nat} {fr:Fr} {H:Hp} {Q:QT} {code:Code} (hcode:wW code) (hn:58<n) (hreg:cc fr 7= .mp mb) (hfree:∀t∈tR,cc fr t= .any)
 (hb:(L.map (·.2)).Nodup) (hk:(L.map (·.1)).Nodup) (hmb:mb∉L.map (·.2)) (hmap:∃d,bw H mb=some (.row 3 0 d (mapA (eV L S)))) (hrow:∀p∈L,∃d,bw H p.2=some (.row 3 1 d ((S p.1).map i64)))
 (hS:∀p∈L,S p.1≠[]/\(S p.1).length<4611686018427387904)
 (hQ:∀H',(∀p∈L,∃d,bw H' p.2=some (.row 3 1 d ((Go.Proofs.YtjopoheligmmoaaGreatDoor.eG (S p.1)).map i64)))->(∀b,b∉L.map (·.2)->bw H' b=bw H b)->Q .normal fr H' nx):WC Tryz.prog n lo code fr H nx Q:=by
 obtain⟨i1,i2,i3,i4,o1,o2,o3,o4,o5,o6,o7,o8,o9,o10,o11,rfl,⟨a1,b1,g1⟩,⟨a2,b2,g2⟩,⟨a3,b3,g3⟩,⟨a4,b4,g4⟩,⟨a5,b5,g5⟩,⟨a6,b6,g6⟩,⟨a7,b7,g7⟩,⟨a8,b8,g8⟩,⟨a9,b9,g9⟩,⟨a10,b10,g10⟩,a11,b11,g11⟩:=hcode.ok
 intro w0 M0 c0 a w hh
 obtain⟨hsz,hdf,ρ,U,hU,hSim,hF,hT⟩:=hh
 obtain⟨dm,hmap'⟩:=hmap
 -- the map as it stands
 obtain⟨hUm,rr,x,ms,clk,h0,h1,h2,h3,h4,h5⟩:=hSim.TH hmap'
 simp only[mapA,List.cons.injEq,and_true] at h3
 subst h3
 have hE:=gF.of_map h4
 have h7:a.eval (.tmp 7)= .map (some rr):=by
  have:=hF 7
  rw[hreg,VR] at this
  obtain⟨_,r',hr',hrest⟩:=this
  obtain⟨_,hr2⟩:=hrest _ _ _ _ hmap'
  obtain⟨o,z,hρ⟩:=hr2 (by simp[mapA])
  simp only at h0 hρ
  rw[h0] at hρ
  cases hρ
  exact hr'
 -- the range begins
 refine wp_seq (wp_region_list ?_)
 refine eu g1 (v:= .map (some rr)) (w':=w) (by unfold execOp;simp[a1,h7]) ?_
 rw[b1]
 have e49:(a.put (some 49) (.map (some rr))).eval (.tmp 49)= .map (some rr):=du (by omega)
 have hrun:=run_range_map (P:=Tryz.prog) w 76 3 31 rr ms clk Tryz.underlying76 h2
 refine eu g2 (v:= .pointer (some ⟨w.heap.size,0,none⟩)) (w':=w.alloc (.mapIter (some rr) clk #[] clk)) (by unfold execOp;simp[a2,e49,hrun,Result.andThen]) ?_
 rw[b2]
 refine wpList_nil ?_
 have hturn:pP w (w.alloc (.mapIter (some rr) clk #[] clk)) w.heap.size:=⟨rfl,rfl,rfl,by show w.heap.size<=(w.heap.push _).size;rw[Array.size_push];omega,fun k hk _=>heap_alloc_old w _ hk,fun h=>by omega⟩
 have hlow:w0.heap.size<=w.heap.size:=hSim.below.size
 have hlow0:c0.w.heap.size<=w.heap.size:=hT.2.sz
 have hsz2:((a.put (some 49) (.map (some rr))).put (some 50) (.pointer (some ⟨w.heap.size,0,none⟩))).tmps.size=n:=by
  rw[(cy _ _ _).1,(cy _ _ _).1];exact hsz
 have hstart:yh L S mb nx lo n fr H w0 M0 c0 [] H ρ U #[] rr ms clk w.heap.size ((a.put (some 49) (.map (some rr))).put (some 50) (.pointer (some ⟨w.heap.size,0,none⟩))) (w.alloc (.mapIter (some rr) clk #[] clk)):=by
  refine⟨hsz2, ?_,fun p hp=>by simpa using hrow p hp,fun _ _=>rfl,hU,hSim.gq hturn hlow,(oO hfree hF [(49, .map (some rr)),(50, .pointer (some ⟨w.heap.size,0,none⟩))] (by simp[tR])).gq hturn.at_,hT.gq hturn hlow0,h0, ?_,h5,cg.gq hturn.at_ hE,heap_alloc_new w _, ?_,hlow,hlow0⟩
  ·rw[(cy _ _ _).2,(cy _ _ _).2];exact hdf
  ·rw[heap_alloc_old w _ (Array.getElem?_eq_some_iff.1 h2).1];exact h2
  ·exact du (by rw[(cy _ _ _).1];omega)
 generalize (a.put (some 49) (.map (some rr))).put (some 50) (.pointer (some ⟨w.heap.size,0,none⟩))=a0 at hstart ⊢
 generalize w.alloc (.mapIter (some rr) clk #[] clk)=wst at hstart ⊢
 generalize w.heap.size=it at hstart
 clear hturn hlow hlow0 hsz2 hrun e49 h7 hE h4 h2 h1 h0 hF hSim hT
 show(Code.block 2 (.loop _)).wp Tryz.prog _ a0 wst
 refine wp_block ?_
 refine F4 (fun m a w=>∃V H' ρ U seen ms clk it,yh L S mb nx lo n fr H w0 M0 c0 V H' ρ U seen rr ms clk it a w/\(∀m∈ms.toList,seen.contains m.born=true->∃k∈V,m.key= .int .i64 k)/\m=(leftOf ms seen).size) ⟨[],H,ρ,U,#[],ms,clk,it,hstart,fun m _ hs=>by simp at hs,rfl⟩ ?_
 clear hstart
 rintro m a w ⟨V,H',ρ,U,seen,ms,clk,it,hI,hgot,rfl⟩
 refine wp_seq (wp_region_list ?_)
 have hsz:=hI.size
 have hreg50:=hI.WU
 rcases yN (P:=Tryz.prog) w o3.type it rr clk clk seen ms clk hI.iter hI.map hI.born.1 (Nat.le_refl _) with⟨hz,hrun⟩|⟨e,he,w1,hturn,hws,hi1,hrun⟩
 · -- nothing is left
  refine eu g3 (v:= .tuple #[.bool false]) (w':=w) (by unfold execOp;simp[a3,hreg50,hrun,Result.andThen]) ?_
  rw[b3]
  have e51:(a.put (some 51) (.tuple #[.bool false])).eval (.tmp 51)= .tuple #[.bool false]:=du (by omega)
  refine eu g4 (v:= .bool false) (w':=w) (by unfold execOp;simp[a4,e51,Instr.extract]) ?_
  rw[b4]
  refine wpList_nil ?_
  have e52:((a.put (some 51) (.tuple #[.bool false])).put (some 52) (.bool false)).eval (.tmp 52)= .bool false:=du (by rw[(cy _ _ _).1];omega)
  show(Code.seq _ _).wp Tryz.prog _ _ w
  refine wp_seq (wp_cond_false e52 (wp_exit ?_))
  simp only[Exit.then,Exit.inBlock,if_true]
  refine⟨.normal,fr,H',nx,rfl,hQ H' (fun p hp=> ?_) hI.rest, ?_, ?_,ρ,U,hI.names,hI.PI,oO hfree hI.fr [(51, .tuple #[.bool false]),(52, .bool false)] (by simp[tR]),hI.J3⟩
  ·obtain⟨d,hd⟩:=hI.rows p hp
   obtain⟨e,he,hek⟩:=IZ hI.ents hp
   obtain⟨k,hkV,hke⟩:=hgot e he (all_seen ms seen hz e he)
   rw[hek] at hke
   simp only[Value.int.injEq,true_and] at hke
   rw[hke,if_pos hkV] at hd
   exact⟨d,by rw[hke];exact hd⟩
  ·rw[(cy _ _ _).1,(cy _ _ _).1];exact hsz
  ·rw[(cy _ _ _).2,(cy _ _ _).2];exact hI.defers
 · -- an entry comes
  obtain⟨hem,hes⟩:=mem_left he
  obtain⟨p,hp,hek,hev⟩:=I0 hI.ents hem
  refine eu g3 (v:= .tuple #[.bool true,e.key,e.val]) (w':=w1) (by unfold execOp;simp[a3,hreg50,hrun,Result.andThen]) ?_
  rw[b3]
  have e51:(a.put (some 51) (.tuple #[.bool true,e.key,e.val])).eval (.tmp 51)= .tuple #[.bool true,e.key,e.val]:=du (by omega)
  refine eu g4 (v:= .bool true) (w':=w1) (by unfold execOp;simp[a4,e51,Instr.extract]) ?_
  rw[b4]
  refine wpList_nil ?_
  have hI1:yh L S mb nx lo n fr H w0 M0 c0 V H' ρ U seen rr ms clk it a w:=hI
  -- the situation behind the step, but for the registers
  have hrm:w1.heap[rr]?=some (.map ms clk):=by
   rw[hturn.cT rr (Array.getElem?_eq_some_iff.1 hI.map).1 fun e2=>by have:=hI.iter;rw[<-e2,hI.map] at this;cases this]
   exact hI.map
  have hent:=wI (P:=Tryz.prog) w1 it rr clk seen ms clk e hi1 hrm hem hI.born.2
  generalize hA2:(a.put (some 51) (.tuple #[.bool true,e.key,e.val])).put (some 52) (.bool true)=A2
  have s2:A2.tmps.size=n:=by rw[<-hA2,(cy _ _ _).1,(cy _ _ _).1];exact hsz
  have d2:A2.defers=[]:=by rw[<-hA2,(cy _ _ _).2,(cy _ _ _).2];exact hI.defers
  have e52:A2.eval (.tmp 52)= .bool true:=by rw[<-hA2];exact du (by rw[(cy _ _ _).1];omega)
  have r2:A2.eval (.tmp 50)= .pointer (some ⟨it,0,none⟩):=by rw[<-hA2,dL (by decide),dL (by decide)];exact hreg50
  have f2:FR ⟨ρ,bw H',U,w1,M0⟩ fr A2.tmps:=by rw[<-hA2];exact(oO hfree hI.fr [(51, .tuple #[.bool true,e.key,e.val]),(52, .bool true)] (by simp[tR])).gq hturn.at_
  have sim1:dY w0 ⟨ρ,bw H',U,w1,M0⟩:=hI.PI.gq hturn hI.low
  have trk1:l5 c0 lo ⟨ρ,bw H',U,w1,M0⟩:=hI.J3.gq hturn hI.O6
  have ent1:gF ⟨ρ,bw H',U,w1,M0⟩ (eV L S) ms.toList:=cg.gq (c:=⟨ρ,bw H',U,w,M0⟩) hturn.at_ hI.ents
  have m7:A2.eval (.tmp 7)= .map (some rr):=by
   have:=f2 7
   rw[hreg,VR] at this
   obtain⟨_,r',hr',hrest⟩:=this
   obtain⟨_,hr2⟩:=hrest _ _ _ _ ((hI.rest mb hmb).trans hmap')
   obtain⟨o,z,hρ⟩:=hr2 (by simp[mapA])
   have h0:=hI.at_
   simp only at h0 hρ
   rw[h0] at hρ
   cases hρ
   exact hr'
  clear hA2
  show(Code.seq _ _).wp Tryz.prog _ A2 w1
  refine wp_seq (wp_cond_true e52 (wp_skip ?_))
  show(Code.block 3 _).wp Tryz.prog _ A2 w1
  refine wp_block (wp_seq (wp_region_list ?_))
  refine eu g5 (v:= .tuple #[e.key,e.val]) (w':=w1) (by unfold execOp;simp[a5,r2,hent,Result.andThen]) ?_
  rw[b5]
  have e53:(A2.put (some 53) (.tuple #[e.key,e.val])).eval (.tmp 53)= .tuple #[e.key,e.val]:=du (by omega)
  refine eu g6 (v:=e.key) (w':=w1) (by unfold execOp;simp[a6,e53,Instr.extract]) ?_
  rw[b6]
  have e54:((A2.put (some 53) (.tuple #[e.key,e.val])).put (some 54) e.key).eval (.tmp 54)=e.key:=du (by rw[(cy _ _ _).1];omega)
  refine eu g7 (v:=e.key) (w':=w1) (by unfold execOp;simp[a7,e54]) ?_
  rw[b7]
  refine wpList_nil ?_
  generalize hA3:((A2.put (some 53) (.tuple #[e.key,e.val])).put (some 54) e.key).put (some 10) e.key=A3
  have s3:A3.tmps.size=n:=by rw[<-hA3,(cy _ _ _).1,(cy _ _ _).1,(cy _ _ _).1];exact s2
  have d3:A3.defers=[]:=by rw[<-hA3,(cy _ _ _).2,(cy _ _ _).2,(cy _ _ _).2];exact d2
  have r3:A3.eval (.tmp 50)= .pointer (some ⟨it,0,none⟩):=by rw[<-hA3,dL (by decide),dL (by decide),dL (by decide)];exact r2
  have m3:A3.eval (.tmp 7)= .map (some rr):=by rw[<-hA3,dL (by decide),dL (by decide),dL (by decide)];exact m7
  have k3:A3.eval (.tmp 10)=e.key:=by rw[<-hA3];exact du (by rw[(cy _ _ _).1,(cy _ _ _).1];omega)
  have f3:FR ⟨ρ,bw H',U,w1,M0⟩ fr A3.tmps:=by rw[<-hA3];exact oO hfree f2 [(53, .tuple #[e.key,e.val]),(54,e.key),(10,e.key)] (by simp[tR])
  clear hA3
  show(Code.region i4 _ false).wp Tryz.prog _ A3 w1
  refine wp_region_list ?_
  refine eu g8 (v:= .map (some rr)) (w':=w1) (by unfold execOp;simp[a8,m3]) ?_
  rw[b8]
  have k4:(A3.put (some 55) (.map (some rr))).eval (.tmp 10)=e.key:=by rw[dL (by decide)];exact k3
  refine eu g9 (v:=e.key) (w':=w1) (by unfold execOp;simp[a9,k4]) ?_
  rw[b9]
  obtain⟨j,hj⟩:=ni (S:=S) L 0 p hp hk
  rcases jR (d:= .int .i64) rfl ent1 hj with⟨q1,_⟩|⟨j2,v,m2,q1,q2,q3,q4,q5,q6⟩
  ·cases q1
  simp only[Option.some.injEq,Prod.mk.injEq] at q1
  obtain⟨rfl,rfl⟩:=q1
  have e55:((A3.put (some 55) (.map (some rr))).put (some 56) e.key).eval (.tmp 55)= .map (some rr):=by rw[dL (by decide)];exact du (by omega)
  have e56:((A3.put (some 55) (.map (some rr))).put (some 56) e.key).eval (.tmp 56)= .int .i64 p.1:=by rw[<-hek];exact du (by rw[(cy _ _ _).1];omega)
  refine eu g10 (v:=m2.val) (w':=w1) (wU a10 Tryz.underlying76 Tryz.underlying3 rfl rfl e55 e56 hrm q6) ?_
  rw[b10]
  generalize hA4:((A3.put (some 55) (.map (some rr))).put (some 56) e.key).put (some 57) m2.val=A4
  have s4:A4.tmps.size=n:=by rw[<-hA4,(cy _ _ _).1,(cy _ _ _).1,(cy _ _ _).1];exact s3
  have d4:A4.defers=[]:=by rw[<-hA4,(cy _ _ _).2,(cy _ _ _).2,(cy _ _ _).2];exact d3
  have r4:A4.eval (.tmp 50)= .pointer (some ⟨it,0,none⟩):=by rw[<-hA4,dL (by decide),dL (by decide),dL (by decide)];exact r3
  have k57:A4.eval (.tmp 57)=m2.val:=by rw[<-hA4];exact du (by rw[(cy _ _ _).1,(cy _ _ _).1];omega)
  have f4:FR ⟨ρ,bw H',U,w1,M0⟩ fr A4.tmps:=by rw[<-hA4];exact oO hfree f3 [(55, .map (some rr)),(56,e.key),(57,m2.val)] (by simp[tR])
  clear hA4
  have hI4:yh L S mb nx lo n fr H w0 M0 c0 V H' ρ U (seen.push e.born) rr ms clk it A4 w1:=⟨s4,d4,hI.rows,hI.rest,hI.names,sim1,f4,trk1,hI.at_,hrm,hI.born,ent1,hi1,r4,hI.low,hI.O6⟩
  have hrunS:(execOp A4.eval o11).run Tryz.prog w1= .ok (.enter 40 #[m2.val]) w1:=by
   unfold execOp
   simp only[a11,resolve,Sem.run_bind,Sem.run_pure,Result.andThen_ok,List.map_toArray,List.map_cons,List.map_nil,k57]
   obtain⟨fn,e1,e3,e2,_,_⟩:=UW.ok
   cases hcode:fn.body with
   |none=>rw[hcode] at e2;cases e2
   |some code=>
   change (Tryz.prog).funcs[40]?=some fn at e1
   simp only[Act.eval,Sem.run_bind,Deferred.ofValue,Sem.run_pure,Result.andThen_ok,invoke,callFunc,run_program,e1,e3,hcode,Bool.false_eq_true,if_false,Option.isNone_some]
   rfl
  refine wpList_plain g11 fun K hK=> ?_
  unfold Oper.wp
  rw[hrunS,Oper.upon_enter]
  refine(hI4.sorted hfree hb hk hmb ⟨dm,hmap'⟩ hS hp q5 s4 d4 f4 r4).mono ?_
  rintro en w' ⟨rfl,hu⟩
  refine hK _ _ (wpList_nil ?_)
  obtain⟨H2,hI5⟩:=hu (.tuple #[])
  rw[b11]
  show ∃m',m'<_/\_
  refine⟨_,EM he,p.1::V,H2,ρ,U,seen.push e.born,ms,clk,it,hI5,fun m hm hs=> ?_,rfl⟩
  rw[contains_push] at hs
  rcases(Bool.or_eq_true _ _).mp hs with hs|hs
  ·obtain⟨k,hk1,hk2⟩:=hgot m hm hs
   exact⟨k,List.mem_cons_of_mem _ hk1,hk2⟩
  ·have:=born_inj hI.born.2 hm hem (by simpa using hs)
   exact⟨p.1,by simp,by rw[this];exact hek⟩
end Go.Proofs.YtjopoheligmmoaaGreatDoor
namespace Go.Proofs.YtjopoheligmmoaaGreatDoor
open Go Go.cp Go.Proofs
set_option linter.unusedSimpArgs false
set_option linter.unusedVariables false
set_option maxRecDepth 8000
def tN (x:Int):List Int->Nat->Int
 |[],_=>-1
 |y::r,i=>if x=y then(i:Int) else tN x r (i+1)
theorem x8 (x:Int):∀(l:List Int) (i:Nat),0<=tN x l i↔x∈l
 |[],i=>by simp[tN]
 |y::r,i=>by
  rw[tN,List.mem_cons]
  split
  ·rename_i e;exact⟨fun _=> .inl e,fun _=>by omega⟩
  ·rename_i e
   rw[x8 x r]
   exact⟨.inr,fun h=>h.resolve_left e⟩
theorem EF {x:Int} {l:List Int} {i:Nat} (h:i<l.length):tN x (l.drop i) i=if x=l.getD i 0 then(i:Int) else tN x (l.drop (i+1)) (i+1):=by
 rw[List.drop_eq_getElem_cons h,tN]
 simp[List.getD,h]
theorem xb (l:List Int) (x:Int) (hl:l.length<9223372036854775807):Pure Tryz.prog 80 [cL l,i64 x] (fun r=>r=i64 (tN x l 0)):=by
 refine aG VJ rfl ?_
 have a0:(l.map i64).length=l.length:=by simp
 refine cV ?_
 refine aL (fun i:Nat=>[(0,cL l),(1,i64 x),(7,i64 l.length),(8,i64 i)]) (fun i H n=>i<=l.length/\tN x (l.drop i) i=tN x l 0) (fun i=>l.length - i) 0 (by rw[List.length_map];exact cI) ⟨Nat.zero_le _,rfl⟩ ?_
 rintro i H n ⟨hi,hx⟩
 by_cases hil:i<l.length
 ·have e0:∀d,(l.map i64).getD ((i:Int)).toNat d=i64 (l.getD i 0):=fun d=>ints_at hil d
  rw[EF hil] at hx
  by_cases he:x=l.getD i 0
  ·have r0:=decide_eq_true he
   rw[if_pos he] at hx
   rw[<-hx]
   refine cV ?_
   first|exact rfl|trivial
  ·have r0:=decide_eq_false he
   rw[if_neg he] at hx
   refine cV ?_
   exact⟨i+1,by omega,cI,by omega,hx⟩
 ·obtain rfl:i=l.length:=by omega
  rw[List.drop_length] at hx
  rw[<-hx]
  refine cV ?_
  first|exact rfl|trivial
theorem jl (l:List Int) (x:Int) (hl:l.length<9223372036854775807):Pure Tryz.prog 39 [cL l,i64 x] (fun r=>r=bl (decide (x∈l))):=by
 have c0:=xb l x hl
 refine aG UU rfl ?_
 refine cV ?_
 refine ez ?_
 rw[decide_eq_decide]
 exact x8 x l 0
def IX (ks:List Int):List AV:=ks.map fun k=>mz (.int .i64 k) (i64 1)
theorem qn:∀(ks:List Int) (x:Int) (i:Nat),eZ false (.int .i64 x) (IX ks) i=some (if x∈ks then some (i+ks.idxOf x,i64 1) else none)
 |[],x,i=>by simp[IX,eZ]
 |k::r,x,i=>by
  show eZ false (.int .i64 x) (mz (.int .i64 k) (i64 1)::IX r) i=_
  by_cases e:x=k
  ·subst e;simp[eZ,mz,rl,zk]
  ·have e2:¬k=x:=fun h=>e h.symm
   simp only[eZ,mz,rl,zk,if_true,decide_eq_false e]
   rw[qn r x (i+1)]
   simp only[List.mem_cons,e,false_or,List.idxOf_cons,beq_eq_false_iff_ne.2 e2,cond_false]
   split
   ·simp;omega
   ·rfl
theorem OY (ks:List Int) (x:Int) (h:x∈ks):mA false (.int .i64 x) (IX ks) (i64 0)=some (i64 1,true):=by
 unfold mA;rw[qn,if_pos h]
theorem LS (ks:List Int) (x:Int) (h:x∉ks):mA false (.int .i64 x) (IX ks) (i64 0)=some (i64 0,false):=by
 unfold mA;rw[qn,if_neg h]
theorem OZ (ks:List Int) (x:Int) (h:x∉ks):oc false (.int .i64 x) (IX ks) (i64 1)=some (IX (ks++[x])):=by
 unfold oc;rw[qn,if_neg h]
 simp[IX,mz]
theorem pj {S:Int->List Int}:∀(L:List (Int×Nat)) (x:Int) (i:Nat),x∉L.map (·.1)->eZ false (.int .i64 x) (eV L S) i=some none
 |[],x,i,_=>rfl
 |p::r,x,i,h=>by
  rw[List.map_cons,List.mem_cons,not_or] at h
  show eZ false (.int .i64 x) (mz (.int .i64 p.1) (.sl p.2 (S p.1).length)::eV r S) i=_
  simp only[eZ,mz,rl,zk,if_true,decide_eq_false h.1]
  exact pj r x (i+1) h.2
theorem ua {S:Int->List Int} {L:List (Int×Nat)} {x:Int} (z:AV) (h:x∉L.map (·.1)):mA false (.int .i64 x) (eV L S) z=some (z,false):=by
 unfold mA;rw[pj L x 0 h]
theorem xh {S:Int->List Int} {L:List (Int×Nat)} {p:Int×Nat} (z:AV) (hp:p∈L) (hk:(L.map (·.1)).Nodup):mA false (.int .i64 p.1) (eV L S) z=some (.sl p.2 (S p.1).length,true):=by
 obtain⟨j,hj⟩:=ni (S:=S) L 0 p hp hk
 unfold mA;rw[hj]
structure pQ (mb:Nat) (L:List (Int×Nat)) (S:Int->List Int) (H:Hp):Prop where
 map:∃d,bw H mb=some (.row 3 0 d (mapA (eV L S)))
 row:∀p∈L,∃d,bw H p.2=some (.row 3 1 d ((S p.1).map i64))
 keys:(L.map (·.1)).Nodup
def lQ (L:List (Int×Nat)) (S:Int->List Int) (x:Int):List Int:=if x∈L.map (·.1) then S x else[]
theorem pQ.cT {mb:Nat} {L:List (Int×Nat)} {S:Int->List Int} {H H':Hp} (h:pQ mb L S H) {nx:Nat} (hmb:mb<nx) (hids:∀p∈L,p.2<nx) (hk:∀y,y<nx->bw H' y=bw H y):pQ mb L S H':=
 ⟨by obtain⟨d,hd⟩:=h.map;exact⟨d,(hk mb hmb).trans hd⟩,fun p hp=>by obtain⟨d,hd⟩:=h.row p hp;exact⟨d,(hk _ (hids p hp)).trans hd⟩,h.keys⟩
abbrev mO.av (e:mO):AV:= .agg [i64 e.at_,i64 e.from_]
def nM (R:Option (List Int)) (nx k:Nat) (r:AV) (H:Hp):Prop:=match R with
 |none=>r= .sc (.slice none 0 0)
 |some w=>∃b d,nx<=b/\b<k/\r= .sl b w.length/\bw H b=some (.row 3 1 d (w.map i64))
theorem GW {l:List mO} (hp:0<l.length) (e:mO):(hP (l++[e])).tail=(hP l).tail++[e.at_]:=by
 cases l with
 |nil=>simp at hp
 |cons a r=>simp[hP]
theorem KS {l:List mO} {first x:Int} (hp:0<l.length) (h0:l.getD 0 default=⟨first,-1,0⟩) (hx:x≠first):x∈(hP l).tail↔x∈hP l:=by
 cases l with
 |nil=>simp at hp
 |cons a r=>
  have:a=⟨first,-1,0⟩:=by simpa[List.getD] using h0
  subst this
  simp[hP,hx]
theorem HB {lead:Int->List Int} {first:Int} {k:Nat} {l:List mO} (h:jW lead first k l):∀i,i<l.length->(l.getD i default).dep<=i:=by
 intro i
 induction i using Nat.strongRecOn with
 |_ i ih=>
  intro hi
  by_cases h0:i=0
  ·subst h0;rw[h.zero];exact Nat.le_refl _
  ·obtain⟨p,h1,_,_,_,h5⟩:=h.par i (by omega) hi
   have:=ih p h1 (by omega)
   omega
set_option maxHeartbeats 4000000 in
theorem nK {mb nx n:Nat} {L:List (Int×Nat)} {S:Int->List Int} {H0:Hp} (hL:pQ mb L S H0) (hmb:mb<nx) (hids:∀p∈L,p.2<nx) (hin:∀x,∀y∈lQ L S x,0<=y/\y<n) (hn:n<=16) (hS:∀x,(S x).length<=16) {first:Int} (hf:0<=first/\first<n):
 cO Tryz.prog 41 [.mp mb,i64 first] H0 nx (fun r H k=>nx<=k/\(∀y,y<nx->bw H y=bw H0 y)/\nM (q9 (lQ L S) n first) nx k r H):=by
 refine aJ UX rfl ?_
 refine cV ?_
 refine aL (fun σ:Nat×List mO=>[(0, .mp mb),(1,i64 first),(5, .sl (nx+3) σ.2.length),(6, .mp (nx+5)),(7,i64 σ.1)])
  (fun σ H k=>σ.1<=n/\jW (lQ L S) first σ.1 σ.2/\(∀x∈hP σ.2,0<=x/\x<n)/\wh (lQ L S) first (n+1 - σ.1) σ.1 σ.2=q9 (lQ L S) n first/\nx+6<=k/\(∃d,bw H (nx+3)=some (.row 144 2 d (σ.2.map mO.av)))/\(∃d,bw H (nx+5)=some (.row 3 0 d (mapA (IX (hP σ.2).tail))))/\∀y,y<nx->bw H y=bw H0 y) (fun σ=>n+1 - σ.1) (0,[⟨first,-1,0⟩])
  cI ⟨Nat.zero_le _,jW.start _ _,fun x hx=>by simp only[hP,List.map_cons,List.map_nil,List.mem_cons,List.not_mem_nil,or_false] at hx;rw[hx];exact hf,rfl,ca,⟨_,cA⟩,⟨_,cA⟩,fun y hy=>cB⟩ ?_
 rintro⟨k,l⟩ H m ⟨hkn,hI,hat,hB,hm,⟨d1,r1⟩,⟨d2,r2⟩,hkeep⟩
 dsimp only at hkn hI hat hB r1 r2 ⊢
 have hlen:=gG n _ hI.nd hat
 rw[List.length_map] at hlen
 have a0:(l.map mO.av).length=l.length:=List.length_map _
 rw[show n+1 - k=(n - k)+1 by omega,wh] at hB
 by_cases hkl:k<l.length
 ·rw[if_pos hkl] at hB
  have e0:∀d,(l.map mO.av).getD ((k:Int)).toNat d= .agg [i64 (l.getD k default).at_,i64 (l.getD k default).from_]:=fun d=>by rw[Int.toNat_natCast];exact dJ mO.av l k d hkl
  have hL1:=hL.cT hmb hids hkeep
  obtain⟨d3,r3⟩:=hL1.map
  by_cases hx:(l.getD k default).at_∈L.map (·.1)
  ·obtain⟨p,hp,hpe⟩:=List.mem_map.1 hx
   have g0:=xh (S:=S) (.sc (.slice none 0 0)) hp hL1.keys
   obtain⟨d4,r4⟩:=hL1.row p hp
   rw[hpe] at g0 r4
   have hlead:lQ L S (l.getD k default).at_=S (l.getD k default).at_:=if_pos hx
   rw[hlead] at hB
   have hSx:=hS (l.getD k default).at_
   have hinx:=hin (l.getD k default).at_
   rw[hlead] at hinx
   have hpn:=hids p hp
   have a1:((S (l.getD k default).at_).map i64).length=(S (l.getD k default).at_).length:=List.length_map _
   refine cV ?_
   clear e0 g0 r3
   generalize hxs:S (l.getD k default).at_=xs at *
   refine aL (fun σ:Nat×List mO=>[(0, .mp mb),(1,i64 first),(5, .sl (nx+3) σ.2.length),(6, .mp (nx+5)),(7,i64 k),(28, .sl p.2 xs.length),(29,i64 xs.length),(30,i64 σ.1)])
    (fun σ H2 m2=>σ.1<=xs.length/\jW (lQ L S) first k σ.2/\l<+:σ.2/\(∀x∈hP σ.2,0<=x/\x<n)/\CV first k (l.getD k default).dep (xs.drop σ.1) σ.2=CV first k (l.getD k default).dep xs l/\m<=m2/\(∃d,bw H2 (nx+3)=some (.row 144 2 d (σ.2.map mO.av)))/\(∃d,bw H2 (nx+5)=some (.row 3 0 d (mapA (IX (hP σ.2).tail))))/\(∃d,bw H2 p.2=some (.row 3 1 d (xs.map i64)))/\∀y,y<nx->bw H2 y=bw H0 y) (fun σ=>xs.length - σ.1) (0,l)
    cI ⟨Nat.zero_le _,hI,List.prefix_refl _,hat,rfl,ca,⟨_,cA⟩,⟨_,cA⟩,⟨_,cA⟩,fun y hy=>Eq.trans cB (hkeep y hy)⟩ ?_
   clear r1 r2 r4 a0
   rintro⟨j,l2⟩ H2 m2 ⟨hj,hI2,hpre,hat2,hT,hm2,⟨d1,r1⟩,⟨d2,r2⟩,⟨d4,r4⟩,hkeep2⟩
   dsimp only at hj hI2 hpre hat2 hT r1 r2 ⊢
   have hlen2:=gG n _ hI2.nd hat2
   rw[List.length_map] at hlen2
   have hp2:=hI2.pos
   have hkl2:k<l2.length:=Nat.lt_of_lt_of_le hkl hpre.length_le
   have hgk:=jq (d:=default) hpre hkl
   have a0:(l2.map mO.av).length=l2.length:=List.length_map _
   by_cases hjl:j<xs.length
   ·have e0:∀d,(xs.map i64).getD ((j:Int)).toNat d=i64 (xs.getD j 0):=fun d=>ints_at hjl d
    rw[List.drop_eq_getElem_cons hjl,show xs[j]=xs.getD j 0 by simp[List.getD,hjl],CV] at hT
    have hxm:=hinx (xs.getD j 0) (cS 0 hjl)
    have hxl:xs.getD j 0∈lQ L S (l2.getD k default).at_:=by rw[hgk,hlead];exact cS 0 hjl
    generalize xs.getD j 0=x at *
    by_cases hxf:x=first
    ·rw[if_pos hxf] at hT
     rw[<-hT] at hB
     dsimp only at hB
     have r0:=decide_eq_true hxf
     refine cV ?_
     clear e0 r0 r2 r4
     have hfrom:∀i,i<l.length->(l.getD i default).from_<l.length:=fun i hi=>by
      by_cases h0:i=0
      ·subst h0;rw[hI.zero];show(-1:Int)<_;omega
      ·obtain⟨q,q1,q2,q3,_⟩:=hI.par i (by omega) hi
       rw[q3];omega
     have hR:nM (q9 (lQ L S) n first) nx=nM (some (pJ l k)) nx:=by rw[hB]
     rw[hR]
     have hup:tD l2 (k+1) k=tD l (k+1) k:=CX hpre (k+1) k (by omega) hfrom
     have hwl:=(J8 hI k hkl).len
     refine aU (fun σ:Int×List Int=>[(5, .sl (nx+3) l2.length),(10, .sl (m2+10) σ.2.length),(11,i64 σ.1)])
      (fun σ H3 m3=>((σ.1=-1/\σ.2=tD l2 (k+1) k)\/∃i:Nat,σ.1=i/\i<=k/\σ.2++tD l2 (i+1) i=tD l2 (k+1) k)/\m2+11<=m3/\(∃d,bw H3 (nx+3)=some (.row 144 2 d (l2.map mO.av)))/\(∃d,bw H3 (m2+10)=some (.row 3 1 d (σ.2.map i64)))/\∀y,y<nx->bw H3 y=bw H0 y) (fun σ=>(σ.1+1).toNat) (k,[])
      ⟨_,_,_,Rt.nil 10 3 1 (by omega) rfl,cI, .inr ⟨k,rfl,Nat.le_refl _,rfl⟩,ca,⟨_,cA⟩,⟨_,cA⟩,fun y hy=>Eq.trans cB (hkeep2 y hy)⟩ ?_
     clear r1
     rintro⟨at_,out⟩ H3 m3 ⟨hcase,hm3,⟨d1,r1⟩,⟨d5,r5⟩,hkeep3⟩
     dsimp only at hcase r5 ⊢
     rcases hcase with⟨rfl,hout⟩|⟨i,rfl,hik,hout⟩
     ·have hol:out.length<=1048576:=by
       have h1:=hwl
       unfold pJ at h1
       rw[List.length_reverse] at h1
       rw[hout,hup,h1]
       have:=hI.mono k k (Nat.le_refl _) hkl
       have hd:(l.getD k default).dep<=k:=HB hI k hkl
       omega
      refine cV ?_
      refine aI (oz (b:=m2+10) (l:=out) ?_ hol ⟨d5, ?_⟩) ?_
      ·exact ca
      ·exact cA
      rintro _ H4 m4 ⟨⟨d6,r6⟩,hm4,hkeep4⟩
      refine cV ?_
      have hw:pJ l k=out.reverse:=by unfold pJ;rw[hout,hup]
      rw[hw]
      refine⟨⟨?_,fun y hy=> ?_,m2+10,d6,by omega, ?_,by rw[List.length_reverse],cA⟩⟩
      ·exact ca
      ·refine Eq.trans cB (Eq.trans (hkeep4 y ?_ (by omega)) (Eq.trans cB (hkeep3 y hy)))
       exact ca
      ·exact ca
     ·have hil:i<l2.length:=by omega
      have e0:∀d,(l2.map mO.av).getD ((i:Int)).toNat d= .agg [i64 (l2.getD i default).at_,i64 (l2.getD i default).from_]:=fun d=>by rw[Int.toNat_natCast];exact dJ mO.av l2 i d hil
      have hge:(0:Int)<=i:=by omega
      have hol:out.length<=1048576:=by
       have h1:=congrArg List.length hout
       have h2:=hwl
       unfold pJ at h2
       rw[List.length_reverse] at h2
       rw[hup,h2,List.length_append] at h1
       have hd:(l.getD k default).dep<=k:=HB hI k hkl
       omega
      have a1:(out.map i64).length=out.length:=List.length_map _
      rw[tD,if_neg (by omega),Int.toNat_natCast] at hout
      by_cases h0:i=0
      ·subst h0
       have hz:=hI2.zero
       rw[hz] at e0 hout
       dsimp only at e0 hout
       rw[tD] at hout
       refine cV ?_
       exact⟨(-1,out++[first]),by dsimp only;omega,_,_,_,Rt.refl _ _ _,by rw[List.length_append];exact cI, .inl ⟨rfl,hout⟩,ca,⟨_,cA⟩,⟨_,by dsimp only;rw[List.map_append];exact cA⟩,fun y hy=>Eq.trans cB (hkeep3 y hy)⟩
      ·obtain⟨q,q1,q2,q3,_⟩:=hI2.par i (by omega) hil
       rw[q3,y8 hI2 q (by omega) i q1] at hout
       rw[q3] at e0
       refine cV ?_
       exact⟨((q:Int),out++[(l2.getD i default).at_]),by dsimp only;omega,_,_,_,Rt.refl _ _ _,by rw[List.length_append];exact cI, .inr ⟨q,rfl,by omega,by dsimp only;rw[List.append_assoc];exact hout⟩,ca,⟨_,cA⟩,⟨_,by dsimp only;rw[List.map_append];exact cA⟩,fun y hy=>Eq.trans cB (hkeep3 y hy)⟩
    ·rw[if_neg hxf] at hT
     have r0:=decide_eq_false hxf
     have hmem:=KS hp2 hI2.zero hxf
     by_cases hin2:x∈hP l2
     ·rw[if_pos hin2] at hT
      have g0:=OY (hP l2).tail x (hmem.2 hin2)
      refine cV ?_
      exact⟨(j+1,l2),by dsimp only;omega,cI,by dsimp only;omega,hI2,hpre,hat2,hT,ca,⟨_,cA⟩,⟨_,cA⟩,⟨_,cA⟩,fun y hy=>Eq.trans cB (hkeep2 y hy)⟩
     ·rw[if_neg hin2] at hT
      have hnm:=mt hmem.1 hin2
      have g0:=LS (hP l2).tail x hnm
      have g1:=OZ (hP l2).tail x hnm
      have hadd:=hI2.add hkl2 hxl hxf hin2
      rw[hgk] at hadd
      refine cV ?_
      refine⟨(j+1,l2++[⟨x,k,(l.getD k default).dep+1⟩]),by dsimp only;omega, ?_,by dsimp only;omega,hadd,hpre.trans (List.prefix_append _ _),fun y hy=> ?_,hT,ca, ?_, ?_,⟨_,cA⟩,fun y hy=>Eq.trans cB (hkeep2 y hy)⟩
      ·rw[List.length_append];exact cI
      ·unfold hP at hy
       rw[List.map_append] at hy
       rcases List.mem_append.1 hy with hy|hy
       ·exact hat2 y hy
       ·simp only[List.map_cons,List.map_nil,List.mem_cons,List.not_mem_nil,or_false] at hy
        rw[hy];exact hxm
      ·rw[List.map_append];exact⟨_,cA⟩
      ·rw[GW hp2];exact⟨_,cA⟩
   ·obtain rfl:j=xs.length:=by omega
    rw[List.drop_length,CV] at hT
    rw[<-hT] at hB
    dsimp only at hB
    refine cV ?_
    exact⟨(k+1,l2),by dsimp only;omega,cI,by dsimp only;omega,hI2.on,hat2,by dsimp only;rw[show n+1 - (k+1)=n - k by omega];exact hB,ca,⟨_,cA⟩,⟨_,cA⟩,fun y hy=>Eq.trans cB (hkeep2 y hy)⟩
  ·have g0:=ua (S:=S) (.sc (.slice none 0 0)) hx
   have hlead:lQ L S (l.getD k default).at_=[]:=if_neg hx
   rw[hlead,CV] at hB
   dsimp only at hB
   refine cV ?_
   refine aL (fun _:Nat=>[(0, .mp mb),(1,i64 first),(5, .sl (nx+3) l.length),(6, .mp (nx+5)),(7,i64 k),(29,i64 0),(30,i64 0)])
    (fun _ H2 m2=>m<=m2/\(∃d,bw H2 (nx+3)=some (.row 144 2 d (l.map mO.av)))/\(∃d,bw H2 (nx+5)=some (.row 3 0 d (mapA (IX (hP l).tail))))/\∀y,y<nx->bw H2 y=bw H0 y) (fun _=>0) 0
    cI ⟨ca,⟨_,cA⟩,⟨_,cA⟩,fun y hy=>Eq.trans cB (hkeep y hy)⟩ ?_
   clear r1 r2
   rintro _ H2 m2 ⟨hm2,⟨d1,r1⟩,⟨d2,r2⟩,hkeep2⟩
   refine cV ?_
   exact⟨(k+1,l),by dsimp only;omega,cI,by dsimp only;omega,hI.on,hat,by dsimp only;rw[show n+1 - (k+1)=n - k by omega];exact hB,ca,⟨_,cA⟩,⟨_,cA⟩,fun y hy=>Eq.trans cB (hkeep2 y hy)⟩
 ·rw[if_neg hkl] at hB
  refine cV ?_
  rw[<-hB]
  exact⟨⟨ca,fun y hy=>Eq.trans cB (hkeep y hy),rfl⟩⟩
end Go.Proofs.YtjopoheligmmoaaGreatDoor
namespace Go.cp
structure yg (P:Program) (n:Nat) (c:Code) where
 lc:LC
 ok:cq P n c=some lc
set_option maxRecDepth 100000 in
def ES {P:Program} {n:Nat} {c:Code} {lc:LC}
 (h:cq P n c=some lc:=by with_unfolding_all conv=>lhs;(reduce;simp only[Int.reduceOfNat,Int.reduceNegSucc])):yg P n c:=⟨lc,h⟩
end Go.cp
namespace Go.Proofs.YtjopoheligmmoaaGreatDoor
open Go Go.cp Go.Proofs
set_option linter.unusedSimpArgs false
set_option linter.unusedVariables false
set_option maxRecDepth 100000
set_option maxRecDepth 8000
noncomputable def TE:Nat:=(Tryz.f15).ntmps
theorem JQ:TE=86:=by kernel_rfl
noncomputable def WJ:yg Tryz.prog 86 (Code.l iU):=ES
noncomputable def WK:yg Tryz.prog 86 (Code.l (Code.r iU)):=ES
noncomputable def WM:yg Tryz.prog 86 (Code.l (Code.r (Code.r iU))):=ES
noncomputable def WN:yg Tryz.prog 86 (Code.l (Code.r (Code.r (Code.r iU)))):=ES
noncomputable def WO:yg Tryz.prog 86 (Code.l (Code.r (Code.r (Code.r (Code.r iU))))):=ES
noncomputable def WQ:yg Tryz.prog 86 (Code.r (Code.r (Code.r (Code.r (Code.r (Code.r iU)))))):=ES
theorem FD:iU= .seq (Code.l iU) (.seq (Code.l (Code.r iU)) (.seq (Code.l (Code.r (Code.r iU))) (.seq (Code.l (Code.r (Code.r (Code.r iU)))) (.seq (Code.l (Code.r (Code.r (Code.r (Code.r iU))))) (.seq TG (Code.r (Code.r (Code.r (Code.r (Code.r (Code.r iU))))))))))):=by kernel_rfl
def jD (es:List eU) (h:Int):List Int:=es.foldl (fun a e=>if e.held=h/\e.taken∉a then a++[e.taken] else a) []
theorem pS (es:List eU) (e:eU) (h:Int):jD (es++[e]) h=if e.held=h/\e.taken∉jD es h then jD es h++[e.taken] else jD es h:=by unfold jD;rw[List.foldl_append];rfl
theorem w6 {h x:Int}:∀(es:List eU),x∈jD es h↔∃e∈es,e.held=h/\e.taken=x:=by
 intro es
 induction es using xk with
 |h0=>simp[jD]
 |h1 l e ih=>
  rw[pS]
  constructor
  ·intro hx
   split at hx
   ·rename_i hc
    rcases List.mem_append.1 hx with hx|hx
    ·obtain⟨y,hy,h1⟩:=ih.1 hx
     exact⟨y,List.mem_append_left _ hy,h1⟩
    ·simp only[List.mem_cons,List.not_mem_nil,or_false] at hx
     exact⟨e,by simp,hc.1,hx.symm⟩
   ·obtain⟨y,hy,h1⟩:=ih.1 hx
    exact⟨y,List.mem_append_left _ hy,h1⟩
  ·rintro⟨y,hy,h1,h2⟩
   rcases List.mem_append.1 hy with hy|hy
   ·have:=ih.2 ⟨y,hy,h1,h2⟩
    split
    ·exact List.mem_append_left _ this
    ·exact this
   ·simp only[List.mem_cons,List.not_mem_nil,or_false] at hy
    subst hy
    by_cases hm:y.taken∈jD l h
    ·rw[if_neg fun c=>c.2 hm,<-h2];exact hm
    ·rw[if_pos ⟨h1,hm⟩,h2];simp
theorem ym {h:Int}:∀(es:List eU),(jD es h).Nodup:=by
 intro es
 induction es using xk with
 |h0=>exact List.nodup_nil
 |h1 l e ih=>
  rw[pS]
  split
  ·rename_i hc
   refine List.nodup_append.2 ⟨ih,by simp,fun a ha b hb=> ?_⟩
   simp only[List.mem_cons,List.not_mem_nil,or_false] at hb
   subst hb
   exact fun e=>hc.2 (e▸ha)
  ·exact ih
theorem BR {u:bx} (hr:cW u) {es:List eU} (hes:∀e∈es,e∈dS u) (h:Int):(jD es h).length<=16:=by
 have:=gG u.cG.length _ (ym es (h:=h)) fun x hx=>by
  obtain⟨e,he,_,rfl⟩:=(w6 es).1 hx
  exact(xC hr (hes e he)).2
 have:=hr.qa.2.1
 omega
theorem xi {S S':Int->List Int}:∀(L:List (Int×Nat)) (i:Nat) (p:Int×Nat),p∈L->(L.map (·.1)).Nodup->(∀x,x≠p.1->S' x=S x)->∃j,eZ false (.int .i64 p.1) (eV L S) i=some (some (i+j, .sl p.2 (S p.1).length))/\(eV L S).set j (.dO [.sc (.int .i64 p.1), .sl p.2 (S' p.1).length])=eV L S'
 |[],i,p,h,_,_=>by cases h
 |q::r,i,p,h,hn,hS=>by
  rw[List.map_cons,List.nodup_cons] at hn
  have e1:eV (q::r) S=mz (.int .i64 q.1) (.sl q.2 (S q.1).length)::eV r S:=rfl
  have e2:eV (q::r) S'=mz (.int .i64 q.1) (.sl q.2 (S' q.1).length)::eV r S':=rfl
  rw[e1,e2]
  rcases List.mem_cons.1 h with rfl|h
  ·refine⟨0,by simp[eZ,rl,mz,zk], ?_⟩
   rw[List.set_cons_zero]
   congr 1
   unfold eV
   refine List.map_congr_left fun q hq=> ?_
   rw[hS q.1 fun e=>hn.1 (by rw[<-e];exact List.mem_map.2 ⟨q,hq,rfl⟩)]
  ·have hne:p.1≠q.1:=fun e=>hn.1 (by rw[<-e];exact List.mem_map.2 ⟨p,h,rfl⟩)
   obtain⟨j,hj,hs⟩:=xi r (i+1) p h hn.2 hS
   refine⟨j+1, ?_, ?_⟩
   ·simp only[eZ,rl,mz,zk,if_true,decide_eq_false hne]
    rw[hj]
    simp;omega
   ·rw[List.set_cons_succ,hs,hS q.1 hne.symm]
theorem vq {S S':Int->List Int} {L:List (Int×Nat)} {p:Int×Nat} (hp:p∈L) (hk:(L.map (·.1)).Nodup) (hS:∀x,x≠p.1->S' x=S x):oc false (.int .i64 p.1) (eV L S) (.sl p.2 (S' p.1).length)=some (eV L S'):=by
 obtain⟨j,hj,hs⟩:=xi L 0 p hp hk hS
 unfold oc
 rw[hj]
 simp only[Nat.zero_add]
 rw[hs]
theorem vp {S S':Int->List Int} {L:List (Int×Nat)} {x:Int} (b:Nat) (hx:x∉L.map (·.1)) (hS:∀y,y≠x->S' y=S y):oc false (.int .i64 x) (eV L S) (.sl b (S' x).length)=some (eV (L++[(x,b)]) S'):=by
 unfold oc
 rw[pj L x 0 hx]
 simp only[eV,List.map_append,List.map_cons,List.map_nil,Option.some.injEq]
 congr 1
 refine List.map_congr_left fun q hq=> ?_
 rw[hS q.1 fun e=>hx (by rw[<-e];exact List.mem_map.2 ⟨q,hq,rfl⟩)]
def fc (u:bx) (h:Int):List Int:=eG (jD (dS u) h)
theorem EK {u:bx} {h x:Int}:x∈fc u h↔∃e∈dS u,e.held=h/\e.taken=x:=by unfold fc;rw[FJ,w6]
theorem IY {u:bx} (hr:cW u) (h:Int):∀x∈fc u h,0<=x/\x<u.cG.length:=fun x hx=>by
 obtain⟨e,he,_,rfl⟩:=EK.1 hx
 exact(xC hr he).2
def qX (u:bx):Option (List Int):=jE (fc u) u.cG.length u.cG.length
theorem _root_.Go.cp.WC.last {P:Program} {n lo:Nat} {fr:Fr} {H:Hp} {nx:Nat} {Q:QT} {code:Code} {lc:LC} (hl:cq P n code=some lc) (h:Go (W P n lo lc fr H nx Q)):WC P n lo code fr H nx Q:=WC.low hl (ew h)
theorem wG {a:AV} {H:Hp} {nx:Nat} {R:AV->Hp->Nat->Prop} (h:WC Tryz.prog 86 nx iU (jI 0 [a]) H nx (sd [.tmp 2, .tmp 3, .tmp 4] R)):cO Tryz.prog 15 [a] H nx R:=by
 have hn:(Tryz.f15).ntmps=86:=JQ
 refine cO.L3 Tryz.func15 (by kernel_rfl) (show _=some iU by kernel_rfl) (lrs:=[.tmp 2, .tmp 3, .tmp 4]) (by kernel_rfl) (by rw[hn];exact(by decide:1<=86)) ?_
 rw[hn]
 exact h
theorem contains_nil (x:Int):Pure Tryz.prog 39 [.sc (.slice none 0 0),i64 x] (fun r=>r=bl false):=
 Pure.args (jl [] x (by decide)) fun c=> .cons (cp.dN.lU c c 1 .any) (.cons (fun _ h=>h) .nil)
theorem CZ {H:Hp} {b:Nat} {e:TypeId} {d:AV} {l:List Int} (x:Int) (h:bw H b=some (.row e 1 d (l.map i64))):[AV.sl b l.length,i64 x].map (cp.dX H 6)=[cL l,i64 x]:=by
 show[cp.dX H 6 (.sl b l.length),i64 x]=_
 rw[dZ (k:=5) h (by simp),cx _ ((cD _ _).2 fun _ _=>by simp[cK])]
theorem E1 {L:List (Int×Nat)} (hb:(L.map (·.2)).Nodup) {p q:Int×Nat} (hp:p∈L) (hq:q∈L) (e:p.2=q.2):p=q:=by
 obtain⟨i,hi,rfl⟩:=List.getElem_of_mem hp
 obtain⟨j,hj,rfl⟩:=List.getElem_of_mem hq
 have:=(List.getElem_inj (xs:=L.map (·.2)) (h₀:=by simpa using hi) (h₁:=by simpa using hj) hb).1 (by simpa using e)
 subst this;rfl
theorem EZ {L:List (Int×Nat)} (hb:(L.map (·.1)).Nodup) {p q:Int×Nat} (hp:p∈L) (hq:q∈L) (e:p.1=q.1):p=q:=by
 obtain⟨i,hi,rfl⟩:=List.getElem_of_mem hp
 obtain⟨j,hj,rfl⟩:=List.getElem_of_mem hq
 have:=(List.getElem_inj (xs:=L.map (·.1)) (h₀:=by simpa using hi) (h₁:=by simpa using hj) hb).1 (by simpa using e)
 subst this;rfl
theorem zm {L:List (Int×Nat)} {S S':Int->List Int} (h:∀p∈L,(S' p.1).length=(S p.1).length):eV L S'=eV L S:=List.map_congr_left fun p hp=>by rw[h p hp]
def GD (u:bx) (r:AV) (H:Hp):Prop:=match qX u with
 |none=>r= .dO [.sc (.slice none 0 0),bl false,i64 0]
 |some w=>∃b d,r= .dO [.sl b w.length,bl true,i64 0]/\bw H b=some (.row 3 1 d (w.map i64))
set_option maxHeartbeats 4000000 in
theorem FC (u:bx) (hu:u.Wf) (hr:cW u):cO Tryz.prog 15 [u.av] [] 0 (fun r H n=>GD u r H):=by
 have c0:=ri u hu hr
 have hel:=p6 hr (Nat.le_refl u.bz.length)
 have hgl:=hr.qa.2.2
 have hle:=hr.qa.2.1
 change (dS u).length<=_ at hel
 refine wG ?_
 rw[FD]
 refine WC.cut WJ.ok ?_
 refine cV ?_
 refine⟨_,_,_,Rt.refl _ _ _,WC.cut WK.ok ?_⟩
 refine cV ?_
 refine⟨_,_,_,Rt.refl _ _ _,WC.cut WM.ok ?_⟩
 refine cV ?_
 refine⟨_,_,_,Rt.refl _ _ _,WC.cut WN.ok ?_⟩
 refine cV ?_
 refine⟨_,_,_,Rt.refl _ _ _,WC.cut WO.ok ?_⟩
 refine cV ?_
 simp only[List.length_map]
 clear c0
 have hR:∀r H,GD u r H=match jE (fc u) u.cG.length u.cG.length with
  |none=>r= .dO [.sc (.slice none 0 0),bl false,i64 0]
  |some w=>∃b d,r= .dO [.sl b w.length,bl true,i64 0]/\bw H b=some (.row 3 1 d (w.map i64)):=fun _ _=>rfl
 have hles:∀i h,(jD ((dS u).take i) h).length<=16:=fun i h=>BR hr (fun e he=>List.mem_of_mem_take he) h
 refine aL (fun σ:Nat×List (Int×Nat)=>[(1, .pt 0 1 0 0),(7, .mp 12),(23,v7 (dS u)),(24,i64 (dS u).length),(25,i64 σ.1)])
  (fun σ H n=>σ.1<=(dS u).length/\13<=n/\(∃d,bw H 0=some (.row 25 3 d [u.av]))/\pQ 12 σ.2 (jD ((dS u).take σ.1)) H/\(σ.2.map (·.2)).Nodup/\(∀p∈σ.2,13<=p.2/\p.2<n)/\∀h,h∈σ.2.map (·.1)↔jD ((dS u).take σ.1) h≠[]) (fun σ=>(dS u).length - σ.1) (0,[])
  cI ⟨Nat.zero_le _,ca,⟨_,cA⟩,⟨⟨_,cA⟩,(fun p hp=>by cases hp),List.nodup_nil⟩,List.nodup_nil,(fun p hp=>by cases hp),fun h=>by simp[jD]⟩ ?_
 rintro⟨i,L⟩ H n ⟨hi,hn,⟨d0,r0⟩,hL,hb,hids,hkeys⟩
 dsimp only at hi hL hb hids hkeys ⊢
 have a0:((dS u).map eU.av).length=(dS u).length:=List.length_map _
 obtain⟨d1,r1⟩:=hL.map
 by_cases hil:i<(dS u).length
 ·have e0:∀d,((dS u).map eU.av).getD ((i:Int)).toNat d=((dS u).getD i default).av:=fun d=>by rw[Int.toNat_natCast];exact dJ eU.av (dS u) i d hil
  have hsn:=fun h=>pS ((dS u).take i) ((dS u).getD i default) h
  rw[show(dS u).take i++[(dS u).getD i default]=(dS u).take (i+1) by rw[List.take_succ_eq_append_getElem hil];simp[List.getD,hil]] at hsn
  have hl1:=hles i
  have hl2:=hles (i+1)
  generalize (dS u).getD i default=e at *
  generalize h2:jD ((dS u).take (i+1))=S2 at *
  generalize jD ((dS u).take i)=S at *
  obtain⟨hd,tk,th,nd⟩:=e
  dsimp only at hsn
  by_cases hx:hd∈L.map (·.1)
  ·obtain⟨p,hp,hpe⟩:=List.mem_map.1 hx
   have g0:=xh (S:=S) (.sc (.slice none 0 0)) hp hL.keys
   obtain⟨d4,r4⟩:=hL.row p hp
   obtain⟨hp0,hp1⟩:=hids p hp
   rw[hpe] at g0 r4
   have hlS:=hl1 hd
   have hc:=jl (S hd) tk (by omega)
   refine cV ?_
   refine aS hc (CZ tk cA) (by simp only[c8,cK];exact⟨(cD _ _).2 fun _ _=>by simp[cK],trivial,trivial⟩) (by simp[fT]) ?_
   clear hc
   by_cases hm:tk∈S hd
   ·have r2:=decide_eq_true hm
    have hSS:S2=S:=funext fun h=>by rw[hsn,if_neg fun c=>c.2 (by rw[<-c.1];exact hm)]
    rw[hSS] at h2
    refine cV ?_
    refine⟨(i+1,L),by dsimp only;omega,cI,by dsimp only;omega,ca,⟨_,cA⟩, ?_,hb,fun q hq=>⟨(hids q hq).1,Nat.lt_of_lt_of_le (hids q hq).2 ca⟩, ?_⟩
    ·dsimp only
     rw[h2]
     refine⟨⟨_,cA⟩,fun q hq=> ?_,hL.keys⟩
     obtain⟨dq,rq⟩:=hL.row q hq
     have hq1:=hids q hq
     exact⟨dq,cA⟩
    ·dsimp only
     rw[h2]
     exact hkeys
   ·have r2:=decide_eq_false hm
    have hS2:∀x,x≠hd->S2 x=S x:=fun x hx=>by rw[hsn,if_neg fun c=>hx c.1.symm]
    have hS3:S2 hd=S hd++[tk]:=by rw[hsn,if_pos ⟨rfl,hm⟩]
    have g1:=vq (S:=S) (S':=S2) hp hL.keys (fun x hx=>hS2 x (by rw[<-hpe];exact hx))
    rw[hpe,hS3,List.length_append,List.length_singleton] at g1
    refine cV ?_
    refine⟨(i+1,L),by dsimp only;omega,cI,by dsimp only;omega,ca,⟨_,cA⟩, ?_,hb,fun q hq=>⟨(hids q hq).1,Nat.lt_of_lt_of_le (hids q hq).2 ca⟩, ?_⟩
    ·dsimp only
     rw[h2]
     refine⟨⟨_,cA⟩,fun q hq=> ?_,hL.keys⟩
     by_cases hqp:q=p
     ·subst hqp
      rw[hpe,hS3,List.map_append]
      exact⟨_,cA⟩
     ·obtain⟨dq,rq⟩:=hL.row q hq
      have hq1:=hids q hq
      have hq2:q.2≠p.2:=fun e=>hqp (E1 hb hq hp e)
      have hq3:q.1≠hd:=fun e=>hqp (EZ hL.keys hq hp (e.trans hpe.symm))
      rw[hS2 _ hq3]
      exact⟨dq,cA⟩
    ·dsimp only
     rw[h2]
     intro h
     by_cases e:h=hd
     ·rw[e,hS3]
      exact⟨fun _=>by simp,fun _=>hx⟩
     ·rw[hS2 h e];exact hkeys h
  ·have g0:=ua (S:=S) (.sc (.slice none 0 0)) hx
   have c0:=contains_nil tk
   have hS0:S hd=[]:=by
    have:=mt (hkeys hd).2 hx
    simpa using this
   have hS2:∀x,x≠hd->S2 x=S x:=fun x hx=>by rw[hsn,if_neg fun c=>hx c.1.symm]
   have hS3:S2 hd=[tk]:=by rw[hsn,hS0,if_pos ⟨rfl,by simp⟩];rfl
   have g1:=vp (S:=S) (S':=S2) (n+22) hx hS2
   rw[hS3,List.length_singleton] at g1
   refine cV ?_
   refine⟨(i+1,L++[(hd,n+22)]),by dsimp only;omega,cI,by dsimp only;omega,ca,⟨_,cA⟩, ?_, ?_,fun q hq=> ?_, ?_⟩
   ·dsimp only
    rw[h2]
    refine⟨⟨_,cA⟩,fun q hq=> ?_, ?_⟩
    ·rcases List.mem_append.1 hq with hq|hq
     ·obtain⟨dq,rq⟩:=hL.row q hq
      have hq1:=hids q hq
      have hq3:q.1≠hd:=fun e=>hx (by rw[<-e];exact List.mem_map.2 ⟨q,hq,rfl⟩)
      rw[hS2 _ hq3]
      exact⟨dq,cA⟩
     ·simp only[List.mem_cons,List.not_mem_nil,or_false] at hq
      subst hq
      dsimp only
      rw[hS3]
      exact⟨_,cA⟩
    ·rw[List.map_append]
     refine List.nodup_append.2 ⟨hL.keys,by simp,fun a ha b hb=> ?_⟩
     simp only[List.map_cons,List.map_nil,List.mem_cons,List.not_mem_nil,or_false] at hb
     subst hb
     exact fun e=>hx (e▸ha)
   ·dsimp only
    rw[List.map_append]
    refine List.nodup_append.2 ⟨hb,by simp,fun a ha b hb=> ?_⟩
    simp only[List.map_cons,List.map_nil,List.mem_cons,List.not_mem_nil,or_false] at hb
    subst hb
    obtain⟨q,hq,rfl⟩:=List.mem_map.1 ha
    have:=(hids q hq).2
    omega
   ·rcases List.mem_append.1 hq with hq|hq
    ·exact⟨(hids q hq).1,Nat.lt_of_lt_of_le (hids q hq).2 ca⟩
    ·simp only[List.mem_cons,List.not_mem_nil,or_false] at hq
     subst hq
     refine⟨by dsimp only;omega, ?_⟩
     exact ca
   ·dsimp only
    rw[h2]
    intro h
    rw[List.map_append,List.mem_append]
    by_cases e:h=hd
    ·rw[e,hS3];simp
    ·rw[hS2 h e,<-hkeys h];simp[e]
 ·obtain rfl:i=(dS u).length:=by omega
  rw[List.take_length] at hL hkeys r1
  refine cV ?_
  have hne:∀p∈L,jD (dS u) p.1≠[]:=fun p hp=>(hkeys p.1).1 (List.mem_map.2 ⟨p,hp,rfl⟩)
  have hls:∀h,(jD (dS u) h).length<=16:=fun h=>BR hr (fun e he=>he) h
  have h12:(12:Nat)∉L.map (·.2):=fun h=>by
   obtain⟨p,hp,e⟩:=List.mem_map.1 h
   have:=(hids p hp).1
   omega
  have h00:(0:Nat)∉L.map (·.2):=fun h=>by
   obtain⟨p,hp,e⟩:=List.mem_map.1 h
   have:=(hids p hp).1
   omega
  refine⟨[(1, .pt 0 1 0 0),(7, .mp 12)],_,_,Rt.less cI,WC.seq (PH (L:=L) (S:=jD (dS u)) FE (by decide) rfl (by simp[tR,cc]) hb hL.keys h12 ⟨_,cA⟩ (fun p hp=> ?_) (fun p hp=>⟨hne p hp,by have:=hls p.1;omega⟩) fun H' hrows hrest=> ?_)⟩
  ·obtain⟨dp,rp⟩:=hL.row p hp
   have:=hids p hp
   exact⟨dp,cA⟩
  have hL':pQ 12 L (fc u) H':=by
   refine⟨⟨d1, ?_⟩,hrows,hL.keys⟩
   rw[hrest 12 h12,show eV L (fc u)=eV L (jD (dS u)) from zm fun p _=>kX _]
   exact cA
  have hu0:∃d,bw H' 0=some (.row 25 3 d [u.av]):=⟨d0,by rw[hrest 0 h00];exact cA⟩
  have hlead:lQ L (fc u)=fc u:=by
   funext x
   unfold lQ
   split
   ·rfl
   ·rename_i hx
    have:=mt (hkeys x).2 hx
    simp only[ne_eq,Classical.not_not] at this
    unfold fc
    rw[this];simp[eG]
  have hin:=IY hr
  clear r0 r1 hrest hrows hL
  obtain⟨d0,r0⟩:=hu0
  show WC Tryz.prog 86 0 _ _ H' _ _
  refine WC.last WQ.ok ?_
  refine cV ?_
  simp only[List.length_map]
  have hids1:∀p∈L,p.2<n+1:=fun p hp=>Nat.lt_succ_of_lt (hids p hp).2
  refine aL (fun σ:Nat×AV=>[(1, .pt 0 1 0 0),(7, .mp 12),(11,σ.2),(61,i64 u.cG.length),(62,i64 σ.1)])
   (fun σ H2 n2=>σ.1<=u.cG.length/\n+1<=n2/\(∀y,y<n+1->bw H2 y=bw H' y)/\((jE (fc u) u.cG.length σ.1=none/\σ.2= .sc (.slice none 0 0))\/∃w b d,jE (fc u) u.cG.length σ.1=some w/\σ.2= .sl b w.length/\n+1<=b/\b<n2/\bw H2 b=some (.row 3 1 d (w.map i64)))) (fun σ=>u.cG.length - σ.1) (0, .sc (.slice none 0 0))
   cI ⟨Nat.zero_le _,ca,fun y hy=>cB, .inl ⟨rfl,rfl⟩⟩ ?_
  rintro⟨k,bA⟩ H2 n2 ⟨hk,hn2,hkeep,hbest⟩
  dsimp only at hk hbest ⊢
  have hL2:=hL'.cT (by omega:12<n+1) hids1 hkeep
  have r2:bw H2 0=some (.row 25 3 d0 [u.av]):=(hkeep 0 (by omega)).trans r0
  by_cases hkl:k<u.cG.length
  ·have hnx:=fun w hw=>((rK (lead:=fc u) (n:=u.cG.length) (first:=(k:Int)) hin ⟨by omega,by omega⟩).1 w hw)
   have hstep:jE (fc u) u.cG.length (k+1)=match q9 (fc u) u.cG.length (k:Int),jE (fc u) u.cG.length k with
    |none,b=>b
    |some l,none=>some l
    |some l,some b=>if l.length<b.length then some l else some b:=rfl
   rcases hbest with⟨hb0,rfl⟩|⟨w,b,d3,hb0,rfl,hb1,hb2,r3⟩
   ·rw[hb0] at hstep
    refine cV ?_
    refine aI (nK (n:=u.cG.length) (first:=(k:Int)) (hL2.cT (nx:=n2) (by omega) (fun p hp=>by have:=hids p hp;omega) fun y hy=>cB) ?_ ?_ (by rw[hlead];exact hin) hle (fun x=>by unfold fc;rw[kX];exact hls x) ⟨by omega,by omega⟩) ?_
    ·exact ca
    ·exact fun p hp=>Nat.lt_of_lt_of_le (hids p hp).2 ca
    rintro r H4 m4 ⟨hm4,hkeep4,hR4⟩
    rw[hlead] at hR4
    unfold nM at hR4
    cases hq:q9 (fc u) u.cG.length (k:Int) with
    |none=>
     rw[hq] at hR4 hstep
     dsimp only at hR4 hstep
     subst hR4
     refine cV ?_
     refine⟨(k+1, .sc (.slice none 0 0)),by dsimp only;omega,cI,by dsimp only;omega,ca,fun y hy=>Eq.trans cB (Eq.trans (hkeep4 y ?_) (Eq.trans cB (hkeep y hy))), .inl ⟨hstep,rfl⟩⟩
     exact Nat.lt_of_lt_of_le (Nat.lt_of_lt_of_le hy hn2) ca
    |some w=>
     rw[hq] at hR4 hstep
     dsimp only at hR4 hstep
     obtain⟨b,d4,hb1,hb2,rfl,r4⟩:=hR4
     obtain⟨_,hcy,_,hwin,_⟩:=hnx w hq
     have hwl:=hcy.pos
     refine cV ?_
     refine aW (vx cA ⟨by simp,hwl⟩) ?_
     refine cV ?_
     refine⟨(k+1, .sl b w.length),by dsimp only;omega,cI,by dsimp only;omega,ca,fun y hy=>Eq.trans cB (Eq.trans (hkeep4 y ?_) (Eq.trans cB (hkeep y hy))), .inr ⟨w,b,d4,hstep,rfl, ?_, ?_,cA⟩⟩
     ·exact Nat.lt_of_lt_of_le (Nat.lt_of_lt_of_le hy hn2) ca
     ·omega
     ·exact Nat.lt_of_lt_of_le hb2 ca
   ·rw[hb0] at hstep
    refine cV ?_
    refine aI (nK (n:=u.cG.length) (first:=(k:Int)) (hL2.cT (nx:=n2) (by omega) (fun p hp=>by have:=hids p hp;omega) fun y hy=>cB) ?_ ?_ (by rw[hlead];exact hin) hle (fun x=>by unfold fc;rw[kX];exact hls x) ⟨by omega,by omega⟩) ?_
    ·exact ca
    ·exact fun p hp=>Nat.lt_of_lt_of_le (Nat.lt_of_lt_of_le (hids1 p hp) hn2) ca
    rintro r H4 m4 ⟨hm4,hkeep4,hR4⟩
    rw[hlead] at hR4
    unfold nM at hR4
    have hb3:=hkeep4 b (Nat.lt_of_lt_of_le hb2 ca)
    have r5:bw H4 b=some (.row 3 1 d3 (w.map i64)):=hb3.trans cA
    clear hb3
    have hwl:0<w.length:=by
     obtain⟨f,hf,hbf,_⟩:=mS hb0
     exact(((rK (lead:=fc u) (n:=u.cG.length) (first:=(f:Int)) hin ⟨by omega,by omega⟩).1 w hbf).2.1).pos
    cases hq:q9 (fc u) u.cG.length (k:Int) with
    |none=>
     rw[hq] at hR4 hstep
     dsimp only at hR4 hstep
     subst hR4
     refine cV ?_
     refine⟨(k+1, .sl b w.length),by dsimp only;omega,cI,by dsimp only;omega,ca,fun y hy=>Eq.trans cB (Eq.trans (hkeep4 y ?_) (Eq.trans cB (hkeep y hy))), .inr ⟨w,b,d3,hstep,rfl,hb1, ?_,cA⟩⟩
     ·exact Nat.lt_of_lt_of_le (Nat.lt_of_lt_of_le hy hn2) ca
     ·exact Nat.lt_of_lt_of_le hb2 ca
    |some w2=>
     rw[hq] at hR4 hstep
     dsimp only at hR4 hstep
     obtain⟨b4,d4,hb4,hb5,rfl,r4⟩:=hR4
     obtain⟨_,hcy,_,hwin,_⟩:=hnx w2 hq
     have hwl2:=hcy.pos
     have a1:(w.map i64).length=w.length:=List.length_map _
     have a2:(w2.map i64).length=w2.length:=List.length_map _
     by_cases hlt:w2.length<w.length
     ·rw[if_pos hlt] at hstep
      have r6:=decide_eq_true (show((w2.length:Int))<w.length by omega)
      refine cV ?_
      refine⟨(k+1, .sl b4 w2.length),by dsimp only;omega,cI,by dsimp only;omega,ca,fun y hy=>Eq.trans cB (Eq.trans (hkeep4 y ?_) (Eq.trans cB (hkeep y hy))), .inr ⟨w2,b4,d4,hstep,rfl, ?_, ?_,cA⟩⟩
      ·exact Nat.lt_of_lt_of_le (Nat.lt_of_lt_of_le hy hn2) ca
      ·omega
      ·exact Nat.lt_of_lt_of_le hb5 ca
     ·rw[if_neg hlt] at hstep
      refine cV ?_
      refine aV (fun hc=>absurd hc (by simp;omega)) (fun hc=> ?_)
      refine cV ?_
      refine⟨(k+1, .sl b w.length),by dsimp only;omega,cI,by dsimp only;omega,ca,fun y hy=>Eq.trans cB (Eq.trans (hkeep4 y ?_) (Eq.trans cB (hkeep y hy))), .inr ⟨w,b,d3,hstep,rfl,hb1, ?_,cA⟩⟩
      ·exact Nat.lt_of_lt_of_le (Nat.lt_of_lt_of_le hy hn2) ca
      ·exact Nat.lt_of_lt_of_le hb2 ca
  ·obtain rfl:k=u.cG.length:=by omega
   rcases hbest with⟨hb0,rfl⟩|⟨w,b,d3,hb0,rfl,hb1,hb2,r3⟩
   ·refine cV ?_
    exact⟨by rw[hR,hb0];rfl⟩
   ·have hwl:0<w.length:=by
     obtain⟨f,hf,hbf,_⟩:=mS hb0
     exact(((rK (lead:=fc u) (n:=u.cG.length) (first:=(f:Int)) hin ⟨by omega,by omega⟩).1 w hbf).2.1).pos
    refine cV ?_
    refine aW (vx cA ⟨by simp,hwl⟩) ?_
    refine cV ?_
    exact⟨by rw[hR,hb0];exact⟨b,d3,rfl,cA⟩⟩
theorem GV {u:bx} {m:MS} {L:ML} {H:Hp} (hM:L.At u m H) (nx:Nat):Wk (.pt L.mr 1 0 0) H nx (m.fz u) (lO (jf L.all H) H) nx:=by
 have:=Wk.QY (nx:=nx) (r:= .pt L.mr 1 0 0) (jf L.all H) 6 (fun b q hq=>qG hq)
 rwa[hM.tM 2] at this
end Go.Proofs.YtjopoheligmmoaaGreatDoor
namespace Go.cp
open Go.RowKit
set_option linter.unusedSimpArgs false
set_option linter.unusedVariables false
section
variable {P:Program} {n lo:Nat} {fr:Fr} {H:Hp} {nx:Nat} {Q:QT}
theorem WL.rt {lc:LC} {fr2:Fr} {H2:Hp} {nx2:Nat} (hw:Rt fr H nx fr2 H2 nx2) (h:WL P n lo lc fr2 H2 nx2 Q):WL P n lo lc fr H nx Q:=
 fun code hc w0 M0 c0 a w hh=>h code hc w0 M0 c0 a w (hw _ _ _ _ _ _ _ hh)
theorem WL.cut {a b:LC} (h:Go (W P n lo a fr H nx (gw (fun fr' H' nx'=>∃fr2 H2 nx2,Rt fr' H' nx' fr2 H2 nx2/\WL P n lo b fr2 H2 nx2 Q) Q))):WL P n lo (.seq a b) fr H nx Q:=
 WL.seq ((ew h).mono fun e fr H nx hh=>by
  cases e with
  |normal=>
   obtain⟨fr2,H2,nx2,h1,h2⟩:=hh
   exact WL.rt h1 h2
  |exit id=>exact hh
  |ret=>exact hh)
theorem au {f:FuncId} {args:List AV} {R:AV->Hp->Nat->Prop} (X:eF P f) (ha:Nat.ble args.length X.n=true) (h:WL P X.n nx X.lc (jI 0 args) H nx (sd X.rs R)):cO P f args H nx R:=by
 obtain⟨fn,h1,h2,h3,h4,h5⟩:=X.ok
 have h6:X.n=fn.ntmps:=h5
 rw[h6] at h ha
 exact cO.oi h1 h2 h3 h4 (Nat.le_of_ble_eq_true ha) (h.mono fun _ _ _ _=>wF)
theorem WL.last {lc:LC} (h:Go (W P n lo lc fr H nx Q)):WL P n lo lc fr H nx Q:=ew h
theorem ah {lc:LC} {b:Nat} {q:Option e8} (h:bw H b=q) (k:∀H2:Hp,bw H2 b=q->Go (W P n lo lc fr H2 nx Q)):W P n lo lc fr H nx Q:=k H h
end
end Go.cp
namespace Go.Proofs.YtjopoheligmmoaaGreatDoor
open Go Go.cp Go.Proofs
set_option linter.unusedSimpArgs false
set_option linter.unusedVariables false
set_option maxRecDepth 8000
theorem GU (u:bx) (m:MS) (h:eN u m) {t:Nat} (ht:t<u.bz.length):Pure Tryz.prog 30 [m.fz u,i64 t] (fun r=>r=i64 (m.at_.getD t 0)):=by
 have c0:=yZ u m t
 have hl:=h.pV
 rw[decide_eq_true (by omega:¬((t:Int)<0\/(m.at_.length:Int)<=t))] at c0
 have e0:=fun d=>ints_at (l:=m.at_) (k:=t) (by omega) d
 have a0:(m.at_.map i64).length=u.bz.length:=by simp[hl]
 refine aG UP rfl ?_
 refine cV ?_
 first|exact rfl|trivial
theorem EC (u:bx) (m:MS) (h:eN u m) {x:Nat} (hx:x<u.cG.length):Pure Tryz.prog 33 [m.fz u,i64 x] (fun r=>r=i64 (m.hold.getD x 0)):=by
 have hl:=h.hl
 have e0:=fun d=>ints_at (l:=m.hold) (k:=x) (by omega) d
 have a0:(m.hold.map i64).length=u.cG.length:=by simp[hl]
 refine aG UR rfl ?_
 refine cV ?_
 refine aV (fun hc=>absurd hc (by simp[hl];omega)) fun hc=> ?_
 refine cV ?_
 first|exact rfl|trivial
abbrev nr (u:bx) (m:MS):AV:= .agg [cw u.shared,cw u.cG,df u.bz,m.fz u]
theorem oT (u:bx) (hr:cW u) (m:MS) (h:eN u m) {t:Nat} (ht:t<u.bz.length):Pure Tryz.prog 50 [nr u m,i64 t] (fun r=>r=i64 (eM u m t)):=by
 have c0:=GU u m h ht
 have hno:=h.node hr ht
 obtain⟨p0,p1⟩:=h.gV t ht
 have e0:∀d,(u.bz.map cF.av).getD ((t:Int)).toNat d=(u.gr t).av:=fun d=>sF ht d
 have a0:(u.bz.map cF.av).length=u.bz.length:=by simp
 have hh:eM u m t=if((u.gr t).nd (m.at_.getD t 0).toNat).kind=5 then m.hold.getD ((u.gr t).nd (m.at_.getD t 0).toNat).cR.toNat 0 else -1:=by
  unfold eM MS.node;rw[Int.toNat_natCast]
 rw[hh]
 unfold MS.node at hno
 obtain⟨j,hj⟩:∃j:Nat,m.at_.getD t 0=j:=⟨(m.at_.getD t 0).toNat,by omega⟩
 rw[hj] at c0 p1 hno ⊢
 rw[Int.toNat_natCast] at hno ⊢
 generalize u.gr t=g at *
 have e1:∀d,(g.nodes.map Node.av).getD ((j:Int)).toNat d=(g.nd j).av:=fun d=>j9 (by omega) d
 have a1:(g.nodes.map Node.av).length=g.nodes.length:=by simp
 generalize g.nd j=n at *
 by_cases h5:n.kind=5
 ·obtain⟨x0,x1⟩:=fS hno (.inl h5)
  have c1:=EC u m h (x:=n.cR.toNat) (by omega)
  rw[Int.toNat_of_nonneg x0] at c1
  rw[if_pos h5]
  have r0:decide (n.kind≠5)=false:=decide_eq_false fun e=>e h5
  refine aG S1 rfl ?_
  refine cV ?_
  first|exact rfl|trivial
 ·rw[if_neg h5]
  have r0:decide (n.kind≠5)=true:=decide_eq_true h5
  refine aG S1 rfl ?_
  refine cV ?_
  first|exact rfl|trivial
set_option maxHeartbeats 2000000 in
theorem AT (u:bx) (hr:cW u) (m:MS) (h:eN u m) {t:Nat} (ht:t<u.bz.length) (H0:Hp) (nx:Nat):
 cO Tryz.prog 49 [i64 t, .fn (.func 50) [nr u m] []] H0 nx (fun r H k=>nx<=k/\(∀y,y<nx->bw H y=bw H0 y)/\nM (jt (eM u m) u.bz.length (t:Int)) nx k r H):=by
 have hfew:=hr.qa.2.2
 have c0:=oT u hr m h ht
 have hf:cK 0 (nr u m):=by simp[cK,c8,cD]
 refine aJ U4 rfl ?_
 refine cV ?_
 generalize hfn:eM u m=hd at *
 have hlt:∀x:Int,0<=x->x<u.bz.length->-1<=hd x/\hd x<u.bz.length:=fun x h0 h1=>by rw[<-hfn];exact pe hr h ⟨h0,h1⟩
 have hcw:∀x:Int,0<=x->x<u.bz.length->Pure Tryz.prog 50 [nr u m,i64 x] (fun r=>r=i64 (hd x)):=fun x h0 h1=>by
  obtain⟨k,rfl⟩:∃k:Nat,x=k:=⟨x.toNat,by omega⟩
  rw[<-hfn];exact oT u hr m h (by omega)
 refine aL (fun σ:Int×List Int=>[(0,i64 t),(1, .fn (.func 50) [nr u m] []),(5, .sl (nx+2) σ.2.length),(6,i64 σ.1)])
  (fun σ H2 n2=>ji hd (t:Int) σ.2/\(∀x∈σ.2,0<=x/\x<u.bz.length)/\σ.1=hd (σ.2.getD (σ.2.length - 1) 0)/\js hd (t:Int) (u.bz.length+1 - σ.2.length) σ.2 σ.1=jt hd u.bz.length (t:Int)/\nx+3<=n2/\(∃d,bw H2 (nx+2)=some (.row 3 1 d (σ.2.map i64)))/\∀y,y<nx->bw H2 y=bw H0 y) (fun σ=>u.bz.length+1 - σ.2.length) (hd t,[(t:Int)])
  cI ⟨.one (by omega),fun x hx=>by simp only[List.mem_cons,List.not_mem_nil,or_false] at hx;omega,rfl,rfl,ca,⟨_,cA⟩,fun y hy=>cB⟩ ?_
 clear c0
 rintro⟨s,out⟩ H2 n2 ⟨hg,hin,hs,hR,hn2,⟨d1,r1⟩,hkeep⟩
 dsimp only at hg hin hs hR r1 ⊢
 have hol:=gG _ _ hg.nd hin
 have hp:=hg.pos
 have hlast:=hin _ (cS 0 (show out.length - 1<out.length by omega))
 have hsl:=hlt _ hlast.1 hlast.2
 rw[<-hs] at hsl
 have a0:(out.map i64).length=out.length:=List.length_map _
 rw[show u.bz.length+1 - out.length=(u.bz.length - out.length)+1 by omega,js] at hR
 by_cases hst:s=t
 ·rw[if_pos hst] at hR
  have r0:decide (s≠t)=false:=decide_eq_false fun e=>e hst
  rw[<-hR]
  refine cV ?_
  refine⟨⟨?_,fun y hy=>Eq.trans cB (hkeep y hy),nx+2,d1,by omega, ?_,rfl,cA⟩⟩
  ·exact ca
  ·exact ca
 ·rw[if_neg hst] at hR
  have r0:decide (s≠t)=true:=decide_eq_true hst
  have hview:∀H3,bw H3 (nx+2)=some (.row 3 1 d1 (out.map i64))->[AV.sl (nx+2) out.length,i64 s].map (cp.dX H3 6)=[cL out,i64 s]:=fun H3 h3=>CZ s h3
  have hfit:c8 0 [cL out,i64 s]:=by
   simp only[c8,cK];exact⟨(cD _ _).2 fun _ _=>by simp[cK],trivial,trivial⟩
  refine cV ?_
  refine bI (fun _=>jl out s (by omega)) (hview _ cA) hfit (by simp[fT]) ?_
  by_cases h0:s<0
  ·rw[if_pos (.inl h0)] at hR
   rw[<-hR]
   refine cV ?_
   refine⟨⟨?_,fun y hy=>Eq.trans cB (hkeep y hy),rfl⟩⟩
   exact ca
  ·by_cases hm:s∈out
   ·rw[if_pos (.inr hm)] at hR
    rw[<-hR]
    rw[decide_eq_true hm]
    refine cV ?_
    refine⟨⟨?_,fun y hy=>Eq.trans cB (hkeep y hy),rfl⟩⟩
    exact ca
   ·rw[if_neg fun e=>e.elim h0 hm] at hR
    rw[decide_eq_false hm]
    have c0:=hcw s (by omega) hsl.2
    refine cV ?_
    have hm2:=hg.more hs (by omega) hm
    have hin2:∀x∈out++[s],0<=x/\x<u.bz.length:=fun x hx=>by
     rcases List.mem_append.1 hx with hx|hx
     ·exact hin x hx
     ·simp only[List.mem_cons,List.not_mem_nil,or_false] at hx;omega
    refine⟨(hd s,out++[s]), ?_,by rw[List.length_append];exact cI,hm2,hin2, ?_, ?_,ca,⟨_,by dsimp only;rw[List.map_append];exact cA⟩,fun y hy=>Eq.trans cB (hkeep y hy)⟩
    ·dsimp only;rw[List.length_append,List.length_singleton];omega
    ·dsimp only;rw[List.length_append,List.length_singleton,Nat.add_sub_cancel,fE]
    ·dsimp only
     rw[List.length_append,List.length_singleton,show u.bz.length+1 - (out.length+1)=u.bz.length - out.length by omega]
     exact hR
abbrev P9 (u:bx) (m:MS) (t:Int):MS:=if m.kZ u t=0 then(m.step u t.toNat).1 else m
theorem nj (u:bx) (m:MS) (t:Int):(P9 u m t).cQ.length<=m.cQ.length+1:=by
 unfold P9
 split
 ·exact mJ u m _
 ·omega
theorem lI {u:bx} {m:MS} {L:ML} {H:Hp} {nx:Nat} (hu:u.Wf) (hr:cW u) (h:eN u m) (hM:L.At u m H) (hlt:∀y∈L.all,y<nx) (hpl:m.cQ.length<=1048576) (t:Int):
 cO Tryz.prog 31 [.pt L.mr 1 0 0,i64 t] H nx (fun r H' k=>(∃d e,r= .dO [.agg d,i64 e])/\L.At u (P9 u m t) H'/\nx<=k/\∀y,y<nx->y∉L.all->bw H' y=bw H y):=by
 by_cases hb:m.kZ u t=0
 ·obtain⟨k,rfl,hk⟩:=yp h hb
  have:=uo hu hr h hM hlt hpl hk hb
  refine this.mono ?_
  rintro r H' n ⟨rfl,h1,h2,h3⟩
  refine⟨⟨_,_,rfl⟩, ?_,h2,h3⟩
  unfold P9;rw[if_pos hb,Int.toNat_natCast];exact h1
 ·refine(JY hr h hM hlt t hb).mono ?_
  rintro r H' n ⟨rfl,h2,h3⟩
  refine⟨⟨_,_,rfl⟩, ?_,h2,fun y hy _=>h3 y hy⟩
  unfold P9;rw[if_neg hb]
  exact hM.cT fun y hy=>h3 y (hlt y hy)
theorem qD (u:bx) (m:MS) (w:List Int) {i:Nat} (hi:i<w.length):eK u m (w.take (i+1))=P9 u (eK u m (w.take i)) (w.getD i 0):=by
 rw[List.take_succ_eq_append_getElem hi,qC,show w[i]=w.getD i 0 by simp[List.getD,hi]]
 rfl
theorem xe {u:bx} {m:MS} {k:Nat} {l:List Int} (h:iB u m k=some l):∀n,k<=n->iB u m n=some l:=by
 intro n hn
 obtain⟨d,rfl⟩:∃d,n=k+d:=⟨n - k,by omega⟩
 induction d with
 |zero=>exact h
 |succ d ih=>
  rw[<-Nat.add_assoc,iB,ih (by omega)]
def ta (u:bx) (m:MS) (r:AV) (H:Hp):Prop:=match jM u m with
 |none=>r= .dO [.sc (.slice none 0 0),bl false,i64 0]
 |some w=>∃b d,r= .dO [.sl b w.length,bl true,i64 0]/\bw H b=some (.row 3 1 d (w.map i64))
theorem IW (u:bx) (hu:u.Wf) (hr:¬cW u) (w:List Int):Pure Tryz.prog 21 [u.av,cL w] (fun r=>r= .dO [.sc (.slice none 0 0),bl false,i64 60]):=by
 have c0:=vw u hu hr
 refine aG O1 rfl ?_
 refine cV ?_
 first|exact rfl|trivial
set_option maxHeartbeats 4000000 in
theorem u6 (u:bx) (hu:u.Wf) (hr:cW u) (w:List Int) (hw:1048576<w.length):cO Tryz.prog 21 [u.av,cL w] [] 0 (fun r H n=>r= .dO [.sc (.slice none 0 0),bl false,i64 3]):=by
 have a0:(w.map i64).length=w.length:=List.length_map _
 refine aJ O1 rfl ?_
 refine cV ?_
 refine aI (kT u hu hr _ _) ?_
 rintro _ H1 n1 ⟨L,rfl,hM,hL,hn1,hkp⟩
 refine cV ?_
 exact⟨rfl⟩
set_option maxHeartbeats 4000000 in
theorem ph (u:bx) (hu:u.Wf) (hr:cW u) (w:List Int) (hw:w.length<=1048576):cO Tryz.prog 21 [u.av,cL w] [] 0 (fun r H n=>ta u (eK u (dQ u) w) r H):=by
 have a0:(w.map i64).length=w.length:=List.length_map _
 have hgl:=hr.qa.2.2
 refine au O1 rfl ?_
 refine WL.cut ?_
 refine cV ?_
 refine⟨_,_,_,Rt.refl _ _ _,WL.cut ?_⟩
 refine cV ?_
 refine aI (kT u hu hr _ _) ?_
 rintro _ H1 n1 ⟨L,rfl,hM,hL,hn1,hkp⟩
 refine cV ?_
 refine⟨_,_,_,Rt.refl _ _ _,WL.cut ?_⟩
 refine cV ?_
 refine⟨_,_,_,Rt.refl _ _ _,WL.cut ?_⟩
 refine cV ?_
 obtain⟨d0,r0⟩:∃d,bw H1 0=some (.row 25 3 d [u.av]):=⟨_,Eq.trans (hkp 0 (by omega)) cA⟩
 have hL0:∀x∈L.all,1<=x:=fun x hx=>by have:=(hL x hx).1;omega
 have hL1:∀x∈L.all,x<n1:=fun x hx=>(hL x hx).2
 clear hkp hL
 refine⟨_,_,_,Rt.refl _ _ _,WL.cut ?_⟩
 refine cV ?_
 rw[a0]
 refine aL (fun i:Nat=>[(2, .pt 0 1 0 0),(7, .pt L.mr 1 0 0),(25,cL w),(26,i64 w.length),(27,i64 i)])
  (fun i H n=>i<=w.length/\n1<=n/\L.At u (eK u (dQ u) (w.take i)) H/\(eK u (dQ u) (w.take i)).cQ.length<=i/\∃d,bw H 0=some (.row 25 3 d [u.av])) (fun i=>w.length - i) 0
  cI ⟨Nat.zero_le _,ca,hM.cT fun y hy=> ?_,Nat.zero_le _,⟨_,cA⟩⟩ ?_
 ·have:=hL1 y hy;have:=hL0 y hy;exact cB
 clear r0 hM
 rintro i H n ⟨hi,hn,hM,hpr,⟨d0,r0⟩⟩
 have hsit:pL u (eK u (dQ u) (w.take i)):=pL.s9 hu hr (pL.new hu hr)
 by_cases hil:i<w.length
 ·have e0:∀d,(w.map i64).getD ((i:Int)).toNat d=i64 (w.getD i 0):=fun d=>ints_at hil d
  have hpn:=qD u (dQ u) w hil
  have hp2:=nj u (eK u (dQ u) (w.take i)) (w.getD i 0)
  rw[<-hpn] at hp2
  refine cV ?_
  refine aI (lI hu hr hsit.ok (hM.cT fun y hy=> ?_) (fun y hy=> ?_) (by omega) (w.getD i 0)) ?_
  ·have:=hL1 y hy;have:=hL0 y hy;exact cB
  ·exact Nat.lt_of_lt_of_le (Nat.lt_of_lt_of_le (hL1 y hy) hn) ca
  rintro _ H2 n2 ⟨⟨d,e,rfl⟩,hM2,hn2,hkeep2⟩
  rw[<-hpn] at hM2
  have r1:bw H2 0=some (.row 25 3 d0 [u.av]):=Eq.trans (hkeep2 0 (by omega) fun h=>by have:=hL0 0 h;omega) cA
  refine cV ?_
  refine⟨i+1,by omega,cI,by omega,ca,hM2.cT fun y hy=> ?_,by omega,⟨_,cA⟩⟩
  have:=hL1 y hy;have:=hL0 y hy;exact cB
 ·obtain rfl:i=w.length:=by omega
  rw[List.take_length] at hM hpr hsit
  refine cV ?_
  generalize eK u (dQ u) w=m at *
  have hz:(0:Nat)∉L.all:=fun h=>by have:=hL0 0 h;omega
  have hM2:L.At u m (dH H none):=hM.cT fun y hy=>by have:=hL1 y hy;have:=hL0 y hy;exact cB
  refine⟨[(2, .pt 0 1 0 0),(7,m.fz u)],_,_,Rt.trans (Rt.slot 7 rfl (GV hM2 _)) (Rt.less cI),WL.last (ah (b:=0) (q:=some (.row 25 3 d0 [u.av])) ((dn hz).trans (Eq.trans cB r0)) fun H2 r3=> ?_)⟩
  clear hM hM2 r0 hpr
  refine cV ?_
  simp only[List.length_map]
  refine aL (fun t:Nat=>[(2, .pt 0 1 0 0),(11, .pt (n+4) 1 0 0),(39,df u.bz),(40,i64 u.bz.length),(41,i64 t)])
   (fun t H3 n3=>t<=u.bz.length/\n+5<=n3/\iB u m t=none/\∃d,bw H3 (n+4)=some (.row 90 4 d [nr u m])) (fun t=>u.bz.length - t) 0
   cI ⟨Nat.zero_le _,ca,rfl,⟨_,cA⟩⟩ ?_
  clear r3
  rintro t H3 n3 ⟨ht,hn3,hkt,⟨d4,r4⟩⟩
  have hnx:iB u m (t+1)=jt (eM u m) u.bz.length (t:Int):=by
   rw[iB,hkt]
  by_cases htl:t<u.bz.length
  ·refine cV ?_
   refine aI (AT u hr m hsit.ok htl _ _) ?_
   rintro r H5 n5 ⟨hn5,hkeep5,hR⟩
   have r5:bw H5 (n+4)=some (.row 90 4 d4 [nr u m]):=Eq.trans (hkeep5 (n+4) (Nat.lt_of_lt_of_le (by omega) (show n3<=_ from ca))) cA
   unfold nM at hR
   cases hq:jt (eM u m) u.bz.length (t:Int) with
   |none=>
    rw[hq] at hR hnx
    dsimp only at hR
    subst hR
    refine cV ?_
    exact⟨t+1,by omega,cI,by omega,ca,hnx,⟨_,cA⟩⟩
   |some l=>
    rw[hq] at hR hnx
    dsimp only at hR
    obtain⟨b,d6,hb1,hb2,rfl,r6⟩:=hR
    have hl:=(mF (by omega) hq).1.pos
    have a2:(l.map i64).length=l.length:=List.length_map _
    refine cV ?_
    refine⟨?_⟩
    unfold ta jM
    rw[xe hnx _ (by omega)]
    exact⟨b,d6,rfl,cA⟩
  ·obtain rfl:t=u.bz.length:=by omega
   refine cV ?_
   refine⟨?_⟩
   unfold ta jM
   rw[hkt]
end Go.Proofs.YtjopoheligmmoaaGreatDoor
