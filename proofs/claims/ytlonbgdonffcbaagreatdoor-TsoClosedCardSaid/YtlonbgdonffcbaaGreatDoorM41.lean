import Derived.Test.YtlonbgdonffcbaaGreatDoorM40
import Derived.Test.YtlonbgdonffcbaaGreatDoorM37
import Derived.Test.YtlonbgdonffcbaaGreatDoorM21
section
/- Has, stands: the walks. -/
namespace Go.Proofs.YtlonbgdonffcbaaGreatDoor
open Go Go.cW Go.Proofs
set_option linter.unusedSimpArgs false
set_option linter.unusedVariables false
set_option maxRecDepth 8000
theorem D5 {l:List cN} (hl:l.length≤65536) (hin:∀x∈l,kX x) (e:cN):Pure Tryz.prog 15 [dw l,e.av] (fun r=>r=bl (decide (e∈l))):=by
 refine aI EH rfl ?_
 have a0:(l.map cN.av).length=l.length:=List.length_map _
 refine ca ?_
 refine aT (fun i:Nat=>[(0,dw l),(3, .pt 0 1 0 0),(5,i64 i)]) (fun i H n=>i≤l.length∧1≤n∧(∀j,j<i→l.getD j default≠e)∧∃d,bd H 0=some (.row 48 3 d [e.av])) (fun i=>l.length - i) 0 cH ⟨Nat.zero_le _,cO,fun j hj=>by omega,⟨_,bo⟩⟩ ?_
 rintro i H n ⟨hi,hn,hall,d,r0'⟩
 by_cases hil:i<l.length
 ·have e0:=fun d=>iM (l:=l) hil d
  have e0:∀d,(l.map cN.av).getD ((i:Int)).toNat d=(l.getD i default).av:=fun d=>by rw[Int.toNat_natCast];exact iM hil d
  have hx:=hin _ (fR default hil)
  have hmem:=fR (l:=l) default hil
  have hnx:l.getD i default≠e→∀j,j<i+1→l.getD j default≠e:=fun h j hj=>by
   by_cases e2:j=i
   ·rw[e2];exact h
   ·exact hall j (by omega)
  generalize l.getD i default=x at e0 hx hmem hnx
  have c0:=xl x e hx.1 hx.2
  by_cases hc:x=e
  ·have hz:=(iy.zero x e).2 hc
   rw[hz] at c0
   refine ca ?_
   refine kJ (Eq.symm (decide_eq_true ?_))
   rw[←hc];exact hmem
  ·have hz:dz x e≠0:=fun h=>hc ((iy.zero x e).1 h)
   have r0:=decide_eq_false hz
   refine ca ?_
   exact⟨i+1,by omega,cH,by omega,by omega,hnx hc,⟨_,bo⟩⟩
 ·refine ca ?_
  refine kJ (Eq.symm (decide_eq_false ?_))
  intro hm
  obtain⟨j,hj,rfl⟩:=List.mem_iff_getElem.1 hm
  refine hall j (by omega) ?_
  simp[List.getD,hj]
theorem BT {o:Obj} {s:bk} (hlk:eB s) (hs:0≤o.shared∧o.shared≤s.mem.length):Pure Tryz.prog 14 [o.av,s.frozen o] (fun r=>r= .dD [(la o s).av,bl true]):=by
 have c1:=nt o s hlk.mem
 have c2:=je o s hlk.bg
 obtain⟨om,osh,olk,obf,oc⟩:=o
 obtain⟨sh,rfl⟩:∃sh:Nat,osh=sh:=⟨osh.toNat,by have:=hs.1;dsimp only at this;omega⟩
 have hs2:sh≤s.mem.length:=by have:=hs.2;dsimp only at this;omega
 have h1:cG 0 ((s.mem.map i64).take sh):=by rw[←List.map_take];exact(cF _ _).2 fun _ _=>by simp[cC]
 have hm:(s.mem.map i64).length=s.mem.length:=List.length_map _
 have hov:(la ⟨om,sh,olk,obf,oc⟩ s).av= .agg [.im 2 .any (s.bg.map cD.av), .im 1 .any ((s.mem.map i64).take sh),bl true]:=by
  rw[←List.map_take];rfl
 rw[hov]
 simp only[bk.frozen] at c1 c2 ⊢
 refine cr ?_ (by simp[cC,cG,cF,h1])
 refine aO EG rfl ?_
 have hg:¬(sh:Int)<0:=by omega
 have hg2:¬((s.mem.map i64).length:Int)<(sh:Int):=by omega
 have r1:=decide_eq_false hg
 have r2:=decide_eq_false hg2
 refine ca ?_
 refine⟨?_⟩
 show cW.eH _ 6 (.dD [.agg [.im 2 .any (s.bg.map cD.av), .im 1 .any ((s.mem.map i64).take sh),bl true],bl true])=_
 exact lQ _ (by simp[cC,cG,cF,h1])
end Go.Proofs.YtlonbgdonffcbaaGreatDoor
end
section
/- One core: one end at most, and it is plain. -/
namespace Go.Proofs.YtlonbgdonffcbaaGreatDoor
open Go Go.cW Go.Proofs
set_option linter.unusedSimpArgs false
set_option linter.unusedVariables false
set_option maxRecDepth 8000
theorem py {s:bk}:s.bf.all fI=true↔nO s:=by
 rw[List.all_eq_true]
 constructor
 ·intro h q hq
  have:=h _ (pD hq)
  simpa[fI] using this
 ·intro h c hc
  obtain⟨q,hq,rfl⟩:=List.mem_iff_getElem.1 hc
  have:=h q hq
  rw[po hq] at this
  simpa[fI] using this
end Go.Proofs.YtlonbgdonffcbaaGreatDoor
end
section
/- Whatever is played is found: the law's walk. -/
namespace Go.Proofs.YtlonbgdonffcbaaGreatDoor
open Go Go.cW Go.Proofs
set_option linter.unusedSimpArgs false
set_option linter.unusedVariables false
set_option maxRecDepth 8000
theorem C9 {P:Program} {ss:List o7} {fr fr2:Fr} {H H2:Hp} {nx nx2:Nat} {Q:QT} (h:Rt fr H nx fr2 H2 nx2) (k:fE P ss fr2 H2 nx2 Q):fE P ss fr H nx Q:=
 ⟨fun n lo code hc w0 M0 c0 a w hh=>k.1 n lo code hc w0 M0 c0 a w (h w0 M0 c0 lo n a w hh)⟩
theorem zl {P:Program} {ss:List o7} {fr fr2:Fr} {H H2:Hp} {nx nx2:Nat} {Q:QT} (h:Rt fr H nx fr2 H2 nx2) (C:Hp→Prop) (hC:C H2) (k:∀H3,C H3→fE P ss fr2 H3 nx2 Q):fE P ss fr H nx Q:=C9 h (k H2 hC)
theorem K2 {o:Obj} {s:bk} {L:Lay} {H:Hp} {n:Nat} (hM:fe o s L H n) (nx:Nat):Wk (.pt L.m 1 0 0) H nx (s.frozen o) (l8 (ig L.ids H) H) nx:=by
 have:=Wk.NW (nx:=nx) (r:= .pt L.m 1 0 0) (ig L.ids H) 5 (fun b q hq=>oB hq)
 rwa[hM.qw 0] at this
theorem tY {o:Obj} (ho:o.Wf) {most:Int} (h0:(ck false o most).1=0) {s:bk} (h:Reach o s):mB o most s.bg=true∧(nO s→la o s∈fJ false o most):=by
 obtain⟨ok,hf,_⟩:=oy ho h0
 obtain⟨_,hm,hT⟩:=oz h0
 have hc:=uH ok ho.words (by omega) hT
 constructor
 ·obtain⟨j,hj,ha⟩:=h.found ok ho.words hc
  unfold mB
  rw[List.any_eq_true]
  exact⟨_,fR default hj,decide_eq_true ha.bg.symm⟩
 ·intro he
  rw[ri h0]
  obtain⟨j,hj,q1,q2,q3⟩:=h.zn ok ho.words hc he
  refine wy.2 ⟨j,hj,py.2 q3, ?_⟩
  unfold la;rw[q1,q2]
set_option maxHeartbeats 4000000 in
theorem uS {o:Obj} (ho:o.Wf) (most:Int) (S:List cM) (hS:S.length * 16≤140737488351232):Pure Tryz.prog 3 [o.av,i64 most,kG S] (fun r=>r=bl true):=by
 have c0:=uM
 have c1:=NS ho most
 have hf1:=iN (fJ false o most)
 have a1:(S.map cM.av).length=S.length:=List.length_map _
 refine aI N3 rfl ?_
 by_cases h0:(ck false o most).1=0
 ·have hpf:=fun {s} (h:Reach o s)=>tY ho h0 h
  obtain⟨hok,_,_⟩:=oz h0
  obtain⟨hin,hel⟩:=pz (p:=false) ho most
  have hsh:=s7 hok
  have ok:=ky hok
  have hw:=ho.words
  have c3:=fun(want:List cD) (h:want.length * 16≤140737488355328)=>G3 ho most want h
  rw[h0] at c1 c3
  clear h0
  generalize fJ false o most=es at *
  refine ca ?_
  refine aP (x0 ho ok hok) ?_
  rintro r H1 n1 ⟨L,rfl,hM,hn1,hlt,hk1⟩
  refine ca ?_
  refine aT (fun σ:Nat×Lay=>[(1,i64 most),(2,kG S),(3, .pt 0 1 0 0),(7,dw es),(9, .pt σ.2.m 1 0 0),(11,i64 σ.1)])
   (fun σ H n=>σ.1≤S.length∧(∃s,Reach o s∧s.bg.length≤σ.1∧fe o s σ.2 H n)∧(∀y∈σ.2.ids,0<y)∧1≤n∧∃d,bd H 0=some (.row 25 5 d [o.av])) (fun σ=>S.length - σ.1) (0,L) cH
   ⟨Nat.zero_le _,⟨_,Reach.init,Nat.zero_le _,hM.eE (fun y hy=> ?_) cO⟩,fun y hy=>by have:=hlt y hy;omega,cO,⟨_,Eq.trans cE ((hk1 0 (by omega)).trans bo)⟩⟩ ?_
  ·have:=hlt y hy
   have:=hM.lt y hy
   exact cE
  clear hM hlt hn1 hk1
  rintro⟨i,L⟩ H n ⟨hi,⟨s,hre,hpr,hM⟩,hlt,hn,⟨d0,r0'⟩⟩
  dsimp only at hi hpr hM hlt ⊢
  have hmo:=hre.ok ok hw
  by_cases h1:i<S.length
  ·have e0:∀d,(S.map cM.av).getD ((i:Int)).toNat d=(S.getD i default).av:=fun d=>G7 h1 d
   generalize S.getD i default=x at *
   refine ca ?_
   refine aP (nz (hM.eE ?_ cO) hmo.jQ ok (by omega) x.kind x.core) ?_
   ·intro y hy
    have:=hM.lt y hy
    exact cE
   rintro r H3 n4 ⟨rfl,hn4,⟨L3,hM3,hmo3⟩,hk3⟩
   have hpp:=jI o s x.kind x.core
   have hid3:=hmo3.ids
   have hno:0∉L.ids:=fun h=>by have:=hlt _ h;omega
   refine ca ?_
   refine⟨(i+1,L3),by dsimp only;omega,by dsimp only;rw[hmo3.m];exact cH,by dsimp only;omega,⟨_,hre.step x.kind x.core,by dsimp only;omega,hM3.eE ?_ cO⟩, ?_,cO,⟨_,Eq.trans cE ((hk3 0 (by omega) hno).trans bo)⟩⟩
   ·intro y hy
    have:=hM3.lt y hy
    exact cE
   ·intro y hy
    rcases hid3 y hy with h|h
    ·exact hlt y h
    ·omega
  ·obtain rfl:i=S.length:=by omega
   have hlk:=hmo.jQ.vl ok (by omega)
   obtain⟨g1,g2⟩:=hpf hre
   have hgm:=hmo.jQ.mem
   have c2:=je o s hlk.bg
   have c3:=c3 s.bg (by omega)
   rw[g1] at c3
   have c4:=uY o s hlk.bf
   have c5:=BT (o:=o) hlk (by rw[hgm];exact hsh)
   simp only[bk.frozen] at c2 c4 c5
   refine pS ?_
   have hz:(0:Nat)∉L.ids:=fun h=>by have:=hlt _ h;omega
   refine zl (Rt.slot 9 rfl (K2 (hM.eE (fun y hy=> ?_) (Nat.le_refl _)) _)) (fun H=>∃d,bd H 0=some (.row 25 5 d [o.av])) ⟨_,(fL hz).trans (Eq.trans cE r0')⟩ ?_
   ·have:=hM.lt y hy;exact cE
   rintro H3 ⟨d3,r3'⟩
   cases hen:s.bf.all fI with
   |false=>
    rw[hen] at c4
    refine ca ?_
    first|trivial|exact rfl|exact kJ rfl
   |true=>
    rw[hen] at c4
    have hmem:=g2 (py.1 hen)
    have c6:=D5 hel hin (la o s)
    rw[decide_eq_true hmem] at c6
    refine ca ?_
    rfl
 ·have he:fJ false o most=[]:=by unfold fJ;rw[if_neg h0]
  rw[he] at c1
  generalize (ck false o most).1=er at *
  have r0:=decide_eq_true h0
  cases hb:eU o with
  |false=>
   refine ca ?_
   refine aP (I3 ho hb) ?_
   rintro r H1 n1 ⟨rfl,hn1,hk1⟩
   refine ca ?_
   first|trivial|exact rfl|exact kJ rfl
  |true=>
   refine ca ?_
   refine aP (x0 ho (ky hb) hb) ?_
   rintro r H1 n1 ⟨L,rfl,hM,hn1,hlt,hk1⟩
   refine ca ?_
   first|trivial|exact rfl|exact kJ rfl
end Go.Proofs.YtlonbgdonffcbaaGreatDoor
end
section
/- Whatever is played is shown, and where all is ended that is one of Ends: for every object, cap and schedule. No conditions. -/
namespace Go.Proofs.YtlonbgdonffcbaaGreatDoor
open Go Go.cW Go.Proofs Go.RowKit Go.ChangeShapes Go.WideShapes Go.ChangeAt
set_option linter.unusedSimpArgs false
set_option linter.unusedVariables false
set_option maxRecDepth 100000 in
theorem oD (os:Os) (started:os.Started) (H:Type) (enc:TypeId×Value→H):
 ReturnsInHanded {} Tryz.checked os 3 .any (fun w args=>(Rows.tsoClosedSpec.pre enc Tryz.prog Tryz.f3 [] false w args∧laidMetH Tryz.prog vE w)∧sizedMet enc Tryz.prog Tryz.f3 (OpenSpec.ofChange Rows.tsoClosedSpec) false w args) (Rows.tsoClosedSpec.post enc Tryz.prog Tryz.f3 false true false false):=by
 refine returnsInHanded_of_change_and (C:=Tryz.checked) (X:=fun w _=>laidMetH Tryz.prog vE w) (fun _ _ _ hh h=>h.of_heap hh) own started (by kernel_rfl) Tryz.func3
  (ChangeSpec.witness_shaped (enc:=enc) (C:=Tryz.checked) (os:=os) (X:=fun w _=>laidMetH Tryz.prog vE w) false (World.doorLaid Tryz.prog 400 os) #[.agg #[.slice none 0 0, .int .i64 0, .int .i64 0, .int .i64 0, .slice none 0 0], .int .i64 0, .slice none 0 0] 8 rfl (World.shaped_of_RefB (by kernel_rfl) (by kernel_rfl)) (by kernel_rfl) (by kernel_rfl) (by kernel_rfl) (C7 os _)) ?_
 intro W base args ds gs before hval hW _ hr hL _
 refine tO (ts:=[25,3,26]) (tb:=4) laidOut (by kernel_rfl) rfl Tryz.underlying4 (by kernel_rfl) (fun ds h=> ?_) (fun t ht=> ?_)
  (jT (ag:=true) (by kernel_rfl) BC (fun h=>by cases h) (jT (ag:=false) (by kernel_rfl) (dW Tryz.underlying3) (fun _ _ _=>rfl) (jT (ag:=false) (by kernel_rfl) wA (fun _ _ _=>rfl) tU)))
  (fun a h=> ?_) hval hW hr (I8 hL)
 ·match ds,h with
  |[d0,d1,d2],_=>rfl
 ·have:∀t∈[25,3,26],Tryz.prog.readableRec t=true∧t<Tryz.prog.types.size:=by
   simp only[List.forall_mem_cons]
   refine⟨⟨by kernel_rfl,of_decide_eq_true (by kernel_rfl)⟩,⟨by kernel_rfl,of_decide_eq_true (by kernel_rfl)⟩,⟨by kernel_rfl,of_decide_eq_true (by kernel_rfl)⟩,by simp⟩
  exact this t ht
 ·exact uS (o:=a.1) h.1 a.2.1 a.2.2.1 h.2.2.1.2
theorem rN:Rows.TsoClosedSaid:=
 OpenClaim.holds_of_wide 3 Tryz.f3 rfl rfl rfl rfl rfl rfl rfl ⟨rfl,rfl,rfl,rfl,rfl⟩ rfl rfl rfl rfl rfl (by kernel_rfl) Tryz.func3 (by kernel_rfl)
  (of_decide_eq_true (by kernel_rfl)) (by unfold Func.isWrapper;first|(rw[if_pos (by decide+kernel)];kernel_rfl)|(rw[if_neg (by decide+kernel)];exact⟨rfl,rfl⟩))
  (fun os started H enc _=>oD os started H enc)
set_option maxRecDepth 100000 in
theorem tsoClosed_holds:Rows.TsoClosedCardSaid:=
 Claim7.holds_tied_plain_at .later [] [.data, .data, .data] true (true, "d4ad994dce242371731b714917e4b718e5faa8c908ab88b1ad48a85915cf5659") false
  rN (fun _ h=>by cases h) (by kernel_rfl) (fun _ h=>by cases h) tsoClosed_row_tie rfl ⟨rfl,rfl⟩ (by kernel_rfl) rfl
  (fun f fn hf hfn=>by
   obtain rfl:f=3:=Option.some.inj ((show Tryz.prog.funcNamed "stile/stilelaw20.TsoClosed" =some 3 by kernel_rfl).symm.trans hf)|>.symm
   obtain rfl:fn=Tryz.f3:=(Option.some.inj (Tryz.func3.symm.trans hfn)).symm
   exact⟨by kernel_rfl,fun j t ht=>by
    rw[show Tryz.f3.params=#[25,3,26] by kernel_rfl] at ht
    have hm:t∈[25,3,26]:=by simpa using Array.mem_of_getElem? ht
    have hall:([25,3,26].all fun u=> !Tryz.prog.wantsStandIn u)=true:=by kernel_rfl
    exact(show Tryz.prog.wantsStandIn t=false by simpa using List.all_eq_true.1 hall t hm)⟩)
  (by kernel_rfl)
end Go.Proofs.YtlonbgdonffcbaaGreatDoor
end
