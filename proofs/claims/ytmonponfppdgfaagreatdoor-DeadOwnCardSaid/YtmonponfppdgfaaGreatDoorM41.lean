import Derived.Test.YtmonponfppdgfaaGreatDoorM40
namespace Go.Proofs.YtmonponfppdgfaaGreatDoor
open Go Go.dD Go.Proofs
set_option linter.unusedSimpArgs false
set_option linter.unusedVariables false
abbrev qm (L:List (List Int)):AV:= .im 1 .any (L.map dV)
theorem rU (L:List (List Int)):cL 0 (L.map dV):=(cK _ _).2 fun _ _=>by simp[dV,cJ,cK]
set_option maxRecDepth 4000 in
theorem z6 (g:br) (hg:g.Wf) (hw:Whole g) (hh:(cx g).2<0):Pure Tryz.prog 102 [g.av] (fun r=>r= .dK [qm (cx g).1,bl true]):=by
 refine aG wz rfl ?_
 have h1:=qQ g hg hw
 have h2:=sU g hg hw
 unfold jW at h2
 repeat' (first|refine aQ ?_|exact cP|with_reducible refine aB ?_ ?_|((with_reducible refine Ask.mk ?_);first|exact bx|exact bt|(intro h;simp_all[br.cells]<;>fail)|(simp_all[br.cells]<;>fail))|(apply aA;(·exact bp))|refine aK (h1) ?_|refine aK (h2) ?_|refine aH ?_|((with_reducible refine aE ?_ ?_)<;>intro hc<;>try(exfalso;omega)))
 rw[decide_eq_true hh]
 exact vg.eq (by simp only[cJ,cL];exact⟨rU _,trivial,trivial⟩) rfl
set_option maxRecDepth 4000 in
set_option maxHeartbeats 4000000 in
theorem we (g:br) (hg:g.Wf) (hw:Whole g) (hh:(cx g).2<0) (hlk:∀i,((cx g).1.getD i []).length<=5000):Pure Tryz.prog 79 [g.av] (fun r=>r=qm ((cx g).1.map iI)):=by
 have h1:=z6 g hg hw hh
 have hL:=(ko hw hh).2.1
 refine cV ?_ (by simp only[cJ];exact rU _)
 refine aI HG rfl ?_
 have hl4:=hw.2.1
 generalize hLg:(cx g).1=L at *
 have hlm:(L.map dV).length=L.length:=by simp
 repeat' (first|refine aQ ?_|exact cP|with_reducible refine aB ?_ ?_|((with_reducible refine Ask.mk ?_);first|exact bx|exact bt|(intro h;simp_all[br.cells]<;>fail)|(simp_all[br.cells]<;>fail))|(apply aA;(·exact bp))|refine aK (h1) ?_|refine aH ?_|((with_reducible refine aE ?_ ?_)<;>intro hc<;>try(exfalso;omega)))
 refine aP (fun i:Nat=>[(3,qm L),(5, .sl 10 i),(6,i64 i)])
  (fun i H n=>i<=L.length/\11<=n/\∃d,bk H 10=some (.row 89 1 d (((L.take i).map iI).map dV))) (fun i=>L.length - i) 0 ⟨_,_,_,Rt.nil 5 89 1 (by omega) rfl,bu,Nat.zero_le _,cI,⟨_,bm⟩⟩ ?_
 rintro i H n ⟨hi,hn,d,r⟩
 have hrm:(((L.take i).map iI).map dV).length=i:=by simp;omega
 by_cases hil:i<L.length
 ·have ei:∀d,(L.map dV).getD (i:Int).toNat d= .im 1 .any ((L.getD i []).map i64):=fun d=>by
   have:=iy (l:=L) (i:=(i:Int)) (by rw[Int.toNat_natCast];exact hil) d
   rw[Int.toNat_natCast] at this ⊢;exact this
  have hr:=xm (L.getD i []) (hlk i)
  unfold dV at hr
  have hnx:((L.take (i+1)).map iI).map dV=((L.take i).map iI).map dV++[dV (iI (L.getD i []))]:=by
   rw[List.take_succ_eq_append_getElem hil,List.map_append,List.map_append,show L.getD i []=L[i] by simp[List.getD,hil]];rfl
  repeat' (first|refine aQ ?_|exact cP|with_reducible refine aB ?_ ?_|((with_reducible refine Ask.mk ?_);first|exact bx|(exact hlm)|(exact hrm)|exact bt)|(apply aA;(·(first|exact ei _|exact bp)))|refine aK (hr) ?_|refine aH ?_|((with_reducible refine aE ?_ ?_)<;>intro hc<;>try(exfalso;omega)))
  exact⟨i+1,by omega,_,_,_,Rt.refl _ _ _,bu,by omega,cI,⟨_,by rw[hnx];exact bm⟩⟩
 ·have:i=L.length:=by omega
  subst this
  rw[List.take_length] at r
  repeat' (first|refine aQ ?_|exact cP|with_reducible refine aB ?_ ?_|((with_reducible refine Ask.mk ?_);first|exact bx|(exact hlm)|exact bt)|(apply aA;(·exact bp))|refine aH ?_|((with_reducible refine aE ?_ ?_)<;>intro hc<;>try(exfalso;omega)))
  exact⟨(dM bm (by simp)).trans (by rw[cf _ (rU _)])⟩
theorem tI (n:Node) (v:Int):Pure Tryz.prog 80 [n.av,i64 v] (fun r=>r=bl (vd n&&decide (n.cT=v))):=by
 refine aG HH rfl ?_
 repeat' (first|refine aQ ?_|exact cP|with_reducible refine aB ?_ ?_|((with_reducible refine Ask.mk ?_);first|exact bx|exact bt|(intro h;simp_all[Node.cells]<;>fail)|(simp_all[Node.cells]<;>fail))|(apply aA;(·exact bp))|refine aH ?_|((with_reducible refine aE ?_ ?_)<;>intro hc<;>try(exfalso;omega)))
 all_goals refine cn ?_
 all_goals unfold vd
 all_goals first|(rw[decide_eq_true (show n.kind=2\/n.kind=3\/n.kind=4 by omega)];simp)|(rw[decide_eq_false (show ¬(n.kind=2\/n.kind=3\/n.kind=4) by omega)];simp)|(by_cases a:n.kind=2<;>by_cases b:n.kind=3<;>by_cases c:n.kind=4<;>by_cases d:n.cT=v<;>simp_all)
abbrev ln:=Nat×Nat×List Int
noncomputable def l8 (v:Int) (t:Nat) (g:br) (i:Nat):Option ln:=if iF (cj g (-1)) i=true/\(vd (g.nd i)&&decide ((g.nd i).cT=v))=true then some (t,i,(cx g).1.getD i []) else none
noncomputable def fe (v:Int) (t:Nat) (g:br) (m:Nat):List ln:=(List.range m).filterMap (l8 v t g)
noncomputable def ff (v:Int) (u:bq) (m:Nat):List ln:=(List.range m).flatMap fun t=>fe v t (u.gr t) (u.gr t).nodes.length
theorem rB (v:Int) (t:Nat) (g:br) (m:Nat):fe v t g (m+1)=fe v t g m++(l8 v t g m).toList:=by
 rw[fe,List.range_succ,List.filterMap_append]
 cases h:l8 v t g m<;>simp[fe,h]
theorem n7 (v:Int) (u:bq) (m:Nat):ff v u (m+1)=ff v u m++fe v m (u.gr m) (u.gr m).nodes.length:=by
 rw[ff,List.range_succ,List.flatMap_append];simp[ff]
theorem tX (v:Int) (t:Nat) (g:br) (m:Nat):(fe v t g m).length<=m:=by
 have:=List.length_filterMap_le (l8 v t g) (List.range m)
 simpa[fe] using this
theorem pG {u:bq} (v:Int) (h:∀g∈u.bo,g.nodes.length<=4096) {m:Nat} (hm:m<=u.bo.length):(ff v u m).length<=4096 * m:=by
 induction m with
 |zero=>simp[ff]
 |succ k ih=>
  rw[n7,List.length_append]
  have:=ih (by omega)
  have h1:=tX v k (u.gr k) (u.gr k).nodes.length
  have h2:=h _ (cE (j:=k) default (l:=u.bo) (by omega))
  have h3:u.gr k=u.bo.getD k default:=rfl
  rw[<-h3] at h2
  omega
theorem sj (a b:List Acc) (v:Int):fH (a++b) v=fH a v++fH b v:=by simp[fH]
theorem AD (x:Acc) (v:Int):fH [x] v=if(vd x.2.1&&decide (x.2.1.cT=v))=true then[(x.1,x.2.2)] else[]:=by
 unfold fH;rw[List.filter_cons];split<;>rfl
theorem yH (v:Int) (t:Nat) (g:br) (m:Nat):fH (n0 t g m) v=(fe v t g m).map fun x=>(x.1,x.2.2):=by
 induction m with
 |zero=>simp[n0,fe,fH]
 |succ k ih=>
  rw[tW,rB,sj,ih,List.map_append]
  congr 1
  unfold sy l8
  by_cases h:iF (cj g (-1)) k=true
  ·rw[if_pos h]
   rw[Option.toList_some,AD]
   dsimp only
   by_cases h2:(vd (g.nd k)&&decide ((g.nd k).cT=v))=true
   ·rw[if_pos h2,if_pos ⟨h,h2⟩];rfl
   ·rw[if_neg h2,if_neg (fun e=>h2 e.2)];rfl
  ·rw[if_neg h,if_neg (fun e=>h e.1)];rfl
theorem yI (v:Int) (u:bq) (m:Nat):fH (iJ u m) v=(ff v u m).map fun x=>(x.1,x.2.2):=by
 induction m with
 |zero=>simp[iJ,ff,fH]
 |succ k ih=>rw[tY,n7,sj,ih,yH,List.map_append]
def jZ (x:ln):AV:= .agg [i64 x.1,i64 x.2.1]
def lb (x:ln):AV:=dV (iI x.2.2)
theorem wK (l:List ln):cL 0 (l.map jZ):=(cK _ _).2 fun _ _=>by simp[jZ,cJ,cL]
theorem wL (l:List ln):cL 0 (l.map lb):=(cK _ _).2 fun _ _=>by simp[lb,dV,cJ,cK]
theorem ru {u:bq} {g:br} (h:dR u g) (i:Nat):((cx g).1.getD i []).length<=5000:=by
 have:=uP g i
 have:=h.len
 omega
set_option maxRecDepth 4000 in
set_option maxHeartbeats 8000000 in
theorem ow (u:bq) (hu:u.Wf) (hr:cX u) (v:Int):Pure Tryz.prog 46 [u.av,i64 v] (fun r=>r= .dK [.im 2 .any ((ff v u u.bo.length).map jZ), .im 1 .any ((ff v u u.bo.length).map lb)]):=by
 refine cV ?_ (by simp only[cJ,cL];exact⟨wK _,wL _,trivial⟩)
 refine aI GK rfl ?_
 have hgm:(u.bo.map br.av).length=u.bo.length:=by simp
 have hfew:=hr.wI
 have h4:∀g∈u.bo,g.nodes.length<=4096:=fun g hg=>(hr.bo g hg).len.2
 repeat' (first|refine aQ ?_|exact cP|with_reducible refine aB ?_ ?_|((with_reducible refine Ask.mk ?_);first|exact bx|exact bt|(intro h;simp_all[bq.cells]<;>fail)|(simp_all[bq.cells]<;>fail))|(apply aA;(·exact bp))|refine aH ?_|((with_reducible refine aE ?_ ?_)<;>intro hc<;>try(exfalso;omega)))
 refine aP (fun t:Nat=>[(1,i64 v),(2, .pt 0 1 0 0),(6, .sl 6 (ff v u t).length),(7, .sl 7 (ff v u t).length),(8,i64 t)])
  (fun t H n=>t<=u.bo.length/\8<=n/\(∃d,bk H 0=some (.row 25 3 d [u.av]))/\(∃d,bk H 6=some (.row 88 2 d ((ff v u t).map jZ)))/\∃d,bk H 7=some (.row 89 1 d ((ff v u t).map lb))) (fun t=>u.bo.length - t) 0 ⟨_,_,_,(Rt.nil 6 88 2 (by omega) rfl).trans (Rt.nil 7 89 1 (by omega) rfl),bu,Nat.zero_le _,cI,⟨_,bm⟩,⟨_,bm⟩,⟨_,bm⟩⟩ ?_
 rintro t H n ⟨ht,hn,⟨d0,r0⟩,⟨d6,r6⟩,d7,r7⟩
 have hac:=pG (u:=u) v h4 ht
 by_cases htl:t<u.bo.length
 ·have eg:=fun d=>j3 (l:=u.bo) htl d
  rw[show u.bo.getD t default=u.gr t from rfl] at eg
  have hg:(u.gr t).Wf:=hu.bo _ (cE default htl)
  have hgo:=hr.gr htl
  have hrc:=k9 (u.gr t) hg hgo.whole
  have hho:=we (u.gr t) hg hgo.whole hgo.held (ru hgo)
  have hL:=(ko hgo.whole hgo.held).2.1
  have hgl:=hgo.len
  have hsu:=n7 v u t
  generalize u.gr t=g at *
  repeat' (first|refine aQ ?_|exact cP|with_reducible refine aB ?_ ?_|((with_reducible refine Ask.mk ?_);first|exact bx|(exact hgm)|exact bt|(intro h;simp_all[bq.cells,br.cells]<;>fail)|(simp_all[bq.cells,br.cells]<;>fail))|(apply aA;(·(first|exact eg _|exact bp)))|refine aK (hrc) ?_|refine aK (hho) ?_|refine aH ?_|((with_reducible refine aE ?_ ?_)<;>intro hc<;>try(exfalso;omega)))
  generalize hR0:ff v u t=R0 at *
  refine aF (fun k:Nat=>[(1,i64 v),(2, .pt 0 1 0 0),(6, .sl 6 (R0++fe v t g k).length),(7, .sl 7 (R0++fe v t g k).length),(8,i64 t),(9,fE (cj g (-1))),(10,qm ((cx g).1.map iI)),(11,i64 k)])
   (fun k H n2=>k<=g.nodes.length/\n<=n2/\(∃d,bk H 0=some (.row 25 3 d [u.av]))/\(∃d,bk H 6=some (.row 88 2 d ((R0++fe v t g k).map jZ)))/\∃d,bk H 7=some (.row 89 1 d ((R0++fe v t g k).map lb))) (fun k=>g.nodes.length - k) 0 (by rw[show R0++fe v t g 0=R0 by simp[fe]];exact bu) ⟨Nat.zero_le _,cI,⟨_,bm⟩,⟨_,by rw[show R0++fe v t g 0=R0 by simp[fe]];exact bm⟩,⟨_,by rw[show R0++fe v t g 0=R0 by simp[fe]];exact bm⟩⟩ ?_
  clear r0 r6 r7
  rintro k H2 n2 ⟨hk,hn2,⟨d0,r0⟩,⟨d6,r6⟩,d7,r7⟩
  have hrm:((cj g (-1)).map bl).length=g.nodes.length:=by rw[List.length_map,dW]
  have hrm2:=dW g (-1)
  by_cases hkl:k<g.nodes.length
  ·have en:=fun d=>eH (l:=g.nodes) hkl d
   rw[show g.nodes.getD k default=g.nd k from rfl] at en
   have er:=fun d=>kF (l:=cj g (-1)) (k:=(k:Int)) d (by rw[dW];exact hkl)
   have eh:=fun d=>iy (l:=(cx g).1.map iI) (i:=(k:Int)) (by rw[Int.toNat_natCast,List.length_map,hL];exact hkl) d
   rw[show((cx g).1.map iI).getD (k:Int).toNat []=iI ((cx g).1.getD k []) by rw[Int.toNat_natCast];simp[List.getD,hL,hkl]] at eh
   have hhm:(((cx g).1.map iI).map dV).length=g.nodes.length:=by simp[hL]
   have htp:=tI (g.nd k) v
   have hsk:=rB v t g k
   have hlk:=tX v t g k
   have hnm:(g.nodes.map Node.av).length=g.nodes.length:=by simp
   have hR:(R0++fe v t g k).length<=40000:=by rw[List.length_append];omega
   have hRa:((R0++fe v t g k).map jZ).length=(R0++fe v t g k).length:=by simp
   have hRl:((R0++fe v t g k).map lb).length=(R0++fe v t g k).length:=by simp
   by_cases hf:iF (cj g (-1)) (k:Int)=true
   ·rw[hf] at er
    by_cases h2:(vd (g.nd k)&&decide ((g.nd k).cT=v))=true
    ·rw[h2] at htp
     rw[show l8 v t g k=some (t,k,(cx g).1.getD k []) by unfold l8;rw[if_pos ⟨hf,h2⟩]] at hsk
     have hsk2:R0++fe v t g (k+1)=(R0++fe v t g k)++[(t,k,(cx g).1.getD k [])]:=by rw[hsk,<-List.append_assoc];rfl
     generalize R0++fe v t g k=R at *
     repeat' (first|refine aQ ?_|exact cP|with_reducible refine aB ?_ ?_|((with_reducible refine Ask.mk ?_);first|exact bx|(exact hgm)|(exact hrm)|(exact hhm)|(exact hnm)|(exact hRa)|(exact hRl)|exact bt|(intro h;simp_all[bq.cells,br.cells,Node.cells]<;>fail)|(simp_all[bq.cells,br.cells,Node.cells]<;>fail))|(apply aA;(·(first|exact eg _|exact en _|exact er _|exact eh _|exact bp)))|refine aK (htp) ?_|refine aH ?_|((with_reducible refine aE ?_ ?_)<;>intro hc<;>try(exfalso;omega)))
     exact⟨k+1,by omega,by rw[hsk2,List.length_append];exact bu,by omega,cI,⟨_,bm⟩,⟨_,Eq.trans (b:=some (.row 88 2 _ _)) bm (lY (by rw[hsk2,List.map_append];rfl))⟩,⟨_,Eq.trans (b:=some (.row 89 1 _ _)) bm (lY (by rw[hsk2,List.map_append];rfl))⟩⟩
    ·rw[show(vd (g.nd k)&&decide ((g.nd k).cT=v))=false by simpa using h2] at htp
     rw[show l8 v t g k=none by unfold l8;rw[if_neg (fun e=>h2 e.2)],Option.toList_none,List.append_nil] at hsk
     repeat' (first|refine aQ ?_|exact cP|with_reducible refine aB ?_ ?_|((with_reducible refine Ask.mk ?_);first|exact bx|(exact hgm)|(exact hrm)|(exact hhm)|(exact hnm)|exact bt|(intro h;simp_all[bq.cells,br.cells,Node.cells]<;>fail)|(simp_all[bq.cells,br.cells,Node.cells]<;>fail))|(apply aA;(·(first|exact eg _|exact en _|exact er _|exact eh _|exact bp)))|refine aK (htp) ?_|refine aH ?_|((with_reducible refine aE ?_ ?_)<;>intro hc<;>try(exfalso;omega)))
     exact⟨k+1,by omega,by rw[hsk];exact bu,by omega,cI,⟨_,bm⟩,⟨_,by rw[hsk];exact bm⟩,⟨_,by rw[hsk];exact bm⟩⟩
   ·rw[show iF (cj g (-1)) (k:Int)=false by simpa using hf] at er
    rw[show l8 v t g k=none by unfold l8;rw[if_neg (fun e=>hf e.1)],Option.toList_none,List.append_nil] at hsk
    repeat' (first|refine aQ ?_|exact cP|with_reducible refine aB ?_ ?_|((with_reducible refine Ask.mk ?_);first|exact bx|(exact hgm)|(exact hrm)|(exact hhm)|(exact hnm)|exact bt|(intro h;simp_all[bq.cells,br.cells,Node.cells]<;>fail)|(simp_all[bq.cells,br.cells,Node.cells]<;>fail))|(apply aA;(·(first|exact eg _|exact en _|exact er _|exact eh _|exact bp)))|refine aH ?_|((with_reducible refine aE ?_ ?_)<;>intro hc<;>try(exfalso;omega)))
    exact⟨k+1,by omega,by rw[hsk];exact bu,by omega,cI,⟨_,bm⟩,⟨_,by rw[hsk];exact bm⟩,⟨_,by rw[hsk];exact bm⟩⟩
  ·have:k=g.nodes.length:=by omega
   subst this
   rw[<-hsu] at r6 r7 ⊢
   repeat' (first|refine aQ ?_|exact cP|with_reducible refine aB ?_ ?_|((with_reducible refine Ask.mk ?_);first|exact bx|(exact hrm)|exact bt|(intro h;simp_all[bq.cells]<;>fail)|(simp_all[bq.cells]<;>fail))|(apply aA;(·exact bp))|refine aH ?_|((with_reducible refine aE ?_ ?_)<;>intro hc<;>try(exfalso;omega)))
   exact⟨t+1,by omega,_,_,_,Rt.refl _ _ _,bu,by omega,cI,⟨_,bm⟩,⟨_,bm⟩,⟨_,bm⟩⟩
 ·have:t=u.bo.length:=by omega
  subst this
  repeat' (first|refine aQ ?_|exact cP|with_reducible refine aB ?_ ?_|((with_reducible refine Ask.mk ?_);first|exact bx|(exact hgm)|exact bt|(intro h;simp_all[bq.cells]<;>fail)|(simp_all[bq.cells]<;>fail))|(apply aA;(·exact bp))|refine aH ?_|((with_reducible refine aE ?_ ?_)<;>intro hc<;>try(exfalso;omega)))
  refine⟨?_⟩
  have e1:∀(H:Hp) (a b:Nat),dD.de H 6 (.dK [.sl 6 a, .sl 7 b])= .dK [dD.de H 5 (.sl 6 a),dD.de H 5 (.sl 7 b)]:=fun H a b=>by
   simp only[de,List.map_cons,List.map_nil]
  refine(e1 _ _ _).trans ?_
  rw[dM (b:=6) (e:=88) (sz:=2) (d:=d6) (es:=(ff v u u.bo.length).map jZ) bm (by simp),dM (b:=7) (e:=89) (sz:=1) (d:=d7) (es:=(ff v u u.bo.length).map lb) bm (by simp),cf _ (wK _),cf _ (wL _)]
def nQ (R:List ln) (j:Nat):Bool:=R.all fun x=>decide ((j:Int)∈iI x.2.2)
def jy (R:List ln) (m:Nat):List Int:=((List.range m).filter (nQ R)).map fun(j:Nat)=>(j:Int)
theorem CC (R:List ln) (m:Nat):jy R (m+1)=jy R m++(if nQ R m=true then[(m:Int)] else[]):=by
 unfold jy
 rw[List.range_succ,List.filter_append,List.map_append]
 congr 1
 rw[List.filter_cons];split<;>simp
theorem FD (R:List ln) (m:Nat):(jy R m).length<=m:=by
 unfold jy
 rw[List.length_map]
 have:=List.length_filter_le (nQ R) (List.range m)
 simpa using this
theorem CL (R:List ln) (j:Nat):nQ R j=w6 (R.map fun x=>(x.1,x.2.2)) j:=by
 unfold nQ w6
 rw[List.all_map]
 congr 1
 funext x
 show _=List.any x.2.2 _
 rw[Bool.eq_iff_iff,decide_eq_true_eq,I1,List.any_eq_true]
 constructor
 ·intro h;exact⟨_,h,by simp⟩
 ·rintro⟨k,h1,h2⟩;rw[<-of_decide_eq_true h2];exact h1
def sZ (R:List ln) (k:Nat):Bool:=(R.take k).any fun x=>decide ((x.1:Int)≠((R.getD 0 default).1:Nat))
def uy (R:List ln) (m:Nat):cF:=if R.length=0 then⟨0,0,0⟩ else if sZ R R.length=false then⟨1,((R.getD 0 default).1:Nat),0⟩ else if 0<(jy R m).length then⟨2,0,(jy R m).getD 0 0⟩ else⟨3,0,0⟩
theorem BR (R:List ln) (m:Nat):uy R m=mH m (R.map fun x=>(x.1,x.2.2)):=by
 cases R with
 |nil=>rfl
 |cons x r=>
  obtain⟨t,i,l⟩:=x
  unfold uy
  rw[if_neg (by simp),List.map_cons,mH]
  have hs:(sZ ((t,i,l)::r) ((t,i,l)::r).length=false)↔(r.map fun x=>(x.1,x.2.2)).all (fun x=>decide (x.1=t))=true:=by
   unfold sZ
   rw[List.take_length]
   simp[List.any_eq_false,List.getD]
   constructor<;>(intro h a b c d;have:=h a b c d;omega)
  by_cases h:(r.map fun x=>(x.1,x.2.2)).all (fun x=>decide (x.1=t))=true
  ·rw[if_pos (hs.2 h),if_pos h];rfl
  ·rw[if_neg (mt hs.1 h),if_neg h]
   have hf:(List.range m).find? (w6 ((t,l)::r.map fun x=>(x.1,x.2.2)))=((List.range m).filter (nQ ((t,i,l)::r))).head?:=by
    rw[List.head?_filter]
    congr 1
    funext j
    rw[CL];rfl
   rw[hf]
   unfold jy
   cases hc:(List.range m).filter (nQ ((t,i,l)::r)) with
   |nil=>rfl
   |cons a b=>rw[if_pos (by simp)];rfl
theorem MM {R:List ln} {k:Nat} (h:k<R.length) (d:AV):(R.map lb).getD (k:Int).toNat d= .im 1 .any ((iI (R.getD k default).2.2).map i64):=by
 rw[Int.toNat_natCast];exact dG lb R k d h
theorem yW {R:List ln} {k:Nat} (h:k<R.length) (d:AV):(R.map jZ).getD (k:Int).toNat d= .agg [i64 (R.getD k default).1,i64 (R.getD k default).2.1]:=by
 rw[Int.toNat_natCast];exact dG jZ R k d h
theorem D1 {u:bq} (hr:cX u) (v:Int) {k:Nat} (hk:k<(ff v u u.bo.length).length):((ff v u u.bo.length).getD k default).2.2.length<=5000:=by
 have hm:(ff v u u.bo.length).getD k default∈ff v u u.bo.length:=cE default hk
 generalize (ff v u u.bo.length).getD k default=x at *
 unfold ff at hm
 obtain⟨t,ht,h1⟩:=List.mem_flatMap.1 hm
 obtain⟨i,hi,h2⟩:=List.mem_filterMap.1 h1
 unfold l8 at h2
 split at h2
 ·cases h2;exact ru (hr.gr (List.mem_range.1 ht)) i
 ·cases h2
set_option maxRecDepth 4000 in
set_option maxHeartbeats 8000000 in
theorem w8 (u:bq) (hu:u.Wf) (hr:cX u) (v:Int):Pure Tryz.prog 47 [u.av,i64 v] (fun r=>r=dV (if(ff v u u.bo.length).length=0 then[] else jy (ff v u u.bo.length) u.bz.length)):=by
 have htp:=ow u hu hr v
 have hsh:=fun k hk=>D1 hr v (k:=k) hk
 have hfew:=hr.wI
 have hRl:=pG (u:=u) v (fun g hg=>(hr.bo g hg).len.2) (Nat.le_refl _)
 refine cV ?_ (by simp only[dV,cJ];exact oP _ _)
 refine aI GL rfl ?_
 generalize ff v u u.bo.length=R at *
 have hlm:(u.bz.map Decl.av).length=u.bz.length:=by simp
 have hRa:(R.map jZ).length=R.length:=by simp
 have hRk:(R.map lb).length=R.length:=by simp
 repeat' (first|refine aQ ?_|exact cP|with_reducible refine aB ?_ ?_|((with_reducible refine Ask.mk ?_);first|exact bx|exact bt|(intro h;simp_all[bq.cells]<;>fail)|(simp_all[bq.cells]<;>fail))|(apply aA;(·exact bp))|refine aK (htp) ?_|refine aH ?_|((with_reducible refine aE ?_ ?_)<;>intro hc<;>try(exfalso;omega)))
 refine aP (fun l:Nat=>[(2, .pt 0 1 0 0),(5, .im 2 .any (R.map jZ)),(6, .im 1 .any (R.map lb)),(7, .sl 11 (jy R l).length),(8,i64 l)])
  (fun l H n=>l<=u.bz.length/\(R.length=0->l=0)/\12<=n/\(∃d,bk H 0=some (.row 25 3 d [u.av]))/\∃d,bk H 11=some (.row 3 1 d ((jy R l).map i64))) (fun l=>u.bz.length - l) 0 ⟨_,_,_,Rt.nil 7 3 1 (by omega) rfl,bu,Nat.zero_le _,fun _=>rfl,cI,⟨_,bm⟩,⟨_,bm⟩⟩ ?_
 rintro l H n ⟨hl,hz,hn,⟨d0,r0⟩,d1,r1⟩
 by_cases hll:l<u.bz.length/\0<R.length
 ·obtain⟨hl1,hl2⟩:=hll
  have hgm:((jy R l).map i64).length=(jy R l).length:=by simp
  have hgl:=FD R l
  have hgs:=CC R l
  repeat' (first|refine aQ ?_|exact cP|with_reducible refine aB ?_ ?_|((with_reducible refine Ask.mk ?_);first|exact bx|(exact hlm)|(exact hRa)|exact bt|(intro h;simp_all[bq.cells]<;>fail)|(simp_all[bq.cells]<;>fail))|(apply aA;(·exact bp))|refine aH ?_|((with_reducible refine aE ?_ ?_)<;>intro hc<;>try(exfalso;omega)))
  refine aF (fun σ:Nat×Bool=>[(2, .pt 0 1 0 0),(5, .im 2 .any (R.map jZ)),(6, .im 1 .any (R.map lb)),(7, .sl 11 (jy R l).length),(8,i64 l),(9,bl σ.2),(10,i64 σ.1)])
   (fun σ H m=>n<=m/\σ.1<=R.length/\σ.2=nQ (R.take σ.1) l/\(∃d,bk H 0=some (.row 25 3 d [u.av]))/\∃d,bk H 11=some (.row 3 1 d ((jy R l).map i64))) (fun σ=>R.length - σ.1) (0,true) bu ⟨cI,Nat.zero_le _,rfl,⟨_,bm⟩,⟨_,bm⟩⟩ ?_
  clear r0 r1
  rintro⟨k,al⟩ H2 m ⟨hm,hk,hal,⟨d0,r0⟩,d1,r1⟩
  dsimp only at hk hal ⊢
  by_cases hkl:k<R.length
  ·have ek:=fun d=>MM hkl d
   have hh:=DE (iI (R.getD k default).2.2) (Nat.le_trans (xl _) (hsh k hkl)) l
   unfold dV at hh
   have hnx:nQ (R.take (k+1)) l=(al&&decide ((l:Int)∈iI (R.getD k default).2.2)):=by
    rw[hal,List.take_succ_eq_append_getElem hkl]
    unfold nQ
    rw[List.all_append];simp[List.getD,hkl]
   cases al with
   |false=>
    repeat' (first|refine aQ ?_|exact cP|with_reducible refine aB ?_ ?_|((with_reducible refine Ask.mk ?_);first|exact bx|(exact hRa)|(exact hRk)|exact bt)|(apply aA;(·(first|exact ek _|exact bp)))|refine aK (hh) ?_|refine aH ?_|((with_reducible refine aE ?_ ?_)<;>intro hc<;>try(exfalso;omega)))
    exact⟨(k+1,false),by dsimp only;omega,bu,cI,by dsimp only;omega,by dsimp only;rw[hnx];rfl,⟨_,bm⟩,⟨_,bm⟩⟩
   |true=>
    repeat' (first|refine aQ ?_|exact cP|with_reducible refine aB ?_ ?_|((with_reducible refine Ask.mk ?_);first|exact bx|(exact hRa)|(exact hRk)|exact bt)|(apply aA;(·(first|exact ek _|exact bp)))|refine aK (hh) ?_|refine aH ?_|((with_reducible refine aE ?_ ?_)<;>intro hc<;>try(exfalso;omega)))
    exact⟨(k+1,decide ((l:Int)∈iI (R.getD k default).2.2)),by dsimp only;omega,bu,cI,by dsimp only;omega,by dsimp only;rw[hnx];rfl,⟨_,bm⟩,⟨_,bm⟩⟩
  ·have:k=R.length:=by omega
   subst this
   rw[List.take_length] at hal
   rw[<-hal] at hgs
   cases al with
   |false=>
    rw[if_neg (by decide),List.append_nil] at hgs
    repeat' (first|refine aQ ?_|exact cP|with_reducible refine aB ?_ ?_|((with_reducible refine Ask.mk ?_);first|exact bx|(exact hRa)|(exact hRk)|exact bt)|(apply aA;(·exact bp))|refine aH ?_|((with_reducible refine aE ?_ ?_)<;>intro hc<;>try(exfalso;omega)))
    exact⟨l+1,by omega,_,_,_,Rt.refl _ _ _,by rw[hgs];exact bu,by omega,fun h=>by omega,cI,⟨_,bm⟩,⟨_,by rw[hgs];exact bm⟩⟩
   |true=>
    rw[if_pos rfl] at hgs
    repeat' (first|refine aQ ?_|exact cP|with_reducible refine aB ?_ ?_|((with_reducible refine Ask.mk ?_);first|exact bx|(exact hRa)|(exact hRk)|(exact hgm)|exact bt)|(apply aA;(·exact bp))|refine aH ?_|((with_reducible refine aE ?_ ?_)<;>intro hc<;>try(exfalso;omega)))
    exact⟨l+1,by omega,_,_,_,Rt.refl _ _ _,by rw[hgs,List.length_append];exact bu,by omega,fun h=>by omega,cI,⟨_,bm⟩,⟨_,Eq.trans (b:=some (.row 3 1 _ _)) bm (lY (by rw[hgs,List.map_append];rfl))⟩⟩
 ·have hfin:(if R.length=0 then[] else jy R u.bz.length)=jy R l:=by
   by_cases h:R.length=0
   ·rw[if_pos h,hz h];rfl
   ·rw[if_neg h,show l=u.bz.length by omega]
  rw[hfin]
  repeat' (first|refine aQ ?_|exact cP|with_reducible refine aB ?_ ?_|((with_reducible refine Ask.mk ?_);first|exact bx|(exact hlm)|(exact hRa)|exact bt|(intro h;simp_all[bq.cells]<;>fail)|(simp_all[bq.cells]<;>fail))|(apply aA;(·exact bp))|refine aH ?_|((with_reducible refine aE ?_ ?_)<;>intro hc<;>try(exfalso;omega)))
  all_goals exact⟨(dM bm (by simp)).trans (by rw[cf _ (oP _ _)];rfl)⟩
theorem zt {R:List ln} {k:Nat} (h:k<R.length):sZ R (k+1)=(sZ R k||decide (((R.getD k default).1:Int)≠((R.getD 0 default).1:Nat))):=by
 unfold sZ
 rw[List.take_succ_eq_append_getElem h,List.any_append,show R.getD k default=R[k] by simp[List.getD,h],List.any_cons,List.any_nil,Bool.or_false]
theorem wA (u:bq) (m:Nat):(fy u (m+1)).map cF.av=(fy u m).map cF.av++[(uy (ff (m:Int) u u.bo.length) u.bz.length).av]:=by
 rw[oN,BR,yI]
set_option maxRecDepth 4000 in
set_option maxHeartbeats 8000000 in
theorem tH (u:bq) (hu:u.Wf):Pure Tryz.prog 25 [u.av] (fun r=>r=if k8 u=true then .dK [gk u,i64 0] else .dK [.sc (.slice none 0 0),i64 60]):=by
 have hck:=kQ u hu
 by_cases hr:cX u
 ·rw[if_pos (cR.2 hr)]
  rw[iu.2 hr] at hck
  have hfew:=hr.wI
  refine cV ?_ (by simp only[cJ,cL,gk];exact⟨iB _,trivial,trivial⟩)
  refine aI CS rfl ?_
  have hsm:(u.shared.map Decl.av).length=u.shared.length:=by simp
  have hcl:∀v,(fy u v).length=v:=fun v=>by simp[fy]
  repeat' (first|refine aQ ?_|exact cP|with_reducible refine aB ?_ ?_|((with_reducible refine Ask.mk ?_);first|exact bx|exact bt|(intro h;simp_all[bq.cells]<;>fail)|(simp_all[bq.cells]<;>fail))|(apply aA;(·exact bp))|refine aK (hck) ?_|refine aH ?_|((with_reducible refine aE ?_ ?_)<;>intro hc<;>try(exfalso;omega)))
  all_goals first|(exfalso;simp at hc;done)|skip
  refine aP (fun x:Nat=>[(1, .pt 0 1 0 0),(7, .sl 15 x),(8,i64 x)])
   (fun x H n=>x<=u.shared.length/\16<=n/\(∃d,bk H 0=some (.row 25 3 d [u.av]))/\∃d,bk H 15=some (.row 80 3 d ((fy u x).map cF.av))) (fun x=>u.shared.length - x) 0 ⟨_,_,_,Rt.nil 7 80 3 (by omega) rfl,bu,Nat.zero_le _,cI,⟨_,bm⟩,⟨_,bm⟩⟩ ?_
  clear hck
  rintro x H n ⟨hx,hn,⟨d0,r0⟩,d1,r1⟩
  by_cases hxl:x<u.shared.length
  ·have htp:=ow u hu hr x
   have hgp:=w8 u hu hr x
   have hRl:=pG (u:=u) (x:Int) (fun g hg=>(hr.bo g hg).len.2) (Nat.le_refl _)
   have hnx:=wA u x
   have hml:((fy u x).map cF.av).length=x:=by rw[List.length_map,hcl]
   generalize hR:ff (x:Int) u u.bo.length=R at *
   have hRa:(R.map jZ).length=R.length:=by simp
   unfold dV at hgp
   repeat' (first|refine aQ ?_|exact cP|with_reducible refine aB ?_ ?_|((with_reducible refine Ask.mk ?_);first|exact bx|(exact hsm)|exact bt|(intro h;simp_all[bq.cells]<;>fail)|(simp_all[bq.cells]<;>fail))|(apply aA;(·exact bp))|refine aK (htp) ?_|refine aH ?_|((with_reducible refine aE ?_ ?_)<;>intro hc<;>try(exfalso;omega)))
   refine aF (fun σ:Nat×Bool=>[(1, .pt 0 1 0 0),(7, .sl 15 x),(8,i64 x),(9, .im 2 .any (R.map jZ)),(11,bl σ.2),(12,i64 σ.1)])
    (fun σ H m=>n<=m/\σ.1<=R.length/\σ.2=sZ R σ.1/\(∃d,bk H 0=some (.row 25 3 d [u.av]))/\∃d,bk H 15=some (.row 80 3 d ((fy u x).map cF.av))) (fun σ=>R.length - σ.1) (0,false) bu ⟨cI,Nat.zero_le _,rfl,⟨_,bm⟩,⟨_,bm⟩⟩ ?_
   clear r0 r1
   rintro⟨k,sv⟩ H2 m ⟨hm,hk,hsv,⟨d0,r0⟩,d1,r1⟩
   dsimp only at hk hsv ⊢
   by_cases hkl:k<R.length
   ·have ek:=fun d=>yW hkl d
    have e0:∀d,(R.map jZ).getD (0:Int).toNat d= .agg [i64 (R.getD 0 default).1,i64 (R.getD 0 default).2.1]:=fun d=>yW (k:=0) (by omega) d
    have hs2:=zt hkl
    rw[<-hsv] at hs2
    cases sv with
    |true=>
     repeat' (first|refine aQ ?_|exact cP|with_reducible refine aB ?_ ?_|((with_reducible refine Ask.mk ?_);first|exact bx|(exact hRa)|exact bt)|(apply aA;(·(first|exact ek _|exact e0 _|exact bp)))|refine aH ?_|((with_reducible refine aE ?_ ?_)<;>intro hc<;>try(exfalso;omega)))
     exact⟨(k+1,true),by dsimp only;omega,bu,cI,by dsimp only;omega,by dsimp only;rw[hs2];rfl,⟨_,bm⟩,⟨_,bm⟩⟩
    |false=>
     repeat' (first|refine aQ ?_|exact cP|with_reducible refine aB ?_ ?_|((with_reducible refine Ask.mk ?_);first|exact bx|(exact hRa)|exact bt)|(apply aA;(·(first|exact ek _|exact e0 _|exact bp)))|refine aH ?_|((with_reducible refine aE ?_ ?_)<;>intro hc<;>try(exfalso;omega)))
     exact⟨(k+1,decide (((R.getD k default).1:Int)≠((R.getD 0 default).1:Nat))),by dsimp only;omega,bu,cI,by dsimp only;omega,by dsimp only;rw[hs2];rfl,⟨_,bm⟩,⟨_,bm⟩⟩
   ·have:k=R.length:=by omega
    subst this
    unfold uy at hnx
    by_cases hz:R.length=0
    ·rw[if_pos hz] at hnx
     repeat' (first|refine aQ ?_|exact cP|with_reducible refine aB ?_ ?_|((with_reducible refine Ask.mk ?_);first|exact bx|(exact hRa)|(exact hml)|exact bt|(intro h;simp_all[cF.cells]<;>fail)|(simp_all[cF.cells]<;>fail))|(apply aA;(·exact bp))|refine aK (hgp) ?_|refine aH ?_|((with_reducible refine aE ?_ ?_)<;>intro hc<;>try(exfalso;omega)))
     all_goals exact⟨x+1,by omega,_,_,_,Rt.refl _ _ _,bu,by omega,cI,⟨_,bm⟩,⟨_,Eq.trans (b:=some (.row 80 3 _ _)) bm (lY (by rw[hnx];rfl))⟩⟩
    ·rw[if_neg hz,<-hsv] at hnx
     rw[if_neg hz] at hgp
     have e0:∀d,(R.map jZ).getD (0:Int).toNat d= .agg [i64 (R.getD 0 default).1,i64 (R.getD 0 default).2.1]:=fun d=>yW (k:=0) (by omega) d
     cases sv with
     |false=>
      rw[if_pos rfl] at hnx
      repeat' (first|refine aQ ?_|exact cP|with_reducible refine aB ?_ ?_|((with_reducible refine Ask.mk ?_);first|exact bx|(exact hRa)|(exact hml)|exact bt|(intro h;simp_all[cF.cells]<;>fail)|(simp_all[cF.cells]<;>fail))|(apply aA;(·(first|exact e0 _|exact bp)))|refine aK (hgp) ?_|refine aH ?_|((with_reducible refine aE ?_ ?_)<;>intro hc<;>try(exfalso;omega)))
      all_goals exact⟨x+1,by omega,_,_,_,Rt.refl _ _ _,bu,by omega,cI,⟨_,bm⟩,⟨_,Eq.trans (b:=some (.row 80 3 _ _)) bm (lY (by rw[hnx];rfl))⟩⟩
     |true=>
      rw[if_neg (by decide)] at hnx
      have hgm:((jy R u.bz.length).map i64).length=(jy R u.bz.length).length:=by simp
      by_cases hg:0<(jy R u.bz.length).length
      ·rw[if_pos hg] at hnx
       have eg:∀d,((jy R u.bz.length).map i64).getD (0:Int).toNat d=i64 ((jy R u.bz.length).getD 0 0):=fun d=>e9 (i:=0) hg d
       repeat' (first|refine aQ ?_|exact cP|with_reducible refine aB ?_ ?_|((with_reducible refine Ask.mk ?_);first|exact bx|(exact hRa)|(exact hml)|(exact hgm)|exact bt|(intro h;simp_all[cF.cells]<;>fail)|(simp_all[cF.cells]<;>fail))|(apply aA;(·(first|exact eg _|exact bp)))|refine aK (hgp) ?_|refine aH ?_|((with_reducible refine aE ?_ ?_)<;>intro hc<;>try(exfalso;omega)))
       all_goals exact⟨x+1,by omega,_,_,_,Rt.refl _ _ _,bu,by omega,cI,⟨_,bm⟩,⟨_,Eq.trans (b:=some (.row 80 3 _ _)) bm (lY (by rw[hnx];rfl))⟩⟩
      ·rw[if_neg hg] at hnx
       repeat' (first|refine aQ ?_|exact cP|with_reducible refine aB ?_ ?_|((with_reducible refine Ask.mk ?_);first|exact bx|(exact hRa)|(exact hml)|(exact hgm)|exact bt|(intro h;simp_all[cF.cells]<;>fail)|(simp_all[cF.cells]<;>fail))|(apply aA;(·exact bp))|refine aK (hgp) ?_|refine aH ?_|((with_reducible refine aE ?_ ?_)<;>intro hc<;>try(exfalso;omega)))
       all_goals exact⟨x+1,by omega,_,_,_,Rt.refl _ _ _,bu,by omega,cI,⟨_,bm⟩,⟨_,Eq.trans (b:=some (.row 80 3 _ _)) bm (lY (by rw[hnx];rfl))⟩⟩
  ·have:x=u.shared.length:=by omega
   subst this
   repeat' (first|refine aQ ?_|exact cP|with_reducible refine aB ?_ ?_|((with_reducible refine Ask.mk ?_);first|exact bx|(exact hsm)|exact bt|(intro h;simp_all[bq.cells]<;>fail)|(simp_all[bq.cells]<;>fail))|(apply aA;(·exact bp))|refine aH ?_|((with_reducible refine aE ?_ ?_)<;>intro hc<;>try(exfalso;omega)))
   refine⟨?_⟩
   have e1:∀H,dD.de H 6 (.dK [.sl 15 u.shared.length,i64 0])= .dK [dD.de H 5 (.sl 15 u.shared.length),i64 0]:=fun H=>by
    simp only[de,List.map_cons,List.map_nil]
   refine(e1 _).trans ?_
   rw[dM (b:=15) (e:=80) (sz:=3) (d:=d1) (es:=(fy u u.shared.length).map cF.av) bm (by rw[List.length_map,hcl]),cf _ (iB _)]
   rfl
 ·rw[if_neg (mt cR.1 hr)]
  have hbad:=jl hr
  generalize gT u=c at *
  obtain⟨c1,c2,c3⟩:=c
  dsimp only at hbad
  subst hbad
  refine aG CS rfl ?_
  repeat' (first|refine aQ ?_|exact cP|with_reducible refine aB ?_ ?_|((with_reducible refine Ask.mk ?_);first|exact bx|exact bt|(intro h;simp_all[bq.cells]<;>fail)|(simp_all[bq.cells]<;>fail))|(apply aA;(·exact bp))|refine aK (hck) ?_|refine aH ?_|((with_reducible refine aE ?_ ?_)<;>intro hc<;>try(exfalso;omega)))
  all_goals first|exact rfl|(exfalso;simp at hc;done)
end Go.Proofs.YtmonponfppdgfaaGreatDoor
