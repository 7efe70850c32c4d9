import Derived.Test.YtmonponfppdgfaaGreatDoorM33
import Derived.Test.YtmonponfppdgfaaGreatDoorM23
section
/- What touches a variable: the document's walk. -/
namespace Go.Proofs.YtmonponfppdgfaaGreatDoor
open Go Go.ch Go.Proofs
set_option linter.unusedSimpArgs false
set_option linter.unusedVariables false
abbrev qK (L:List (List Int)):AV:= .im 1 .any (L.map dO)
theorem qp (L:List (List Int)):cL 0 (L.map dO):=(cJ _ _).2 fun _ _=>by simp[dO,cG,cJ]
set_option maxRecDepth 4000 in
theorem yN (g:bo) (hg:g.Wf) (hw:Whole g) (hh:(cr g).2<0):Pure Tryz.prog 102 [g.av] (fun r=>r= .dI [qK (cr g).1,bl true]):=by
 refine aJ vx rfl ?_
 have h1:=pf g hg hw
 have h2:=re g hg hw
 unfold jC at h2
 repeat' (first|((with_reducible refine aE ?_);conv=>whnf)|refine aG ?_|exact cN|with_reducible refine aD ?_ ?_|((with_reducible refine Ask.mk ?_);first|exact bw|exact br|(intro h;simp_all[bo.cells]<;>fail)|(simp_all[bo.cells]<;>fail))|(apply aA;(·exact bm))|refine aK (h1) ?_|refine aK (h2) ?_|refine aH ?_|((with_reducible refine aB ?_ ?_)<;>intro hc<;>(try simp only[List.length_map,ne_eq,cD] at hc)<;>try(exfalso;omega)))
 rw[decide_eq_true hh]
 exact xI.eq (by simp only[cG,cL];exact⟨qp _,trivial,trivial⟩) rfl
set_option maxRecDepth 4000 in
set_option maxHeartbeats 4000000 in
theorem vl (g:bo) (hg:g.Wf) (hw:Whole g) (hh:(cr g).2<0) (hlk:∀i,((cr g).1.getD i []).length≤5000):Pure Tryz.prog 79 [g.av] (fun r=>r=qK ((cr g).1.map gp)):=by
 have h1:=yN g hg hw hh
 have hL:=(kU hw hh).2.1
 refine cT ?_ (by simp only[cG];exact qp _)
 refine aL E0 rfl ?_
 have hl4:=hw.2.1
 generalize hLg:(cr g).1=L at *
 have hlm:(L.map dO).length=L.length:=by simp
 repeat' (first|((with_reducible refine aE ?_);conv=>whnf)|refine aG ?_|exact cN|with_reducible refine aD ?_ ?_|((with_reducible refine Ask.mk ?_);first|exact bw|exact br|(intro h;simp_all[bo.cells]<;>fail)|(simp_all[bo.cells]<;>fail))|(apply aA;(·exact bm))|refine aK (h1) ?_|refine aH ?_|((with_reducible refine aB ?_ ?_)<;>intro hc<;>(try simp only[List.length_map,ne_eq,cD] at hc)<;>try(exfalso;omega)))
 refine aR (fun i:Nat=>[(3,qK L),(5, .sl 10 i),(6,i64 i)])
  (fun i H n=>i≤L.length∧11≤n∧∃d,bj H 10=some (.row 89 1 d (((L.take i).map gp).map dO))) (fun i=>L.length - i) 0 ⟨_,_,_,Rt.nil 5 89 1 (by omega) rfl,bt,Nat.zero_le _,cH,⟨_,bk⟩⟩ ?_
 rintro i H n ⟨hi,hn,d,r⟩
 have hrm:(((L.take i).map gp).map dO).length=i:=by simp;omega
 by_cases hil:i<L.length
 ·have ei:∀d,(L.map dO).getD (i:Int).toNat d= .im 1 .any ((L.getD i []).map i64):=fun d=>by
   have:=iN (l:=L) (i:=(i:Int)) (by rw[Int.toNat_natCast];exact hil) d
   rw[Int.toNat_natCast] at this ⊢;exact this
  have hr:=wb (L.getD i []) (hlk i)
  unfold dO at hr
  have hnx:((L.take (i+1)).map gp).map dO=((L.take i).map gp).map dO++[dO (gp (L.getD i []))]:=by
   rw[List.take_succ_eq_append_getElem hil,List.map_append,List.map_append,show L.getD i []=L[i] by simp[List.getD,hil]];rfl
  repeat' (first|((with_reducible refine aE ?_);conv=>whnf)|refine aG ?_|exact cN|with_reducible refine aD ?_ ?_|((with_reducible refine Ask.mk ?_);first|exact bw|(exact hlm)|(exact hrm)|exact br)|(apply aA;(·(first|exact ei _|exact bm)))|refine aK (hr) ?_|refine aH ?_|((with_reducible refine aB ?_ ?_)<;>intro hc<;>(try simp only[List.length_map,ne_eq,cD] at hc)<;>try(exfalso;omega)))
  exact⟨i+1,by omega,_,_,_,Rt.refl _ _ _,bt,by omega,cH,⟨_,by rw[hnx];exact bk⟩⟩
 ·have:i=L.length:=by omega
  subst this
  rw[List.take_length] at r
  repeat' (first|((with_reducible refine aE ?_);conv=>whnf)|refine aG ?_|exact cN|with_reducible refine aD ?_ ?_|((with_reducible refine Ask.mk ?_);first|exact bw|(exact hlm)|exact br)|(apply aA;(·exact bm))|refine aH ?_|((with_reducible refine aB ?_ ?_)<;>intro hc<;>(try simp only[List.length_map,ne_eq,cD] at hc)<;>try(exfalso;omega)))
  exact⟨(dH bk (by simp)).trans (by rw[ca _ (qp _)])⟩
theorem sV (n:Node) (v:Int):Pure Tryz.prog 80 [n.av,i64 v] (fun r=>r=bl (uh n&&decide (n.cP=v))):=by
 refine aJ E1 rfl ?_
 repeat' (first|((with_reducible refine aE ?_);conv=>whnf)|refine aG ?_|exact cN|with_reducible refine aD ?_ ?_|((with_reducible refine Ask.mk ?_);first|exact bw|exact br|(intro h;simp_all[Node.cells]<;>fail)|(simp_all[Node.cells]<;>fail))|(apply aA;(·exact bm))|refine aH ?_|((with_reducible refine aB ?_ ?_)<;>intro hc<;>(try simp only[List.length_map,ne_eq,cD] at hc)<;>try(exfalso;omega)))
 all_goals refine cg ?_
 all_goals unfold uh
 all_goals first|(rw[decide_eq_true (show n.kind=2∨n.kind=3∨n.kind=4 by omega)];simp)|(rw[decide_eq_false (show ¬(n.kind=2∨n.kind=3∨n.kind=4) by omega)];simp)|(by_cases a:n.kind=2<;>by_cases b:n.kind=3<;>by_cases c:n.kind=4<;>by_cases d:n.cP=v<;>simp_all)
abbrev lU:=Nat×Nat×List Int
noncomputable def lM (v:Int) (t:Nat) (g:bo) (i:Nat):Option lU:=if gl (cd g (-1)) i=true∧(uh (g.nd i)&&decide ((g.nd i).cP=v))=true then some (t,i,(cr g).1.getD i []) else none
noncomputable def fQ (v:Int) (t:Nat) (g:bo) (m:Nat):List lU:=(List.range m).filterMap (lM v t g)
noncomputable def fR (v:Int) (u:bp) (m:Nat):List lU:=(List.range m).flatMap fun t=>fQ v t (u.gr t) (u.gr t).nodes.length
theorem qW (v:Int) (t:Nat) (g:bo) (m:Nat):fQ v t g (m+1)=fQ v t g m++(lM v t g m).toList:=by
 rw[fQ,List.range_succ,List.filterMap_append]
 cases h:lM v t g m<;>simp[fQ,h]
theorem my (v:Int) (u:bp) (m:Nat):fR v u (m+1)=fR v u m++fQ v m (u.gr m) (u.gr m).nodes.length:=by
 rw[fR,List.range_succ,List.flatMap_append];simp[fR]
theorem sd (v:Int) (t:Nat) (g:bo) (m:Nat):(fQ v t g m).length≤m:=by
 have:=List.length_filterMap_le (lM v t g) (List.range m)
 simpa[fQ] using this
theorem o4 {u:bp} (v:Int) (h:∀g∈u.bq,g.nodes.length≤4096) {m:Nat} (hm:m≤u.bq.length):(fR v u m).length≤4096 * m:=by
 induction m with
 |zero=>simp[fR]
 |succ k ih=>
  rw[my,List.length_append]
  have:=ih (by omega)
  have h1:=sd v k (u.gr k) (u.gr k).nodes.length
  have h2:=h _ (cC (j:=k) default (l:=u.bq) (by omega))
  have h3:u.gr k=u.bq.getD k default:=rfl
  rw[←h3] at h2
  omega
theorem sA (a b:List Acc) (v:Int):ew (a++b) v=ew a v++ew b v:=by simp[ew]
theorem yg (x:Acc) (v:Int):ew [x] v=if(uh x.2.1&&decide (x.2.1.cP=v))=true then[(x.1,x.2.2)] else[]:=by
 unfold ew;rw[List.filter_cons];split<;>rfl
theorem xC (v:Int) (t:Nat) (g:bo) (m:Nat):ew (mw t g m) v=(fQ v t g m).map fun x=>(x.1,x.2.2):=by
 induction m with
 |zero=>simp[mw,fQ,ew]
 |succ k ih=>
  rw[sa,qW,sA,ih,List.map_append]
  congr 1
  unfold sJ lM
  by_cases h:gl (cd g (-1)) k=true
  ·rw[if_pos h]
   rw[Option.toList_some,yg]
   dsimp only
   by_cases h2:(uh (g.nd k)&&decide ((g.nd k).cP=v))=true
   ·rw[if_pos h2,if_pos ⟨h,h2⟩];rfl
   ·rw[if_neg h2,if_neg (fun e=>h2 e.2)];rfl
  ·rw[if_neg h,if_neg (fun e=>h e.1)];rfl
theorem xD (v:Int) (u:bp) (m:Nat):ew (gq u m) v=(fR v u m).map fun x=>(x.1,x.2.2):=by
 induction m with
 |zero=>simp[gq,fR,ew]
 |succ k ih=>rw[se,my,sA,ih,xC,List.map_append]
def jG (x:lU):AV:= .agg [i64 x.1,i64 x.2.1]
def lP (x:lU):AV:=dO (gp x.2.2)
theorem vO (l:List lU):cL 0 (l.map jG):=(cJ _ _).2 fun _ _=>by simp[jG,cG,cL]
theorem vP (l:List lU):cL 0 (l.map lP):=(cJ _ _).2 fun _ _=>by simp[lP,dO,cG,cJ]
theorem rF {u:bp} {g:bo} (h:dL u g) (i:Nat):((cr g).1.getD i []).length≤5000:=by
 have:=tO g i
 have:=h.len
 omega
set_option maxRecDepth 4000 in
set_option maxHeartbeats 8000000 in
theorem oR (u:bp) (hu:u.Wf) (hr:c8 u) (v:Int):Pure Tryz.prog 46 [u.av,i64 v] (fun r=>r= .dI [.im 2 .any ((fR v u u.bq.length).map jG), .im 1 .any ((fR v u u.bq.length).map lP)]):=by
 refine cT ?_ (by simp only[cG,cL];exact⟨vO _,vP _,trivial⟩)
 refine aL D5 rfl ?_
 have hgm:(u.bq.map bo.av).length=u.bq.length:=by simp
 have hfew:=hr.CD
 have h4:∀g∈u.bq,g.nodes.length≤4096:=fun g hg=>(hr.bq g hg).len.2
 repeat' (first|((with_reducible refine aE ?_);conv=>whnf)|refine aG ?_|exact cN|with_reducible refine aD ?_ ?_|((with_reducible refine Ask.mk ?_);first|exact bw|exact br|(intro h;simp_all[bp.cells]<;>fail)|(simp_all[bp.cells]<;>fail))|(apply aA;(·exact bm))|refine aH ?_|((with_reducible refine aB ?_ ?_)<;>intro hc<;>(try simp only[List.length_map,ne_eq,cD] at hc)<;>try(exfalso;omega)))
 refine aR (fun t:Nat=>[(1,i64 v),(2, .pt 0 1 0 0),(6, .sl 6 (fR v u t).length),(7, .sl 7 (fR v u t).length),(8,i64 t)])
  (fun t H n=>t≤u.bq.length∧8≤n∧(∃d,bj H 0=some (.row 25 3 d [u.av]))∧(∃d,bj H 6=some (.row 88 2 d ((fR v u t).map jG)))∧∃d,bj H 7=some (.row 89 1 d ((fR v u t).map lP))) (fun t=>u.bq.length - t) 0 ⟨_,_,_,(Rt.nil 6 88 2 (by omega) rfl).trans (Rt.nil 7 89 1 (by omega) rfl),bt,Nat.zero_le _,cH,⟨_,bk⟩,⟨_,bk⟩,⟨_,bk⟩⟩ ?_
 rintro t H n ⟨ht,hn,⟨d0,r0⟩,⟨d6,r6⟩,d7,r7⟩
 have hac:=o4 (u:=u) v h4 ht
 by_cases htl:t<u.bq.length
 ·have eg:=fun d=>j3 (l:=u.bq) htl d
  rw[show u.bq.getD t default=u.gr t from rfl] at eg
  have hg:(u.gr t).Wf:=hu.bq _ (cC default htl)
  have hgo:=hr.gr htl
  have hrc:=kI (u.gr t) hg hgo.whole
  have hho:=vl (u.gr t) hg hgo.whole hgo.held (rF hgo)
  have hL:=(kU hgo.whole hgo.held).2.1
  have hgl:=hgo.len
  have hsu:=my v u t
  generalize u.gr t=g at *
  repeat' (first|((with_reducible refine aE ?_);conv=>whnf)|refine aG ?_|exact cN|with_reducible refine aD ?_ ?_|((with_reducible refine Ask.mk ?_);first|exact bw|(exact hgm)|exact br|(intro h;simp_all[bp.cells,bo.cells]<;>fail)|(simp_all[bp.cells,bo.cells]<;>fail))|(apply aA;(·(first|exact eg _|exact bm)))|refine aK (hrc) ?_|refine aK (hho) ?_|refine aH ?_|((with_reducible refine aB ?_ ?_)<;>intro hc<;>(try simp only[List.length_map,ne_eq,cD] at hc)<;>try(exfalso;omega)))
  generalize hR0:fR v u t=R0 at *
  refine aI (fun k:Nat=>[(1,i64 v),(2, .pt 0 1 0 0),(6, .sl 6 (R0++fQ v t g k).length),(7, .sl 7 (R0++fQ v t g k).length),(8,i64 t),(9,fp (cd g (-1))),(10,qK ((cr g).1.map gp)),(11,i64 k)])
   (fun k H n2=>k≤g.nodes.length∧n≤n2∧(∃d,bj H 0=some (.row 25 3 d [u.av]))∧(∃d,bj H 6=some (.row 88 2 d ((R0++fQ v t g k).map jG)))∧∃d,bj H 7=some (.row 89 1 d ((R0++fQ v t g k).map lP))) (fun k=>g.nodes.length - k) 0 (by rw[show R0++fQ v t g 0=R0 by simp[fQ]];exact bt) ⟨Nat.zero_le _,cH,⟨_,bk⟩,⟨_,by rw[show R0++fQ v t g 0=R0 by simp[fQ]];exact bk⟩,⟨_,by rw[show R0++fQ v t g 0=R0 by simp[fQ]];exact bk⟩⟩ ?_
  clear r0 r6 r7
  rintro k H2 n2 ⟨hk,hn2,⟨d0,r0⟩,⟨d6,r6⟩,d7,r7⟩
  have hrm:((cd g (-1)).map bl).length=g.nodes.length:=by rw[List.length_map,dP]
  have hrm2:=dP g (-1)
  by_cases hkl:k<g.nodes.length
  ·have en:=fun d=>dy (l:=g.nodes) hkl d
   rw[show g.nodes.getD k default=g.nd k from rfl] at en
   have er:=fun d=>jl (l:=cd g (-1)) (k:=(k:Int)) d (by rw[dP];exact hkl)
   have eh:=fun d=>iN (l:=(cr g).1.map gp) (i:=(k:Int)) (by rw[Int.toNat_natCast,List.length_map,hL];exact hkl) d
   rw[show((cr g).1.map gp).getD (k:Int).toNat []=gp ((cr g).1.getD k []) by rw[Int.toNat_natCast];simp[List.getD,hL,hkl]] at eh
   have hhm:(((cr g).1.map gp).map dO).length=g.nodes.length:=by simp[hL]
   have htp:=sV (g.nd k) v
   have hsk:=qW v t g k
   have hlk:=sd v t g k
   have hnm:(g.nodes.map Node.av).length=g.nodes.length:=by simp
   have hR:(R0++fQ v t g k).length≤40000:=by rw[List.length_append];omega
   have hRa:((R0++fQ v t g k).map jG).length=(R0++fQ v t g k).length:=by simp
   have hRl:((R0++fQ v t g k).map lP).length=(R0++fQ v t g k).length:=by simp
   by_cases hf:gl (cd g (-1)) (k:Int)=true
   ·rw[hf] at er
    by_cases h2:(uh (g.nd k)&&decide ((g.nd k).cP=v))=true
    ·rw[h2] at htp
     rw[show lM v t g k=some (t,k,(cr g).1.getD k []) by unfold lM;rw[if_pos ⟨hf,h2⟩]] at hsk
     have hsk2:R0++fQ v t g (k+1)=(R0++fQ v t g k)++[(t,k,(cr g).1.getD k [])]:=by rw[hsk,←List.append_assoc];rfl
     generalize R0++fQ v t g k=R at *
     repeat' (first|((with_reducible refine aE ?_);conv=>whnf)|refine aG ?_|exact cN|with_reducible refine aD ?_ ?_|((with_reducible refine Ask.mk ?_);first|exact bw|(exact hgm)|(exact hrm)|(exact hhm)|(exact hnm)|(exact hRa)|(exact hRl)|exact br|(intro h;simp_all[bp.cells,bo.cells,Node.cells]<;>fail)|(simp_all[bp.cells,bo.cells,Node.cells]<;>fail))|(apply aA;(·(first|exact eg _|exact en _|exact er _|exact eh _|exact bm)))|refine aK (htp) ?_|refine aH ?_|((with_reducible refine aB ?_ ?_)<;>intro hc<;>(try simp only[List.length_map,ne_eq,cD] at hc)<;>try(exfalso;omega)))
     exact⟨k+1,by omega,by rw[hsk2,List.length_append];exact bt,by omega,cH,⟨_,bk⟩,⟨_,Eq.trans (b:=some (.row 88 2 _ _)) bk (lF (by rw[hsk2,List.map_append];rfl))⟩,⟨_,Eq.trans (b:=some (.row 89 1 _ _)) bk (lF (by rw[hsk2,List.map_append];rfl))⟩⟩
    ·rw[show(uh (g.nd k)&&decide ((g.nd k).cP=v))=false by simpa using h2] at htp
     rw[show lM v t g k=none by unfold lM;rw[if_neg (fun e=>h2 e.2)],Option.toList_none,List.append_nil] at hsk
     repeat' (first|((with_reducible refine aE ?_);conv=>whnf)|refine aG ?_|exact cN|with_reducible refine aD ?_ ?_|((with_reducible refine Ask.mk ?_);first|exact bw|(exact hgm)|(exact hrm)|(exact hhm)|(exact hnm)|exact br|(intro h;simp_all[bp.cells,bo.cells,Node.cells]<;>fail)|(simp_all[bp.cells,bo.cells,Node.cells]<;>fail))|(apply aA;(·(first|exact eg _|exact en _|exact er _|exact eh _|exact bm)))|refine aK (htp) ?_|refine aH ?_|((with_reducible refine aB ?_ ?_)<;>intro hc<;>(try simp only[List.length_map,ne_eq,cD] at hc)<;>try(exfalso;omega)))
     exact⟨k+1,by omega,by rw[hsk];exact bt,by omega,cH,⟨_,bk⟩,⟨_,by rw[hsk];exact bk⟩,⟨_,by rw[hsk];exact bk⟩⟩
   ·rw[show gl (cd g (-1)) (k:Int)=false by simpa using hf] at er
    rw[show lM v t g k=none by unfold lM;rw[if_neg (fun e=>hf e.1)],Option.toList_none,List.append_nil] at hsk
    repeat' (first|((with_reducible refine aE ?_);conv=>whnf)|refine aG ?_|exact cN|with_reducible refine aD ?_ ?_|((with_reducible refine Ask.mk ?_);first|exact bw|(exact hgm)|(exact hrm)|(exact hhm)|(exact hnm)|exact br|(intro h;simp_all[bp.cells,bo.cells,Node.cells]<;>fail)|(simp_all[bp.cells,bo.cells,Node.cells]<;>fail))|(apply aA;(·(first|exact eg _|exact en _|exact er _|exact eh _|exact bm)))|refine aH ?_|((with_reducible refine aB ?_ ?_)<;>intro hc<;>(try simp only[List.length_map,ne_eq,cD] at hc)<;>try(exfalso;omega)))
    exact⟨k+1,by omega,by rw[hsk];exact bt,by omega,cH,⟨_,bk⟩,⟨_,by rw[hsk];exact bk⟩,⟨_,by rw[hsk];exact bk⟩⟩
  ·have:k=g.nodes.length:=by omega
   subst this
   rw[←hsu] at r6 r7 ⊢
   repeat' (first|((with_reducible refine aE ?_);conv=>whnf)|refine aG ?_|exact cN|with_reducible refine aD ?_ ?_|((with_reducible refine Ask.mk ?_);first|exact bw|(exact hrm)|exact br|(intro h;simp_all[bp.cells]<;>fail)|(simp_all[bp.cells]<;>fail))|(apply aA;(·exact bm))|refine aH ?_|((with_reducible refine aB ?_ ?_)<;>intro hc<;>(try simp only[List.length_map,ne_eq,cD] at hc)<;>try(exfalso;omega)))
   exact⟨t+1,by omega,_,_,_,Rt.refl _ _ _,bt,by omega,cH,⟨_,bk⟩,⟨_,bk⟩,⟨_,bk⟩⟩
 ·have:t=u.bq.length:=by omega
  subst this
  repeat' (first|((with_reducible refine aE ?_);conv=>whnf)|refine aG ?_|exact cN|with_reducible refine aD ?_ ?_|((with_reducible refine Ask.mk ?_);first|exact bw|(exact hgm)|exact br|(intro h;simp_all[bp.cells]<;>fail)|(simp_all[bp.cells]<;>fail))|(apply aA;(·exact bm))|refine aH ?_|((with_reducible refine aB ?_ ?_)<;>intro hc<;>(try simp only[List.length_map,ne_eq,cD] at hc)<;>try(exfalso;omega)))
  refine⟨?_⟩
  have e1:∀(H:Hp) (a b:Nat),ch.dk H 6 (.dI [.sl 6 a, .sl 7 b])= .dI [ch.dk H 5 (.sl 6 a),ch.dk H 5 (.sl 7 b)]:=fun H a b=>by
   simp only[dk,List.map_cons,List.map_nil]
  refine(e1 _ _ _).trans ?_
  rw[dH (b:=6) (e:=88) (sz:=2) (d:=d6) (es:=(fR v u u.bq.length).map jG) bk (by simp),dH (b:=7) (e:=89) (sz:=1) (d:=d7) (es:=(fR v u u.bq.length).map lP) bk (by simp),ca _ (vO _),ca _ (vP _)]
end Go.Proofs.YtmonponfppdgfaaGreatDoor
end
section
/- How variables are shared: the document's walk. -/
namespace Go.Proofs.YtmonponfppdgfaaGreatDoor
open Go Go.ch Go.Proofs
set_option linter.unusedSimpArgs false
set_option linter.unusedVariables false
def mj (R:List lU) (j:Nat):Bool:=R.all fun x=>decide ((j:Int)∈gp x.2.2)
def jd (R:List lU) (m:Nat):List Int:=((List.range m).filter (mj R)).map fun(j:Nat)=>(j:Int)
theorem AA (R:List lU) (m:Nat):jd R (m+1)=jd R m++(if mj R m=true then[(m:Int)] else[]):=by
 unfold jd
 rw[List.range_succ,List.filter_append,List.map_append]
 congr 1
 rw[List.filter_cons];split<;>simp
theorem C2 (R:List lU) (m:Nat):(jd R m).length≤m:=by
 unfold jd
 rw[List.length_map]
 have:=List.length_filter_le (mj R) (List.range m)
 simpa using this
theorem AJ (R:List lU) (j:Nat):mj R j=vd (R.map fun x=>(x.1,x.2.2)) j:=by
 unfold mj vd
 rw[List.all_map]
 congr 1
 funext x
 show _=List.any x.2.2 _
 rw[Bool.eq_iff_iff,decide_eq_true_eq,GC,List.any_eq_true]
 constructor
 ·intro h;exact⟨_,h,by simp⟩
 ·rintro⟨k,h1,h2⟩;rw[←of_decide_eq_true h2];exact h1
def rj (R:List lU) (k:Nat):Bool:=(R.take k).any fun x=>decide ((x.1:Int)≠((R.getD 0 default).1:Nat))
def uF (R:List lU) (m:Nat):cB:=if R.length=0 then⟨0,0,0⟩ else if rj R R.length=false then⟨1,((R.getD 0 default).1:Nat),0⟩ else if 0<(jd R m).length then⟨2,0,(jd R m).getD 0 0⟩ else⟨3,0,0⟩
theorem zd (R:List lU) (m:Nat):uF R m=l8 m (R.map fun x=>(x.1,x.2.2)):=by
 cases R with
 |nil=>rfl
 |cons x r=>
  obtain⟨t,i,l⟩:=x
  unfold uF
  rw[if_neg (by simp),List.map_cons,l8]
  have hs:(rj ((t,i,l)::r) ((t,i,l)::r).length=false)↔(r.map fun x=>(x.1,x.2.2)).all (fun x=>decide (x.1=t))=true:=by
   unfold rj
   rw[List.take_length]
   simp[List.any_eq_false,List.getD]
   constructor<;>(intro h a b c d;have:=h a b c d;omega)
  by_cases h:(r.map fun x=>(x.1,x.2.2)).all (fun x=>decide (x.1=t))=true
  ·rw[if_pos (hs.2 h),if_pos h];rfl
  ·rw[if_neg (mt hs.1 h),if_neg h]
   have hf:(List.range m).find? (vd ((t,l)::r.map fun x=>(x.1,x.2.2)))=((List.range m).filter (mj ((t,i,l)::r))).head?:=by
    rw[List.head?_filter]
    congr 1
    funext j
    rw[AJ];rfl
   rw[hf]
   unfold jd
   cases hc:(List.range m).filter (mj ((t,i,l)::r)) with
   |nil=>rfl
   |cons a b=>rw[if_pos (by simp)];rfl
theorem JY {R:List lU} {k:Nat} (h:k<R.length) (d:AV):(R.map lP).getD (k:Int).toNat d= .im 1 .any ((gp (R.getD k default).2.2).map i64):=by
 rw[Int.toNat_natCast];exact dJ lP R k d h
theorem xR {R:List lU} {k:Nat} (h:k<R.length) (d:AV):(R.map jG).getD (k:Int).toNat d= .agg [i64 (R.getD k default).1,i64 (R.getD k default).2.1]:=by
 rw[Int.toNat_natCast];exact dJ jG R k d h
theorem BV {u:bp} (hr:c8 u) (v:Int) {k:Nat} (hk:k<(fR v u u.bq.length).length):((fR v u u.bq.length).getD k default).2.2.length≤5000:=by
 have hm:(fR v u u.bq.length).getD k default∈fR v u u.bq.length:=cC default hk
 generalize (fR v u u.bq.length).getD k default=x at *
 unfold fR at hm
 obtain⟨t,ht,h1⟩:=List.mem_flatMap.1 hm
 obtain⟨i,hi,h2⟩:=List.mem_filterMap.1 h1
 unfold lM at h2
 split at h2
 ·cases h2;exact rF (hr.gr (List.mem_range.1 ht)) i
 ·cases h2
set_option maxRecDepth 4000 in
set_option maxHeartbeats 8000000 in
theorem vg (u:bp) (hu:u.Wf) (hr:c8 u) (v:Int):Pure Tryz.prog 47 [u.av,i64 v] (fun r=>r=dO (if(fR v u u.bq.length).length=0 then[] else jd (fR v u u.bq.length) u.bx.length)):=by
 have htp:=oR u hu hr v
 have hsh:=fun k hk=>BV hr v (k:=k) hk
 have hfew:=hr.CD
 have hRl:=o4 (u:=u) v (fun g hg=>(hr.bq g hg).len.2) (Nat.le_refl _)
 refine cT ?_ (by simp only[dO,cG];exact nj _ _)
 refine aL D6 rfl ?_
 generalize fR v u u.bq.length=R at *
 have hlm:(u.bx.map Decl.av).length=u.bx.length:=by simp
 have hRa:(R.map jG).length=R.length:=by simp
 have hRk:(R.map lP).length=R.length:=by simp
 repeat' (first|((with_reducible refine aE ?_);conv=>whnf)|refine aG ?_|exact cN|with_reducible refine aD ?_ ?_|((with_reducible refine Ask.mk ?_);first|exact bw|exact br|(intro h;simp_all[bp.cells]<;>fail)|(simp_all[bp.cells]<;>fail))|(apply aA;(·exact bm))|refine aK (htp) ?_|refine aH ?_|((with_reducible refine aB ?_ ?_)<;>intro hc<;>(try simp only[List.length_map,ne_eq,cD] at hc)<;>try(exfalso;omega)))
 refine aR (fun l:Nat=>[(2, .pt 0 1 0 0),(5, .im 2 .any (R.map jG)),(6, .im 1 .any (R.map lP)),(7, .sl 11 (jd R l).length),(8,i64 l)])
  (fun l H n=>l≤u.bx.length∧(R.length=0→l=0)∧12≤n∧(∃d,bj H 0=some (.row 25 3 d [u.av]))∧∃d,bj H 11=some (.row 3 1 d ((jd R l).map i64))) (fun l=>u.bx.length - l) 0 ⟨_,_,_,Rt.nil 7 3 1 (by omega) rfl,bt,Nat.zero_le _,fun _=>rfl,cH,⟨_,bk⟩,⟨_,bk⟩⟩ ?_
 rintro l H n ⟨hl,hz,hn,⟨d0,r0⟩,d1,r1⟩
 by_cases hll:l<u.bx.length∧0<R.length
 ·obtain⟨hl1,hl2⟩:=hll
  have hgm:((jd R l).map i64).length=(jd R l).length:=by simp
  have hgl:=C2 R l
  have hgs:=AA R l
  repeat' (first|((with_reducible refine aE ?_);conv=>whnf)|refine aG ?_|exact cN|with_reducible refine aD ?_ ?_|((with_reducible refine Ask.mk ?_);first|exact bw|(exact hlm)|(exact hRa)|exact br|(intro h;simp_all[bp.cells]<;>fail)|(simp_all[bp.cells]<;>fail))|(apply aA;(·exact bm))|refine aH ?_|((with_reducible refine aB ?_ ?_)<;>intro hc<;>(try simp only[List.length_map,ne_eq,cD] at hc)<;>try(exfalso;omega)))
  refine aI (fun σ:Nat×Bool=>[(2, .pt 0 1 0 0),(5, .im 2 .any (R.map jG)),(6, .im 1 .any (R.map lP)),(7, .sl 11 (jd R l).length),(8,i64 l),(9,bl σ.2),(10,i64 σ.1)])
   (fun σ H m=>n≤m∧σ.1≤R.length∧σ.2=mj (R.take σ.1) l∧(∃d,bj H 0=some (.row 25 3 d [u.av]))∧∃d,bj H 11=some (.row 3 1 d ((jd R l).map i64))) (fun σ=>R.length - σ.1) (0,true) bt ⟨cH,Nat.zero_le _,rfl,⟨_,bk⟩,⟨_,bk⟩⟩ ?_
  clear r0 r1
  rintro⟨k,al⟩ H2 m ⟨hm,hk,hal,⟨d0,r0⟩,d1,r1⟩
  dsimp only at hk hal ⊢
  by_cases hkl:k<R.length
  ·have ek:=fun d=>JY hkl d
   have hh:=A9 (gp (R.getD k default).2.2) (Nat.le_trans (wa _) (hsh k hkl)) l
   unfold dO at hh
   have hnx:mj (R.take (k+1)) l=(al&&decide ((l:Int)∈gp (R.getD k default).2.2)):=by
    rw[hal,List.take_succ_eq_append_getElem hkl]
    unfold mj
    rw[List.all_append];simp[List.getD,hkl]
   cases al with
   |false=>
    repeat' (first|((with_reducible refine aE ?_);conv=>whnf)|refine aG ?_|exact cN|with_reducible refine aD ?_ ?_|((with_reducible refine Ask.mk ?_);first|exact bw|(exact hRa)|(exact hRk)|exact br)|(apply aA;(·(first|exact ek _|exact bm)))|refine aK (hh) ?_|refine aH ?_|((with_reducible refine aB ?_ ?_)<;>intro hc<;>(try simp only[List.length_map,ne_eq,cD] at hc)<;>try(exfalso;omega)))
    exact⟨(k+1,false),by dsimp only;omega,bt,cH,by dsimp only;omega,by dsimp only;rw[hnx];rfl,⟨_,bk⟩,⟨_,bk⟩⟩
   |true=>
    repeat' (first|((with_reducible refine aE ?_);conv=>whnf)|refine aG ?_|exact cN|with_reducible refine aD ?_ ?_|((with_reducible refine Ask.mk ?_);first|exact bw|(exact hRa)|(exact hRk)|exact br)|(apply aA;(·(first|exact ek _|exact bm)))|refine aK (hh) ?_|refine aH ?_|((with_reducible refine aB ?_ ?_)<;>intro hc<;>(try simp only[List.length_map,ne_eq,cD] at hc)<;>try(exfalso;omega)))
    exact⟨(k+1,decide ((l:Int)∈gp (R.getD k default).2.2)),by dsimp only;omega,bt,cH,by dsimp only;omega,by dsimp only;rw[hnx];rfl,⟨_,bk⟩,⟨_,bk⟩⟩
  ·have:k=R.length:=by omega
   subst this
   rw[List.take_length] at hal
   rw[←hal] at hgs
   cases al with
   |false=>
    rw[if_neg (by decide),List.append_nil] at hgs
    repeat' (first|((with_reducible refine aE ?_);conv=>whnf)|refine aG ?_|exact cN|with_reducible refine aD ?_ ?_|((with_reducible refine Ask.mk ?_);first|exact bw|(exact hRa)|(exact hRk)|exact br)|(apply aA;(·exact bm))|refine aH ?_|((with_reducible refine aB ?_ ?_)<;>intro hc<;>(try simp only[List.length_map,ne_eq,cD] at hc)<;>try(exfalso;omega)))
    exact⟨l+1,by omega,_,_,_,Rt.refl _ _ _,by rw[hgs];exact bt,by omega,fun h=>by omega,cH,⟨_,bk⟩,⟨_,by rw[hgs];exact bk⟩⟩
   |true=>
    rw[if_pos rfl] at hgs
    repeat' (first|((with_reducible refine aE ?_);conv=>whnf)|refine aG ?_|exact cN|with_reducible refine aD ?_ ?_|((with_reducible refine Ask.mk ?_);first|exact bw|(exact hRa)|(exact hRk)|(exact hgm)|exact br)|(apply aA;(·exact bm))|refine aH ?_|((with_reducible refine aB ?_ ?_)<;>intro hc<;>(try simp only[List.length_map,ne_eq,cD] at hc)<;>try(exfalso;omega)))
    exact⟨l+1,by omega,_,_,_,Rt.refl _ _ _,by rw[hgs,List.length_append];exact bt,by omega,fun h=>by omega,cH,⟨_,bk⟩,⟨_,Eq.trans (b:=some (.row 3 1 _ _)) bk (lF (by rw[hgs,List.map_append];rfl))⟩⟩
 ·have hfin:(if R.length=0 then[] else jd R u.bx.length)=jd R l:=by
   by_cases h:R.length=0
   ·rw[if_pos h,hz h];rfl
   ·rw[if_neg h,show l=u.bx.length by omega]
  rw[hfin]
  repeat' (first|((with_reducible refine aE ?_);conv=>whnf)|refine aG ?_|exact cN|with_reducible refine aD ?_ ?_|((with_reducible refine Ask.mk ?_);first|exact bw|(exact hlm)|(exact hRa)|exact br|(intro h;simp_all[bp.cells]<;>fail)|(simp_all[bp.cells]<;>fail))|(apply aA;(·exact bm))|refine aH ?_|((with_reducible refine aB ?_ ?_)<;>intro hc<;>(try simp only[List.length_map,ne_eq,cD] at hc)<;>try(exfalso;omega)))
  all_goals exact⟨(dH bk (by simp)).trans (by rw[ca _ (nj _ _)];rfl)⟩
theorem yb {R:List lU} {k:Nat} (h:k<R.length):rj R (k+1)=(rj R k||decide (((R.getD k default).1:Int)≠((R.getD 0 default).1:Nat))):=by
 unfold rj
 rw[List.take_succ_eq_append_getElem h,List.any_append,show R.getD k default=R[k] by simp[List.getD,h],List.any_cons,List.any_nil,Bool.or_false]
theorem vG (u:bp) (m:Nat):(ff u (m+1)).map cB.av=(ff u m).map cB.av++[(uF (fR (m:Int) u u.bq.length) u.bx.length).av]:=by
 rw[nc,zd,xD]
set_option maxRecDepth 4000 in
set_option maxHeartbeats 8000000 in
theorem sU (u:bp) (hu:u.Wf):Pure Tryz.prog 25 [u.av] (fun r=>r=if lD u=true then .dI [gJ u,i64 0] else .dI [.sc (.slice none 0 0),i64 60]):=by
 have hck:=mC u hu
 by_cases hr:c8 u
 ·rw[if_pos (cV.2 hr)]
  rw[kN.2 hr] at hck
  have hfew:=hr.CD
  refine cT ?_ (by simp only[cG,cL,gJ];exact⟨gY _,trivial,trivial⟩)
  refine aL AP rfl ?_
  have hsm:(u.shared.map Decl.av).length=u.shared.length:=by simp
  have hcl:∀v,(ff u v).length=v:=fun v=>by simp[ff]
  repeat' (first|((with_reducible refine aE ?_);conv=>whnf)|refine aG ?_|exact cN|with_reducible refine aD ?_ ?_|((with_reducible refine Ask.mk ?_);first|exact bw|exact br|(intro h;simp_all[bp.cells]<;>fail)|(simp_all[bp.cells]<;>fail))|(apply aA;(·exact bm))|refine aK (hck) ?_|refine aH ?_|((with_reducible refine aB ?_ ?_)<;>intro hc<;>(try simp only[List.length_map,ne_eq,cD] at hc)<;>try(exfalso;omega)))
  all_goals first|(exfalso;simp at hc;done)|skip
  refine aR (fun x:Nat=>[(1, .pt 0 1 0 0),(7, .sl 15 x),(8,i64 x)])
   (fun x H n=>x≤u.shared.length∧16≤n∧(∃d,bj H 0=some (.row 25 3 d [u.av]))∧∃d,bj H 15=some (.row 80 3 d ((ff u x).map cB.av))) (fun x=>u.shared.length - x) 0 ⟨_,_,_,Rt.nil 7 80 3 (by omega) rfl,bt,Nat.zero_le _,cH,⟨_,bk⟩,⟨_,bk⟩⟩ ?_
  clear hck
  rintro x H n ⟨hx,hn,⟨d0,r0⟩,d1,r1⟩
  by_cases hxl:x<u.shared.length
  ·have htp:=oR u hu hr x
   have hgp:=vg u hu hr x
   have hRl:=o4 (u:=u) (x:Int) (fun g hg=>(hr.bq g hg).len.2) (Nat.le_refl _)
   have hnx:=vG u x
   have hml:((ff u x).map cB.av).length=x:=by rw[List.length_map,hcl]
   generalize hR:fR (x:Int) u u.bq.length=R at *
   have hRa:(R.map jG).length=R.length:=by simp
   unfold dO at hgp
   repeat' (first|((with_reducible refine aE ?_);conv=>whnf)|refine aG ?_|exact cN|with_reducible refine aD ?_ ?_|((with_reducible refine Ask.mk ?_);first|exact bw|(exact hsm)|exact br|(intro h;simp_all[bp.cells]<;>fail)|(simp_all[bp.cells]<;>fail))|(apply aA;(·exact bm))|refine aK (htp) ?_|refine aH ?_|((with_reducible refine aB ?_ ?_)<;>intro hc<;>(try simp only[List.length_map,ne_eq,cD] at hc)<;>try(exfalso;omega)))
   refine aI (fun σ:Nat×Bool=>[(1, .pt 0 1 0 0),(7, .sl 15 x),(8,i64 x),(9, .im 2 .any (R.map jG)),(11,bl σ.2),(12,i64 σ.1)])
    (fun σ H m=>n≤m∧σ.1≤R.length∧σ.2=rj R σ.1∧(∃d,bj H 0=some (.row 25 3 d [u.av]))∧∃d,bj H 15=some (.row 80 3 d ((ff u x).map cB.av))) (fun σ=>R.length - σ.1) (0,false) bt ⟨cH,Nat.zero_le _,rfl,⟨_,bk⟩,⟨_,bk⟩⟩ ?_
   clear r0 r1
   rintro⟨k,sv⟩ H2 m ⟨hm,hk,hsv,⟨d0,r0⟩,d1,r1⟩
   dsimp only at hk hsv ⊢
   by_cases hkl:k<R.length
   ·have ek:=fun d=>xR hkl d
    have e0:∀d,(R.map jG).getD (0:Int).toNat d= .agg [i64 (R.getD 0 default).1,i64 (R.getD 0 default).2.1]:=fun d=>xR (k:=0) (by omega) d
    have hs2:=yb hkl
    rw[←hsv] at hs2
    cases sv with
    |true=>
     repeat' (first|((with_reducible refine aE ?_);conv=>whnf)|refine aG ?_|exact cN|with_reducible refine aD ?_ ?_|((with_reducible refine Ask.mk ?_);first|exact bw|(exact hRa)|exact br)|(apply aA;(·(first|exact ek _|exact e0 _|exact bm)))|refine aH ?_|((with_reducible refine aB ?_ ?_)<;>intro hc<;>(try simp only[List.length_map,ne_eq,cD] at hc)<;>try(exfalso;omega)))
     exact⟨(k+1,true),by dsimp only;omega,bt,cH,by dsimp only;omega,by dsimp only;rw[hs2];rfl,⟨_,bk⟩,⟨_,bk⟩⟩
    |false=>
     repeat' (first|((with_reducible refine aE ?_);conv=>whnf)|refine aG ?_|exact cN|with_reducible refine aD ?_ ?_|((with_reducible refine Ask.mk ?_);first|exact bw|(exact hRa)|exact br)|(apply aA;(·(first|exact ek _|exact e0 _|exact bm)))|refine aH ?_|((with_reducible refine aB ?_ ?_)<;>intro hc<;>(try simp only[List.length_map,ne_eq,cD] at hc)<;>try(exfalso;omega)))
     exact⟨(k+1,decide (((R.getD k default).1:Int)≠((R.getD 0 default).1:Nat))),by dsimp only;omega,bt,cH,by dsimp only;omega,by dsimp only;rw[hs2];rfl,⟨_,bk⟩,⟨_,bk⟩⟩
   ·have:k=R.length:=by omega
    subst this
    unfold uF at hnx
    by_cases hz:R.length=0
    ·rw[if_pos hz] at hnx
     repeat' (first|((with_reducible refine aE ?_);conv=>whnf)|refine aG ?_|exact cN|with_reducible refine aD ?_ ?_|((with_reducible refine Ask.mk ?_);first|exact bw|(exact hRa)|(exact hml)|exact br|(intro h;simp_all[cB.cells]<;>fail)|(simp_all[cB.cells]<;>fail))|(apply aA;(·exact bm))|refine aK (hgp) ?_|refine aH ?_|((with_reducible refine aB ?_ ?_)<;>intro hc<;>(try simp only[List.length_map,ne_eq,cD] at hc)<;>try(exfalso;omega)))
     all_goals exact⟨x+1,by omega,_,_,_,Rt.refl _ _ _,bt,by omega,cH,⟨_,bk⟩,⟨_,Eq.trans (b:=some (.row 80 3 _ _)) bk (lF (by rw[hnx];rfl))⟩⟩
    ·rw[if_neg hz,←hsv] at hnx
     rw[if_neg hz] at hgp
     have e0:∀d,(R.map jG).getD (0:Int).toNat d= .agg [i64 (R.getD 0 default).1,i64 (R.getD 0 default).2.1]:=fun d=>xR (k:=0) (by omega) d
     cases sv with
     |false=>
      rw[if_pos rfl] at hnx
      repeat' (first|((with_reducible refine aE ?_);conv=>whnf)|refine aG ?_|exact cN|with_reducible refine aD ?_ ?_|((with_reducible refine Ask.mk ?_);first|exact bw|(exact hRa)|(exact hml)|exact br|(intro h;simp_all[cB.cells]<;>fail)|(simp_all[cB.cells]<;>fail))|(apply aA;(·(first|exact e0 _|exact bm)))|refine aK (hgp) ?_|refine aH ?_|((with_reducible refine aB ?_ ?_)<;>intro hc<;>(try simp only[List.length_map,ne_eq,cD] at hc)<;>try(exfalso;omega)))
      all_goals exact⟨x+1,by omega,_,_,_,Rt.refl _ _ _,bt,by omega,cH,⟨_,bk⟩,⟨_,Eq.trans (b:=some (.row 80 3 _ _)) bk (lF (by rw[hnx];rfl))⟩⟩
     |true=>
      rw[if_neg (by decide)] at hnx
      have hgm:((jd R u.bx.length).map i64).length=(jd R u.bx.length).length:=by simp
      by_cases hg:0<(jd R u.bx.length).length
      ·rw[if_pos hg] at hnx
       have eg:∀d,((jd R u.bx.length).map i64).getD (0:Int).toNat d=i64 ((jd R u.bx.length).getD 0 0):=fun d=>eS (i:=0) hg d
       repeat' (first|((with_reducible refine aE ?_);conv=>whnf)|refine aG ?_|exact cN|with_reducible refine aD ?_ ?_|((with_reducible refine Ask.mk ?_);first|exact bw|(exact hRa)|(exact hml)|(exact hgm)|exact br|(intro h;simp_all[cB.cells]<;>fail)|(simp_all[cB.cells]<;>fail))|(apply aA;(·(first|exact eg _|exact bm)))|refine aK (hgp) ?_|refine aH ?_|((with_reducible refine aB ?_ ?_)<;>intro hc<;>(try simp only[List.length_map,ne_eq,cD] at hc)<;>try(exfalso;omega)))
       all_goals exact⟨x+1,by omega,_,_,_,Rt.refl _ _ _,bt,by omega,cH,⟨_,bk⟩,⟨_,Eq.trans (b:=some (.row 80 3 _ _)) bk (lF (by rw[hnx];rfl))⟩⟩
      ·rw[if_neg hg] at hnx
       repeat' (first|((with_reducible refine aE ?_);conv=>whnf)|refine aG ?_|exact cN|with_reducible refine aD ?_ ?_|((with_reducible refine Ask.mk ?_);first|exact bw|(exact hRa)|(exact hml)|(exact hgm)|exact br|(intro h;simp_all[cB.cells]<;>fail)|(simp_all[cB.cells]<;>fail))|(apply aA;(·exact bm))|refine aK (hgp) ?_|refine aH ?_|((with_reducible refine aB ?_ ?_)<;>intro hc<;>(try simp only[List.length_map,ne_eq,cD] at hc)<;>try(exfalso;omega)))
       all_goals exact⟨x+1,by omega,_,_,_,Rt.refl _ _ _,bt,by omega,cH,⟨_,bk⟩,⟨_,Eq.trans (b:=some (.row 80 3 _ _)) bk (lF (by rw[hnx];rfl))⟩⟩
  ·have:x=u.shared.length:=by omega
   subst this
   repeat' (first|((with_reducible refine aE ?_);conv=>whnf)|refine aG ?_|exact cN|with_reducible refine aD ?_ ?_|((with_reducible refine Ask.mk ?_);first|exact bw|(exact hsm)|exact br|(intro h;simp_all[bp.cells]<;>fail)|(simp_all[bp.cells]<;>fail))|(apply aA;(·exact bm))|refine aH ?_|((with_reducible refine aB ?_ ?_)<;>intro hc<;>(try simp only[List.length_map,ne_eq,cD] at hc)<;>try(exfalso;omega)))
   refine⟨?_⟩
   have e1:∀H,ch.dk H 6 (.dI [.sl 15 u.shared.length,i64 0])= .dI [ch.dk H 5 (.sl 15 u.shared.length),i64 0]:=fun H=>by
    simp only[dk,List.map_cons,List.map_nil]
   refine(e1 _).trans ?_
   rw[dH (b:=15) (e:=80) (sz:=3) (d:=d1) (es:=(ff u u.shared.length).map cB.av) bk (by rw[List.length_map,hcl]),ca _ (gY _)]
   rfl
 ·rw[if_neg (mt cV.1 hr)]
  have hbad:=kj hr
  generalize gO u=c at *
  obtain⟨c1,c2,c3⟩:=c
  dsimp only at hbad
  subst hbad
  refine aJ AP rfl ?_
  repeat' (first|((with_reducible refine aE ?_);conv=>whnf)|refine aG ?_|exact cN|with_reducible refine aD ?_ ?_|((with_reducible refine Ask.mk ?_);first|exact bw|exact br|(intro h;simp_all[bp.cells]<;>fail)|(simp_all[bp.cells]<;>fail))|(apply aA;(·exact bm))|refine aK (hck) ?_|refine aH ?_|((with_reducible refine aB ?_ ?_)<;>intro hc<;>(try simp only[List.length_map,ne_eq,cD] at hc)<;>try(exfalso;omega)))
  all_goals first|exact rfl|(exfalso;simp at hc;done)
end Go.Proofs.YtmonponfppdgfaaGreatDoor
end
section
/- What can be left out, in plain data. -/
namespace Go.Proofs.YtmonponfppdgfaaGreatDoor
open Go Go.ch Go.Proofs
set_option linter.unusedSimpArgs false
set_option linter.unusedVariables false
abbrev tf (l:List Bool) (i:Nat):Bool:=l.getD i false
theorem ry {l:List Bool} {i:Nat} (h:tf l i=true):i<l.length:=by
 apply Classical.byContradiction
 intro hn
 unfold tf at h
 rw[List.getD,List.getElem?_eq_none (by omega)] at h
 cases h
theorem iR:∀{l m:List Nat},l.Nodup→(∀a∈l,a∈m)→l.length≤m.length
 |[],_,_,_=>Nat.zero_le _
 |a::l,m,h,hs=>by
  rw[List.nodup_cons] at h
  have h1:a∈m:=hs a (by simp)
  have:=iR (m:=m.erase a) h.2 fun x hx=>by
   have hne:x≠a:=fun e=>h.1 (e▸hx)
   exact(List.mem_erase_of_ne hne).2 (hs x (by simp[hx]))
  rw[List.length_erase_of_mem h1] at this
  have:=List.length_pos_of_mem h1
  simp only[List.length_cons]
  omega
abbrev iA (g:bo) (i:Nat):Nat:=(g.nd i).next.toNat
def iter (g:bo) (i:Nat):Nat→Nat
 |0=>i
 |k+1=>iA g (iter g i k)
theorem ig (g:bo) (i a:Nat):∀b,iter g i (a+b)=iter g (iter g i a) b
 |0=>rfl
 |b+1=>by rw[←Nat.add_assoc,iter,iter,ig g i a b]
theorem jX (g:bo) (i:Nat) (k:Nat):iter g i (k+1)=iter g (iA g i) k:=by
 rw[Nat.add_comm,ig];rfl
def zW (l:List Bool) (g:bo) (i:Nat):Prop:=∃p,1≤p∧iter g i p=i∧∀q,q<p→tf l (iter g i q)=true
theorem DD {g:bo} {i p:Nat} (hp:iter g i p=i) (hmin:∀p',1≤p'→p'<p→iter g i p'≠i) {a b:Nat} (hab:a<b) (hb:b<p):iter g i a≠iter g i b:=by
 intro h
 refine hmin (a+(p - b)) (by omega) (by omega) ?_
 rw[ig,h,←ig,show b+(p - b)=p by omega,hp]
theorem qj {P:Nat→Prop} (h:∃n,P n):∃n,P n∧∀m,m<n→¬P m:=by
 obtain⟨n,hn⟩:=h
 induction n using Nat.strongRecOn with
 |_ n ih=>
  by_cases h:∃m,m<n∧P m
  ·obtain⟨m,h1,h2⟩:=h;exact ih m h1 h2
  ·exact⟨n,hn,fun m hm hp=>h ⟨m,hm,hp⟩⟩
theorem nL {g:bo} {i p:Nat} (h:∀a b,a<b→b<p→iter g i a≠iter g i b):((List.range p).map (iter g i)).Nodup:=by
 induction p with
 |zero=>simp
 |succ p ih=>
  rw[List.range_succ,List.map_append,List.nodup_append]
  refine⟨ih fun a b h1 h2=>h a b h1 (by omega),by simp,fun x hx y hy=> ?_⟩
  simp only[List.map_cons,List.map_nil,List.mem_cons,List.not_mem_nil,or_false] at hy
  subst hy
  rw[List.mem_map] at hx
  obtain⟨a,ha,rfl⟩:=hx
  exact h a p (List.mem_range.1 ha) (by omega)
theorem A8 {l:List Bool} {g:bo} {i:Nat} (h:zW l g i):∃p,1≤p∧p≤l.length∧iter g i p=i∧∀q,q<p→tf l (iter g i q)=true:=by
 obtain⟨p,⟨h1,h2,h3⟩,hmin⟩:=qj h
 refine⟨p,h1, ?_,h2,h3⟩
 have hm:∀p',1≤p'→p'<p→iter g i p'≠i:=fun p' a b e=>hmin p' b ⟨a,e,fun q hq=>h3 q (by omega)⟩
 have hn:=nL (g:=g) (i:=i) (p:=p) fun a b hab hb=>DD h2 hm hab hb
 have:=iR (m:=List.range l.length) hn fun x hx=>by
  rw[List.mem_map] at hx
  obtain⟨a,ha,rfl⟩:=hx
  exact List.mem_range.2 (ry (h3 a (List.mem_range.1 ha)))
 simpa using this
open Classical in
noncomputable def cx (l:List Bool) (g:bo):List Bool:=(List.range l.length).map fun i=>tf l i&& !decide (zW l g i)
theorem fM (l:List Bool) (g:bo):(cx l g).length=l.length:=by simp[cx]
theorem fi {l:List Bool} {g:bo} {i:Nat}:tf (cx l g) i=true↔tf l i=true∧¬zW l g i:=by
 by_cases hi:i<l.length
 ·simp[tf,cx,List.getD,hi]
 ·constructor
  ·intro h;have:=ry h;rw[fM] at this;omega
  ·intro h;have:=ry h.1;omega
theorem AG (l:List Bool) (g:bo) (i:Nat):∃k,k≤l.length∧tf (cx l g) (iter g i k)=false∧∀q,q<k→tf (cx l g) (iter g i q)=true:=by
 have hex:∃k,tf (cx l g) (iter g i k)=false:=by
  apply Classical.byContradiction
  intro hn
  have hall:∀k,tf (cx l g) (iter g i k)=true:=fun k=>by
   cases h:tf (cx l g) (iter g i k) with
   |true=>rfl
   |false=>exact absurd ⟨k,h⟩ hn
  have:¬((List.range (l.length+1)).map (iter g i)).Nodup:=fun hd=>by
   have:=iR (m:=List.range l.length) hd fun x hx=>by
    rw[List.mem_map] at hx
    obtain⟨a,ha,rfl⟩:=hx
    have:=ry (hall a)
    rw[fM] at this
    exact List.mem_range.2 this
   simp at this
   omega
  refine this (nL fun a b hab hb e=> ?_)
  have h1:=(fi.1 (hall a)).2
  refine h1 ⟨b - a,by omega, ?_,fun q _=> ?_⟩
  ·rw[←ig,show a+(b - a)=b by omega,←e]
  ·rw[←ig];exact(fi.1 (hall _)).1
 obtain⟨k,h1,h2⟩:=qj hex
 have hq:∀q,q<k→tf (cx l g) (iter g i q)=true:=fun q hq=>by
  have:=h2 q hq
  cases h:tf (cx l g) (iter g i q) with
  |true=>rfl
  |false=>exact absurd h this
 refine⟨k, ?_,h1,hq⟩
 have hd:((List.range k).map (iter g i)).Nodup:=nL fun a b hab hb e=>by
  have h1:=(fi.1 (hq a (by omega))).2
  refine h1 ⟨b - a,by omega, ?_,fun q hqb=> ?_⟩
  ·rw[←ig,show a+(b - a)=b by omega,←e]
  ·rw[←ig];exact(fi.1 (hq _ (by omega))).1
 have:=iR (m:=List.range l.length) hd fun x hx=>by
  rw[List.mem_map] at hx
  obtain⟨a,ha,rfl⟩:=hx
  have:=ry (hq a (List.mem_range.1 ha))
  rw[fM] at this
  exact List.mem_range.2 this
 simpa using this
def vi (out:List Bool) (g:bo):Nat→Nat→Nat
 |0,i=>i
 |f+1,i=>if tf out i=true then vi out g f (iA g i) else i
def dR (out:List Bool) (g:bo) (i:Nat):Nat:=vi out g out.length i
def Ends (out:List Bool) (g:bo):Prop:=∀i,∃k,k≤out.length∧tf out (iter g i k)=false∧∀q,q<k→tf out (iter g i q)=true
theorem o9 (l:List Bool) (g:bo):Ends (cx l g) g:=fun i=>by rw[fM];exact AG l g i
theorem j4 (out:List Bool) (g:bo):∀(k f i:Nat),k≤f→tf out (iter g i k)=false→(∀q,q<k→tf out (iter g i q)=true)→vi out g f i=iter g i k
 |0,0,i,_,_,_=>rfl
 |0,f+1,i,_,h,_=>by rw[vi,if_neg (by rw[show tf out i=false from h];decide)];rfl
 |k+1,f+1,i,hk,h,hq=>by
  rw[vi,if_pos (show tf out i=true from hq 0 (by omega)),jX]
  refine j4 out g k f _ (by omega) ?_ fun q hqk=> ?_
  ·rw[←jX];exact h
  ·rw[←jX];exact hq (q+1) (by omega)
theorem vj {out:List Bool} {g:bo} (h:Ends out g) (i:Nat):tf out (dR out g i)=false:=by
 obtain⟨k,h1,h2,h3⟩:=h i
 rw[dR,j4 out g k _ i h1 h2 h3];exact h2
theorem oj {out:List Bool} {g:bo} {i:Nat} (hi:tf out i=false):dR out g i=i:=j4 out g 0 _ i (Nat.zero_le _) hi fun q hq=>by omega
theorem HN {out:List Bool} {g:bo} (h:Ends out g) {i:Nat} (hi:tf out i=true):dR out g i=dR out g (iA g i):=by
 obtain⟨k,h1,h2,h3⟩:=h i
 cases k with
 |zero=>rw[show tf out (iter g i 0)=tf out i from rfl,hi] at h2;cases h2
 |succ k=>
  rw[dR,j4 out g (k+1) _ i h1 h2 h3,jX]
  refine(j4 out g k _ _ (by omega) ?_ fun q hq=> ?_).symm
  ·rw[←jX];exact h2
  ·rw[←jX];exact h3 (q+1) (by omega)
theorem ny {out:List Bool} {g:bo} (h:Ends out g) {P:Nat→Prop} (hp:∀i,tf out i=true→P i→P (iA g i)) {i:Nat} (hi:P i):P (dR out g i):=by
 obtain⟨k,h1,h2,h3⟩:=h i
 rw[dR,j4 out g k _ i h1 h2 h3]
 clear h1 h2
 induction k with
 |zero=>exact hi
 |succ k ih=>exact hp _ (h3 k (by omega)) (ih fun q hq=>h3 q (by omega))
noncomputable def dC (g:bo) (cls:List cB) (t:Nat) (i:Nat):Bool:=
 let n:=g.nd i
 gl (cd g (-1)) (i:Int)&&(if n.kind=1 then !kC (fq g) n n.slot.toNat||(decide (n.op=0)&&n.a.dr&&decide (n.a.slot=n.slot)) else if n.kind=2 then decide ((cls.getD n.cP.toNat default).kind≠3)&& !kC (fq g) n n.slot.toNat else if n.kind=3 then nQ cls t n.cP.toNat&& !kC (jz g cls t) n n.cP.toNat else if n.kind=8 then decide (n.next=n.jT) else false)
noncomputable def dW (g:bo) (cls:List cB) (t:Nat) (m:Nat):List Bool:=(List.range m).map (dC g cls t)
noncomputable def jy (g:bo) (cls:List cB) (t:Nat):List Bool:=dW g cls t g.nodes.length
noncomputable def eG (g:bo) (cls:List cB) (t:Nat):List Bool:=cx (jy g cls t) g
theorem k9 (g:bo) (cls:List cB) (t:Nat):(jy g cls t).length=g.nodes.length:=by simp[jy,dW]
theorem mP (g:bo) (cls:List cB) (t:Nat):(eG g cls t).length=g.nodes.length:=by rw[eG,fM,k9]
noncomputable def cX (g:bo) (out:List Bool):List Nat:=dR out g 0::(List.range g.nodes.length).filter fun i=>gl (cd g (-1)) (i:Int)&& !tf out i&&decide (i≠dR out g 0)
def dv (o:List Nat) (i:Nat):Nat:=(o.findIdx? (fun j=>decide (j=i))).getD 0
def cz (g:bo) (out:List Bool) (o:List Nat) (n:Node):Node:={ n with next:=if n.kind≠9 then(dv o (dR out g n.next.toNat):Int) else n.next,jT:=if n.kind=8 then(dv o (dR out g n.jT.toNat):Int) else n.jT }
noncomputable def gD (g:bo) (cls:List cB) (t:Nat):bo:={ g with nodes:=(cX g (eG g cls t)).map fun i=>cz g (eG g cls t) (cX g (eG g cls t)) (g.nd i) }
noncomputable def dF (u:bp):bp:={ u with bq:=(List.range u.bq.length).map fun t=>gD (u.gr t) (cu u) t }
def fW (u:bp):Nat:=(u.bq.map fun g=>g.nodes.length).sum
open Classical in
noncomputable def fO:Nat→bp→bp
 |0,v=>v
 |f+1,v=>if dF v=v then v else fO f (dF v)
noncomputable def kK (u:bp):bp:=fO (fW u) (dF u)
end Go.Proofs.YtmonponfppdgfaaGreatDoor
end
