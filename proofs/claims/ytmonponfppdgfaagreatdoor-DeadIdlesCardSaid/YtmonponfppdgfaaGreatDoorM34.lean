import Derived.Test.YtmonponfppdgfaaGreatDoorM33
import Derived.Test.YtmonponfppdgfaaGreatDoorM23
section
/- What touches a variable: the document's walk. -/
namespace Go.Proofs.YtmonponfppdgfaaGreatDoor
open Go Go.ck Go.Proofs
set_option linter.unusedSimpArgs false
set_option linter.unusedVariables false
abbrev qG (L:List (List Int)):AV:= .im 1 .any (L.map dN)
theorem ql (L:List (List Int)):cL 0 (L.map dN):=(cJ _ _).2 fun _ _=>by simp[dN,cG,cJ]
set_option maxRecDepth 4000 in
theorem yK (g:bo) (hg:g.Wf) (hw:Whole g) (hh:(ct g).2<0):Pure Tryz.prog 102 [g.av] (fun r=>r= .dI [qG (ct g).1,bl true]):=by
 refine aI vt rfl ?_
 have h1:=pc g hg hw
 have h2:=rW g hg hw
 unfold jC at h2
 repeat' (first|((with_reducible refine aE ?_);conv=>whnf)|refine aG ?_|exact cN|with_reducible refine aD ?_ ?_|((with_reducible refine Ask.mk ?_);first|exact bw|exact br|(intro h;simp_all[bo.cells]<;>fail)|(simp_all[bo.cells]<;>fail))|(apply aA;(·exact bm))|refine aK (h1) ?_|refine aK (h2) ?_|refine aH ?_|((with_reducible refine aB ?_ ?_)<;>intro hc<;>(try simp only[List.length_map,ne_eq,cD] at hc)<;>try(exfalso;omega)))
 rw[decide_eq_true hh]
 exact xG.eq (by simp only[cG,cL];exact⟨ql _,trivial,trivial⟩) rfl
set_option maxRecDepth 4000 in
set_option maxHeartbeats 4000000 in
theorem vh (g:bo) (hg:g.Wf) (hw:Whole g) (hh:(ct g).2<0) (hlk:∀i,((ct g).1.getD i []).length≤5000):Pure Tryz.prog 79 [g.av] (fun r=>r=qG ((ct g).1.map gm)):=by
 have h1:=yK g hg hw hh
 have hL:=(kV hw hh).2.1
 refine cV ?_ (by simp only[cG];exact ql _)
 refine aL EW rfl ?_
 have hl4:=hw.2.1
 generalize hLg:(ct g).1=L at *
 have hlm:(L.map dN).length=L.length:=by simp
 repeat' (first|((with_reducible refine aE ?_);conv=>whnf)|refine aG ?_|exact cN|with_reducible refine aD ?_ ?_|((with_reducible refine Ask.mk ?_);first|exact bw|exact br|(intro h;simp_all[bo.cells]<;>fail)|(simp_all[bo.cells]<;>fail))|(apply aA;(·exact bm))|refine aK (h1) ?_|refine aH ?_|((with_reducible refine aB ?_ ?_)<;>intro hc<;>(try simp only[List.length_map,ne_eq,cD] at hc)<;>try(exfalso;omega)))
 refine aR (fun i:Nat=>[(3,qG L),(5, .sl 10 i),(6,i64 i)])
  (fun i H n=>i≤L.length∧11≤n∧∃d,bj H 10=some (.row 89 1 d (((L.take i).map gm).map dN))) (fun i=>L.length - i) 0 ⟨_,_,_,Rt.nil 5 89 1 (by omega) rfl,bt,Nat.zero_le _,cI,⟨_,bk⟩⟩ ?_
 rintro i H n ⟨hi,hn,d,r⟩
 have hrm:(((L.take i).map gm).map dN).length=i:=by simp;omega
 by_cases hil:i<L.length
 ·have ei:∀d,(L.map dN).getD (i:Int).toNat d= .im 1 .any ((L.getD i []).map i64):=fun d=>by
   have:=iM (l:=L) (i:=(i:Int)) (by rw[Int.toNat_natCast];exact hil) d
   rw[Int.toNat_natCast] at this ⊢;exact this
  have hr:=wa (L.getD i []) (hlk i)
  unfold dN at hr
  have hnx:((L.take (i+1)).map gm).map dN=((L.take i).map gm).map dN++[dN (gm (L.getD i []))]:=by
   rw[List.take_succ_eq_append_getElem hil,List.map_append,List.map_append,show L.getD i []=L[i] by simp[List.getD,hil]];rfl
  repeat' (first|((with_reducible refine aE ?_);conv=>whnf)|refine aG ?_|exact cN|with_reducible refine aD ?_ ?_|((with_reducible refine Ask.mk ?_);first|exact bw|(exact hlm)|(exact hrm)|exact br)|(apply aA;(·(first|exact ei _|exact bm)))|refine aK (hr) ?_|refine aH ?_|((with_reducible refine aB ?_ ?_)<;>intro hc<;>(try simp only[List.length_map,ne_eq,cD] at hc)<;>try(exfalso;omega)))
  exact⟨i+1,by omega,_,_,_,Rt.refl _ _ _,bt,by omega,cI,⟨_,by rw[hnx];exact bk⟩⟩
 ·have:i=L.length:=by omega
  subst this
  rw[List.take_length] at r
  repeat' (first|((with_reducible refine aE ?_);conv=>whnf)|refine aG ?_|exact cN|with_reducible refine aD ?_ ?_|((with_reducible refine Ask.mk ?_);first|exact bw|(exact hlm)|exact br)|(apply aA;(·exact bm))|refine aH ?_|((with_reducible refine aB ?_ ?_)<;>intro hc<;>(try simp only[List.length_map,ne_eq,cD] at hc)<;>try(exfalso;omega)))
  exact⟨(dG bk (by simp)).trans (by rw[cc _ (ql _)])⟩
theorem sN (n:Node) (v:Int):Pure Tryz.prog 80 [n.av,i64 v] (fun r=>r=bl (ud n&&decide (n.cP=v))):=by
 refine aI EX rfl ?_
 repeat' (first|((with_reducible refine aE ?_);conv=>whnf)|refine aG ?_|exact cN|with_reducible refine aD ?_ ?_|((with_reducible refine Ask.mk ?_);first|exact bw|exact br|(intro h;simp_all[Node.cells]<;>fail)|(simp_all[Node.cells]<;>fail))|(apply aA;(·exact bm))|refine aH ?_|((with_reducible refine aB ?_ ?_)<;>intro hc<;>(try simp only[List.length_map,ne_eq,cD] at hc)<;>try(exfalso;omega)))
 all_goals refine cf ?_
 all_goals unfold ud
 all_goals first|(rw[decide_eq_true (show n.kind=2∨n.kind=3∨n.kind=4 by omega)];simp)|(rw[decide_eq_false (show ¬(n.kind=2∨n.kind=3∨n.kind=4) by omega)];simp)|(by_cases a:n.kind=2<;>by_cases b:n.kind=3<;>by_cases c:n.kind=4<;>by_cases d:n.cP=v<;>simp_all)
abbrev lT:=Nat×Nat×List Int
noncomputable def lL (v:Int) (t:Nat) (g:bo) (i:Nat):Option lT:=if gh (ca g (-1)) i=true∧(ud (g.nd i)&&decide ((g.nd i).cP=v))=true then some (t,i,(ct g).1.getD i []) else none
noncomputable def fP (v:Int) (t:Nat) (g:bo) (m:Nat):List lT:=(List.range m).filterMap (lL v t g)
noncomputable def fQ (v:Int) (u:bq) (m:Nat):List lT:=(List.range m).flatMap fun t=>fP v t (u.gr t) (u.gr t).nodes.length
theorem qS (v:Int) (t:Nat) (g:bo) (m:Nat):fP v t g (m+1)=fP v t g m++(lL v t g m).toList:=by
 rw[fP,List.range_succ,List.filterMap_append]
 cases h:lL v t g m<;>simp[fP,h]
theorem my (v:Int) (u:bq) (m:Nat):fQ v u (m+1)=fQ v u m++fP v m (u.gr m) (u.gr m).nodes.length:=by
 rw[fQ,List.range_succ,List.flatMap_append];simp[fQ]
theorem s5 (v:Int) (t:Nat) (g:bo) (m:Nat):(fP v t g m).length≤m:=by
 have:=List.length_filterMap_le (lL v t g) (List.range m)
 simpa[fP] using this
theorem oY {u:bq} (v:Int) (h:∀g∈u.bp,g.nodes.length≤4096) {m:Nat} (hm:m≤u.bp.length):(fQ v u m).length≤4096 * m:=by
 induction m with
 |zero=>simp[fQ]
 |succ k ih=>
  rw[my,List.length_append]
  have:=ih (by omega)
  have h1:=s5 v k (u.gr k) (u.gr k).nodes.length
  have h2:=h _ (cC (j:=k) default (l:=u.bp) (by omega))
  have h3:u.gr k=u.bp.getD k default:=rfl
  rw[←h3] at h2
  omega
theorem ru (a b:List Acc) (v:Int):ew (a++b) v=ew a v++ew b v:=by simp[ew]
theorem ye (x:Acc) (v:Int):ew [x] v=if(ud x.2.1&&decide (x.2.1.cP=v))=true then[(x.1,x.2.2)] else[]:=by
 unfold ew;rw[List.filter_cons];split<;>rfl
theorem xA (v:Int) (t:Nat) (g:bo) (m:Nat):ew (mw t g m) v=(fP v t g m).map fun x=>(x.1,x.2.2):=by
 induction m with
 |zero=>simp[mw,fP,ew]
 |succ k ih=>
  rw[s4,qS,ru,ih,List.map_append]
  congr 1
  unfold sF lL
  by_cases h:gh (ca g (-1)) k=true
  ·rw[if_pos h]
   rw[Option.toList_some,ye]
   dsimp only
   by_cases h2:(ud (g.nd k)&&decide ((g.nd k).cP=v))=true
   ·rw[if_pos h2,if_pos ⟨h,h2⟩];rfl
   ·rw[if_neg h2,if_neg (fun e=>h2 e.2)];rfl
  ·rw[if_neg h,if_neg (fun e=>h e.1)];rfl
theorem xB (v:Int) (u:bq) (m:Nat):ew (gn u m) v=(fQ v u m).map fun x=>(x.1,x.2.2):=by
 induction m with
 |zero=>simp[gn,fQ,ew]
 |succ k ih=>rw[s6,my,ru,ih,xA,List.map_append]
def jF (x:lT):AV:= .agg [i64 x.1,i64 x.2.1]
def lO (x:lT):AV:=dN (gm x.2.2)
theorem vL (l:List lT):cL 0 (l.map jF):=(cJ _ _).2 fun _ _=>by simp[jF,cG,cL]
theorem vM (l:List lT):cL 0 (l.map lO):=(cJ _ _).2 fun _ _=>by simp[lO,dN,cG,cJ]
theorem rC {u:bq} {g:bo} (h:dK u g) (i:Nat):((ct g).1.getD i []).length≤5000:=by
 have:=tH g i
 have:=h.len
 omega
set_option maxRecDepth 4000 in
set_option maxHeartbeats 8000000 in
theorem oP (u:bq) (hu:u.Wf) (hr:cp u) (v:Int):Pure Tryz.prog 46 [u.av,i64 v] (fun r=>r= .dI [.im 2 .any ((fQ v u u.bp.length).map jF), .im 1 .any ((fQ v u u.bp.length).map lO)]):=by
 refine cV ?_ (by simp only[cG,cL];exact⟨vL _,vM _,trivial⟩)
 refine aL D1 rfl ?_
 have hgm:(u.bp.map bo.av).length=u.bp.length:=by simp
 have hfew:=hr.BH
 have h4:∀g∈u.bp,g.nodes.length≤4096:=fun g hg=>(hr.bp g hg).len.2
 repeat' (first|((with_reducible refine aE ?_);conv=>whnf)|refine aG ?_|exact cN|with_reducible refine aD ?_ ?_|((with_reducible refine Ask.mk ?_);first|exact bw|exact br|(intro h;simp_all[bq.cells]<;>fail)|(simp_all[bq.cells]<;>fail))|(apply aA;(·exact bm))|refine aH ?_|((with_reducible refine aB ?_ ?_)<;>intro hc<;>(try simp only[List.length_map,ne_eq,cD] at hc)<;>try(exfalso;omega)))
 refine aR (fun t:Nat=>[(1,i64 v),(2, .pt 0 1 0 0),(6, .sl 6 (fQ v u t).length),(7, .sl 7 (fQ v u t).length),(8,i64 t)])
  (fun t H n=>t≤u.bp.length∧8≤n∧(∃d,bj H 0=some (.row 25 3 d [u.av]))∧(∃d,bj H 6=some (.row 88 2 d ((fQ v u t).map jF)))∧∃d,bj H 7=some (.row 89 1 d ((fQ v u t).map lO))) (fun t=>u.bp.length - t) 0 ⟨_,_,_,(Rt.nil 6 88 2 (by omega) rfl).trans (Rt.nil 7 89 1 (by omega) rfl),bt,Nat.zero_le _,cI,⟨_,bk⟩,⟨_,bk⟩,⟨_,bk⟩⟩ ?_
 rintro t H n ⟨ht,hn,⟨d0,r0⟩,⟨d6,r6⟩,d7,r7⟩
 have hac:=oY (u:=u) v h4 ht
 by_cases htl:t<u.bp.length
 ·have eg:=fun d=>j4 (l:=u.bp) htl d
  rw[show u.bp.getD t default=u.gr t from rfl] at eg
  have hg:(u.gr t).Wf:=hu.bp _ (cC default htl)
  have hgo:=hr.gr htl
  have hrc:=kL (u.gr t) hg hgo.whole
  have hho:=vh (u.gr t) hg hgo.whole hgo.held (rC hgo)
  have hL:=(kV hgo.whole hgo.held).2.1
  have hgl:=hgo.len
  have hsu:=my v u t
  generalize u.gr t=g at *
  repeat' (first|((with_reducible refine aE ?_);conv=>whnf)|refine aG ?_|exact cN|with_reducible refine aD ?_ ?_|((with_reducible refine Ask.mk ?_);first|exact bw|(exact hgm)|exact br|(intro h;simp_all[bq.cells,bo.cells]<;>fail)|(simp_all[bq.cells,bo.cells]<;>fail))|(apply aA;(·(first|exact eg _|exact bm)))|refine aK (hrc) ?_|refine aK (hho) ?_|refine aH ?_|((with_reducible refine aB ?_ ?_)<;>intro hc<;>(try simp only[List.length_map,ne_eq,cD] at hc)<;>try(exfalso;omega)))
  generalize hR0:fQ v u t=R0 at *
  refine aJ (fun k:Nat=>[(1,i64 v),(2, .pt 0 1 0 0),(6, .sl 6 (R0++fP v t g k).length),(7, .sl 7 (R0++fP v t g k).length),(8,i64 t),(9,fg (ca g (-1))),(10,qG ((ct g).1.map gm)),(11,i64 k)])
   (fun k H n2=>k≤g.nodes.length∧n≤n2∧(∃d,bj H 0=some (.row 25 3 d [u.av]))∧(∃d,bj H 6=some (.row 88 2 d ((R0++fP v t g k).map jF)))∧∃d,bj H 7=some (.row 89 1 d ((R0++fP v t g k).map lO))) (fun k=>g.nodes.length - k) 0 (by rw[show R0++fP v t g 0=R0 by simp[fP]];exact bt) ⟨Nat.zero_le _,cI,⟨_,bk⟩,⟨_,by rw[show R0++fP v t g 0=R0 by simp[fP]];exact bk⟩,⟨_,by rw[show R0++fP v t g 0=R0 by simp[fP]];exact bk⟩⟩ ?_
  clear r0 r6 r7
  rintro k H2 n2 ⟨hk,hn2,⟨d0,r0⟩,⟨d6,r6⟩,d7,r7⟩
  have hrm:((ca g (-1)).map bl).length=g.nodes.length:=by rw[List.length_map,dO]
  have hrm2:=dO g (-1)
  by_cases hkl:k<g.nodes.length
  ·have en:=fun d=>dy (l:=g.nodes) hkl d
   rw[show g.nodes.getD k default=g.nd k from rfl] at en
   have er:=fun d=>jl (l:=ca g (-1)) (k:=(k:Int)) d (by rw[dO];exact hkl)
   have eh:=fun d=>iM (l:=(ct g).1.map gm) (i:=(k:Int)) (by rw[Int.toNat_natCast,List.length_map,hL];exact hkl) d
   rw[show((ct g).1.map gm).getD (k:Int).toNat []=gm ((ct g).1.getD k []) by rw[Int.toNat_natCast];simp[List.getD,hL,hkl]] at eh
   have hhm:(((ct g).1.map gm).map dN).length=g.nodes.length:=by simp[hL]
   have htp:=sN (g.nd k) v
   have hsk:=qS v t g k
   have hlk:=s5 v t g k
   have hnm:(g.nodes.map Node.av).length=g.nodes.length:=by simp
   have hR:(R0++fP v t g k).length≤40000:=by rw[List.length_append];omega
   have hRa:((R0++fP v t g k).map jF).length=(R0++fP v t g k).length:=by simp
   have hRl:((R0++fP v t g k).map lO).length=(R0++fP v t g k).length:=by simp
   by_cases hf:gh (ca g (-1)) (k:Int)=true
   ·rw[hf] at er
    by_cases h2:(ud (g.nd k)&&decide ((g.nd k).cP=v))=true
    ·rw[h2] at htp
     rw[show lL v t g k=some (t,k,(ct g).1.getD k []) by unfold lL;rw[if_pos ⟨hf,h2⟩]] at hsk
     have hsk2:R0++fP v t g (k+1)=(R0++fP v t g k)++[(t,k,(ct g).1.getD k [])]:=by rw[hsk,←List.append_assoc];rfl
     generalize R0++fP v t g k=R at *
     repeat' (first|((with_reducible refine aE ?_);conv=>whnf)|refine aG ?_|exact cN|with_reducible refine aD ?_ ?_|((with_reducible refine Ask.mk ?_);first|exact bw|(exact hgm)|(exact hrm)|(exact hhm)|(exact hnm)|(exact hRa)|(exact hRl)|exact br|(intro h;simp_all[bq.cells,bo.cells,Node.cells]<;>fail)|(simp_all[bq.cells,bo.cells,Node.cells]<;>fail))|(apply aA;(·(first|exact eg _|exact en _|exact er _|exact eh _|exact bm)))|refine aK (htp) ?_|refine aH ?_|((with_reducible refine aB ?_ ?_)<;>intro hc<;>(try simp only[List.length_map,ne_eq,cD] at hc)<;>try(exfalso;omega)))
     exact⟨k+1,by omega,by rw[hsk2,List.length_append];exact bt,by omega,cI,⟨_,bk⟩,⟨_,Eq.trans (b:=some (.row 88 2 _ _)) bk (lE (by rw[hsk2,List.map_append];rfl))⟩,⟨_,Eq.trans (b:=some (.row 89 1 _ _)) bk (lE (by rw[hsk2,List.map_append];rfl))⟩⟩
    ·rw[show(ud (g.nd k)&&decide ((g.nd k).cP=v))=false by simpa using h2] at htp
     rw[show lL v t g k=none by unfold lL;rw[if_neg (fun e=>h2 e.2)],Option.toList_none,List.append_nil] at hsk
     repeat' (first|((with_reducible refine aE ?_);conv=>whnf)|refine aG ?_|exact cN|with_reducible refine aD ?_ ?_|((with_reducible refine Ask.mk ?_);first|exact bw|(exact hgm)|(exact hrm)|(exact hhm)|(exact hnm)|exact br|(intro h;simp_all[bq.cells,bo.cells,Node.cells]<;>fail)|(simp_all[bq.cells,bo.cells,Node.cells]<;>fail))|(apply aA;(·(first|exact eg _|exact en _|exact er _|exact eh _|exact bm)))|refine aK (htp) ?_|refine aH ?_|((with_reducible refine aB ?_ ?_)<;>intro hc<;>(try simp only[List.length_map,ne_eq,cD] at hc)<;>try(exfalso;omega)))
     exact⟨k+1,by omega,by rw[hsk];exact bt,by omega,cI,⟨_,bk⟩,⟨_,by rw[hsk];exact bk⟩,⟨_,by rw[hsk];exact bk⟩⟩
   ·rw[show gh (ca g (-1)) (k:Int)=false by simpa using hf] at er
    rw[show lL v t g k=none by unfold lL;rw[if_neg (fun e=>hf e.1)],Option.toList_none,List.append_nil] at hsk
    repeat' (first|((with_reducible refine aE ?_);conv=>whnf)|refine aG ?_|exact cN|with_reducible refine aD ?_ ?_|((with_reducible refine Ask.mk ?_);first|exact bw|(exact hgm)|(exact hrm)|(exact hhm)|(exact hnm)|exact br|(intro h;simp_all[bq.cells,bo.cells,Node.cells]<;>fail)|(simp_all[bq.cells,bo.cells,Node.cells]<;>fail))|(apply aA;(·(first|exact eg _|exact en _|exact er _|exact eh _|exact bm)))|refine aH ?_|((with_reducible refine aB ?_ ?_)<;>intro hc<;>(try simp only[List.length_map,ne_eq,cD] at hc)<;>try(exfalso;omega)))
    exact⟨k+1,by omega,by rw[hsk];exact bt,by omega,cI,⟨_,bk⟩,⟨_,by rw[hsk];exact bk⟩,⟨_,by rw[hsk];exact bk⟩⟩
  ·have:k=g.nodes.length:=by omega
   subst this
   rw[←hsu] at r6 r7 ⊢
   repeat' (first|((with_reducible refine aE ?_);conv=>whnf)|refine aG ?_|exact cN|with_reducible refine aD ?_ ?_|((with_reducible refine Ask.mk ?_);first|exact bw|(exact hrm)|exact br|(intro h;simp_all[bq.cells]<;>fail)|(simp_all[bq.cells]<;>fail))|(apply aA;(·exact bm))|refine aH ?_|((with_reducible refine aB ?_ ?_)<;>intro hc<;>(try simp only[List.length_map,ne_eq,cD] at hc)<;>try(exfalso;omega)))
   exact⟨t+1,by omega,_,_,_,Rt.refl _ _ _,bt,by omega,cI,⟨_,bk⟩,⟨_,bk⟩,⟨_,bk⟩⟩
 ·have:t=u.bp.length:=by omega
  subst this
  repeat' (first|((with_reducible refine aE ?_);conv=>whnf)|refine aG ?_|exact cN|with_reducible refine aD ?_ ?_|((with_reducible refine Ask.mk ?_);first|exact bw|(exact hgm)|exact br|(intro h;simp_all[bq.cells]<;>fail)|(simp_all[bq.cells]<;>fail))|(apply aA;(·exact bm))|refine aH ?_|((with_reducible refine aB ?_ ?_)<;>intro hc<;>(try simp only[List.length_map,ne_eq,cD] at hc)<;>try(exfalso;omega)))
  refine⟨?_⟩
  have e1:∀(H:Hp) (a b:Nat),ck.dw H 6 (.dI [.sl 6 a, .sl 7 b])= .dI [ck.dw H 5 (.sl 6 a),ck.dw H 5 (.sl 7 b)]:=fun H a b=>by
   simp only[dw,List.map_cons,List.map_nil]
  refine(e1 _ _ _).trans ?_
  rw[dG (b:=6) (e:=88) (sz:=2) (d:=d6) (es:=(fQ v u u.bp.length).map jF) bk (by simp),dG (b:=7) (e:=89) (sz:=1) (d:=d7) (es:=(fQ v u u.bp.length).map lO) bk (by simp),cc _ (vL _),cc _ (vM _)]
end Go.Proofs.YtmonponfppdgfaaGreatDoor
end
section
/- How variables are shared: the document's walk. -/
namespace Go.Proofs.YtmonponfppdgfaaGreatDoor
open Go Go.ck Go.Proofs
set_option linter.unusedSimpArgs false
set_option linter.unusedVariables false
def mh (R:List lT) (j:Nat):Bool:=R.all fun x=>decide ((j:Int)∈gm x.2.2)
def je (R:List lT) (m:Nat):List Int:=((List.range m).filter (mh R)).map fun(j:Nat)=>(j:Int)
theorem zu (R:List lT) (m:Nat):je R (m+1)=je R m++(if mh R m=true then[(m:Int)] else[]):=by
 unfold je
 rw[List.range_succ,List.filter_append,List.map_append]
 congr 1
 rw[List.filter_cons];split<;>simp
theorem CX (R:List lT) (m:Nat):(je R m).length≤m:=by
 unfold je
 rw[List.length_map]
 have:=List.length_filter_le (mh R) (List.range m)
 simpa using this
theorem AE (R:List lT) (j:Nat):mh R j=v8 (R.map fun x=>(x.1,x.2.2)) j:=by
 unfold mh v8
 rw[List.all_map]
 congr 1
 funext x
 show _=List.any x.2.2 _
 rw[Bool.eq_iff_iff,decide_eq_true_eq,F8,List.any_eq_true]
 constructor
 ·intro h;exact⟨_,h,by simp⟩
 ·rintro⟨k,h1,h2⟩;rw[←of_decide_eq_true h2];exact h1
def ra (R:List lT) (k:Nat):Bool:=(R.take k).any fun x=>decide ((x.1:Int)≠((R.getD 0 default).1:Nat))
def tx (R:List lT) (m:Nat):cB:=if R.length=0 then⟨0,0,0⟩ else if ra R R.length=false then⟨1,((R.getD 0 default).1:Nat),0⟩ else if 0<(je R m).length then⟨2,0,(je R m).getD 0 0⟩ else⟨3,0,0⟩
theorem z7 (R:List lT) (m:Nat):tx R m=l7 m (R.map fun x=>(x.1,x.2.2)):=by
 cases R with
 |nil=>rfl
 |cons x r=>
  obtain⟨t,i,l⟩:=x
  unfold tx
  rw[if_neg (by simp),List.map_cons,l7]
  have hs:(ra ((t,i,l)::r) ((t,i,l)::r).length=false)↔(r.map fun x=>(x.1,x.2.2)).all (fun x=>decide (x.1=t))=true:=by
   unfold ra
   rw[List.take_length]
   simp[List.any_eq_false,List.getD]
   constructor<;>(intro h a b c d;have:=h a b c d;omega)
  by_cases h:(r.map fun x=>(x.1,x.2.2)).all (fun x=>decide (x.1=t))=true
  ·rw[if_pos (hs.2 h),if_pos h];rfl
  ·rw[if_neg (mt hs.1 h),if_neg h]
   have hf:(List.range m).find? (v8 ((t,l)::r.map fun x=>(x.1,x.2.2)))=((List.range m).filter (mh ((t,i,l)::r))).head?:=by
    rw[List.head?_filter]
    congr 1
    funext j
    rw[AE];rfl
   rw[hf]
   unfold je
   cases hc:(List.range m).filter (mh ((t,i,l)::r)) with
   |nil=>rfl
   |cons a b=>rw[if_pos (by simp)];rfl
theorem JV {R:List lT} {k:Nat} (h:k<R.length) (d:AV):(R.map lO).getD (k:Int).toNat d= .im 1 .any ((gm (R.getD k default).2.2).map i64):=by
 rw[Int.toNat_natCast];exact dH lO R k d h
theorem xN {R:List lT} {k:Nat} (h:k<R.length) (d:AV):(R.map jF).getD (k:Int).toNat d= .agg [i64 (R.getD k default).1,i64 (R.getD k default).2.1]:=by
 rw[Int.toNat_natCast];exact dH jF R k d h
theorem BQ {u:bq} (hr:cp u) (v:Int) {k:Nat} (hk:k<(fQ v u u.bp.length).length):((fQ v u u.bp.length).getD k default).2.2.length≤5000:=by
 have hm:(fQ v u u.bp.length).getD k default∈fQ v u u.bp.length:=cC default hk
 generalize (fQ v u u.bp.length).getD k default=x at *
 unfold fQ at hm
 obtain⟨t,ht,h1⟩:=List.mem_flatMap.1 hm
 obtain⟨i,hi,h2⟩:=List.mem_filterMap.1 h1
 unfold lL at h2
 split at h2
 ·cases h2;exact rC (hr.gr (List.mem_range.1 ht)) i
 ·cases h2
set_option maxRecDepth 4000 in
set_option maxHeartbeats 8000000 in
theorem vb (u:bq) (hu:u.Wf) (hr:cp u) (v:Int):Pure Tryz.prog 47 [u.av,i64 v] (fun r=>r=dN (if(fQ v u u.bp.length).length=0 then[] else je (fQ v u u.bp.length) u.bx.length)):=by
 have htp:=oP u hu hr v
 have hsh:=fun k hk=>BQ hr v (k:=k) hk
 have hfew:=hr.BH
 have hRl:=oY (u:=u) v (fun g hg=>(hr.bp g hg).len.2) (Nat.le_refl _)
 refine cV ?_ (by simp only[dN,cG];exact nh _ _)
 refine aL D2 rfl ?_
 generalize fQ v u u.bp.length=R at *
 have hlm:(u.bx.map Decl.av).length=u.bx.length:=by simp
 have hRa:(R.map jF).length=R.length:=by simp
 have hRk:(R.map lO).length=R.length:=by simp
 repeat' (first|((with_reducible refine aE ?_);conv=>whnf)|refine aG ?_|exact cN|with_reducible refine aD ?_ ?_|((with_reducible refine Ask.mk ?_);first|exact bw|exact br|(intro h;simp_all[bq.cells]<;>fail)|(simp_all[bq.cells]<;>fail))|(apply aA;(·exact bm))|refine aK (htp) ?_|refine aH ?_|((with_reducible refine aB ?_ ?_)<;>intro hc<;>(try simp only[List.length_map,ne_eq,cD] at hc)<;>try(exfalso;omega)))
 refine aR (fun l:Nat=>[(2, .pt 0 1 0 0),(5, .im 2 .any (R.map jF)),(6, .im 1 .any (R.map lO)),(7, .sl 11 (je R l).length),(8,i64 l)])
  (fun l H n=>l≤u.bx.length∧(R.length=0→l=0)∧12≤n∧(∃d,bj H 0=some (.row 25 3 d [u.av]))∧∃d,bj H 11=some (.row 3 1 d ((je R l).map i64))) (fun l=>u.bx.length - l) 0 ⟨_,_,_,Rt.nil 7 3 1 (by omega) rfl,bt,Nat.zero_le _,fun _=>rfl,cI,⟨_,bk⟩,⟨_,bk⟩⟩ ?_
 rintro l H n ⟨hl,hz,hn,⟨d0,r0⟩,d1,r1⟩
 by_cases hll:l<u.bx.length∧0<R.length
 ·obtain⟨hl1,hl2⟩:=hll
  have hgm:((je R l).map i64).length=(je R l).length:=by simp
  have hgl:=CX R l
  have hgs:=zu R l
  repeat' (first|((with_reducible refine aE ?_);conv=>whnf)|refine aG ?_|exact cN|with_reducible refine aD ?_ ?_|((with_reducible refine Ask.mk ?_);first|exact bw|(exact hlm)|(exact hRa)|exact br|(intro h;simp_all[bq.cells]<;>fail)|(simp_all[bq.cells]<;>fail))|(apply aA;(·exact bm))|refine aH ?_|((with_reducible refine aB ?_ ?_)<;>intro hc<;>(try simp only[List.length_map,ne_eq,cD] at hc)<;>try(exfalso;omega)))
  refine aJ (fun σ:Nat×Bool=>[(2, .pt 0 1 0 0),(5, .im 2 .any (R.map jF)),(6, .im 1 .any (R.map lO)),(7, .sl 11 (je R l).length),(8,i64 l),(9,bl σ.2),(10,i64 σ.1)])
   (fun σ H m=>n≤m∧σ.1≤R.length∧σ.2=mh (R.take σ.1) l∧(∃d,bj H 0=some (.row 25 3 d [u.av]))∧∃d,bj H 11=some (.row 3 1 d ((je R l).map i64))) (fun σ=>R.length - σ.1) (0,true) bt ⟨cI,Nat.zero_le _,rfl,⟨_,bk⟩,⟨_,bk⟩⟩ ?_
  clear r0 r1
  rintro⟨k,al⟩ H2 m ⟨hm,hk,hal,⟨d0,r0⟩,d1,r1⟩
  dsimp only at hk hal ⊢
  by_cases hkl:k<R.length
  ·have ek:=fun d=>JV hkl d
   have hh:=A3 (gm (R.getD k default).2.2) (Nat.le_trans (w9 _) (hsh k hkl)) l
   unfold dN at hh
   have hnx:mh (R.take (k+1)) l=(al&&decide ((l:Int)∈gm (R.getD k default).2.2)):=by
    rw[hal,List.take_succ_eq_append_getElem hkl]
    unfold mh
    rw[List.all_append];simp[List.getD,hkl]
   cases al with
   |false=>
    repeat' (first|((with_reducible refine aE ?_);conv=>whnf)|refine aG ?_|exact cN|with_reducible refine aD ?_ ?_|((with_reducible refine Ask.mk ?_);first|exact bw|(exact hRa)|(exact hRk)|exact br)|(apply aA;(·(first|exact ek _|exact bm)))|refine aK (hh) ?_|refine aH ?_|((with_reducible refine aB ?_ ?_)<;>intro hc<;>(try simp only[List.length_map,ne_eq,cD] at hc)<;>try(exfalso;omega)))
    exact⟨(k+1,false),by dsimp only;omega,bt,cI,by dsimp only;omega,by dsimp only;rw[hnx];rfl,⟨_,bk⟩,⟨_,bk⟩⟩
   |true=>
    repeat' (first|((with_reducible refine aE ?_);conv=>whnf)|refine aG ?_|exact cN|with_reducible refine aD ?_ ?_|((with_reducible refine Ask.mk ?_);first|exact bw|(exact hRa)|(exact hRk)|exact br)|(apply aA;(·(first|exact ek _|exact bm)))|refine aK (hh) ?_|refine aH ?_|((with_reducible refine aB ?_ ?_)<;>intro hc<;>(try simp only[List.length_map,ne_eq,cD] at hc)<;>try(exfalso;omega)))
    exact⟨(k+1,decide ((l:Int)∈gm (R.getD k default).2.2)),by dsimp only;omega,bt,cI,by dsimp only;omega,by dsimp only;rw[hnx];rfl,⟨_,bk⟩,⟨_,bk⟩⟩
  ·have:k=R.length:=by omega
   subst this
   rw[List.take_length] at hal
   rw[←hal] at hgs
   cases al with
   |false=>
    rw[if_neg (by decide),List.append_nil] at hgs
    repeat' (first|((with_reducible refine aE ?_);conv=>whnf)|refine aG ?_|exact cN|with_reducible refine aD ?_ ?_|((with_reducible refine Ask.mk ?_);first|exact bw|(exact hRa)|(exact hRk)|exact br)|(apply aA;(·exact bm))|refine aH ?_|((with_reducible refine aB ?_ ?_)<;>intro hc<;>(try simp only[List.length_map,ne_eq,cD] at hc)<;>try(exfalso;omega)))
    exact⟨l+1,by omega,_,_,_,Rt.refl _ _ _,by rw[hgs];exact bt,by omega,fun h=>by omega,cI,⟨_,bk⟩,⟨_,by rw[hgs];exact bk⟩⟩
   |true=>
    rw[if_pos rfl] at hgs
    repeat' (first|((with_reducible refine aE ?_);conv=>whnf)|refine aG ?_|exact cN|with_reducible refine aD ?_ ?_|((with_reducible refine Ask.mk ?_);first|exact bw|(exact hRa)|(exact hRk)|(exact hgm)|exact br)|(apply aA;(·exact bm))|refine aH ?_|((with_reducible refine aB ?_ ?_)<;>intro hc<;>(try simp only[List.length_map,ne_eq,cD] at hc)<;>try(exfalso;omega)))
    exact⟨l+1,by omega,_,_,_,Rt.refl _ _ _,by rw[hgs,List.length_append];exact bt,by omega,fun h=>by omega,cI,⟨_,bk⟩,⟨_,Eq.trans (b:=some (.row 3 1 _ _)) bk (lE (by rw[hgs,List.map_append];rfl))⟩⟩
 ·have hfin:(if R.length=0 then[] else je R u.bx.length)=je R l:=by
   by_cases h:R.length=0
   ·rw[if_pos h,hz h];rfl
   ·rw[if_neg h,show l=u.bx.length by omega]
  rw[hfin]
  repeat' (first|((with_reducible refine aE ?_);conv=>whnf)|refine aG ?_|exact cN|with_reducible refine aD ?_ ?_|((with_reducible refine Ask.mk ?_);first|exact bw|(exact hlm)|(exact hRa)|exact br|(intro h;simp_all[bq.cells]<;>fail)|(simp_all[bq.cells]<;>fail))|(apply aA;(·exact bm))|refine aH ?_|((with_reducible refine aB ?_ ?_)<;>intro hc<;>(try simp only[List.length_map,ne_eq,cD] at hc)<;>try(exfalso;omega)))
  all_goals exact⟨(dG bk (by simp)).trans (by rw[cc _ (nh _ _)];rfl)⟩
theorem y8 {R:List lT} {k:Nat} (h:k<R.length):ra R (k+1)=(ra R k||decide (((R.getD k default).1:Int)≠((R.getD 0 default).1:Nat))):=by
 unfold ra
 rw[List.take_succ_eq_append_getElem h,List.any_append,show R.getD k default=R[k] by simp[List.getD,h],List.any_cons,List.any_nil,Bool.or_false]
theorem vD (u:bq) (m:Nat):(fc u (m+1)).map cB.av=(fc u m).map cB.av++[(tx (fQ (m:Int) u u.bp.length) u.bx.length).av]:=by
 rw[nb,z7,xB]
set_option maxRecDepth 4000 in
set_option maxHeartbeats 8000000 in
theorem ml (u:bq) (hu:u.Wf):Pure Tryz.prog 25 [u.av] (fun r=>r=if kK u=true then .dI [fq u,i64 0] else .dI [.sc (.slice none 0 0),i64 60]):=by
 have hck:=jx u hu
 by_cases hr:cp u
 ·rw[if_pos (cT.2 hr)]
  rw[jR.2 hr] at hck
  have hfew:=hr.BH
  refine cV ?_ (by simp only[cG,cL,fq];exact⟨gX _,trivial,trivial⟩)
  refine aL AJ rfl ?_
  have hsm:(u.shared.map Decl.av).length=u.shared.length:=by simp
  have hcl:∀v,(fc u v).length=v:=fun v=>by simp[fc]
  repeat' (first|((with_reducible refine aE ?_);conv=>whnf)|refine aG ?_|exact cN|with_reducible refine aD ?_ ?_|((with_reducible refine Ask.mk ?_);first|exact bw|exact br|(intro h;simp_all[bq.cells]<;>fail)|(simp_all[bq.cells]<;>fail))|(apply aA;(·exact bm))|refine aK (hck) ?_|refine aH ?_|((with_reducible refine aB ?_ ?_)<;>intro hc<;>(try simp only[List.length_map,ne_eq,cD] at hc)<;>try(exfalso;omega)))
  all_goals first|(exfalso;simp at hc;done)|skip
  refine aR (fun x:Nat=>[(1, .pt 0 1 0 0),(7, .sl 15 x),(8,i64 x)])
   (fun x H n=>x≤u.shared.length∧16≤n∧(∃d,bj H 0=some (.row 25 3 d [u.av]))∧∃d,bj H 15=some (.row 80 3 d ((fc u x).map cB.av))) (fun x=>u.shared.length - x) 0 ⟨_,_,_,Rt.nil 7 80 3 (by omega) rfl,bt,Nat.zero_le _,cI,⟨_,bk⟩,⟨_,bk⟩⟩ ?_
  clear hck
  rintro x H n ⟨hx,hn,⟨d0,r0⟩,d1,r1⟩
  by_cases hxl:x<u.shared.length
  ·have htp:=oP u hu hr x
   have hgp:=vb u hu hr x
   have hRl:=oY (u:=u) (x:Int) (fun g hg=>(hr.bp g hg).len.2) (Nat.le_refl _)
   have hnx:=vD u x
   have hml:((fc u x).map cB.av).length=x:=by rw[List.length_map,hcl]
   generalize hR:fQ (x:Int) u u.bp.length=R at *
   have hRa:(R.map jF).length=R.length:=by simp
   unfold dN at hgp
   repeat' (first|((with_reducible refine aE ?_);conv=>whnf)|refine aG ?_|exact cN|with_reducible refine aD ?_ ?_|((with_reducible refine Ask.mk ?_);first|exact bw|(exact hsm)|exact br|(intro h;simp_all[bq.cells]<;>fail)|(simp_all[bq.cells]<;>fail))|(apply aA;(·exact bm))|refine aK (htp) ?_|refine aH ?_|((with_reducible refine aB ?_ ?_)<;>intro hc<;>(try simp only[List.length_map,ne_eq,cD] at hc)<;>try(exfalso;omega)))
   refine aJ (fun σ:Nat×Bool=>[(1, .pt 0 1 0 0),(7, .sl 15 x),(8,i64 x),(9, .im 2 .any (R.map jF)),(11,bl σ.2),(12,i64 σ.1)])
    (fun σ H m=>n≤m∧σ.1≤R.length∧σ.2=ra R σ.1∧(∃d,bj H 0=some (.row 25 3 d [u.av]))∧∃d,bj H 15=some (.row 80 3 d ((fc u x).map cB.av))) (fun σ=>R.length - σ.1) (0,false) bt ⟨cI,Nat.zero_le _,rfl,⟨_,bk⟩,⟨_,bk⟩⟩ ?_
   clear r0 r1
   rintro⟨k,sv⟩ H2 m ⟨hm,hk,hsv,⟨d0,r0⟩,d1,r1⟩
   dsimp only at hk hsv ⊢
   by_cases hkl:k<R.length
   ·have ek:=fun d=>xN hkl d
    have e0:∀d,(R.map jF).getD (0:Int).toNat d= .agg [i64 (R.getD 0 default).1,i64 (R.getD 0 default).2.1]:=fun d=>xN (k:=0) (by omega) d
    have hs2:=y8 hkl
    rw[←hsv] at hs2
    cases sv with
    |true=>
     repeat' (first|((with_reducible refine aE ?_);conv=>whnf)|refine aG ?_|exact cN|with_reducible refine aD ?_ ?_|((with_reducible refine Ask.mk ?_);first|exact bw|(exact hRa)|exact br)|(apply aA;(·(first|exact ek _|exact e0 _|exact bm)))|refine aH ?_|((with_reducible refine aB ?_ ?_)<;>intro hc<;>(try simp only[List.length_map,ne_eq,cD] at hc)<;>try(exfalso;omega)))
     exact⟨(k+1,true),by dsimp only;omega,bt,cI,by dsimp only;omega,by dsimp only;rw[hs2];rfl,⟨_,bk⟩,⟨_,bk⟩⟩
    |false=>
     repeat' (first|((with_reducible refine aE ?_);conv=>whnf)|refine aG ?_|exact cN|with_reducible refine aD ?_ ?_|((with_reducible refine Ask.mk ?_);first|exact bw|(exact hRa)|exact br)|(apply aA;(·(first|exact ek _|exact e0 _|exact bm)))|refine aH ?_|((with_reducible refine aB ?_ ?_)<;>intro hc<;>(try simp only[List.length_map,ne_eq,cD] at hc)<;>try(exfalso;omega)))
     exact⟨(k+1,decide (((R.getD k default).1:Int)≠((R.getD 0 default).1:Nat))),by dsimp only;omega,bt,cI,by dsimp only;omega,by dsimp only;rw[hs2];rfl,⟨_,bk⟩,⟨_,bk⟩⟩
   ·have:k=R.length:=by omega
    subst this
    unfold tx at hnx
    by_cases hz:R.length=0
    ·rw[if_pos hz] at hnx
     repeat' (first|((with_reducible refine aE ?_);conv=>whnf)|refine aG ?_|exact cN|with_reducible refine aD ?_ ?_|((with_reducible refine Ask.mk ?_);first|exact bw|(exact hRa)|(exact hml)|exact br|(intro h;simp_all[cB.cells]<;>fail)|(simp_all[cB.cells]<;>fail))|(apply aA;(·exact bm))|refine aK (hgp) ?_|refine aH ?_|((with_reducible refine aB ?_ ?_)<;>intro hc<;>(try simp only[List.length_map,ne_eq,cD] at hc)<;>try(exfalso;omega)))
     all_goals exact⟨x+1,by omega,_,_,_,Rt.refl _ _ _,bt,by omega,cI,⟨_,bk⟩,⟨_,Eq.trans (b:=some (.row 80 3 _ _)) bk (lE (by rw[hnx];rfl))⟩⟩
    ·rw[if_neg hz,←hsv] at hnx
     rw[if_neg hz] at hgp
     have e0:∀d,(R.map jF).getD (0:Int).toNat d= .agg [i64 (R.getD 0 default).1,i64 (R.getD 0 default).2.1]:=fun d=>xN (k:=0) (by omega) d
     cases sv with
     |false=>
      rw[if_pos rfl] at hnx
      repeat' (first|((with_reducible refine aE ?_);conv=>whnf)|refine aG ?_|exact cN|with_reducible refine aD ?_ ?_|((with_reducible refine Ask.mk ?_);first|exact bw|(exact hRa)|(exact hml)|exact br|(intro h;simp_all[cB.cells]<;>fail)|(simp_all[cB.cells]<;>fail))|(apply aA;(·(first|exact e0 _|exact bm)))|refine aK (hgp) ?_|refine aH ?_|((with_reducible refine aB ?_ ?_)<;>intro hc<;>(try simp only[List.length_map,ne_eq,cD] at hc)<;>try(exfalso;omega)))
      all_goals exact⟨x+1,by omega,_,_,_,Rt.refl _ _ _,bt,by omega,cI,⟨_,bk⟩,⟨_,Eq.trans (b:=some (.row 80 3 _ _)) bk (lE (by rw[hnx];rfl))⟩⟩
     |true=>
      rw[if_neg (by decide)] at hnx
      have hgm:((je R u.bx.length).map i64).length=(je R u.bx.length).length:=by simp
      by_cases hg:0<(je R u.bx.length).length
      ·rw[if_pos hg] at hnx
       have eg:∀d,((je R u.bx.length).map i64).getD (0:Int).toNat d=i64 ((je R u.bx.length).getD 0 0):=fun d=>eS (i:=0) hg d
       repeat' (first|((with_reducible refine aE ?_);conv=>whnf)|refine aG ?_|exact cN|with_reducible refine aD ?_ ?_|((with_reducible refine Ask.mk ?_);first|exact bw|(exact hRa)|(exact hml)|(exact hgm)|exact br|(intro h;simp_all[cB.cells]<;>fail)|(simp_all[cB.cells]<;>fail))|(apply aA;(·(first|exact eg _|exact bm)))|refine aK (hgp) ?_|refine aH ?_|((with_reducible refine aB ?_ ?_)<;>intro hc<;>(try simp only[List.length_map,ne_eq,cD] at hc)<;>try(exfalso;omega)))
       all_goals exact⟨x+1,by omega,_,_,_,Rt.refl _ _ _,bt,by omega,cI,⟨_,bk⟩,⟨_,Eq.trans (b:=some (.row 80 3 _ _)) bk (lE (by rw[hnx];rfl))⟩⟩
      ·rw[if_neg hg] at hnx
       repeat' (first|((with_reducible refine aE ?_);conv=>whnf)|refine aG ?_|exact cN|with_reducible refine aD ?_ ?_|((with_reducible refine Ask.mk ?_);first|exact bw|(exact hRa)|(exact hml)|(exact hgm)|exact br|(intro h;simp_all[cB.cells]<;>fail)|(simp_all[cB.cells]<;>fail))|(apply aA;(·exact bm))|refine aK (hgp) ?_|refine aH ?_|((with_reducible refine aB ?_ ?_)<;>intro hc<;>(try simp only[List.length_map,ne_eq,cD] at hc)<;>try(exfalso;omega)))
       all_goals exact⟨x+1,by omega,_,_,_,Rt.refl _ _ _,bt,by omega,cI,⟨_,bk⟩,⟨_,Eq.trans (b:=some (.row 80 3 _ _)) bk (lE (by rw[hnx];rfl))⟩⟩
  ·have:x=u.shared.length:=by omega
   subst this
   repeat' (first|((with_reducible refine aE ?_);conv=>whnf)|refine aG ?_|exact cN|with_reducible refine aD ?_ ?_|((with_reducible refine Ask.mk ?_);first|exact bw|(exact hsm)|exact br|(intro h;simp_all[bq.cells]<;>fail)|(simp_all[bq.cells]<;>fail))|(apply aA;(·exact bm))|refine aH ?_|((with_reducible refine aB ?_ ?_)<;>intro hc<;>(try simp only[List.length_map,ne_eq,cD] at hc)<;>try(exfalso;omega)))
   refine⟨?_⟩
   have e1:∀H,ck.dw H 6 (.dI [.sl 15 u.shared.length,i64 0])= .dI [ck.dw H 5 (.sl 15 u.shared.length),i64 0]:=fun H=>by
    simp only[dw,List.map_cons,List.map_nil]
   refine(e1 _).trans ?_
   rw[dG (b:=15) (e:=80) (sz:=3) (d:=d1) (es:=(fc u u.shared.length).map cB.av) bk (by rw[List.length_map,hcl]),cc _ (gX _)]
   rfl
 ·rw[if_neg (mt cT.1 hr)]
  have hbad:=jY hr
  generalize gC u=c at *
  obtain⟨c1,c2,c3⟩:=c
  dsimp only at hbad
  subst hbad
  refine aI AJ rfl ?_
  repeat' (first|((with_reducible refine aE ?_);conv=>whnf)|refine aG ?_|exact cN|with_reducible refine aD ?_ ?_|((with_reducible refine Ask.mk ?_);first|exact bw|exact br|(intro h;simp_all[bq.cells]<;>fail)|(simp_all[bq.cells]<;>fail))|(apply aA;(·exact bm))|refine aK (hck) ?_|refine aH ?_|((with_reducible refine aB ?_ ?_)<;>intro hc<;>(try simp only[List.length_map,ne_eq,cD] at hc)<;>try(exfalso;omega)))
  all_goals first|exact rfl|(exfalso;simp at hc;done)
end Go.Proofs.YtmonponfppdgfaaGreatDoor
end
section
/- What can be left out, in plain data. -/
namespace Go.Proofs.YtmonponfppdgfaaGreatDoor
open Go Go.ck Go.Proofs
set_option linter.unusedSimpArgs false
set_option linter.unusedVariables false
abbrev tf (l:List Bool) (i:Nat):Bool:=l.getD i false
theorem rl {l:List Bool} {i:Nat} (h:tf l i=true):i<l.length:=by
 apply Classical.byContradiction
 intro hn
 unfold tf at h
 rw[List.getD,List.getElem?_eq_none (by omega)] at h
 cases h
theorem iQ:∀{l m:List Nat},l.Nodup→(∀a∈l,a∈m)→l.length≤m.length
 |[],_,_,_=>Nat.zero_le _
 |a::l,m,h,hs=>by
  rw[List.nodup_cons] at h
  have h1:a∈m:=hs a (by simp)
  have:=iQ (m:=m.erase a) h.2 fun x hx=>by
   have hne:x≠a:=fun e=>h.1 (e▸hx)
   exact(List.mem_erase_of_ne hne).2 (hs x (by simp[hx]))
  rw[List.length_erase_of_mem h1] at this
  have:=List.length_pos_of_mem h1
  simp only[List.length_cons]
  omega
abbrev hZ (g:bo) (i:Nat):Nat:=(g.nd i).next.toNat
def iter (g:bo) (i:Nat):Nat→Nat
 |0=>i
 |k+1=>hZ g (iter g i k)
theorem iZ (g:bo) (i a:Nat):∀b,iter g i (a+b)=iter g (iter g i a) b
 |0=>rfl
 |b+1=>by rw[←Nat.add_assoc,iter,iter,iZ g i a b]
theorem jW (g:bo) (i:Nat) (k:Nat):iter g i (k+1)=iter g (hZ g i) k:=by
 rw[Nat.add_comm,iZ];rfl
def zR (l:List Bool) (g:bo) (i:Nat):Prop:=∃p,1≤p∧iter g i p=i∧∀q,q<p→tf l (iter g i q)=true
theorem C8 {g:bo} {i p:Nat} (hp:iter g i p=i) (hmin:∀p',1≤p'→p'<p→iter g i p'≠i) {a b:Nat} (hab:a<b) (hb:b<p):iter g i a≠iter g i b:=by
 intro h
 refine hmin (a+(p - b)) (by omega) (by omega) ?_
 rw[iZ,h,←iZ,show b+(p - b)=p by omega,hp]
theorem qf {P:Nat→Prop} (h:∃n,P n):∃n,P n∧∀m,m<n→¬P m:=by
 obtain⟨n,hn⟩:=h
 induction n using Nat.strongRecOn with
 |_ n ih=>
  by_cases h:∃m,m<n∧P m
  ·obtain⟨m,h1,h2⟩:=h;exact ih m h1 h2
  ·exact⟨n,hn,fun m hm hp=>h ⟨m,hm,hp⟩⟩
theorem nM {g:bo} {i p:Nat} (h:∀a b,a<b→b<p→iter g i a≠iter g i b):((List.range p).map (iter g i)).Nodup:=by
 induction p with
 |zero=>simp
 |succ p ih=>
  rw[List.range_succ,List.map_append,List.nodup_append]
  refine⟨ih fun a b h1 h2=>h a b h1 (by omega),by simp,fun x hx y hy=> ?_⟩
  simp only[List.map_cons,List.map_nil,List.mem_cons,List.not_mem_nil,or_false] at hy
  subst hy
  rw[List.mem_map] at hx
  obtain⟨a,ha,rfl⟩:=hx
  exact h a p (List.mem_range.1 ha) (by omega)
theorem A2 {l:List Bool} {g:bo} {i:Nat} (h:zR l g i):∃p,1≤p∧p≤l.length∧iter g i p=i∧∀q,q<p→tf l (iter g i q)=true:=by
 obtain⟨p,⟨h1,h2,h3⟩,hmin⟩:=qf h
 refine⟨p,h1, ?_,h2,h3⟩
 have hm:∀p',1≤p'→p'<p→iter g i p'≠i:=fun p' a b e=>hmin p' b ⟨a,e,fun q hq=>h3 q (by omega)⟩
 have hn:=nM (g:=g) (i:=i) (p:=p) fun a b hab hb=>C8 h2 hm hab hb
 have:=iQ (m:=List.range l.length) hn fun x hx=>by
  rw[List.mem_map] at hx
  obtain⟨a,ha,rfl⟩:=hx
  exact List.mem_range.2 (rl (h3 a (List.mem_range.1 ha)))
 simpa using this
open Classical in
noncomputable def cx (l:List Bool) (g:bo):List Bool:=(List.range l.length).map fun i=>tf l i&& !decide (zR l g i)
theorem fM (l:List Bool) (g:bo):(cx l g).length=l.length:=by simp[cx]
theorem ff {l:List Bool} {g:bo} {i:Nat}:tf (cx l g) i=true↔tf l i=true∧¬zR l g i:=by
 by_cases hi:i<l.length
 ·simp[tf,cx,List.getD,hi]
 ·constructor
  ·intro h;have:=rl h;rw[fM] at this;omega
  ·intro h;have:=rl h.1;omega
theorem AA (l:List Bool) (g:bo) (i:Nat):∃k,k≤l.length∧tf (cx l g) (iter g i k)=false∧∀q,q<k→tf (cx l g) (iter g i q)=true:=by
 have hex:∃k,tf (cx l g) (iter g i k)=false:=by
  apply Classical.byContradiction
  intro hn
  have hall:∀k,tf (cx l g) (iter g i k)=true:=fun k=>by
   cases h:tf (cx l g) (iter g i k) with
   |true=>rfl
   |false=>exact absurd ⟨k,h⟩ hn
  have:¬((List.range (l.length+1)).map (iter g i)).Nodup:=fun hd=>by
   have:=iQ (m:=List.range l.length) hd fun x hx=>by
    rw[List.mem_map] at hx
    obtain⟨a,ha,rfl⟩:=hx
    have:=rl (hall a)
    rw[fM] at this
    exact List.mem_range.2 this
   simp at this
   omega
  refine this (nM fun a b hab hb e=> ?_)
  have h1:=(ff.1 (hall a)).2
  refine h1 ⟨b - a,by omega, ?_,fun q _=> ?_⟩
  ·rw[←iZ,show a+(b - a)=b by omega,←e]
  ·rw[←iZ];exact(ff.1 (hall _)).1
 obtain⟨k,h1,h2⟩:=qf hex
 have hq:∀q,q<k→tf (cx l g) (iter g i q)=true:=fun q hq=>by
  have:=h2 q hq
  cases h:tf (cx l g) (iter g i q) with
  |true=>rfl
  |false=>exact absurd h this
 refine⟨k, ?_,h1,hq⟩
 have hd:((List.range k).map (iter g i)).Nodup:=nM fun a b hab hb e=>by
  have h1:=(ff.1 (hq a (by omega))).2
  refine h1 ⟨b - a,by omega, ?_,fun q hqb=> ?_⟩
  ·rw[←iZ,show a+(b - a)=b by omega,←e]
  ·rw[←iZ];exact(ff.1 (hq _ (by omega))).1
 have:=iQ (m:=List.range l.length) hd fun x hx=>by
  rw[List.mem_map] at hx
  obtain⟨a,ha,rfl⟩:=hx
  have:=rl (hq a (List.mem_range.1 ha))
  rw[fM] at this
  exact List.mem_range.2 this
 simpa using this
def vd (out:List Bool) (g:bo):Nat→Nat→Nat
 |0,i=>i
 |f+1,i=>if tf out i=true then vd out g f (hZ g i) else i
def dR (out:List Bool) (g:bo) (i:Nat):Nat:=vd out g out.length i
def Ends (out:List Bool) (g:bo):Prop:=∀i,∃k,k≤out.length∧tf out (iter g i k)=false∧∀q,q<k→tf out (iter g i q)=true
theorem o8 (l:List Bool) (g:bo):Ends (cx l g) g:=fun i=>by rw[fM];exact AA l g i
theorem j5 (out:List Bool) (g:bo):∀(k f i:Nat),k≤f→tf out (iter g i k)=false→(∀q,q<k→tf out (iter g i q)=true)→vd out g f i=iter g i k
 |0,0,i,_,_,_=>rfl
 |0,f+1,i,_,h,_=>by rw[vd,if_neg (by rw[show tf out i=false from h];decide)];rfl
 |k+1,f+1,i,hk,h,hq=>by
  rw[vd,if_pos (show tf out i=true from hq 0 (by omega)),jW]
  refine j5 out g k f _ (by omega) ?_ fun q hqk=> ?_
  ·rw[←jW];exact h
  ·rw[←jW];exact hq (q+1) (by omega)
theorem ve {out:List Bool} {g:bo} (h:Ends out g) (i:Nat):tf out (dR out g i)=false:=by
 obtain⟨k,h1,h2,h3⟩:=h i
 rw[dR,j5 out g k _ i h1 h2 h3];exact h2
theorem oi {out:List Bool} {g:bo} {i:Nat} (hi:tf out i=false):dR out g i=i:=j5 out g 0 _ i (Nat.zero_le _) hi fun q hq=>by omega
theorem HK {out:List Bool} {g:bo} (h:Ends out g) {i:Nat} (hi:tf out i=true):dR out g i=dR out g (hZ g i):=by
 obtain⟨k,h1,h2,h3⟩:=h i
 cases k with
 |zero=>rw[show tf out (iter g i 0)=tf out i from rfl,hi] at h2;cases h2
 |succ k=>
  rw[dR,j5 out g (k+1) _ i h1 h2 h3,jW]
  refine(j5 out g k _ _ (by omega) ?_ fun q hq=> ?_).symm
  ·rw[←jW];exact h2
  ·rw[←jW];exact h3 (q+1) (by omega)
theorem nt {out:List Bool} {g:bo} (h:Ends out g) {P:Nat→Prop} (hp:∀i,tf out i=true→P i→P (hZ g i)) {i:Nat} (hi:P i):P (dR out g i):=by
 obtain⟨k,h1,h2,h3⟩:=h i
 rw[dR,j5 out g k _ i h1 h2 h3]
 clear h1 h2
 induction k with
 |zero=>exact hi
 |succ k ih=>exact hp _ (h3 k (by omega)) (ih fun q hq=>h3 q (by omega))
noncomputable def dC (g:bo) (cls:List cB) (t:Nat) (i:Nat):Bool:=
 let n:=g.nd i
 gh (ca g (-1)) (i:Int)&&(if n.kind=1 then !kE (fj g) n n.slot.toNat||(decide (n.op=0)&&n.a.dk&&decide (n.a.slot=n.slot)) else if n.kind=2 then decide ((cls.getD n.cP.toNat default).kind≠3)&& !kE (fj g) n n.slot.toNat else if n.kind=3 then nR cls t n.cP.toNat&& !kE (kA g cls t) n n.cP.toNat else if n.kind=8 then decide (n.next=n.jS) else false)
noncomputable def dW (g:bo) (cls:List cB) (t:Nat) (m:Nat):List Bool:=(List.range m).map (dC g cls t)
noncomputable def jz (g:bo) (cls:List cB) (t:Nat):List Bool:=dW g cls t g.nodes.length
noncomputable def eD (g:bo) (cls:List cB) (t:Nat):List Bool:=cx (jz g cls t) g
theorem kb (g:bo) (cls:List cB) (t:Nat):(jz g cls t).length=g.nodes.length:=by simp[jz,dW]
theorem kW (g:bo) (cls:List cB) (t:Nat):(eD g cls t).length=g.nodes.length:=by rw[eD,fM,kb]
noncomputable def cX (g:bo) (out:List Bool):List Nat:=dR out g 0::(List.range g.nodes.length).filter fun i=>gh (ca g (-1)) (i:Int)&& !tf out i&&decide (i≠dR out g 0)
def du (o:List Nat) (i:Nat):Nat:=(o.findIdx? (fun j=>decide (j=i))).getD 0
def cz (g:bo) (out:List Bool) (o:List Nat) (n:Node):Node:={ n with next:=if n.kind≠9 then(du o (dR out g n.next.toNat):Int) else n.next,jS:=if n.kind=8 then(du o (dR out g n.jS.toNat):Int) else n.jS }
noncomputable def gD (g:bo) (cls:List cB) (t:Nat):bo:={ g with nodes:=(cX g (eD g cls t)).map fun i=>cz g (eD g cls t) (cX g (eD g cls t)) (g.nd i) }
noncomputable def dP (u:bq):bq:={ u with bp:=(List.range u.bp.length).map fun t=>gD (u.gr t) (cq u) t }
def fm (u:bq):Nat:=(u.bp.map fun g=>g.nodes.length).sum
open Classical in
noncomputable def gH:Nat→bq→bq
 |0,v=>v
 |f+1,v=>if dP v=v then v else gH f (dP v)
noncomputable def u6 (u:bq):bq:=gH (fm u) (dP u)
end Go.Proofs.YtmonponfppdgfaaGreatDoor
end
