import Derived.Test.YtmonponfppdgfaaGreatDoorM41
import Derived.Test.YtmonponfppdgfaaGreatDoorM32
import Derived.Test.YtmonponfppdgfaaGreatDoorM38
import Derived.Test.YtmonponfppdgfaaGreatDoorM24
namespace Go.Proofs.YtmonponfppdgfaaGreatDoor
open Go Go.dD Go.Proofs
set_option linter.unusedSimpArgs false
set_option linter.unusedVariables false
set_option maxRecDepth 4000 in
set_option maxHeartbeats 1000000 in
theorem zq (n:Node):Pure Tryz.prog 68 [n.av] (fun r=>r=bl (sY n)):=by
 refine aG G6 rfl ?_
 repeat' (first|refine aQ ?_|exact cP|with_reducible refine aB ?_ ?_|((with_reducible refine Ask.mk ?_);first|exact bx|exact bt|(intro h;simp_all[Node.cells]<;>fail)|(simp_all[Node.cells]<;>fail))|(apply aA;(·exact bp))|refine aH ?_|((with_reducible refine aE ?_ ?_)<;>intro hc<;>try(exfalso;omega)))
 all_goals refine cn ?_
 all_goals unfold sY
 all_goals (by_cases a:n.kind=1<;>by_cases b:n.kind=2<;>by_cases c:n.kind=4<;>simp_all)
set_option maxRecDepth 4000 in
set_option maxHeartbeats 4000000 in
theorem xo (n:Node) (s:Nat):Pure Tryz.prog 67 [n.av,i64 s] (fun r=>r=bl (eM n s)):=by
 refine aG G5 rfl ?_
 repeat' (first|refine aQ ?_|exact cP|with_reducible refine aB ?_ ?_|((with_reducible refine Ask.mk ?_);first|exact bx|exact bt|(intro h;simp_all[Node.cells]<;>fail)|(simp_all[Node.cells]<;>fail))|(apply aA;(·exact bp))|((with_reducible refine aM (fP _) ?_ ?_);(·exact cS))|((with_reducible refine aL (fun _=>fP _) ?_ ?_);(·exact cS))|((with_reducible refine aN (fP _) ?_ ?_);(·exact cS))|((with_reducible refine aO (fun _=>fP _) ?_ ?_);(·exact cS))|refine aH ?_|((with_reducible refine aE ?_ ?_)<;>intro hc<;>try(exfalso;omega)))
 all_goals refine cn ?_
 all_goals unfold eM
 all_goals first
  |(rw[hc];cases n.a.eA<;>cases decide (n.a.slot=(s:Int))<;>cases eB n.op<;>cases n.b.eA<;>cases decide (n.b.slot=(s:Int))<;>rfl)
  |(rw[decide_eq_false (show ¬(n.kind=1\/n.kind=3\/n.kind=4\/n.kind=7\/n.kind=8) by omega),decide_eq_false (show ¬n.kind=1 by omega)];rfl)
def gK (T:gx) (n:Node) (k q:Nat):Bool:=(n.dQ.take q).any fun j=>dj T j.toNat k
theorem lG {T:gx} {n:Node} {k q:Nat} (h:q<n.dQ.length):gK T n k (q+1)=(gK T n k q||dj T (n.dQ.getD q 0).toNat k):=by
 unfold gK
 rw[List.take_succ_eq_append_getElem h,List.any_append,show n.dQ.getD q 0=n.dQ[q] by simp[List.getD,h],List.any_cons,List.any_nil,Bool.or_false]
theorem mE (T:gx) (n:Node) (k:Nat):gK T n k n.dQ.length=kX T n k:=by
 unfold gK kX;rw[List.take_length]
set_option maxRecDepth 8000 in
set_option maxHeartbeats 16000000 in
theorem sV (g:br) (hg:g.Wf) (hw:Whole g) (N:Nat) (hN:N<=4160) (hs:g.cZ=(N:Int)):Pure Tryz.prog 38 [g.av] (fun r=>r= .im 1 .any ((eN g).map fE)):=by
 have hl:=hg.len
 have hl0:=hw.1
 have hl1:=hw.2.1
 have fT:∀T:gx,cL 0 (T.map fE):=fun T=>(cK _ _).2 fun _ _=>by simp[fE,cJ,cK]
 refine cV ?_ (by simp only[cJ];exact fT _)
 have hlv:eN g=oL g eM fN N:=by unfold eN;rw[hs,Int.toNat_natCast]
 rw[hlv]
 refine aI GB rfl ?_
 have hnm:(g.nodes.map Node.av).length=g.nodes.length:=by simp
 have hgc:g.cells=[st g.name,i64 g.locals,i64 (N:Int),ee g.nodes]:=by unfold br.cells;rw[hs]
 unfold br.av
 rw[hgc]
 repeat' (first|refine aQ ?_|exact cP|with_reducible refine aB ?_ ?_|((with_reducible refine Ask.mk ?_);first|exact bx|(exact hnm)|exact bt)|(apply aA;(·exact bp))|refine aH ?_|((with_reducible refine aE ?_ ?_)<;>intro hc<;>try(exfalso;omega)))
 simp only[List.length_map,Int.toNat_natCast]
 refine aF (fun ids:List Nat=>[(1, .pt 0 1 0 0),(3, .sl 5 g.nodes.length),(4,i64 ids.length)])
  (fun ids H' n'=>ids.length<=g.nodes.length/\8<=n'/\BG 5 ids g.nodes.length N H' n'/\∃d,bk H' 0=some (.row 40 4 d [.agg [st g.name,i64 g.locals,i64 (N:Int),ee g.nodes]])) (fun ids=>g.nodes.length - ids.length) [] bu ⟨Nat.zero_le _,cI,⟨⟨_,bm⟩,fun x h=>by simp at h,fun x h=>by simp at h,List.nodup_nil⟩,⟨_,bm⟩⟩ ?_
 rintro ids H1 n1 ⟨hi,hn1,hp,d0,r0⟩
 by_cases hil:ids.length<g.nodes.length
 ·obtain⟨d7,r7⟩:=hp.row
  have e1:=fun d=>qq (m:=g.nodes.length) (n:=N) hil d
  have e2:=mu (m:=g.nodes.length) (n:=N) hi
  repeat' (first|refine aQ ?_|exact cP|with_reducible refine aB ?_ ?_|((with_reducible refine Ask.mk ?_);first|exact bx|(exact e2)|exact bt)|(apply aA;(·(first|exact e1 _|exact bp)))|refine aH ?_|((with_reducible refine aE ?_ ?_)<;>intro hc<;>try(exfalso;omega)))
  have hlt:=hp.lt
  refine⟨ids++[n1+8],by simp;omega,bu,by simp;omega,cI,⟨⟨_,by rw[<-qt hil];exact bm⟩,fun x hx=> ?_,fun x hx=> ?_, ?_⟩,⟨_,bm⟩⟩
  ·rcases List.mem_append.1 hx with hx|hx
   ·obtain⟨d,h1⟩:=hp.each x hx
    have:=hlt x hx
    exact⟨d,Eq.trans bw h1⟩
   ·simp only[List.mem_cons,List.not_mem_nil,or_false] at hx
    subst hx
    exact⟨_,bm⟩
  ·rcases List.mem_append.1 hx with hx|hx
   ·have:=hlt x hx
    exact⟨this.1,Nat.lt_of_lt_of_le this.2 cI⟩
   ·simp only[List.mem_cons,List.not_mem_nil,or_false] at hx
    subst hx
    exact⟨by omega,cI⟩
  ·refine List.nodup_append.2 ⟨hp.nodup,by simp,fun x hx y hy=> ?_⟩
   simp only[List.mem_cons,List.not_mem_nil,or_false] at hy
   have:=(hlt x hx).2
   omega
 ·have hle:ids.length=g.nodes.length:=by omega
  have hfin:=hp.fin hle
  have hlt:=hp.lt
  have hgr:=jR.start g eM fN N
  obtain⟨d7,r7⟩:=hp.row
  have e2:=mu (m:=g.nodes.length) (n:=N) hi
  repeat' (first|refine aQ ?_|exact cP|with_reducible refine aB ?_ ?_|((with_reducible refine Ask.mk ?_);first|exact bx|(exact e2)|exact bt)|(apply aA;(·exact bp))|refine aH ?_|((with_reducible refine aE ?_ ?_)<;>intro hc<;>try(exfalso;omega)))
  clear r7 e2
  have hids:∀x∈5::ids,5<=x/\x<n1:=fun x hx=>by
   rcases List.mem_cons.1 hx with rfl|hx
   ·omega
   ·have:=hlt x hx;omega
  clear hp hlt
  refine aF (fun s:gx×Bool=>[(1, .pt 0 1 0 0),(3, .sl 5 g.nodes.length),(5,bl s.2)])
   (fun s H' n'=>n1<=n'/\lp 5 ids s.1 H'/\(∃d,bk H' 0=some (.row 40 4 d [.agg [st g.name,i64 g.locals,i64 (N:Int),ee g.nodes]]))/\jR g eM fN N s.1/\(s.2=false->∀i k,i<g.nodes.length->k<N->eY g eM fN s.1 i k=true->dj s.1 i k=true))
   (fun s=>fC s.1+if s.2=true then 1 else 0) (lD g.nodes.length N,true) bu ⟨cI,hfin.cH fun x hx=> ?_,⟨_,bm⟩,hgr,fun h=>by cases h⟩ ?_
  ·have:=hids x hx;exact bw
  clear hfin hgr r0
  rintro⟨T,again⟩ H2 n2 ⟨hn2,hT,⟨d0,r0⟩,hgr,hcl⟩
  dsimp only at hT hgr hcl ⊢
  cases again with
  |false=>
   have hfin:=hgr.fin hw (hcl rfl)
   repeat' (first|refine aQ ?_|exact aC|with_reducible refine aB ?_ ?_|(apply aA;(·exact bp))|refine aH ?_|((with_reducible refine aE ?_ ?_)<;>intro hc<;>try(exfalso;omega)))
   refine⟨?_⟩
   rw[<-hfin,<-hgr.shape.len]
   exact ou (hT.cH fun x hx=>bw) 4
  |true=>
   have hTl:=hgr.shape.len
   have hql:(gE ids (fJ T)).length=g.nodes.length:=by rw[hT.len,dC,hTl]
   obtain⟨d7,r7⟩:=hT.row
   repeat' (first|refine aQ ?_|exact cP|with_reducible refine aB ?_ ?_|((with_reducible refine Ask.mk ?_);first|exact bx|(exact hql)|(exact hnm)|exact bt)|(apply aA;(·exact bp))|refine aH ?_|((with_reducible refine aE ?_ ?_)<;>intro hc<;>try(exfalso;omega)))
   simp only[List.length_map]
   refine aF (fun s:gx×Bool×Nat=>[(1, .pt 0 1 0 0),(3, .sl 5 g.nodes.length),(5,bl s.2.1),(6,i64 ((s.2.2:Int) - 1))])
    (fun s H' n'=>n1<=n'/\s.2.2<=g.nodes.length/\lp 5 ids s.1 H'/\(∃d,bk H' 0=some (.row 40 4 d [.agg [st g.name,i64 g.locals,i64 (N:Int),ee g.nodes]]))/\jR g eM fN N s.1/\(fC s.1+if s.2.1=true then 1 else 0)<=fC T/\(s.2.1=false->∀i k,s.2.2<=i->i<g.nodes.length->k<N->eY g eM fN s.1 i k=true->dj s.1 i k=true))
    (fun s=>s.2.2) (T,false,g.nodes.length) bu ⟨cI,Nat.le_refl _,hT.cH fun x hx=> ?_,⟨_,bm⟩,hgr,by simp,fun _ i k h1 h2=>absurd h1 (by dsimp only;omega)⟩ ?_
   ·exact bw
   clear hT r0 hgr hcl r7 hql
   rintro⟨T2,ag,j⟩ H3 n3 ⟨hn3,hj,hT,⟨d0,r0⟩,hgr,hfa,hcl⟩
   dsimp only at hj hT hgr hfa hcl ⊢
   have hT2l:=hgr.shape.len
   cases j with
   |zero=>
    repeat' (first|refine aQ ?_|exact aC|with_reducible refine aB ?_ ?_|(apply aA;(·exact bp))|refine aH ?_|((with_reducible refine aE ?_ ?_)<;>intro hc<;>try(exfalso;omega)))
    exact⟨(T2,ag),by dsimp only;simp only[if_true];omega,bu,cI,hT.cH fun x hx=>bw,⟨_,bm⟩,hgr,fun h i k h1 h2=>hcl h i k (Nat.zero_le _) h1 h2⟩
   |succ i=>
    have hi:i<g.nodes.length:=by omega
    have ei:((i+1:Nat):Int) - 1=(i:Int):=by omega
    have en:=fun d=>eH hi d
    have hfo:=gI (g.nodes.getD i default)
    rw[ei]
    repeat' (first|refine aQ ?_|exact cP|with_reducible refine aB ?_ ?_|((with_reducible refine Ask.mk ?_);first|exact bx|(exact hnm)|exact bt|(intro h;simp_all[Node.cells]<;>fail)|(simp_all[Node.cells]<;>fail))|(apply aA;(·(first|exact en _|exact bp)))|refine aK (hfo) ?_|refine aH ?_|((with_reducible refine aE ?_ ?_)<;>intro hc<;>try(exfalso;omega)))
    have hnd:g.nodes.getD i default=g.nd i:=rfl
    rw[hnd] at *
    clear hfo
    refine aF (fun s:gx×Bool×Nat=>[(1, .pt 0 1 0 0),(3, .sl 5 g.nodes.length),(5,bl s.2.1),(6,i64 (i:Int)),(7, .pt (n3+7) 1 0 0),(8,dV (g.nd i).dQ),(9,i64 s.2.2)])
     (fun s H' n'=>n3+8<=n'/\s.2.2<=N/\(∃d,bk H' (n3+7)=some (.row 46 13 d [(g.nd i).av]))/\lp 5 ids s.1 H'/\(∃d,bk H' 0=some (.row 40 4 d [.agg [st g.name,i64 g.locals,i64 (N:Int),ee g.nodes]]))/\jR g eM fN N s.1/\(fC s.1+if s.2.1=true then 1 else 0)<=fC T/\(s.2.1=false->∀i' k,i<=i'->i'<g.nodes.length->k<N->(i'=i->k<s.2.2)->eY g eM fN s.1 i' k=true->dj s.1 i' k=true))
     (fun s=>N - s.2.2) (T2,ag,0) bu ⟨cI,Nat.zero_le _,⟨_,bm⟩,hT.cH fun x hx=> ?_,⟨_,bm⟩,hgr,hfa,fun h i' k h1 h2 h3 h4=>hcl h i' k (Classical.byContradiction fun hx=>Nat.not_lt_zero _ (h4 (by omega))) h2 h3⟩ ?_
    ·have:=hids x hx;exact bw
    clear hT r0 hgr hfa hcl hT2l
    rintro⟨T3,ag2,k⟩ H4 n4 ⟨hn4,hk,⟨dn,rn⟩,hT,⟨d0,r0⟩,hgr,hfa,hcl⟩
    dsimp only at hk hT hgr hfa hcl ⊢
    have hT3l:=hgr.shape.len
    by_cases hkN:k<N
    ·have hrp:=xo (g.nd i) k
     have hsp:=zq (g.nd i)
     repeat' (first|refine aQ ?_|exact cP|with_reducible refine aB ?_ ?_|((with_reducible refine Ask.mk ?_);first|exact bx|exact bt|(intro h;simp_all[Node.cells]<;>fail)|(simp_all[Node.cells]<;>fail))|(apply aA;(·exact bp))|refine aK (hrp) ?_|refine aH ?_|((with_reducible refine aE ?_ ?_)<;>intro hc<;>try(exfalso;omega)))
     refine aF (fun σ:Nat×Bool=>[(1, .pt 0 1 0 0),(3, .sl 5 g.nodes.length),(5,bl ag2),(6,i64 (i:Int)),(7, .pt (n3+7) 1 0 0),(8,dV (g.nd i).dQ),(9,i64 k),(10,bl σ.2),(11,i64 σ.1)])
      (fun σ H' n'=>n4<=n'/\σ.1<=(g.nd i).dQ.length/\σ.2=(eM (g.nd i) k||(gK T3 (g.nd i) k σ.1&&fN (g.nd i) k))/\(∃d,bk H' (n3+7)=some (.row 46 13 d [(g.nd i).av]))/\lp 5 ids T3 H'/\(∃d,bk H' 0=some (.row 40 4 d [.agg [st g.name,i64 g.locals,i64 (N:Int),ee g.nodes]])))
      (fun σ=>(g.nd i).dQ.length - σ.1) (0,eM (g.nd i) k) bu ⟨cI,Nat.zero_le _,by simp[gK],⟨_,bm⟩,hT.cH fun x hx=> ?_,⟨_,bm⟩⟩ ?_
     ·exact bw
     clear hT rn r0
     rintro⟨q,is⟩ H5 n5 ⟨hn5,hq,his,⟨dn,rn⟩,hT,⟨d0,r0⟩⟩
     dsimp only at hq his ⊢
     have hfm:((g.nd i).dQ.map i64).length=(g.nd i).dQ.length:=by simp
     have hfl:=ml (g.nd i)
     unfold dV
     have hql:(gE ids (fJ T3)).length=g.nodes.length:=by rw[hT.len,dC,hT3l]
     obtain⟨d7,r7⟩:=hT.row
     by_cases hql2:q<(g.nd i).dQ.length
     ·have eq0:=fun d=>e9 (l:=(g.nd i).dQ) hql2 d
      obtain⟨y0,y1⟩:=(hw.2.2 i hi).2.2 _ (cE (0:Int) hql2)
      have han:=lG (T:=T3) (k:=k) hql2
      generalize (g.nd i).dQ.getD q 0=y at *
      have hyS:y.toNat<(fJ T3).length:=by rw[dC,hT3l];exact y1
      have hyT:y.toNat<T3.length:=by rw[hT3l];exact y1
      have hrow:=hgr.shape.row y.toNat y1
      obtain⟨di,ri⟩:=hT.qs y.toNat hyS
      have e1:=fun d=>hT.get hyS d
      rw[eZ hyT] at ri e1
      rw[List.length_map,hrow] at e1
      have hrl:((T3.getD y.toNat []).map bl).length=N:=by rw[List.length_map,hrow]
      have e2:=fun d=>gS (l:=T3.getD y.toNat []) (k:=k) (by rw[hrow];exact hkN) d
      rw[show(T3.getD y.toNat []).getD k false=dj T3 y.toNat k from rfl] at e2
      have hxi:=hids (ids.getD y.toNat 0) (List.mem_cons_of_mem _ (dP (by rw[hle];exact y1)))
      have hne:=hT.ne hyS
      cases is with
      |true=>
       repeat' (first|refine aQ ?_|exact cP|with_reducible refine aB ?_ ?_|((with_reducible refine Ask.mk ?_);first|exact bx|(exact hfm)|exact bt)|(apply aA;(·(first|exact eq0 _|exact bp)))|refine aH ?_|((with_reducible refine aE ?_ ?_)<;>intro hc<;>try(exfalso;omega)))
       exact⟨(q+1,true),by dsimp only;omega,bu,cI,by dsimp only;omega,by dsimp only;rw[han];revert his;cases eM (g.nd i) k<;>cases gK T3 (g.nd i) k q<;>cases fN (g.nd i) k<;>simp,⟨_,bm⟩,hT.cH fun x hx=>bw,⟨_,bm⟩⟩
      |false=>
       cases hv:dj T3 y.toNat k with
       |false=>
        rw[hv] at e2
        repeat' (first|refine aQ ?_|exact cP|with_reducible refine aB ?_ ?_|((with_reducible refine Ask.mk ?_);first|exact bx|(exact hfm)|(exact hql)|(exact hrl)|exact bt)|(apply aA;(·(first|exact eq0 _|exact e1 _|exact e2 _|exact bp)))|refine aH ?_|((with_reducible refine aE ?_ ?_)<;>intro hc<;>try(exfalso;omega)))
        exact⟨(q+1,false),by dsimp only;omega,bu,cI,by dsimp only;omega,by dsimp only;rw[han,hv,Bool.or_false];exact his,⟨_,bm⟩,hT.cH fun x hx=>bw,⟨_,bm⟩⟩
       |true=>
        rw[hv] at e2
        have hval:(eM (g.nd i) k||(gK T3 (g.nd i) k (q+1)&&fN (g.nd i) k))=(!sY (g.nd i)||decide ((g.nd i).slot≠(k:Int))):=by
         rw[han,hv,Bool.or_true,Bool.true_and]
         have:eM (g.nd i) k=false:=by revert his;cases eM (g.nd i) k<;>simp
         rw[this,Bool.false_or];rfl
        cases hst:sY (g.nd i) with
        |false=>
         rw[hst] at hsp hval
         repeat' (first|refine aQ ?_|exact cP|with_reducible refine aB ?_ ?_|((with_reducible refine Ask.mk ?_);first|exact bx|(exact hfm)|(exact hql)|(exact hrl)|exact bt|(intro h;simp_all[Node.cells]<;>fail)|(simp_all[Node.cells]<;>fail))|(apply aA;(·(first|exact eq0 _|exact e1 _|exact e2 _|exact bp)))|refine aK (hsp) ?_|refine aH ?_|((with_reducible refine aE ?_ ?_)<;>intro hc<;>try(exfalso;omega)))
         exact⟨(q+1,true),by dsimp only;omega,bu,cI,by dsimp only;omega,by dsimp only;rw[hval];rfl,⟨_,bm⟩,hT.cH fun x hx=>bw,⟨_,bm⟩⟩
        |true=>
         rw[hst] at hsp hval
         repeat' (first|refine aQ ?_|exact cP|with_reducible refine aB ?_ ?_|((with_reducible refine Ask.mk ?_);first|exact bx|(exact hfm)|(exact hql)|(exact hrl)|exact bt|(intro h;simp_all[Node.cells]<;>fail)|(simp_all[Node.cells]<;>fail))|(apply aA;(·(first|exact eq0 _|exact e1 _|exact e2 _|exact bp)))|refine aK (hsp) ?_|refine aH ?_|((with_reducible refine aE ?_ ?_)<;>intro hc<;>try(exfalso;omega)))
         exact⟨(q+1, !decide ((g.nd i).slot=(k:Int))),by dsimp only;omega,bu,cI,by dsimp only;omega,by dsimp only;rw[hval];simp,⟨_,bm⟩,hT.cH fun x hx=>bw,⟨_,bm⟩⟩
     ·have:q=(g.nd i).dQ.length:=by omega
      subst this
      rw[mE,Bool.and_comm] at his
      have his2:is=eY g eM fN T3 i k:=his
      have hiS:i<(fJ T3).length:=by rw[dC,hT3l];exact hi
      have hiT:i<T3.length:=by rw[hT3l];exact hi
      have hrow:=hgr.shape.row i hi
      obtain⟨di,ri⟩:=hT.qs i hiS
      have e1:∀d,(gE ids (fJ T3)).getD (i:Int).toNat d= .sl (ids.getD i 0) N:=fun d=>by
       have:=hT.get hiS d
       rw[eZ hiT,List.length_map,hrow] at this
       rw[Int.toNat_natCast];exact this
      rw[eZ hiT] at ri
      have hrl:((T3.getD i []).map bl).length=N:=by rw[List.length_map,hrow]
      have e2:=fun d=>gS (l:=T3.getD i []) (k:=k) (by rw[hrow];exact hkN) d
      rw[show(T3.getD i []).getD k false=dj T3 i k from rfl] at e2
      have hxi:=hids (ids.getD i 0) (List.mem_cons_of_mem _ (dP (by rw[hle];exact hi)))
      have hne:=hT.ne hiS
      have hmore:∀T4 ag3,(ag3=false->T4=T3/\ag2=false/\(eY g eM fN T3 i k=true->dj T3 i k=true))->ag3=false->∀i' k',i<=i'->i'<g.nodes.length->k'<N->(i'=i->k'<k+1)->eY g eM fN T4 i' k'=true->dj T4 i' k'=true:=fun T4 ag3 h1 h2 i' k' a1 a2 a3 a4 a5=>by
       obtain⟨rfl,b1,b2⟩:=h1 h2
       by_cases e:i'=i/\k'=k
       ·obtain⟨rfl,rfl⟩:=e;exact b2 a5
       ·exact hcl b1 i' k' a1 a2 a3 (fun e2=>by
         have:=a4 e2
         have:¬k'=k:=fun e3=>e ⟨e2,e3⟩
         omega) a5
      cases is with
      |false=>
       repeat' (first|refine aQ ?_|exact cP|with_reducible refine aB ?_ ?_|((with_reducible refine Ask.mk ?_);first|exact bx|(exact hfm)|exact bt)|(apply aA;(·exact bp))|refine aH ?_|((with_reducible refine aE ?_ ?_)<;>intro hc<;>try(exfalso;omega)))
       exact⟨(T3,ag2,k+1),by dsimp only;omega,bu,cI,by dsimp only;omega,⟨_,bm⟩,hT.cH fun x hx=>bw,⟨_,bm⟩,hgr,hfa,hmore T3 ag2 (fun h=>⟨rfl,h,fun hc=>by rw[<-his2] at hc;cases hc⟩)⟩
      |true=>
       cases hv:dj T3 i k with
       |true=>
        rw[hv] at e2
        repeat' (first|refine aQ ?_|exact cP|with_reducible refine aB ?_ ?_|((with_reducible refine Ask.mk ?_);first|exact bx|(exact hfm)|(exact hql)|(exact hrl)|exact bt)|(apply aA;(·(first|exact e1 _|exact e2 _|exact bp)))|refine aH ?_|((with_reducible refine aE ?_ ?_)<;>intro hc<;>try(exfalso;omega)))
        exact⟨(T3,ag2,k+1),by dsimp only;omega,bu,cI,by dsimp only;omega,⟨_,bm⟩,hT.cH fun x hx=>bw,⟨_,bm⟩,hgr,hfa,hmore T3 ag2 (fun h=>⟨rfl,h,fun _=>hv⟩)⟩
       |false=>
        rw[hv] at e2
        have hfs:=lO hgr.shape hi hkN hv
        repeat' (first|refine aQ ?_|exact cP|with_reducible refine aB ?_ ?_|((with_reducible refine Ask.mk ?_);first|exact bx|(exact hfm)|(exact hql)|(exact hrl)|exact bt)|(apply aA;(·(first|exact e1 _|exact e2 _|exact bp)))|refine aH ?_|((with_reducible refine aE ?_ ?_)<;>intro hc<;>try(exfalso;omega)))
        refine⟨(lA T3 i k,true,k+1),by dsimp only;omega,bu,cI,by dsimp only;omega,⟨_,bm⟩,hT.set hiT k ?_ ⟨_,bm⟩ (fun x hx hxn=> ?_),⟨_,bm⟩,hgr.step hi hkN his2.symm, ?_,fun h=>by cases h⟩
        ·exact bw
        ·exact bw
        ·dsimp only
         simp only[if_true]
         omega
    ·have:k=N:=by omega
     subst this
     repeat' (first|refine aQ ?_|exact aC|with_reducible refine aB ?_ ?_|(apply aA;(·exact bp))|refine aH ?_|((with_reducible refine aE ?_ ?_)<;>intro hc<;>try(exfalso;omega)))
     exact⟨(T3,ag2,i),by dsimp only;omega,bu,by omega,by dsimp only;omega,hT.cH fun x hx=>bw,⟨_,bm⟩,hgr,hfa,fun h i' k' a1 a2 a3 a5=>hcl h i' k' a1 a2 a3 (fun _=>a3) a5⟩
set_option maxRecDepth 8000 in
set_option maxHeartbeats 16000000 in
theorem xx (u:bq) (hu:u.Wf) (t:Nat) (ht:t<u.bo.length) (hw:Whole (u.gr t)) (cls:List cF) (hcl0:cls.length=u.shared.length) (hN:u.shared.length<=64):Pure Tryz.prog 40 [u.av,i64 t, .im 3 .any (cls.map cF.av)] (fun r=>r= .im 1 .any ((kU (u.gr t) cls t).map fE)):=by
 have hg:(u.gr t).Wf:=hu.bo _ (cE default ht)
 have eg:∀d,(u.bo.map br.av).getD (t:Int).toNat d=(u.gr t).av:=fun d=>j3 ht d
 have hgm:(u.bo.map br.av).length=u.bo.length:=by simp
 have hsm:(u.shared.map Decl.av).length=u.shared.length:=by simp
 have hcm:(cls.map cF.av).length=cls.length:=by simp
 generalize u.gr t=g at *
 have hl:=hg.len
 have hl0:=hw.1
 have hl1:=hw.2.1
 have fT:∀T:gx,cL 0 (T.map fE):=fun T=>(cK _ _).2 fun _ _=>by simp[fE,cJ,cK]
 refine cV ?_ (by simp only[cJ];exact fT _)
 obtain⟨N,hNs⟩:∃N,u.shared.length=N:=⟨_,rfl⟩
 have hlv:kU g cls t=oL g (gN cls t) (gu cls t) N:=by unfold kU;rw[hcl0,hNs]
 rw[hlv]
 rw[hNs] at hN hcl0
 refine aI GD rfl ?_
 have hnm:(g.nodes.map Node.av).length=g.nodes.length:=by simp
 repeat' (first|refine aQ ?_|exact cP|with_reducible refine aB ?_ ?_|((with_reducible refine Ask.mk ?_);first|exact bx|(exact hgm)|(exact hnm)|exact bt|(intro h;simp_all[bq.cells,br.cells]<;>fail)|(simp_all[bq.cells,br.cells]<;>fail))|(apply aA;(·(first|exact eg _|exact bp)))|refine aH ?_|((with_reducible refine aE ?_ ?_)<;>intro hc<;>try(exfalso;omega)))
 simp only[List.length_map,Int.toNat_natCast]
 refine aF (fun ids:List Nat=>[(1,i64 t),(2, .im 3 .any (cls.map cF.av)),(3, .pt 0 1 0 0),(7, .pt 7 1 0 0),(8, .sl 12 g.nodes.length),(9,i64 ids.length)])
  (fun ids H' n'=>ids.length<=g.nodes.length/\15<=n'/\BG 12 ids g.nodes.length N H' n'/\(∃d,bk H' 0=some (.row 25 3 d [u.av]))/\(∃d,bk H' 7=some (.row 40 4 d [g.av]))) (fun ids=>g.nodes.length - ids.length) [] bu ⟨Nat.zero_le _,cI,⟨⟨_,bm⟩,fun x h=>by simp at h,fun x h=>by simp at h,List.nodup_nil⟩,⟨_,bm⟩,⟨_,bm⟩⟩ ?_
 rintro ids H1 n1 ⟨hi,hn1,hp,⟨d0,r0⟩,d8,r8⟩
 by_cases hil:ids.length<g.nodes.length
 ·obtain⟨d7,r7⟩:=hp.row
  have e1:=fun d=>qq (m:=g.nodes.length) (n:=N) hil d
  have e2:=mu (m:=g.nodes.length) (n:=N) hi
  repeat' (first|refine aQ ?_|exact cP|with_reducible refine aB ?_ ?_|((with_reducible refine Ask.mk ?_);first|exact bx|(exact e2)|(exact hsm)|exact bt|(intro h;simp_all[bq.cells]<;>fail)|(simp_all[bq.cells]<;>fail))|(apply aA;(·(first|exact e1 _|exact bp)))|refine aH ?_|((with_reducible refine aE ?_ ?_)<;>intro hc<;>try(exfalso;omega)))
  simp only[List.length_map,Int.toNat_natCast,hNs]
  have hlt:=hp.lt
  refine⟨ids++[n1+9],by simp;omega,bu,by simp;omega,cI,⟨⟨_,by rw[<-qt hil];exact bm⟩,fun x hx=> ?_,fun x hx=> ?_, ?_⟩,⟨_,bm⟩,⟨_,bm⟩⟩
  ·rcases List.mem_append.1 hx with hx|hx
   ·obtain⟨d,h1⟩:=hp.each x hx
    have:=hlt x hx
    exact⟨d,Eq.trans bw h1⟩
   ·simp only[List.mem_cons,List.not_mem_nil,or_false] at hx
    subst hx
    exact⟨_,bm⟩
  ·rcases List.mem_append.1 hx with hx|hx
   ·have:=hlt x hx
    exact⟨this.1,Nat.lt_of_lt_of_le this.2 cI⟩
   ·simp only[List.mem_cons,List.not_mem_nil,or_false] at hx
    subst hx
    exact⟨by omega,cI⟩
  ·refine List.nodup_append.2 ⟨hp.nodup,by simp,fun x hx y hy=> ?_⟩
   simp only[List.mem_cons,List.not_mem_nil,or_false] at hy
   have:=(hlt x hx).2
   omega
 ·have hle:ids.length=g.nodes.length:=by omega
  have hfin:=hp.fin hle
  have hlt:=hp.lt
  have hgr:=jR.start g (gN cls t) (gu cls t) N
  obtain⟨d7,r7⟩:=hp.row
  have e2:=mu (m:=g.nodes.length) (n:=N) hi
  repeat' (first|refine aQ ?_|exact cP|with_reducible refine aB ?_ ?_|((with_reducible refine Ask.mk ?_);first|exact bx|(exact e2)|exact bt)|(apply aA;(·exact bp))|refine aH ?_|((with_reducible refine aE ?_ ?_)<;>intro hc<;>try(exfalso;omega)))
  clear r7 e2
  have hids:∀x∈12::ids,12<=x/\x<n1:=fun x hx=>by
   rcases List.mem_cons.1 hx with rfl|hx
   ·omega
   ·have:=hlt x hx;omega
  clear hp hlt
  refine aF (fun s:gx×Bool=>[(1,i64 t),(2, .im 3 .any (cls.map cF.av)),(3, .pt 0 1 0 0),(7, .pt 7 1 0 0),(8, .sl 12 g.nodes.length),(10,bl s.2)])
   (fun s H' n'=>n1<=n'/\lp 12 ids s.1 H'/\(∃d,bk H' 0=some (.row 25 3 d [u.av]))/\(∃d,bk H' 7=some (.row 40 4 d [g.av]))/\jR g (gN cls t) (gu cls t) N s.1/\(s.2=false->∀i k,i<g.nodes.length->k<N->eY g (gN cls t) (gu cls t) s.1 i k=true->dj s.1 i k=true))
   (fun s=>fC s.1+if s.2=true then 1 else 0) (lD g.nodes.length N,true) bu ⟨cI,hfin.cH fun x hx=> ?_,⟨_,bm⟩,⟨_,bm⟩,hgr,fun h=>by cases h⟩ ?_
  ·have:=hids x hx;exact bw
  clear hfin hgr r0 r8
  rintro⟨T,again⟩ H2 n2 ⟨hn2,hT,⟨d0,r0⟩,⟨d8,r8⟩,hgr,hcl⟩
  dsimp only at hT hgr hcl ⊢
  cases again with
  |false=>
   have hfin:=hgr.fin hw (hcl rfl)
   repeat' (first|refine aQ ?_|exact aC|with_reducible refine aB ?_ ?_|(apply aA;(·exact bp))|refine aH ?_|((with_reducible refine aE ?_ ?_)<;>intro hc<;>try(exfalso;omega)))
   refine⟨?_⟩
   rw[<-hfin,<-hgr.shape.len]
   exact ou (hT.cH fun x hx=>bw) 4
  |true=>
   have hTl:=hgr.shape.len
   have hql:(gE ids (fJ T)).length=g.nodes.length:=by rw[hT.len,dC,hTl]
   obtain⟨d7,r7⟩:=hT.row
   repeat' (first|refine aQ ?_|exact cP|with_reducible refine aB ?_ ?_|((with_reducible refine Ask.mk ?_);first|exact bx|(exact hql)|(exact hnm)|exact bt|(intro h;simp_all[br.cells]<;>fail)|(simp_all[br.cells]<;>fail))|(apply aA;(·exact bp))|refine aH ?_|((with_reducible refine aE ?_ ?_)<;>intro hc<;>try(exfalso;omega)))
   simp only[List.length_map]
   refine aF (fun s:gx×Bool×Nat=>[(1,i64 t),(2, .im 3 .any (cls.map cF.av)),(3, .pt 0 1 0 0),(7, .pt 7 1 0 0),(8, .sl 12 g.nodes.length),(10,bl s.2.1),(11,i64 ((s.2.2:Int) - 1))])
    (fun s H' n'=>n1<=n'/\s.2.2<=g.nodes.length/\lp 12 ids s.1 H'/\(∃d,bk H' 0=some (.row 25 3 d [u.av]))/\(∃d,bk H' 7=some (.row 40 4 d [g.av]))/\jR g (gN cls t) (gu cls t) N s.1/\(fC s.1+if s.2.1=true then 1 else 0)<=fC T/\(s.2.1=false->∀i k,s.2.2<=i->i<g.nodes.length->k<N->eY g (gN cls t) (gu cls t) s.1 i k=true->dj s.1 i k=true))
    (fun s=>s.2.2) (T,false,g.nodes.length) bu ⟨cI,Nat.le_refl _,hT.cH fun x hx=> ?_,⟨_,bm⟩,⟨_,bm⟩,hgr,by simp,fun _ i k h1 h2=>absurd h1 (by dsimp only;omega)⟩ ?_
   ·exact bw
   clear hT r0 r8 hgr hcl r7 hql
   rintro⟨T2,ag,j⟩ H3 n3 ⟨hn3,hj,hT,⟨d0,r0⟩,⟨d8,r8⟩,hgr,hfa,hcl⟩
   dsimp only at hj hT hgr hfa hcl ⊢
   have hT2l:=hgr.shape.len
   cases j with
   |zero=>
    repeat' (first|refine aQ ?_|exact aC|with_reducible refine aB ?_ ?_|(apply aA;(·exact bp))|refine aH ?_|((with_reducible refine aE ?_ ?_)<;>intro hc<;>try(exfalso;omega)))
    exact⟨(T2,ag),by dsimp only;simp only[if_true];omega,bu,cI,hT.cH fun x hx=>bw,⟨_,bm⟩,⟨_,bm⟩,hgr,fun h i k h1 h2=>hcl h i k (Nat.zero_le _) h1 h2⟩
   |succ i=>
    have hi:i<g.nodes.length:=by omega
    have ei:((i+1:Nat):Int) - 1=(i:Int):=by omega
    have en:=fun d=>eH hi d
    have hfo:=gI (g.nodes.getD i default)
    rw[ei]
    repeat' (first|refine aQ ?_|exact cP|with_reducible refine aB ?_ ?_|((with_reducible refine Ask.mk ?_);first|exact bx|(exact hnm)|exact bt|(intro h;simp_all[br.cells,Node.cells]<;>fail)|(simp_all[br.cells,Node.cells]<;>fail))|(apply aA;(·(first|exact en _|exact bp)))|refine aK (hfo) ?_|refine aH ?_|((with_reducible refine aE ?_ ?_)<;>intro hc<;>try(exfalso;omega)))
    have hnd:g.nodes.getD i default=g.nd i:=rfl
    rw[hnd] at *
    clear hfo
    refine aF (fun s:gx×Bool×Nat=>[(1,i64 t),(2, .im 3 .any (cls.map cF.av)),(3, .pt 0 1 0 0),(7, .pt 7 1 0 0),(8, .sl 12 g.nodes.length),(10,bl s.2.1),(11,i64 (i:Int)),(12, .pt (n3+7) 1 0 0),(13,dV (g.nd i).dQ),(14,i64 s.2.2)])
     (fun s H' n'=>n3+8<=n'/\s.2.2<=N/\(∃d,bk H' (n3+7)=some (.row 46 13 d [(g.nd i).av]))/\lp 12 ids s.1 H'/\(∃d,bk H' 0=some (.row 25 3 d [u.av]))/\(∃d,bk H' 7=some (.row 40 4 d [g.av]))/\jR g (gN cls t) (gu cls t) N s.1/\(fC s.1+if s.2.1=true then 1 else 0)<=fC T/\(s.2.1=false->∀i' k,i<=i'->i'<g.nodes.length->k<N->(i'=i->k<s.2.2)->eY g (gN cls t) (gu cls t) s.1 i' k=true->dj s.1 i' k=true))
     (fun s=>N - s.2.2) (T2,ag,0) bu ⟨cI,Nat.zero_le _,⟨_,bm⟩,hT.cH fun x hx=> ?_,⟨_,bm⟩,⟨_,bm⟩,hgr,hfa,fun h i' k h1 h2 h3 h4=>hcl h i' k (Classical.byContradiction fun hx=>Nat.not_lt_zero _ (h4 (by omega))) h2 h3⟩ ?_
    ·have:=hids x hx;exact bw
    clear hT r0 r8 hgr hfa hcl hT2l
    rintro⟨T3,ag2,k⟩ H4 n4 ⟨hn4,hk,⟨dn,rn⟩,hT,⟨d0,r0⟩,⟨d8,r8⟩,hgr,hfa,hcl⟩
    dsimp only at hk hT hgr hfa hcl ⊢
    have hT3l:=hgr.shape.len
    by_cases hkN:k<N
    ·have hel:=fun d=>wB (l:=cls) (v:=(k:Int)) (by rw[Int.toNat_natCast];omega) d
     rw[show cls.getD (k:Int).toNat default=cls.getD k default by rw[Int.toNat_natCast]] at hel
     have hmore:∀T4 ag3,(ag3=false->T4=T3/\ag2=false/\(eY g (gN cls t) (gu cls t) T3 i k=true->dj T3 i k=true))->ag3=false->∀i' k',i<=i'->i'<g.nodes.length->k'<N->(i'=i->k'<k+1)->eY g (gN cls t) (gu cls t) T4 i' k'=true->dj T4 i' k'=true:=fun T4 ag3 h1 h2 i' k' a1 a2 a3 a4 a5=>by
      obtain⟨rfl,b1,b2⟩:=h1 h2
      by_cases e:i'=i/\k'=k
      ·obtain⟨rfl,rfl⟩:=e;exact b2 a5
      ·exact hcl b1 i' k' a1 a2 a3 (fun e2=>by
        have:=a4 e2
        have:¬k'=k:=fun e3=>e ⟨e2,e3⟩
        omega) a5
     by_cases hown:ny cls t k=true
     case neg=>
      have hno:¬((cls.getD k default).kind=1/\(cls.getD k default).si=(t:Int)):=fun h=>hown (by unfold ny;rw[decide_eq_true h.1,decide_eq_true h.2];rfl)
      have hce:eY g (gN cls t) (gu cls t) T3 i k=false:=by
       have:ny cls t k=false:=by simpa using hown
       unfold eY gN gu;rw[this];simp
      repeat' (first|refine aQ ?_|exact cP|with_reducible refine aB ?_ ?_|((with_reducible refine Ask.mk ?_);first|exact bx|(exact hsm)|(exact hcm)|exact bt|(intro h;simp_all[bq.cells,cF.cells]<;>fail)|(simp_all[bq.cells,cF.cells]<;>fail))|(apply aA;(·(first|exact hel _|exact bp)))|refine aH ?_|((with_reducible refine aE ?_ ?_)<;>intro hc<;>try(exfalso;omega)))
      all_goals first|(exfalso;omega)|skip
      all_goals exact⟨(T3,ag2,k+1),by dsimp only;omega,bu,cI,by dsimp only;omega,⟨_,bm⟩,hT.cH fun x hx=>bw,⟨_,bm⟩,⟨_,bm⟩,hgr,hfa,hmore T3 ag2 (fun h=>⟨rfl,h,fun hc=>by rw[hce] at hc;cases hc⟩)⟩
     have hyes:(cls.getD k default).kind=1/\(cls.getD k default).si=(t:Int):=by
      unfold ny at hown;simpa using hown
     obtain⟨hy1,hy2⟩:=hyes
     repeat' (first|refine aQ ?_|exact cP|with_reducible refine aB ?_ ?_|((with_reducible refine Ask.mk ?_);first|exact bx|(exact hsm)|(exact hcm)|exact bt|(intro h;simp_all[bq.cells,cF.cells,Node.cells]<;>fail)|(simp_all[bq.cells,cF.cells,Node.cells]<;>fail))|(apply aA;(·(first|exact hel _|exact bp)))|refine aH ?_|((with_reducible refine aE ?_ ?_)<;>intro hc<;>try(exfalso;omega)))
     all_goals first|(exfalso;omega)|skip
     refine aF (fun σ:Nat×Bool=>[(1,i64 t),(2, .im 3 .any (cls.map cF.av)),(3, .pt 0 1 0 0),(7, .pt 7 1 0 0),(8, .sl 12 g.nodes.length),(10,bl ag2),(11,i64 (i:Int)),(12, .pt (n3+7) 1 0 0),(13,dV (g.nd i).dQ),(14,i64 k),(15,bl σ.2),(16,i64 σ.1)])
      (fun σ H' n'=>n4<=n'/\σ.1<=(g.nd i).dQ.length/\σ.2=(gN cls t (g.nd i) k||(gK T3 (g.nd i) k σ.1&&gu cls t (g.nd i) k))/\(∃d,bk H' (n3+7)=some (.row 46 13 d [(g.nd i).av]))/\lp 12 ids T3 H'/\(∃d,bk H' 0=some (.row 25 3 d [u.av]))/\(∃d,bk H' 7=some (.row 40 4 d [g.av])))
      (fun σ=>(g.nd i).dQ.length - σ.1) (0,if(if decide ((g.nd i).kind=9)=true then true else decide ((g.nd i).kind=5))=true then true else(if(if decide ((g.nd i).kind=2)=true then true else decide ((g.nd i).kind=4))=true then decide ((g.nd i).cT=(k:Int)) else false)) bu ⟨cI,Nat.zero_le _, ?_,⟨_,bm⟩,hT.cH fun x hx=> ?_,⟨_,bm⟩,⟨_,bm⟩⟩ ?_
     ·dsimp only
      unfold gN gK
      rw[hown]
      by_cases a1:(g.nd i).kind=9<;>by_cases a2:(g.nd i).kind=5<;>by_cases a3:(g.nd i).kind=2<;>by_cases a4:(g.nd i).kind=4<;>simp[a1,a2,a3,a4]<;>omega
     ·exact bw
     clear hT rn r0 r8
     rintro⟨q,is⟩ H5 n5 ⟨hn5,hq,his,⟨dn,rn⟩,hT,⟨d0,r0⟩,⟨d8,r8⟩⟩
     dsimp only at hq his ⊢
     have hfm:((g.nd i).dQ.map i64).length=(g.nd i).dQ.length:=by simp
     have hfl:=ml (g.nd i)
     unfold dV
     have hql:(gE ids (fJ T3)).length=g.nodes.length:=by rw[hT.len,dC,hT3l]
     obtain⟨d7,r7⟩:=hT.row
     by_cases hql2:q<(g.nd i).dQ.length
     ·have eq0:=fun d=>e9 (l:=(g.nd i).dQ) hql2 d
      obtain⟨y0,y1⟩:=(hw.2.2 i hi).2.2 _ (cE (0:Int) hql2)
      have han:=lG (T:=T3) (k:=k) hql2
      generalize (g.nd i).dQ.getD q 0=y at *
      have hyS:y.toNat<(fJ T3).length:=by rw[dC,hT3l];exact y1
      have hyT:y.toNat<T3.length:=by rw[hT3l];exact y1
      have hrow:=hgr.shape.row y.toNat y1
      obtain⟨di,ri⟩:=hT.qs y.toNat hyS
      have e1:=fun d=>hT.get hyS d
      rw[eZ hyT] at ri e1
      rw[List.length_map,hrow] at e1
      have hrl:((T3.getD y.toNat []).map bl).length=N:=by rw[List.length_map,hrow]
      have e2:=fun d=>gS (l:=T3.getD y.toNat []) (k:=k) (by rw[hrow];exact hkN) d
      rw[show(T3.getD y.toNat []).getD k false=dj T3 y.toNat k from rfl] at e2
      have hxi:=hids (ids.getD y.toNat 0) (List.mem_cons_of_mem _ (dP (by rw[hle];exact y1)))
      have hne:=hT.ne hyS
      cases is with
      |true=>
       repeat' (first|refine aQ ?_|exact cP|with_reducible refine aB ?_ ?_|((with_reducible refine Ask.mk ?_);first|exact bx|(exact hfm)|exact bt)|(apply aA;(·(first|exact eq0 _|exact bp)))|refine aH ?_|((with_reducible refine aE ?_ ?_)<;>intro hc<;>try(exfalso;omega)))
       exact⟨(q+1,true),by dsimp only;omega,bu,cI,by dsimp only;omega,by dsimp only;rw[han];revert his;cases gN cls t (g.nd i) k<;>cases gK T3 (g.nd i) k q<;>cases gu cls t (g.nd i) k<;>simp,⟨_,bm⟩,hT.cH fun x hx=>bw,⟨_,bm⟩,⟨_,bm⟩⟩
      |false=>
       cases hv:dj T3 y.toNat k with
       |false=>
        rw[hv] at e2
        repeat' (first|refine aQ ?_|exact cP|with_reducible refine aB ?_ ?_|((with_reducible refine Ask.mk ?_);first|exact bx|(exact hfm)|(exact hql)|(exact hrl)|exact bt)|(apply aA;(·(first|exact eq0 _|exact e1 _|exact e2 _|exact bp)))|refine aH ?_|((with_reducible refine aE ?_ ?_)<;>intro hc<;>try(exfalso;omega)))
        exact⟨(q+1,false),by dsimp only;omega,bu,cI,by dsimp only;omega,by dsimp only;rw[han,hv,Bool.or_false];exact his,⟨_,bm⟩,hT.cH fun x hx=>bw,⟨_,bm⟩,⟨_,bm⟩⟩
       |true=>
        rw[hv] at e2
        have hval:(gN cls t (g.nd i) k||(gK T3 (g.nd i) k (q+1)&&gu cls t (g.nd i) k))= !(decide ((g.nd i).kind=3)&&decide ((g.nd i).cT=(k:Int))):=by
         rw[han,hv,Bool.or_true,Bool.true_and]
         have:gN cls t (g.nd i) k=false:=by revert his;cases gN cls t (g.nd i) k<;>simp
         rw[this,Bool.false_or];unfold gu;rw[hown];rfl
        repeat' (first|refine aQ ?_|exact cP|with_reducible refine aB ?_ ?_|((with_reducible refine Ask.mk ?_);first|exact bx|(exact hfm)|(exact hql)|(exact hrl)|exact bt|(intro h;simp_all[Node.cells]<;>fail)|(simp_all[Node.cells]<;>fail))|(apply aA;(·(first|exact eq0 _|exact e1 _|exact e2 _|exact bp)))|refine aH ?_|((with_reducible refine aE ?_ ?_)<;>intro hc<;>try(exfalso;omega)))
        exact⟨(q+1, !(if decide ((g.nd i).kind=3)=true then decide ((g.nd i).cT=(k:Int)) else false)),by dsimp only;omega,bu,cI,by dsimp only;omega,by dsimp only;rw[hval];by_cases a:(g.nd i).kind=3<;>simp[a],⟨_,bm⟩,hT.cH fun x hx=>bw,⟨_,bm⟩,⟨_,bm⟩⟩
     ·have:q=(g.nd i).dQ.length:=by omega
      subst this
      rw[mE,Bool.and_comm] at his
      have his2:is=eY g (gN cls t) (gu cls t) T3 i k:=his
      have hiS:i<(fJ T3).length:=by rw[dC,hT3l];exact hi
      have hiT:i<T3.length:=by rw[hT3l];exact hi
      have hrow:=hgr.shape.row i hi
      obtain⟨di,ri⟩:=hT.qs i hiS
      have e1:∀d,(gE ids (fJ T3)).getD (i:Int).toNat d= .sl (ids.getD i 0) N:=fun d=>by
       have:=hT.get hiS d
       rw[eZ hiT,List.length_map,hrow] at this
       rw[Int.toNat_natCast];exact this
      rw[eZ hiT] at ri
      have hrl:((T3.getD i []).map bl).length=N:=by rw[List.length_map,hrow]
      have e2:=fun d=>gS (l:=T3.getD i []) (k:=k) (by rw[hrow];exact hkN) d
      rw[show(T3.getD i []).getD k false=dj T3 i k from rfl] at e2
      have hxi:=hids (ids.getD i 0) (List.mem_cons_of_mem _ (dP (by rw[hle];exact hi)))
      have hne:=hT.ne hiS
      cases is with
      |false=>
       repeat' (first|refine aQ ?_|exact cP|with_reducible refine aB ?_ ?_|((with_reducible refine Ask.mk ?_);first|exact bx|(exact hfm)|exact bt)|(apply aA;(·exact bp))|refine aH ?_|((with_reducible refine aE ?_ ?_)<;>intro hc<;>try(exfalso;omega)))
       exact⟨(T3,ag2,k+1),by dsimp only;omega,bu,cI,by dsimp only;omega,⟨_,bm⟩,hT.cH fun x hx=>bw,⟨_,bm⟩,⟨_,bm⟩,hgr,hfa,hmore T3 ag2 (fun h=>⟨rfl,h,fun hc=>by rw[<-his2] at hc;cases hc⟩)⟩
      |true=>
       cases hv:dj T3 i k with
       |true=>
        rw[hv] at e2
        repeat' (first|refine aQ ?_|exact cP|with_reducible refine aB ?_ ?_|((with_reducible refine Ask.mk ?_);first|exact bx|(exact hfm)|(exact hql)|(exact hrl)|exact bt)|(apply aA;(·(first|exact e1 _|exact e2 _|exact bp)))|refine aH ?_|((with_reducible refine aE ?_ ?_)<;>intro hc<;>try(exfalso;omega)))
        exact⟨(T3,ag2,k+1),by dsimp only;omega,bu,cI,by dsimp only;omega,⟨_,bm⟩,hT.cH fun x hx=>bw,⟨_,bm⟩,⟨_,bm⟩,hgr,hfa,hmore T3 ag2 (fun h=>⟨rfl,h,fun _=>hv⟩)⟩
       |false=>
        rw[hv] at e2
        have hfs:=lO hgr.shape hi hkN hv
        repeat' (first|refine aQ ?_|exact cP|with_reducible refine aB ?_ ?_|((with_reducible refine Ask.mk ?_);first|exact bx|(exact hfm)|(exact hql)|(exact hrl)|exact bt)|(apply aA;(·(first|exact e1 _|exact e2 _|exact bp)))|refine aH ?_|((with_reducible refine aE ?_ ?_)<;>intro hc<;>try(exfalso;omega)))
        refine⟨(lA T3 i k,true,k+1),by dsimp only;omega,bu,cI,by dsimp only;omega,⟨_,bm⟩,hT.set hiT k ?_ ⟨_,bm⟩ (fun x hx hxn=> ?_),⟨_,bm⟩,⟨_,bm⟩,hgr.step hi hkN his2.symm, ?_,fun h=>by cases h⟩
        ·exact bw
        ·exact bw
        ·dsimp only
         simp only[if_true]
         omega
    ·have:k=N:=by omega
     subst this
     repeat' (first|refine aQ ?_|exact cP|with_reducible refine aB ?_ ?_|((with_reducible refine Ask.mk ?_);first|exact bx|(exact hsm)|exact bt|(intro h;simp_all[bq.cells]<;>fail)|(simp_all[bq.cells]<;>fail))|(apply aA;(·exact bp))|refine aH ?_|((with_reducible refine aE ?_ ?_)<;>intro hc<;>try(exfalso;omega)))
     exact⟨(T3,ag2,i),by dsimp only;omega,bu,by omega,by dsimp only;omega,hT.cH fun x hx=>bw,⟨_,bm⟩,⟨_,bm⟩,hgr,hfa,fun h i' k' a1 a2 a3 a5=>hcl h i' k' a1 a2 a3 (fun _=>a3) a5⟩
@[simp] theorem MA (n:Nat) (v:cF):cL n v.cells:=by simp[cF.cells,cL,cJ]
set_option maxRecDepth 4000 in
set_option maxHeartbeats 2000000 in
theorem yc (u:bq) (hu:u.Wf) (t:Int):Pure Tryz.prog 24 [u.av,i64 t] (fun r=>r=i64 (if k8 u=true then(if t<0\/(u.bo.length:Int)<=t then 2 else 0) else 60)):=by
 have hck:=kQ u hu
 have hgl:=hu.gp
 have hgm:(u.bo.map br.av).length=u.bo.length:=by simp
 by_cases hr:cX u
 ·rw[if_pos (cR.2 hr)]
  rw[iu.2 hr] at hck
  refine aG CR rfl ?_
  by_cases ht:t<0\/(u.bo.length:Int)<=t
  ·rw[if_pos ht]
   repeat' (first|refine aQ ?_|exact cP|with_reducible refine aB ?_ ?_|((with_reducible refine Ask.mk ?_);first|exact bx|(exact hgm)|exact bt|(intro h;simp_all[bq.cells]<;>fail)|(simp_all[bq.cells]<;>fail))|(apply aA;(·exact bp))|refine aK (hck) ?_|refine aH ?_|((with_reducible refine aE ?_ ?_)<;>intro hc<;>try(exfalso;omega)))
   all_goals first|exact rfl|(exfalso;simp at hc;omega)
  ·rw[if_neg ht]
   repeat' (first|refine aQ ?_|exact cP|with_reducible refine aB ?_ ?_|((with_reducible refine Ask.mk ?_);first|exact bx|(exact hgm)|exact bt|(intro h;simp_all[bq.cells]<;>fail)|(simp_all[bq.cells]<;>fail))|(apply aA;(·exact bp))|refine aK (hck) ?_|refine aH ?_|((with_reducible refine aE ?_ ?_)<;>intro hc<;>try(exfalso;omega)))
   all_goals first|exact rfl|(exfalso;simp at hc;omega)
 ·rw[if_neg (mt cR.1 hr)]
  have hbad:=jl hr
  generalize gT u=c at *
  obtain⟨c1,c2,c3⟩:=c
  dsimp only at hbad
  subst hbad
  refine aG CR rfl ?_
  repeat' (first|refine aQ ?_|exact cP|with_reducible refine aB ?_ ?_|((with_reducible refine Ask.mk ?_);first|exact bx|(exact hgm)|exact bt|(intro h;simp_all[bq.cells]<;>fail)|(simp_all[bq.cells]<;>fail))|(apply aA;(·exact bp))|refine aK (hck) ?_|refine aH ?_|((with_reducible refine aE ?_ ?_)<;>intro hc<;>try(exfalso;omega)))
  all_goals first|exact rfl|(exfalso;simp at hc;done)|(exfalso;simp at hc;omega)
set_option maxRecDepth 4000 in
set_option maxHeartbeats 2000000 in
theorem z7 (u:bq) (hu:u.Wf) (t:Int):Pure Tryz.prog 18 [u.av,i64 t] (fun r=>r=qU u t (eN (u.gr t.toNat))):=by
 have hf:=yc u hu t
 have hgm:(u.bo.map br.av).length=u.bo.length:=by simp
 unfold qU
 by_cases hr:cX u
 ·rw[if_pos (cR.2 hr)] at hf ⊢
  by_cases ht:t<0\/(u.bo.length:Int)<=t
  ·rw[if_pos ht] at hf ⊢
   refine mq ?_
   refine aG zC rfl ?_
   repeat' (first|refine aQ ?_|exact cP|with_reducible refine aB ?_ ?_|((with_reducible refine Ask.mk ?_);first|exact bx|exact bt|(intro h;simp_all[bq.cells]<;>fail)|(simp_all[bq.cells]<;>fail))|(apply aA;(·exact bp))|refine aK (hf) ?_|refine aH ?_|((with_reducible refine aE ?_ ?_)<;>intro hc<;>try(exfalso;omega)))
   all_goals first|exact rfl|(exfalso;simp at hc;done)
  ·rw[if_neg ht] at hf ⊢
   obtain⟨k,rfl⟩:∃k:Nat,t=k:=⟨t.toNat,by omega⟩
   rw[Int.toNat_natCast]
   have hk:k<u.bo.length:=by omega
   have eg:∀d,(u.bo.map br.av).getD (k:Int).toNat d=(u.gr k).av:=fun d=>j3 hk d
   have hgo:=hr.gr hk
   have hsl:=hgo.cZ
   have hlo:=hgo.locals
   obtain⟨N,hN⟩:∃N:Nat,(u.gr k).cZ=N:=⟨(u.gr k).cZ.toNat,by omega⟩
   have hlv:=sV (u.gr k) (hu.bo _ (cE default hk)) hgo.whole N (by omega) hN
   refine aG zC rfl ?_
   repeat' (first|refine aQ ?_|exact cP|with_reducible refine aB ?_ ?_|((with_reducible refine Ask.mk ?_);first|exact bx|(exact hgm)|exact bt|(intro h;simp_all[bq.cells]<;>fail)|(simp_all[bq.cells]<;>fail))|(apply aA;(·(first|exact eg _|exact bp)))|refine aK (hf) ?_|refine aK (hlv) ?_|refine aH ?_|((with_reducible refine aE ?_ ?_)<;>intro hc<;>try(exfalso;omega)))
   all_goals first|(exfalso;simp at hc;done)|exact vg.eq (by simp only[cJ,cL];exact⟨oQ _,trivial,trivial⟩) rfl
 ·rw[if_neg (mt cR.1 hr)] at hf ⊢
  refine mq ?_
  refine aG zC rfl ?_
  repeat' (first|refine aQ ?_|exact cP|with_reducible refine aB ?_ ?_|((with_reducible refine Ask.mk ?_);first|exact bx|exact bt|(intro h;simp_all[bq.cells]<;>fail)|(simp_all[bq.cells]<;>fail))|(apply aA;(·exact bp))|refine aK (hf) ?_|refine aH ?_|((with_reducible refine aE ?_ ?_)<;>intro hc<;>try(exfalso;omega)))
  all_goals first|exact rfl|(exfalso;simp at hc;done)
set_option maxRecDepth 4000 in
theorem yZ (l:List Bool) (hl:l.length<=5000):Pure Tryz.prog 11 [fE l,fE l] (fun r=>r=bl true):=by
 refine aG CP rfl ?_
 have hm:(l.map bl).length=l.length:=by simp
 unfold fE
 repeat' (first|refine aQ ?_|exact aC|with_reducible refine aB ?_ ?_|(apply aA;(·exact bp))|refine aH ?_|((with_reducible refine aE ?_ ?_)<;>intro hc<;>try(exfalso;omega)))
 all_goals first|(exfalso;simp at hc;done)|skip
 refine aF (fun i:Nat=>[(0,fE l),(1,fE l),(5,i64 i)])
  (fun i H n=>i<=l.length) (fun i=>l.length - i) 0 bu (Nat.zero_le _) ?_
 unfold fE
 rintro i H n hi
 by_cases hil:i<l.length
 ·have e1:=fun d=>gS (l:=l) hil d
  repeat' (first|refine aQ ?_|exact cP|with_reducible refine aB ?_ ?_|((with_reducible refine Ask.mk ?_);first|exact bx|(exact hm)|exact bt)|(apply aA;(·(first|exact e1 _|exact bp)))|refine aH ?_|((with_reducible refine aE ?_ ?_)<;>intro hc<;>try(exfalso;omega)))
  all_goals first|(exfalso;simp at hc;done)|exact⟨i+1,by omega,bu,by omega⟩
 ·have:i=l.length:=by omega
  subst this
  repeat' (first|refine aQ ?_|exact cP|with_reducible refine aB ?_ ?_|((with_reducible refine Ask.mk ?_);first|exact bx|(exact hm)|exact bt)|(apply aA;(·exact bp))|refine aH ?_|((with_reducible refine aE ?_ ?_)<;>intro hc<;>try(exfalso;omega)))
  exact rfl
set_option maxRecDepth 4000 in
theorem yG (T:gx) (hT:T.length<=5000) (hr:∀i,(T.getD i []).length<=5000):Pure Tryz.prog 19 [.im 1 .any (T.map fE), .im 1 .any (T.map fE)] (fun r=>r=bl true):=by
 refine aG FW rfl ?_
 have hm:(T.map fE).length=T.length:=by simp
 repeat' (first|refine aQ ?_|exact aC|with_reducible refine aB ?_ ?_|(apply aA;(·exact bp))|refine aH ?_|((with_reducible refine aE ?_ ?_)<;>intro hc<;>try(exfalso;omega)))
 all_goals first|(exfalso;simp at hc;done)|skip
 refine aF (fun i:Nat=>[(0, .im 1 .any (T.map fE)),(1, .im 1 .any (T.map fE)),(5,i64 i)])
  (fun i H n=>i<=T.length) (fun i=>T.length - i) 0 bu (Nat.zero_le _) ?_
 rintro i H n hi
 by_cases hil:i<T.length
 ·have e1:∀d,(T.map fE).getD (i:Int).toNat d=fE (T.getD i []):=fun d=>by
   rw[Int.toNat_natCast];exact dG fE T i d hil
  have hb:=yZ _ (hr i)
  unfold fE at hb
  have e2:∀d,(T.map fE).getD (i:Int).toNat d= .im 1 .any ((T.getD i []).map bl):=e1
  repeat' (first|refine aQ ?_|exact cP|with_reducible refine aB ?_ ?_|((with_reducible refine Ask.mk ?_);first|exact bx|(exact hm)|exact bt)|(apply aA;(·(first|exact e2 _|exact bp)))|refine aK (hb) ?_|refine aH ?_|((with_reducible refine aE ?_ ?_)<;>intro hc<;>try(exfalso;omega)))
  all_goals first|(exfalso;simp at hc;done)|exact⟨i+1,by omega,bu,by omega⟩
 ·have:i=T.length:=by omega
  subst this
  repeat' (first|refine aQ ?_|exact cP|with_reducible refine aB ?_ ?_|((with_reducible refine Ask.mk ?_);first|exact bx|(exact hm)|exact bt)|(apply aA;(·exact bp))|refine aH ?_|((with_reducible refine aE ?_ ?_)<;>intro hc<;>try(exfalso;omega)))
  exact rfl
@[simp] theorem EL (n:Nat) (l:List Bool):cJ n (fE l):=by simp[fE,cJ,cK]
theorem M6 {T:gx} {i:Nat} (h:i<T.length) (d:AV):(T.map fE).getD i d= .im 1 .any ((T.getD i []).map bl):=dG fE T i d h
set_option maxRecDepth 4000 in
set_option maxHeartbeats 2000000 in
theorem lW {T:gx} {m n:Nat} (hT:Shape T m n) (nd:Node) (hl:∀to∈nd.dQ,0<=to/\to.toNat<m) (k:Nat) (hk:k<n):Pure Tryz.prog 50 [dV nd.dQ, .im 1 .any (T.map fE),i64 k] (fun r=>r=bl (kX T nd k)):=by
 have a0:(nd.dQ.map i64).length=nd.dQ.length:=by simp
 have hfl:=ml nd
 have a1:(T.map fE).length=m:=by rw[List.length_map,hT.len]
 refine aG GO rfl ?_
 unfold dV
 refine gG ?_
 refine aF (fun i:Nat=>[(0,dV nd.dQ),(1, .im 1 .any (T.map fE)),(2,i64 k),(7,i64 i)])
  (fun i H p=>i<=nd.dQ.length/\gK T nd k i=false) (fun i=>nd.dQ.length - i) 0 bu ⟨Nat.zero_le _,rfl⟩ ?_
 unfold dV
 rintro i H p ⟨hi,hall⟩
 by_cases hil:i<nd.dQ.length
 ·have e0:=fun d=>e9 (l:=nd.dQ) hil d
  obtain⟨y0,y1⟩:=hl _ (cE (0:Int) hil)
  have han:=lG (T:=T) (k:=k) hil
  rw[hall,Bool.false_or] at han
  have hmem:=cE (0:Int) hil
  generalize nd.dQ.getD i 0=y at *
  have e1:=fun d=>M6 (T:=T) (i:=y.toNat) (by rw[hT.len];exact y1) d
  have hrow:=hT.row y.toNat y1
  have e2:=fun d=>gS (l:=T.getD y.toNat []) (k:=k) (by rw[hrow];exact hk) d
  have a2:((T.getD y.toNat []).map bl).length=n:=by rw[List.length_map,hrow]
  rw[show(T.getD y.toNat []).getD k false=dj T y.toNat k from rfl] at e2
  cases hv:dj T y.toNat k with
  |true=>
   rw[hv] at e2
   refine gG ?_
   refine cn (Eq.symm ?_)
   exact rI.2 ⟨y,hmem,hv⟩
  |false=>
   rw[hv] at e2 han
   refine gG ?_
   exact⟨i+1,by omega,bu,by omega,han⟩
 ·have:i=nd.dQ.length:=by omega
  subst this
  rw[mE] at hall
  refine gG ?_
  exact cn hall.symm
set_option maxRecDepth 4000 in
set_option maxHeartbeats 2000000 in
theorem uO (g:br) (hg:g.Wf) (out:List Bool) (hm:out.length=g.nodes.length) (he:Ends out g) (hnx:∀j,tf out j=true->0<=(g.nd j).next/\(g.nd j).next<g.nodes.length) (i:Nat) (hi:i<g.nodes.length):Pure Tryz.prog 58 [g.av,fE out,i64 i] (fun r=>r=i64 (dX out g i:Nat)):=by
 obtain⟨K,hK,hk1,hk2⟩:=he i
 have hfin:dX out g i=iter g i K:=jo out g K out.length i hK hk1 hk2
 have hin:∀k,k<=K->iter g i k<g.nodes.length:=fun k hk=>by
  cases k with
  |zero=>exact hi
  |succ q=>
   have:=hnx _ (hk2 q (by omega))
   show(g.nd (iter g i q)).next.toNat<_
   omega
 have a0:(out.map bl).length=g.nodes.length:=by rw[List.length_map,hm]
 have a1:(g.nodes.map Node.av).length=g.nodes.length:=by simp
 rw[hfin]
 refine aG GX rfl ?_
 unfold fE
 refine gG ?_
 refine aF (fun k:Nat=>[(1,fE out),(2,i64 (iter g i k:Nat)),(3, .pt 0 1 0 0)])
  (fun k H p=>k<=K/\1<=p/\∃d,bk H 0=some (.row 40 4 d [g.av])) (fun k=>K - k) 0 bu ⟨Nat.zero_le _,cI,⟨_,bm⟩⟩ ?_
 unfold fE
 rintro k H p ⟨hk,hp,d0,r0⟩
 have hik:=hin k hk
 have e1:=fun d=>gS (l:=out) (k:=iter g i k) (by rw[hm];exact hik) d
 by_cases hkK:k<K
 ·have htr:out.getD (iter g i k) false=true:=hk2 k hkK
  rw[htr] at e1
  have e0:=fun d=>eH (l:=g.nodes) hik d
  rw[show g.nodes.getD (iter g i k) default=g.nd (iter g i k) from rfl] at e0
  have hn:=hnx _ (hk2 k hkK)
  have r1:(g.nd (iter g i k)).next=((iter g i (k+1):Nat):Int):=by
   show _=(((g.nd (iter g i k)).next.toNat:Nat):Int);omega
  refine gG ?_
  exact⟨k+1,by omega,bu,by omega,cI,⟨_,bm⟩⟩
 ·have:k=K:=by omega
  subst this
  have hfl:out.getD (iter g i k) false=false:=hk1
  rw[hfl] at e1
  refine gG ?_
  trivial
end Go.Proofs.YtmonponfppdgfaaGreatDoor
