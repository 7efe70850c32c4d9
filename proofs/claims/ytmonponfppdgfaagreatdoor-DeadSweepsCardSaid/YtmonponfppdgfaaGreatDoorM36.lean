import Derived.Test.YtmonponfppdgfaaGreatDoorM35
section
/- What waits: the document's walk. -/
namespace Go.Proofs.YtmonponfppdgfaaGreatDoor
open Go Go.ch Go.Proofs
set_option linter.unusedSimpArgs false
set_option linter.unusedVariables false
set_option maxRecDepth 8000 in
set_option maxHeartbeats 16000000 in
theorem wm (u:bp) (hu:u.Wf) (t:Nat) (ht:t<u.bq.length) (hw:Whole (u.gr t)) (cls:List cB) (hcl0:cls.length=u.shared.length) (hN:u.shared.length≤64):Pure Tryz.prog 40 [u.av,i64 t, .im 3 .any (cls.map cB.av)] (fun r=>r= .im 1 .any ((jz (u.gr t) cls t).map fp)):=by
 have hg:(u.gr t).Wf:=hu.bq _ (cC default ht)
 have eg:∀d,(u.bq.map bo.av).getD (t:Int).toNat d=(u.gr t).av:=fun d=>j3 ht d
 have hgm:(u.bq.map bo.av).length=u.bq.length:=by simp
 have hsm:(u.shared.map Decl.av).length=u.shared.length:=by simp
 have hcm:(cls.map cB.av).length=cls.length:=by simp
 generalize u.gr t=g at *
 have hl:=hg.len
 have hl0:=hw.1
 have hl1:=hw.2.1
 have fT:∀T:hZ,cL 0 (T.map fp):=fun T=>(cJ _ _).2 fun _ _=>by simp[fp,cG,cJ]
 refine cT ?_ (by simp only[cG];exact fT _)
 obtain⟨N,hNs⟩:∃N,u.shared.length=N:=⟨_,rfl⟩
 have hlv:jz g cls t=nb g (fy cls t) (gN cls t) N:=by unfold jz;rw[hcl0,hNs]
 rw[hlv]
 rw[hNs] at hN hcl0
 refine aL DZ rfl ?_
 have hnm:(g.nodes.map Node.av).length=g.nodes.length:=by simp
 repeat' (first|((with_reducible refine aE ?_);conv=>whnf)|refine aG ?_|exact cN|with_reducible refine aD ?_ ?_|((with_reducible refine Ask.mk ?_);first|exact bw|(exact hgm)|(exact hnm)|exact br|(intro h;simp_all[bp.cells,bo.cells]<;>fail)|(simp_all[bp.cells,bo.cells]<;>fail))|(apply aA;(·(first|exact eg _|exact bm)))|refine aH ?_|((with_reducible refine aB ?_ ?_)<;>intro hc<;>(try simp only[List.length_map,ne_eq,cD] at hc)<;>try(exfalso;omega)))
 simp only[List.length_map,Int.toNat_natCast]
 refine aI (fun ids:List Nat=>[(1,i64 t),(2, .im 3 .any (cls.map cB.av)),(3, .pt 0 1 0 0),(7, .pt 7 1 0 0),(8, .sl 12 g.nodes.length),(9,i64 ids.length)])
  (fun ids H' n'=>ids.length≤g.nodes.length∧15≤n'∧zV 12 ids g.nodes.length N H' n'∧(∃d,bj H' 0=some (.row 25 3 d [u.av]))∧(∃d,bj H' 7=some (.row 40 4 d [g.av]))) (fun ids=>g.nodes.length - ids.length) [] bt ⟨Nat.zero_le _,cH,⟨⟨_,bk⟩,fun x h=>by simp at h,fun x h=>by simp at h,List.nodup_nil⟩,⟨_,bk⟩,⟨_,bk⟩⟩ ?_
 rintro ids H1 n1 ⟨hi,hn1,hp,⟨d0,r0⟩,d8,r8⟩
 by_cases hil:ids.length<g.nodes.length
 ·obtain⟨d7,r7⟩:=hp.row
  have e1:=fun d=>qP (m:=g.nodes.length) (n:=N) hil d
  have e2:=mS (m:=g.nodes.length) (n:=N) hi
  repeat' (first|((with_reducible refine aE ?_);conv=>whnf)|refine aG ?_|exact cN|with_reducible refine aD ?_ ?_|((with_reducible refine Ask.mk ?_);first|exact bw|(exact e2)|(exact hsm)|exact br|(intro h;simp_all[bp.cells]<;>fail)|(simp_all[bp.cells]<;>fail))|(apply aA;(·(first|exact e1 _|exact bm)))|refine aH ?_|((with_reducible refine aB ?_ ?_)<;>intro hc<;>(try simp only[List.length_map,ne_eq,cD] at hc)<;>try(exfalso;omega)))
  simp only[List.length_map,Int.toNat_natCast,hNs]
  have hlt:=hp.lt
  refine⟨ids++[n1+9],by simp;omega,bt,by simp;omega,cH,⟨⟨_,by rw[←qQ hil];exact bk⟩,fun x hx=> ?_,fun x hx=> ?_, ?_⟩,⟨_,bk⟩,⟨_,bk⟩⟩
  ·rcases List.mem_append.1 hx with hx|hx
   ·obtain⟨d,h1⟩:=hp.each x hx
    have:=hlt x hx
    exact⟨d,Eq.trans bu h1⟩
   ·simp only[List.mem_cons,List.not_mem_nil,or_false] at hx
    subst hx
    exact⟨_,bk⟩
  ·rcases List.mem_append.1 hx with hx|hx
   ·have:=hlt x hx
    exact⟨this.1,Nat.lt_of_lt_of_le this.2 cH⟩
   ·simp only[List.mem_cons,List.not_mem_nil,or_false] at hx
    subst hx
    exact⟨by omega,cH⟩
  ·refine List.nodup_append.2 ⟨hp.nodup,by simp,fun x hx y hy=> ?_⟩
   simp only[List.mem_cons,List.not_mem_nil,or_false] at hy
   have:=(hlt x hx).2
   omega
 ·have hle:ids.length=g.nodes.length:=by omega
  have hfin:=hp.fin hle
  have hlt:=hp.lt
  have hgr:=iw.start g (fy cls t) (gN cls t) N
  obtain⟨d7,r7⟩:=hp.row
  have e2:=mS (m:=g.nodes.length) (n:=N) hi
  repeat' (first|((with_reducible refine aE ?_);conv=>whnf)|refine aG ?_|exact cN|with_reducible refine aD ?_ ?_|((with_reducible refine Ask.mk ?_);first|exact bw|(exact e2)|exact br)|(apply aA;(·exact bm))|refine aH ?_|((with_reducible refine aB ?_ ?_)<;>intro hc<;>(try simp only[List.length_map,ne_eq,cD] at hc)<;>try(exfalso;omega)))
  clear r7 e2
  have hids:∀x∈12::ids,12≤x∧x<n1:=fun x hx=>by
   rcases List.mem_cons.1 hx with rfl|hx
   ·omega
   ·have:=hlt x hx;omega
  clear hp hlt
  refine aI (fun s:hZ×Bool=>[(1,i64 t),(2, .im 3 .any (cls.map cB.av)),(3, .pt 0 1 0 0),(7, .pt 7 1 0 0),(8, .sl 12 g.nodes.length),(10,bl s.2)])
   (fun s H' n'=>n1≤n'∧nZ 12 ids s.1 H'∧(∃d,bj H' 0=some (.row 25 3 d [u.av]))∧(∃d,bj H' 7=some (.row 40 4 d [g.av]))∧iw g (fy cls t) (gN cls t) N s.1∧(s.2=false→∀i k,i<g.nodes.length→k<N→eO g (fy cls t) (gN cls t) s.1 i k=true→dY s.1 i k=true))
   (fun s=>e8 s.1+if s.2=true then 1 else 0) (ke g.nodes.length N,true) bt ⟨cH,hfin.cE fun x hx=> ?_,⟨_,bk⟩,⟨_,bk⟩,hgr,fun h=>by cases h⟩ ?_
  ·have:=hids x hx;exact bu
  clear hfin hgr r0 r8
  rintro⟨T,again⟩ H2 n2 ⟨hn2,hT,⟨d0,r0⟩,⟨d8,r8⟩,hgr,hcl⟩
  dsimp only at hT hgr hcl ⊢
  cases again with
  |false=>
   have hfin:=hgr.fin hw (hcl rfl)
   repeat' (first|((with_reducible refine aE ?_);conv=>whnf)|refine aG ?_|exact aC|with_reducible refine aD ?_ ?_|(apply aA;(·exact bm))|refine aH ?_|((with_reducible refine aB ?_ ?_)<;>intro hc<;>(try simp only[List.length_map,ne_eq,cD] at hc)<;>try(exfalso;omega)))
   refine⟨?_⟩
   rw[←hfin,←hgr.shape.len]
   exact oQ (hT.cE fun x hx=>bu) 4
  |true=>
   have hTl:=hgr.shape.len
   have hql:(gW ids (gX T)).length=g.nodes.length:=by rw[hT.len,dN,hTl]
   obtain⟨d7,r7⟩:=hT.row
   repeat' (first|((with_reducible refine aE ?_);conv=>whnf)|refine aG ?_|exact cN|with_reducible refine aD ?_ ?_|((with_reducible refine Ask.mk ?_);first|exact bw|(exact hql)|(exact hnm)|exact br|(intro h;simp_all[bo.cells]<;>fail)|(simp_all[bo.cells]<;>fail))|(apply aA;(·exact bm))|refine aH ?_|((with_reducible refine aB ?_ ?_)<;>intro hc<;>(try simp only[List.length_map,ne_eq,cD] at hc)<;>try(exfalso;omega)))
   simp only[List.length_map]
   refine aI (fun s:hZ×Bool×Nat=>[(1,i64 t),(2, .im 3 .any (cls.map cB.av)),(3, .pt 0 1 0 0),(7, .pt 7 1 0 0),(8, .sl 12 g.nodes.length),(10,bl s.2.1),(11,i64 ((s.2.2:Int) - 1))])
    (fun s H' n'=>n1≤n'∧s.2.2≤g.nodes.length∧nZ 12 ids s.1 H'∧(∃d,bj H' 0=some (.row 25 3 d [u.av]))∧(∃d,bj H' 7=some (.row 40 4 d [g.av]))∧iw g (fy cls t) (gN cls t) N s.1∧(e8 s.1+if s.2.1=true then 1 else 0)≤e8 T∧(s.2.1=false→∀i k,s.2.2≤i→i<g.nodes.length→k<N→eO g (fy cls t) (gN cls t) s.1 i k=true→dY s.1 i k=true))
    (fun s=>s.2.2) (T,false,g.nodes.length) bt ⟨cH,Nat.le_refl _,hT.cE fun x hx=> ?_,⟨_,bk⟩,⟨_,bk⟩,hgr,by simp,fun _ i k h1 h2=>absurd h1 (by dsimp only;omega)⟩ ?_
   ·exact bu
   clear hT r0 r8 hgr hcl r7 hql
   rintro⟨T2,ag,j⟩ H3 n3 ⟨hn3,hj,hT,⟨d0,r0⟩,⟨d8,r8⟩,hgr,hfa,hcl⟩
   dsimp only at hj hT hgr hfa hcl ⊢
   have hT2l:=hgr.shape.len
   cases j with
   |zero=>
    repeat' (first|((with_reducible refine aE ?_);conv=>whnf)|refine aG ?_|exact aC|with_reducible refine aD ?_ ?_|(apply aA;(·exact bm))|refine aH ?_|((with_reducible refine aB ?_ ?_)<;>intro hc<;>(try simp only[List.length_map,ne_eq,cD] at hc)<;>try(exfalso;omega)))
    exact⟨(T2,ag),by dsimp only;simp only[if_true];omega,bt,cH,hT.cE fun x hx=>bu,⟨_,bk⟩,⟨_,bk⟩,hgr,fun h i k h1 h2=>hcl h i k (Nat.zero_le _) h1 h2⟩
   |succ i=>
    have hi:i<g.nodes.length:=by omega
    have ei:((i+1:Nat):Int) - 1=(i:Int):=by omega
    have en:=fun d=>dy hi d
    have hfo:=fu (g.nodes.getD i default)
    rw[ei]
    repeat' (first|((with_reducible refine aE ?_);conv=>whnf)|refine aG ?_|exact cN|with_reducible refine aD ?_ ?_|((with_reducible refine Ask.mk ?_);first|exact bw|(exact hnm)|exact br|(intro h;simp_all[bo.cells,Node.cells]<;>fail)|(simp_all[bo.cells,Node.cells]<;>fail))|(apply aA;(·(first|exact en _|exact bm)))|refine aK (hfo) ?_|refine aH ?_|((with_reducible refine aB ?_ ?_)<;>intro hc<;>(try simp only[List.length_map,ne_eq,cD] at hc)<;>try(exfalso;omega)))
    have hnd:g.nodes.getD i default=g.nd i:=rfl
    rw[hnd] at *
    clear hfo
    refine aI (fun s:hZ×Bool×Nat=>[(1,i64 t),(2, .im 3 .any (cls.map cB.av)),(3, .pt 0 1 0 0),(7, .pt 7 1 0 0),(8, .sl 12 g.nodes.length),(10,bl s.2.1),(11,i64 (i:Int)),(12, .pt (n3+7) 1 0 0),(13,dO (g.nd i).dK),(14,i64 s.2.2)])
     (fun s H' n'=>n3+8≤n'∧s.2.2≤N∧(∃d,bj H' (n3+7)=some (.row 46 13 d [(g.nd i).av]))∧nZ 12 ids s.1 H'∧(∃d,bj H' 0=some (.row 25 3 d [u.av]))∧(∃d,bj H' 7=some (.row 40 4 d [g.av]))∧iw g (fy cls t) (gN cls t) N s.1∧(e8 s.1+if s.2.1=true then 1 else 0)≤e8 T∧(s.2.1=false→∀i' k,i≤i'→i'<g.nodes.length→k<N→(i'=i→k<s.2.2)→eO g (fy cls t) (gN cls t) s.1 i' k=true→dY s.1 i' k=true))
     (fun s=>N - s.2.2) (T2,ag,0) bt ⟨cH,Nat.zero_le _,⟨_,bk⟩,hT.cE fun x hx=> ?_,⟨_,bk⟩,⟨_,bk⟩,hgr,hfa,fun h i' k h1 h2 h3 h4=>hcl h i' k (Classical.byContradiction fun hx=>Nat.not_lt_zero _ (h4 (by omega))) h2 h3⟩ ?_
    ·have:=hids x hx;exact bu
    clear hT r0 r8 hgr hfa hcl hT2l
    rintro⟨T3,ag2,k⟩ H4 n4 ⟨hn4,hk,⟨dn,rn⟩,hT,⟨d0,r0⟩,⟨d8,r8⟩,hgr,hfa,hcl⟩
    dsimp only at hk hT hgr hfa hcl ⊢
    have hT3l:=hgr.shape.len
    by_cases hkN:k<N
    ·have hel:=fun d=>vH (l:=cls) (v:=(k:Int)) (by rw[Int.toNat_natCast];omega) d
     rw[show cls.getD (k:Int).toNat default=cls.getD k default by rw[Int.toNat_natCast]] at hel
     have hmore:∀T4 ag3,(ag3=false→T4=T3∧ag2=false∧(eO g (fy cls t) (gN cls t) T3 i k=true→dY T3 i k=true))→ag3=false→∀i' k',i≤i'→i'<g.nodes.length→k'<N→(i'=i→k'<k+1)→eO g (fy cls t) (gN cls t) T4 i' k'=true→dY T4 i' k'=true:=fun T4 ag3 h1 h2 i' k' a1 a2 a3 a4 a5=>by
      obtain⟨rfl,b1,b2⟩:=h1 h2
      by_cases e:i'=i∧k'=k
      ·obtain⟨rfl,rfl⟩:=e;exact b2 a5
      ·exact hcl b1 i' k' a1 a2 a3 (fun e2=>by
        have:=a4 e2
        have:¬k'=k:=fun e3=>e ⟨e2,e3⟩
        omega) a5
     by_cases hown:nQ cls t k=true
     case neg=>
      have hno:¬((cls.getD k default).kind=1∧(cls.getD k default).rz=(t:Int)):=fun h=>hown (by unfold nQ;rw[decide_eq_true h.1,decide_eq_true h.2];rfl)
      have hce:eO g (fy cls t) (gN cls t) T3 i k=false:=by
       have:nQ cls t k=false:=by simpa using hown
       unfold eO fy gN;rw[this];simp
      repeat' (first|((with_reducible refine aE ?_);conv=>whnf)|refine aG ?_|exact cN|with_reducible refine aD ?_ ?_|((with_reducible refine Ask.mk ?_);first|exact bw|(exact hsm)|(exact hcm)|exact br|(intro h;simp_all[bp.cells,cB.cells]<;>fail)|(simp_all[bp.cells,cB.cells]<;>fail))|(apply aA;(·(first|exact hel _|exact bm)))|refine aH ?_|((with_reducible refine aB ?_ ?_)<;>intro hc<;>(try simp only[List.length_map,ne_eq,cD] at hc)<;>try(exfalso;omega)))
      all_goals first|(exfalso;omega)|skip
      all_goals exact⟨(T3,ag2,k+1),by dsimp only;omega,bt,cH,by dsimp only;omega,⟨_,bk⟩,hT.cE fun x hx=>bu,⟨_,bk⟩,⟨_,bk⟩,hgr,hfa,hmore T3 ag2 (fun h=>⟨rfl,h,fun hc=>by rw[hce] at hc;cases hc⟩)⟩
     have hyes:(cls.getD k default).kind=1∧(cls.getD k default).rz=(t:Int):=by
      unfold nQ at hown;simpa using hown
     obtain⟨hy1,hy2⟩:=hyes
     repeat' (first|((with_reducible refine aE ?_);conv=>whnf)|refine aG ?_|exact cN|with_reducible refine aD ?_ ?_|((with_reducible refine Ask.mk ?_);first|exact bw|(exact hsm)|(exact hcm)|exact br|(intro h;simp_all[bp.cells,cB.cells,Node.cells]<;>fail)|(simp_all[bp.cells,cB.cells,Node.cells]<;>fail))|(apply aA;(·(first|exact hel _|exact bm)))|refine aH ?_|((with_reducible refine aB ?_ ?_)<;>intro hc<;>(try simp only[List.length_map,ne_eq,cD] at hc)<;>try(exfalso;omega)))
     all_goals first|(exfalso;omega)|skip
     refine aI (fun σ:Nat×Bool=>[(1,i64 t),(2, .im 3 .any (cls.map cB.av)),(3, .pt 0 1 0 0),(7, .pt 7 1 0 0),(8, .sl 12 g.nodes.length),(10,bl ag2),(11,i64 (i:Int)),(12, .pt (n3+7) 1 0 0),(13,dO (g.nd i).dK),(14,i64 k),(15,bl σ.2),(16,i64 σ.1)])
      (fun σ H' n'=>n4≤n'∧σ.1≤(g.nd i).dK.length∧σ.2=(fy cls t (g.nd i) k||(fw T3 (g.nd i) k σ.1&&gN cls t (g.nd i) k))∧(∃d,bj H' (n3+7)=some (.row 46 13 d [(g.nd i).av]))∧nZ 12 ids T3 H'∧(∃d,bj H' 0=some (.row 25 3 d [u.av]))∧(∃d,bj H' 7=some (.row 40 4 d [g.av])))
      (fun σ=>(g.nd i).dK.length - σ.1) (0,if(if decide ((g.nd i).kind=9)=true then true else decide ((g.nd i).kind=5))=true then true else(if(if decide ((g.nd i).kind=2)=true then true else decide ((g.nd i).kind=4))=true then decide ((g.nd i).cP=(k:Int)) else false)) bt ⟨cH,Nat.zero_le _, ?_,⟨_,bk⟩,hT.cE fun x hx=> ?_,⟨_,bk⟩,⟨_,bk⟩⟩ ?_
     ·dsimp only
      unfold fy fw
      rw[hown]
      by_cases a1:(g.nd i).kind=9<;>by_cases a2:(g.nd i).kind=5<;>by_cases a3:(g.nd i).kind=2<;>by_cases a4:(g.nd i).kind=4<;>simp[a1,a2,a3,a4]<;>omega
     ·exact bu
     clear hT rn r0 r8
     rintro⟨q,is⟩ H5 n5 ⟨hn5,hq,his,⟨dn,rn⟩,hT,⟨d0,r0⟩,⟨d8,r8⟩⟩
     dsimp only at hq his ⊢
     have hfm:((g.nd i).dK.map i64).length=(g.nd i).dK.length:=by simp
     have hfl:=mO (g.nd i)
     unfold dO
     have hql:(gW ids (gX T3)).length=g.nodes.length:=by rw[hT.len,dN,hT3l]
     obtain⟨d7,r7⟩:=hT.row
     by_cases hql2:q<(g.nd i).dK.length
     ·have eq0:=fun d=>eS (l:=(g.nd i).dK) hql2 d
      obtain⟨y0,y1⟩:=(hw.2.2 i hi).2.2 _ (cC (0:Int) hql2)
      have han:=ki (T:=T3) (k:=k) hql2
      generalize (g.nd i).dK.getD q 0=y at *
      have hyS:y.toNat<(gX T3).length:=by rw[dN,hT3l];exact y1
      have hyT:y.toNat<T3.length:=by rw[hT3l];exact y1
      have hrow:=hgr.shape.row y.toNat y1
      obtain⟨di,ri⟩:=hT.qs y.toNat hyS
      have e1:=fun d=>hT.get hyS d
      rw[ft hyT] at ri e1
      rw[List.length_map,hrow] at e1
      have hrl:((T3.getD y.toNat []).map bl).length=N:=by rw[List.length_map,hrow]
      have e2:=fun d=>gR (l:=T3.getD y.toNat []) (k:=k) (by rw[hrow];exact hkN) d
      rw[show(T3.getD y.toNat []).getD k false=dY T3 y.toNat k from rfl] at e2
      have hxi:=hids (ids.getD y.toNat 0) (List.mem_cons_of_mem _ (ee (by rw[hle];exact y1)))
      have hne:=hT.ne hyS
      cases is with
      |true=>
       repeat' (first|((with_reducible refine aE ?_);conv=>whnf)|refine aG ?_|exact cN|with_reducible refine aD ?_ ?_|((with_reducible refine Ask.mk ?_);first|exact bw|(exact hfm)|exact br)|(apply aA;(·(first|exact eq0 _|exact bm)))|refine aH ?_|((with_reducible refine aB ?_ ?_)<;>intro hc<;>(try simp only[List.length_map,ne_eq,cD] at hc)<;>try(exfalso;omega)))
       exact⟨(q+1,true),by dsimp only;omega,bt,cH,by dsimp only;omega,by dsimp only;rw[han];revert his;cases fy cls t (g.nd i) k<;>cases fw T3 (g.nd i) k q<;>cases gN cls t (g.nd i) k<;>simp,⟨_,bk⟩,hT.cE fun x hx=>bu,⟨_,bk⟩,⟨_,bk⟩⟩
      |false=>
       cases hv:dY T3 y.toNat k with
       |false=>
        rw[hv] at e2
        repeat' (first|((with_reducible refine aE ?_);conv=>whnf)|refine aG ?_|exact cN|with_reducible refine aD ?_ ?_|((with_reducible refine Ask.mk ?_);first|exact bw|(exact hfm)|(exact hql)|(exact hrl)|exact br)|(apply aA;(·(first|exact eq0 _|exact e1 _|exact e2 _|exact bm)))|refine aH ?_|((with_reducible refine aB ?_ ?_)<;>intro hc<;>(try simp only[List.length_map,ne_eq,cD] at hc)<;>try(exfalso;omega)))
        exact⟨(q+1,false),by dsimp only;omega,bt,cH,by dsimp only;omega,by dsimp only;rw[han,hv,Bool.or_false];exact his,⟨_,bk⟩,hT.cE fun x hx=>bu,⟨_,bk⟩,⟨_,bk⟩⟩
       |true=>
        rw[hv] at e2
        have hval:(fy cls t (g.nd i) k||(fw T3 (g.nd i) k (q+1)&&gN cls t (g.nd i) k))= !(decide ((g.nd i).kind=3)&&decide ((g.nd i).cP=(k:Int))):=by
         rw[han,hv,Bool.or_true,Bool.true_and]
         have:fy cls t (g.nd i) k=false:=by revert his;cases fy cls t (g.nd i) k<;>simp
         rw[this,Bool.false_or];unfold gN;rw[hown];rfl
        repeat' (first|((with_reducible refine aE ?_);conv=>whnf)|refine aG ?_|exact cN|with_reducible refine aD ?_ ?_|((with_reducible refine Ask.mk ?_);first|exact bw|(exact hfm)|(exact hql)|(exact hrl)|exact br|(intro h;simp_all[Node.cells]<;>fail)|(simp_all[Node.cells]<;>fail))|(apply aA;(·(first|exact eq0 _|exact e1 _|exact e2 _|exact bm)))|refine aH ?_|((with_reducible refine aB ?_ ?_)<;>intro hc<;>(try simp only[List.length_map,ne_eq,cD] at hc)<;>try(exfalso;omega)))
        exact⟨(q+1, !(if decide ((g.nd i).kind=3)=true then decide ((g.nd i).cP=(k:Int)) else false)),by dsimp only;omega,bt,cH,by dsimp only;omega,by dsimp only;rw[hval];by_cases a:(g.nd i).kind=3<;>simp[a],⟨_,bk⟩,hT.cE fun x hx=>bu,⟨_,bk⟩,⟨_,bk⟩⟩
     ·have:q=(g.nd i).dK.length:=by omega
      subst this
      rw[l6,Bool.and_comm] at his
      have his2:is=eO g (fy cls t) (gN cls t) T3 i k:=his
      have hiS:i<(gX T3).length:=by rw[dN,hT3l];exact hi
      have hiT:i<T3.length:=by rw[hT3l];exact hi
      have hrow:=hgr.shape.row i hi
      obtain⟨di,ri⟩:=hT.qs i hiS
      have e1:∀d,(gW ids (gX T3)).getD (i:Int).toNat d= .sl (ids.getD i 0) N:=fun d=>by
       have:=hT.get hiS d
       rw[ft hiT,List.length_map,hrow] at this
       rw[Int.toNat_natCast];exact this
      rw[ft hiT] at ri
      have hrl:((T3.getD i []).map bl).length=N:=by rw[List.length_map,hrow]
      have e2:=fun d=>gR (l:=T3.getD i []) (k:=k) (by rw[hrow];exact hkN) d
      rw[show(T3.getD i []).getD k false=dY T3 i k from rfl] at e2
      have hxi:=hids (ids.getD i 0) (List.mem_cons_of_mem _ (ee (by rw[hle];exact hi)))
      have hne:=hT.ne hiS
      cases is with
      |false=>
       repeat' (first|((with_reducible refine aE ?_);conv=>whnf)|refine aG ?_|exact cN|with_reducible refine aD ?_ ?_|((with_reducible refine Ask.mk ?_);first|exact bw|(exact hfm)|exact br)|(apply aA;(·exact bm))|refine aH ?_|((with_reducible refine aB ?_ ?_)<;>intro hc<;>(try simp only[List.length_map,ne_eq,cD] at hc)<;>try(exfalso;omega)))
       exact⟨(T3,ag2,k+1),by dsimp only;omega,bt,cH,by dsimp only;omega,⟨_,bk⟩,hT.cE fun x hx=>bu,⟨_,bk⟩,⟨_,bk⟩,hgr,hfa,hmore T3 ag2 (fun h=>⟨rfl,h,fun hc=>by rw[←his2] at hc;cases hc⟩)⟩
      |true=>
       cases hv:dY T3 i k with
       |true=>
        rw[hv] at e2
        repeat' (first|((with_reducible refine aE ?_);conv=>whnf)|refine aG ?_|exact cN|with_reducible refine aD ?_ ?_|((with_reducible refine Ask.mk ?_);first|exact bw|(exact hfm)|(exact hql)|(exact hrl)|exact br)|(apply aA;(·(first|exact e1 _|exact e2 _|exact bm)))|refine aH ?_|((with_reducible refine aB ?_ ?_)<;>intro hc<;>(try simp only[List.length_map,ne_eq,cD] at hc)<;>try(exfalso;omega)))
        exact⟨(T3,ag2,k+1),by dsimp only;omega,bt,cH,by dsimp only;omega,⟨_,bk⟩,hT.cE fun x hx=>bu,⟨_,bk⟩,⟨_,bk⟩,hgr,hfa,hmore T3 ag2 (fun h=>⟨rfl,h,fun _=>hv⟩)⟩
       |false=>
        rw[hv] at e2
        have hfs:=kp hgr.shape hi hkN hv
        repeat' (first|((with_reducible refine aE ?_);conv=>whnf)|refine aG ?_|exact cN|with_reducible refine aD ?_ ?_|((with_reducible refine Ask.mk ?_);first|exact bw|(exact hfm)|(exact hql)|(exact hrl)|exact br)|(apply aA;(·(first|exact e1 _|exact e2 _|exact bm)))|refine aH ?_|((with_reducible refine aB ?_ ?_)<;>intro hc<;>(try simp only[List.length_map,ne_eq,cD] at hc)<;>try(exfalso;omega)))
        refine⟨(ka T3 i k,true,k+1),by dsimp only;omega,bt,cH,by dsimp only;omega,⟨_,bk⟩,hT.set hiT k ?_ ⟨_,bk⟩ (fun x hx hxn=> ?_),⟨_,bk⟩,⟨_,bk⟩,hgr.step hi hkN his2.symm, ?_,fun h=>by cases h⟩
        ·exact bu
        ·exact bu
        ·dsimp only
         simp only[if_true]
         omega
    ·have:k=N:=by omega
     subst this
     repeat' (first|((with_reducible refine aE ?_);conv=>whnf)|refine aG ?_|exact cN|with_reducible refine aD ?_ ?_|((with_reducible refine Ask.mk ?_);first|exact bw|(exact hsm)|exact br|(intro h;simp_all[bp.cells]<;>fail)|(simp_all[bp.cells]<;>fail))|(apply aA;(·exact bm))|refine aH ?_|((with_reducible refine aB ?_ ?_)<;>intro hc<;>(try simp only[List.length_map,ne_eq,cD] at hc)<;>try(exfalso;omega)))
     exact⟨(T3,ag2,i),by dsimp only;omega,bt,by omega,by dsimp only;omega,hT.cE fun x hx=>bu,⟨_,bk⟩,⟨_,bk⟩,hgr,hfa,fun h i' k' a1 a2 a3 a5=>hcl h i' k' a1 a2 a3 (fun _=>a3) a5⟩
end Go.Proofs.YtmonponfppdgfaaGreatDoor
end
section
/- Nodes that come back to themselves: the walk. -/
namespace Go.Proofs.YtmonponfppdgfaaGreatDoor
open Go Go.ch Go.Proofs
set_option linter.unusedSimpArgs false
set_option linter.unusedVariables false
theorem vI (l:List Bool) (hl:0<l.length) (hl2:l.length≤4096) (b:Nat) (H:Hp) (nx:Nat) (e:TypeId) (d:AV) (hb:bj H b=some (.row e 1 d (l.map bl))) (hbn:b<nx):
 cM Tryz.prog 78 [.sl b l.length] H nx (fun r H2 n2=>∃d2,r= .sl (nx+3) l.length∧nx+3<n2∧bj H2 (nx+3)=some (.row 4 1 d2 (l.map bl))∧∀y,y<nx→bj H2 y=bj H y):=by
 refine aL EZ rfl ?_
 have hml:(l.map bl).length=l.length:=by simp
 repeat' (first|((with_reducible refine aE ?_);conv=>whnf)|refine aG ?_|exact cN|with_reducible refine aD ?_ ?_|((with_reducible refine Ask.mk ?_);first|exact bw|(exact hml)|exact br)|(apply aA;(·exact bm))|refine aH ?_|((with_reducible refine aB ?_ ?_)<;>intro hc<;>(try simp only[List.length_map,ne_eq,cD] at hc)<;>try(exfalso;omega)))
 exact⟨⟨_,by simp,cH,bk,jk⟩⟩
open Classical in
noncomputable def eu (l:List Bool) (g:bo) (i:Nat):List Bool:=(List.range l.length).map fun j=>if j<i then tf l j&& !decide (zW l g j) else tf l j
theorem nS (l:List Bool) (g:bo) (i:Nat):(eu l g i).length=l.length:=by simp[eu]
theorem w9 (l:List Bool) (g:bo):eu l g 0=l:=by
 apply List.ext_getElem
 ·simp[eu]
 ·intro j h1 h2;simp[eu,tf,List.getD,h2]
theorem yY (l:List Bool) (g:bo):eu l g l.length=cx l g:=by
 apply List.ext_getElem
 ·simp[eu,cx]
 ·intro j h1 h2
  have:j<l.length:=by rw[nS] at h1;exact h1
  simp[eu,cx,this]
open Classical in
theorem mD {l:List Bool} {g:bo} {i:Nat} (h:tf l i=true→¬zW l g i):eu l g (i+1)=eu l g i:=by
 apply List.ext_getElem
 ·simp[eu]
 ·intro j h1 h2
  simp only[eu,List.getElem_map,List.getElem_range]
  by_cases hj:j=i
  ·subst hj
   rw[if_pos (by omega),if_neg (by omega)]
   cases ht:tf l j with
   |false=>rfl
   |true=>rw[decide_eq_false (h ht)];rfl
  ·by_cases h3:j<i
   ·rw[if_pos (by omega),if_pos h3]
   ·rw[if_neg (by omega),if_neg h3]
open Classical in
theorem yZ {l:List Bool} {g:bo} {i:Nat} (hi:i<l.length) (h:zW l g i):eu l g (i+1)=(eu l g i).set i false:=by
 apply List.ext_getElem
 ·simp[eu]
 ·intro j h1 h2
  rw[List.getElem_set]
  simp only[eu,List.getElem_map,List.getElem_range]
  by_cases hj:i=j
  ·subst hj
   rw[if_pos (by omega),if_pos rfl,decide_eq_true h];simp
  ·rw[if_neg hj]
   by_cases h3:j<i
   ·rw[if_pos (by omega),if_pos h3]
   ·rw[if_neg (by omega),if_neg h3]
structure BS (l:List Bool) (g:bo) (i k:Nat):Prop where
 ub:∀q,q≤k→tf l (iter g i q)=true
 not:∀q,1≤q→q≤k→iter g i q≠i
theorem pA {l:List Bool} {g:bo} {i k:Nat} (h:BS l g i k) (hend:l.length≤k∨tf l (iter g i (k+1))=false):¬zW l g i:=by
 intro hr
 obtain⟨p,h1,h2,h3,h4⟩:=A8 hr
 rcases hend with he|he
 ·exact h.not p h1 (by omega) h3
 ·by_cases hp:p≤k
  ·exact h.not p h1 hp h3
  ·by_cases hp2:p=k+1
   ·subst hp2
    rw[h3] at he
    have:=h.ub 0 (Nat.zero_le _)
    rw[show iter g i 0=i from rfl,he] at this;cases this
   ·rw[h4 (k+1) (by omega)] at he;cases he
set_option maxRecDepth 4000 in
set_option maxHeartbeats 8000000 in
theorem y3 (g:bo) (hg:g.Wf) (hw:Whole g) (t:Nat) (cls:List cB) (l:List Bool) (hlm:l.length=g.nodes.length) (hnx:∀j,tf l j=true→0≤(g.nd j).next∧(g.nd j).next<g.nodes.length) (b:Nat) (H:Hp) (nx:Nat) (d:AV) (hb:bj H b=some (.row 4 1 d (l.map bl))) (hbn:b<nx):
 cM Tryz.prog 45 [eH g t cls, .sl b g.nodes.length] H nx (fun r H2 n2=>∃b2 d2,r= .sl b2 g.nodes.length∧nx≤b2∧b2<n2∧bj H2 b2=some (.row 4 1 d2 ((cx l g).map bl))∧∀y,y<nx→bj H2 y=bj H y):=by
 have hl:=hg.len
 have hl0:=hw.1
 have hl1:=hw.2.1
 rw[←hlm] at hl hl0 hl1 hnx ⊢
 refine aL D4 rfl ?_
 have hml:(l.map bl).length=l.length:=by simp
 repeat' (first|((with_reducible refine aE ?_);conv=>whnf)|refine aG ?_|exact aC|with_reducible refine aD ?_ ?_|(apply aA;(·exact bm))|refine aH ?_|((with_reducible refine aB ?_ ?_)<;>intro hc<;>(try simp only[List.length_map,ne_eq,cD] at hc)<;>try(exfalso;omega)))
 refine aN (vI l (by omega) hl1 b _ _ 4 d bk cH) ?_
 rintro _ H1 n1 ⟨d1,rfl,hn1,r5,hk1⟩
 have hb1:bj H1 b=some (.row 4 1 d (l.map bl)):=(hk1 b cH).trans bk
 have hk2:∀y,y<nx→bj H1 y=bj H y:=fun y hy=>(hk1 y (Nat.lt_of_lt_of_le hy cH)).trans bu
 clear hk1
 repeat' (first|((with_reducible refine aE ?_);conv=>whnf)|refine aG ?_|exact cN|with_reducible refine aD ?_ ?_|((with_reducible refine Ask.mk ?_);first|exact bw|(exact hml)|exact br)|(apply aA;(·exact bm))|refine aH ?_|((with_reducible refine aB ?_ ?_)<;>intro hc<;>(try simp only[List.length_map,ne_eq,cD] at hc)<;>try(exfalso;omega)))
 have hz:eu l g 0=l:=w9 l g
 refine aI (fun i:Nat=>[(0,eH g t cls),(1, .sl b l.length),(5, .sl (nx+5) l.length),(12,i64 l.length),(13,i64 i)])
  (fun i H' n'=>i≤l.length∧n1≤n'∧(∃d,bj H' b=some (.row 4 1 d (l.map bl)))∧(∃d,bj H' (nx+5)=some (.row 4 1 d ((eu l g i).map bl)))∧∀y,y<nx→bj H' y=bj H y) (fun i=>l.length - i) 0 bt ⟨Nat.zero_le _,cH,⟨_,bk⟩,⟨_,by rw[hz];exact bk⟩,fun y hy=>Eq.trans bu (hk2 y hy)⟩ ?_
 clear r5 hb1 hk2 hb
 rintro i H2 n2 ⟨hi,hn2,⟨db,rb⟩,⟨d5,r5⟩,hk2⟩
 by_cases hil:i<l.length
 ·have el:=fun d=>gR (l:=l) (k:=i) hil d
  have hrl:((eu l g i).map bl).length=l.length:=by rw[List.length_map,nS]
  cases hti:tf l i with
  |false=>
   have hkp:=mD (l:=l) (g:=g) (i:=i) (fun h=>by rw[hti] at h;cases h)
   rw[show l.getD i false=false from hti] at el
   repeat' (first|((with_reducible refine aE ?_);conv=>whnf)|refine aG ?_|exact cN|with_reducible refine aD ?_ ?_|((with_reducible refine Ask.mk ?_);first|exact bw|(exact hml)|exact br)|(apply aA;(·(first|exact el _|exact bm)))|refine aH ?_|((with_reducible refine aB ?_ ?_)<;>intro hc<;>(try simp only[List.length_map,ne_eq,cD] at hc)<;>try(exfalso;omega)))
   exact⟨i+1,by omega,bt,by omega,by omega,⟨_,bk⟩,⟨_,by rw[hkp];exact bk⟩,fun y hy=>Eq.trans bu (hk2 y hy)⟩
  |true=>
   rw[show l.getD i false=true from hti] at el
   have en:=fun d=>dy (l:=g.nodes) (i:=i) (by rw[←hlm];exact hil) d
   have hnl:(g.nodes.map Node.av).length=l.length:=by rw[List.length_map,hlm]
   repeat' (first|((with_reducible refine aE ?_);conv=>whnf)|refine aG ?_|exact cN|with_reducible refine aD ?_ ?_|((with_reducible refine Ask.mk ?_);first|exact bw|(exact hml)|(rw[hnl];omega)|exact br|(intro h;simp_all[bz,Node.cells]<;>fail)|(simp_all[bz,Node.cells]<;>fail))|(apply aA;(·(first|exact el _|exact en _|exact bm)))|refine aH ?_|((with_reducible refine aB ?_ ?_)<;>intro hc<;>(try simp only[List.length_map,ne_eq,cD] at hc)<;>try(exfalso;omega)))
   refine aI (fun k:Nat=>[(0,eH g t cls),(1, .sl b l.length),(5, .sl (nx+5) l.length),(6,i64 i),(7,i64 (g.nd (iter g i k)).next),(8,i64 k),(12,i64 l.length),(13,i64 i)])
    (fun k H' n'=>k≤l.length∧n2≤n'∧BS l g i k∧(∃d,bj H' b=some (.row 4 1 d (l.map bl)))∧(∃d,bj H' (nx+5)=some (.row 4 1 d ((eu l g i).map bl)))∧∀y,y<nx→bj H' y=bj H y) (fun k=>l.length - k) 0 bt ⟨Nat.zero_le _,cH,⟨fun q hq=>by rw[show q=0 by omega];exact hti,fun q h1 h2=>by omega⟩,⟨_,bk⟩,⟨_,bk⟩,fun y hy=>Eq.trans bu (hk2 y hy)⟩ ?_
   clear rb r5 hk2
   rintro k H3 n3 ⟨hk,hn3,hra,⟨db,rb⟩,⟨d5,r5⟩,hk3⟩
   obtain⟨x0,x1⟩:=hnx _ (hra.ub k (Nat.le_refl _))
   have hx1:(g.nd (iter g i k)).next.toNat<l.length:=by omega
   have ex:∀d,(l.map bl).getD ((g.nd (iter g i k)).next).toNat d=bl (tf l (iter g i (k+1))):=fun d=>dJ bl l _ d hx1
   have em:∀d,(g.nodes.map Node.av).getD ((g.nd (iter g i k)).next).toNat d=(g.nd (iter g i (k+1))).av:=fun d=>dJ Node.av g.nodes _ d (by rw[←hlm];exact hx1)
   by_cases hkl:k<l.length
   ·have hkd:decide ((k:Int)<(l.length:Int))=true:=decide_eq_true (by omega)
    cases htk:tf l (iter g i (k+1)) with
    |false=>
     rw[htk] at ex
     have hkp:=mD (l:=l) (g:=g) (i:=i) (fun _=>pA hra (.inr htk))
     repeat' (first|((with_reducible refine aE ?_);conv=>whnf)|refine aG ?_|exact cN|with_reducible refine aD ?_ ?_|((with_reducible refine Ask.mk ?_);first|exact bw|(exact hml)|exact br|(intro h;simp_all[bz,Node.cells]<;>fail)|(simp_all[bz,Node.cells]<;>fail))|(apply aA;(·(first|exact ex _|exact bm)))|(simp only[hkd])|refine aH ?_|((with_reducible refine aB ?_ ?_)<;>intro hc<;>(try simp only[List.length_map,ne_eq,cD] at hc)<;>try(exfalso;omega)))
     exact⟨i+1,by omega,bt,by omega,by omega,⟨_,bk⟩,⟨_,by rw[hkp];exact bk⟩,fun y hy=>Eq.trans bu (hk3 y hy)⟩
    |true=>
     rw[htk] at ex
     by_cases hxi:(g.nd (iter g i k)).next=(i:Int)
     ·have hret:zW l g i:=⟨k+1,by omega,by show(g.nd (iter g i k)).next.toNat=i;omega,fun q hq=>hra.ub q (by omega)⟩
      have hst:=yZ hil hret
      have hsl:((eu l g i).map bl).set ((i:Nat):Int).toNat (bl false)=(eu l g (i+1)).map bl:=by rw[Int.toNat_natCast,hst,iZ]
      have eo:=fun d=>gR (l:=eu l g i) (k:=i) (by rw[nS];exact hil) d
      repeat' (first|((with_reducible refine aE ?_);conv=>whnf)|refine aG ?_|exact cN|with_reducible refine aD ?_ ?_|((with_reducible refine Ask.mk ?_);first|exact bw|(exact hml)|(exact hrl)|exact br|(intro h;simp_all[bz,Node.cells]<;>fail)|(simp_all[bz,Node.cells]<;>fail))|(apply aA;(·(first|exact ex _|exact el _|exact eo _|exact bm)))|(simp only[hkd])|(simp only[hxi])|refine aH ?_|((with_reducible refine aB ?_ ?_)<;>intro hc<;>(try simp only[List.length_map,ne_eq,cD] at hc)<;>try(exfalso;omega)))
      exact⟨i+1,by omega,bt,by omega,by omega,⟨_,bk⟩,⟨_,by rw[←hsl];exact bk⟩,fun y hy=>Eq.trans bu (hk3 y hy)⟩
     ·repeat' (first|((with_reducible refine aE ?_);conv=>whnf)|refine aG ?_|exact cN|with_reducible refine aD ?_ ?_|((with_reducible refine Ask.mk ?_);first|exact bw|(exact hml)|(rw[hnl];omega)|exact br|(intro h;simp_all[bz,Node.cells]<;>fail)|(simp_all[bz,Node.cells]<;>fail))|(apply aA;(·(first|exact ex _|exact em _|exact bm)))|(simp only[hkd])|refine aH ?_|((with_reducible refine aB ?_ ?_)<;>intro hc<;>(try simp only[List.length_map,ne_eq,cD] at hc)<;>try(exfalso;omega)))
      refine⟨k+1,by omega,bt,by omega,by omega,⟨fun q hq=> ?_,fun q h1 h2=> ?_⟩,⟨_,bk⟩,⟨_,bk⟩,fun y hy=>Eq.trans bu (hk3 y hy)⟩
      ·by_cases e:q=k+1
       ·rw[e];exact htk
       ·exact hra.ub q (by omega)
      ·by_cases e:q=k+1
       ·rw[e];intro h
        apply hxi
        have h:(g.nd (iter g i k)).next.toNat=i:=h
        omega
       ·exact hra.not q h1 (by omega)
   ·have hkp:=mD (l:=l) (g:=g) (i:=i) (fun _=>pA hra (.inl (by omega)))
    repeat' (first|((with_reducible refine aE ?_);conv=>whnf)|refine aG ?_|exact cN|with_reducible refine aD ?_ ?_|((with_reducible refine Ask.mk ?_);first|exact bw|(exact hml)|exact br|(intro h;simp_all[bz,Node.cells]<;>fail)|(simp_all[bz,Node.cells]<;>fail))|(apply aA;(·(first|exact ex _|exact bm)))|refine aH ?_|((with_reducible refine aB ?_ ?_)<;>intro hc<;>(try simp only[List.length_map,ne_eq,cD] at hc)<;>try(exfalso;omega)))
    exact⟨i+1,by omega,bt,by omega,by omega,⟨_,bk⟩,⟨_,by rw[hkp];exact bk⟩,fun y hy=>Eq.trans bu (hk3 y hy)⟩
 ·have:i=l.length:=by omega
  subst this
  rw[yY] at r5
  repeat' (first|((with_reducible refine aE ?_);conv=>whnf)|refine aG ?_|exact aC|with_reducible refine aD ?_ ?_|(apply aA;(·exact bm))|refine aH ?_|((with_reducible refine aB ?_ ?_)<;>intro hc<;>(try simp only[List.length_map,ne_eq,cD] at hc)<;>try(exfalso;omega)))
  exact⟨⟨nx+5,d5,rfl,by omega,cH,bk,fun y hy=>Eq.trans bu (hk2 y hy)⟩⟩
theorem mV {u:bp} {g:bo} (hk:dL u g) {cls:List cB} {t j:Nat} (h:tf (jy g cls t) j=true):0≤(g.nd j).next∧(g.nd j).next<g.nodes.length:=by
 have hj:j<g.nodes.length:=by have:=ry h;rw[k9] at this;exact this
 have hs:dC g cls t j=true:=by simpa[tf,jy,dW,List.getD,hj] using h
 have hno:=hk.node hj
 have hkk:(g.nd j).kind=1∨(g.nd j).kind=2∨(g.nd j).kind=3∨(g.nd j).kind=8:=by
  unfold dC at hs
  dsimp only at hs
  rw[Bool.and_eq_true] at hs
  obtain⟨_,hs⟩:=hs
  split at hs
  ·omega
  ·split at hs
   ·omega
   ·split at hs
    ·omega
    ·split at hs
     ·omega
     ·cases hs
 exact hno.next.1 (by unfold eF;exact decide_eq_true (by omega))
theorem tR (u:bp) (g:bo) (hg:g.Wf) (hk:dL u g) (t:Nat) (cls:List cB) (hcl:cls.length=u.shared.length) (hcl64:cls.length≤64) (H:Hp) (nx:Nat):
 cM Tryz.prog 23 [eH g t cls] H nx (fun r H2 n2=>∃b2 d2,r= .sl b2 g.nodes.length∧nx≤b2∧b2<n2∧bj H2 b2=some (.row 4 1 d2 ((eG g cls t).map bl))∧∀y,y<nx→bj H2 y=bj H y):=
 BD u g hg hk t cls hcl hcl64 H nx fun b H' n' d hb hbn=>y3 g hg hk.whole t cls (jy g cls t) (k9 g cls t) (fun j hj=>mV hk hj) b H' n' d hb hbn
end Go.Proofs.YtmonponfppdgfaaGreatDoor
end
