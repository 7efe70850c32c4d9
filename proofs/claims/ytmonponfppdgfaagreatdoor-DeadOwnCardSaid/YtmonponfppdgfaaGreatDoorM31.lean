import Derived.Test.YtmonponfppdgfaaGreatDoorM30
namespace Go.Proofs.YtmonponfppdgfaaGreatDoor
open Go Go.dD Go.Proofs
set_option linter.unusedSimpArgs false
set_option linter.unusedVariables false
def fJ (T:gx):List (List AV):=T.map fun l=>l.map bl
abbrev lp (b:Nat) (ids:List Nat) (T:gx) (H:Hp):Prop:=ui 26 4 1 b ids (fJ T) H
theorem dC (T:gx):(fJ T).length=T.length:=by simp[fJ]
theorem eZ {T:gx} {i:Nat} (h:i<T.length):(fJ T).getD i []=(T.getD i []).map bl:=by simp[fJ,List.getD,h]
theorem ou {b:Nat} {ids:List Nat} {T:gx} {H:Hp} (h:lp b ids T H) (k:Nat):dD.de H (k+2) (.sl b T.length)= .im 1 .any (T.map fE):=by
 obtain⟨d,h1⟩:=h.row
 rw[dM h1 (by rw[h.len,dC])]
 congr 1
 apply List.ext_getElem
 ·rw[List.length_map,h.len,dC,List.length_map]
 ·intro i h2 h3
  have hi:i<T.length:=by simpa using h3
  have hi2:i<(fJ T).length:=by rw[dC];exact hi
  rw[List.getElem_map,List.getElem_map]
  have e1:(gE ids (fJ T))[i]'(by rw[h.len];exact hi2)= .sl (ids.getD i 0) ((fJ T).getD i []).length:=by
   rw[<-h.get hi2 .any];exact(gd _ _).symm
  rw[e1,eZ hi]
  obtain⟨d2,h4⟩:=h.qs i hi2
  rw[eZ hi] at h4
  rw[dM h4 rfl,cf _ (jd _ _),gd hi]
  rfl
theorem ft {b:Nat} {ids:List Nat} {T:gx} {H:Hp} {m n:Nat} (h:lp b ids T H) (hT:Shape T m n) (nd:Node) (hl:∀to∈nd.dQ,0<=to/\to.toNat<m) (k:Nat) (hk:k<n) (nx:Nat):kW Tryz.prog 43 [.sl b m,nd.av,i64 k] H nx (bl (kX T nd k)):=by
 refine Pure.view (args2:=[.im 1 .any (T.map fE),nd.av,i64 k]) (pq hT nd hl k hk) ?_ ?_ trivial ⟨rfl,fun _ _=>rfl⟩
 ·rw[List.map_cons,List.map_cons,List.map_cons,List.map_nil,<-hT.len,ou h,dB 6 (by simp[cJ]),dB 6 (by simp[cJ])]
 ·have:cL 0 (T.map fE):=(cK _ _).2 fun _ _=>by simp[fE,cJ,cK]
  simp only[cL,cJ]
  exact⟨this,wM _ _,trivial,trivial⟩
theorem IX {ids:List Nat} {S S2:List (List AV)} (h:S.map List.length=S2.map List.length):gE ids S=gE ids S2:=by
 have:∀(ids:List Nat) (S:List (List AV)),gE ids S=List.zipWith (fun x n=>AV.sl x n) ids (S.map List.length):=by
  intro ids S
  simp[gE,List.zipWith_map_right]
 rw[this,this,h]
theorem JG {T:gx} {i k:Nat}:(lA T i k).map List.length=T.map List.length:=by
 apply List.ext_getElem
 ·simp[lA]
 ·intro j h1 h2
  have hj:j<T.length:=by simpa using h2
  simp only[List.getElem_map,lA,List.getElem_set]
  split
  ·rename_i e;subst e;rw[List.length_set,gd hj]
  ·rfl
theorem yF (T:gx):(fJ T).map List.length=T.map List.length:=by simp[fJ,Function.comp_def]
theorem lp.set {b:Nat} {ids:List Nat} {T:gx} {H H':Hp} (h:lp b ids T H) {i:Nat} (hi:i<T.length) (k:Nat) (h1:bk H' b=bk H b)
 (h2:∃d,bk H' (ids.getD i 0)=some (.row 4 1 d (((T.getD i []).map bl).set k (bl true)))) (h3:∀x∈ids,x≠ids.getD i 0->bk H' x=bk H x):lp b ids (lA T i k) H':=by
 have el:(lA T i k).length=T.length:=by simp[lA]
 have hl:ids.length=T.length:=by rw[h.lens,dC]
 refine⟨?_,fun j hj=> ?_,by rw[hl,dC,el],h.nodup⟩
 ·obtain⟨d,hr⟩:=h.row
  exact⟨d,(h1.trans hr).trans (by rw[show gE ids (fJ (lA T i k))=gE ids (fJ T) from IX (by rw[yF,yF,JG])])⟩
 ·rw[dC,el] at hj
  have hjS:j<(fJ T).length:=by rw[dC];exact hj
  rw[eZ (by rw[el];exact hj)]
  unfold lA
  rw[cw]
  by_cases e:i=j
  ·subst e
   rw[if_pos ⟨rfl,hi⟩]
   obtain⟨d,h4⟩:=h2
   exact⟨d,by rw[h4,iK]⟩
  ·rw[if_neg (fun h=>e h.1)]
   obtain⟨d,h4⟩:=h.qs j hjS
   rw[eZ hj] at h4
   exact⟨d,(h3 _ (dP (by rw[hl];exact hj)) (h.other (by rw[dC];exact hi) hjS (Ne.symm e))).trans h4⟩
structure BG (b:Nat) (ids:List Nat) (m n:Nat) (H:Hp) (nx:Nat):Prop where
 row:∃d,bk H b=some (.row 26 1 d (ids.map (fun x=>AV.sl x n)++List.replicate (m - ids.length) (.sc (.slice none 0 0))))
 each:∀x∈ids,∃d,bk H x=some (.row 4 1 d (List.replicate n (bl false)))
 lt:∀x∈ids,b<x/\x<nx
 nodup:ids.Nodup
theorem BG.fin {b:Nat} {ids:List Nat} {m n:Nat} {H:Hp} {nx:Nat} (h:BG b ids m n H nx) (hl:ids.length=m):lp b ids (lD m n) H:=by
 have ez:fJ (lD m n)=List.replicate m (List.replicate n (bl false)):=by simp[fJ,lD]
 refine⟨?_,fun i hi=> ?_,by rw[ez,List.length_replicate,hl],List.nodup_cons.2 ⟨fun hm=>by have:=(h.lt b hm).1;omega,h.nodup⟩⟩
 ·obtain⟨d,h1⟩:=h.row
  refine⟨d, ?_⟩
  rw[h1,ez,hl,Nat.sub_self,List.replicate_zero,List.append_nil]
  congr 3
  apply List.ext_getElem
  ·simp[gE,hl]
  ·intro i h2 h3;simp[gE]
 ·rw[ez] at hi ⊢
  rw[List.length_replicate] at hi
  have e1:(List.replicate m (List.replicate n (bl false))).getD i []=List.replicate n (bl false):=by simp[List.getD,List.getElem?_replicate,hi]
  rw[e1]
  exact h.each _ (dP (by rw[hl];exact hi))
theorem qt {ids:List Nat} {m n x:Nat} (h:ids.length<m):(ids.map (fun x=>AV.sl x n)++List.replicate (m - ids.length) (AV.sc (.slice none 0 0))).set ids.length (.sl x n)=(ids++[x]).map (fun x=>AV.sl x n)++List.replicate (m - (ids++[x]).length) (AV.sc (.slice none 0 0)):=by
 rw[List.set_append,if_neg (by simp),List.length_map,Nat.sub_self,show m - ids.length=(m - (ids++[x]).length)+1 by simp;omega,List.replicate_succ]
 simp
theorem mu {ids:List Nat} {m n:Nat} (h:ids.length<=m):(ids.map (fun x=>AV.sl x n)++List.replicate (m - ids.length) (AV.sc (.slice none 0 0))).length=m:=by simp;omega
theorem qq {ids:List Nat} {m n:Nat} (h:ids.length<m) (d:AV):(ids.map (fun x=>AV.sl x n)++List.replicate (m - ids.length) (AV.sc (.slice none 0 0))).getD ids.length d= .sc (.slice none 0 0):=by
 rw[List.getD,List.getElem?_append_right (by simp),List.length_map,Nat.sub_self]
 rw[List.getElem?_replicate,if_pos (by omega)];rfl
structure qc (b:Nat) (T:gx) (H0:Hp) (nx:Nat) (H:Hp) (n:Nat):Prop where
 at_:∃ids,lp b ids T H/\∀x∈b::ids,nx<=x/\x<n
 cH:∀y,y<nx->bk H y=bk H0 y
 le:nx<=n
set_option maxRecDepth 4000 in
set_option maxHeartbeats 8000000 in
theorem ym (g:br) (hg:g.Wf) (hw:Whole g) (t:Nat) (cls:List cF) (N:Nat) (hN:N<=4160) (fb fk:FuncId) (jJ cH:Node->Nat->Bool) (H:Hp) (nx:Nat)
 (hbeg:∀i,i<g.nodes.length->∀k,k<N->∀H' nx',nx<=nx'->(∀y,y<nx->bk H' y=bk H y)->kW Tryz.prog fb ((g.nd i).av::i64 k::[]) H' nx' (bl (jJ (g.nd i) k)))
 (hkeep:∀i,i<g.nodes.length->∀k,k<N->∀H' nx',nx<=nx'->(∀y,y<nx->bk H' y=bk H y)->kW Tryz.prog fk ((g.nd i).av::i64 k::[]) H' nx' (bl (cH (g.nd i) k))):
 cM Tryz.prog 63 [eG g t cls,i64 N, .fn (.func fb) [] [], .fn (.func fk) [] []] H nx (fun r H' n'=>r= .sl (nx+7) g.nodes.length/\qc (nx+7) (oL g jJ cH N) H nx H' n'):=by
 have hl:=hg.len
 have hl0:=hw.1
 have hl1:=hw.2.1
 refine aI CT rfl ?_
 repeat' (first|refine aQ ?_|exact cP|with_reducible refine aB ?_ ?_|((with_reducible refine Ask.mk ?_);first|exact bx|exact bt|(intro h;simp_all[cB]<;>fail)|(simp_all[cB]<;>fail))|(apply aA;(·exact bp))|refine aH ?_|((with_reducible refine aE ?_ ?_)<;>intro hc<;>try(exfalso;omega)))
 simp only[List.length_map,Int.toNat_natCast]
 refine aF (fun ids:List Nat=>[(0,eG g t cls),(1,i64 N),(2, .fn (.func fb) [] []),(3, .fn (.func fk) [] []),(9, .sl (nx+7) g.nodes.length),(23,i64 g.nodes.length),(24,i64 ids.length)])
  (fun ids H' n'=>ids.length<=g.nodes.length/\nx+12<=n'/\BG (nx+7) ids g.nodes.length N H' n'/\∀y,y<nx->bk H' y=bk H y) (fun ids=>g.nodes.length - ids.length) [] bu ⟨Nat.zero_le _,cI,⟨⟨_,bm⟩,fun x h=>by simp at h,fun x h=>by simp at h,List.nodup_nil⟩,fun y hy=>bw⟩ ?_
 rintro ids H1 n1 ⟨hi,hn1,hp,hk1⟩
 by_cases hil:ids.length<g.nodes.length
 ·obtain⟨d7,r7⟩:=hp.row
  have e1:=fun d=>qq (m:=g.nodes.length) (n:=N) hil d
  have e2:=mu (m:=g.nodes.length) (n:=N) hi
  repeat' (first|refine aQ ?_|exact cP|with_reducible refine aB ?_ ?_|((with_reducible refine Ask.mk ?_);first|exact bx|(exact e2)|exact bt)|(apply aA;(·(first|exact e1 _|exact bp)))|refine aH ?_|((with_reducible refine aE ?_ ?_)<;>intro hc<;>try(exfalso;omega)))
  have hlt:=hp.lt
  refine⟨ids++[n1+6],by simp;omega,bu,by simp;omega,cI,⟨⟨_,by rw[<-qt hil];exact bm⟩,fun x hx=> ?_,fun x hx=> ?_, ?_⟩,fun y hy=>Eq.trans bw (hk1 y hy)⟩
  ·rcases List.mem_append.1 hx with hx|hx
   ·obtain⟨d,h1⟩:=hp.each x hx
    have:=hlt x hx
    exact⟨d,Eq.trans bw h1⟩
   ·simp only[List.mem_cons,List.not_mem_nil,or_false] at hx
    subst hx
    exact⟨_,bm⟩
  ·rcases List.mem_append.1 hx with hx|hx
   ·have:=hlt x hx
    exact⟨this.1,Nat.lt_of_lt_of_le this.2 cI⟩
   ·simp only[List.mem_cons,List.not_mem_nil,or_false] at hx
    subst hx
    exact⟨by omega,cI⟩
  ·refine List.nodup_append.2 ⟨hp.nodup,by simp,fun x hx y hy=> ?_⟩
   simp only[List.mem_cons,List.not_mem_nil,or_false] at hy
   have:=(hlt x hx).2
   omega
 ·have hle:ids.length=g.nodes.length:=by omega
  have hfin:=hp.fin hle
  have hlt:=hp.lt
  have hgr:=jR.start g jJ cH N
  repeat' (first|refine aQ ?_|exact aC|with_reducible refine aB ?_ ?_|(apply aA;(·exact bp))|refine aH ?_|((with_reducible refine aE ?_ ?_)<;>intro hc<;>try(exfalso;omega)))
  have hids:∀x∈(nx+7)::ids,nx<=x/\x<n1:=fun x hx=>by
   rcases List.mem_cons.1 hx with rfl|hx
   ·omega
   ·have:=hlt x hx;omega
  clear hp hlt
  refine aF (fun s:gx×Bool=>[(0,eG g t cls),(1,i64 N),(2, .fn (.func fb) [] []),(3, .fn (.func fk) [] []),(9, .sl (nx+7) g.nodes.length),(11,bl s.2)])
   (fun s H' n'=>n1<=n'/\lp (nx+7) ids s.1 H'/\(∀y,y<nx->bk H' y=bk H y)/\jR g jJ cH N s.1/\(s.2=false->∀i k,i<g.nodes.length->k<N->eY g jJ cH s.1 i k=true->dj s.1 i k=true))
   (fun s=>fC s.1+if s.2=true then 1 else 0) (lD g.nodes.length N,true) bu ⟨cI,hfin.cH fun x hx=> ?_,fun y hy=>Eq.trans bw (hk1 y hy),hgr,fun h=>by cases h⟩ ?_
  ·exact bw
  clear hfin hgr hk1
  rintro⟨T,again⟩ H2 n2 ⟨hn2,hT,hk2,hgr,hcl⟩
  dsimp only at hT hgr hcl ⊢
  cases again with
  |false=>
   have hfin:=hgr.fin hw (hcl rfl)
   repeat' (first|refine aQ ?_|exact aC|with_reducible refine aB ?_ ?_|(apply aA;(·exact bp))|refine aH ?_|((with_reducible refine aE ?_ ?_)<;>intro hc<;>try(exfalso;omega)))
   refine⟨rfl,⟨⟨ids, ?_,fun x hx=>⟨(hids x hx).1,Nat.lt_of_lt_of_le (hids x hx).2 cI⟩⟩,fun y hy=>Eq.trans bw (hk2 y hy),cI⟩⟩
   rw[<-hfin]
   exact hT.cH fun x hx=>bw
  |true=>
   have hTl:=hgr.shape.len
   have hql:(gE ids (fJ T)).length=g.nodes.length:=by rw[hT.len,dC,hTl]
   obtain⟨d7,r7⟩:=hT.row
   repeat' (first|refine aQ ?_|exact cP|with_reducible refine aB ?_ ?_|((with_reducible refine Ask.mk ?_);first|exact bx|(exact hql)|exact bt)|(apply aA;(·exact bp))|refine aH ?_|((with_reducible refine aE ?_ ?_)<;>intro hc<;>try(exfalso;omega)))
   refine aF (fun s:gx×Bool×Nat=>[(0,eG g t cls),(1,i64 N),(2, .fn (.func fb) [] []),(3, .fn (.func fk) [] []),(9, .sl (nx+7) g.nodes.length),(11,bl s.2.1),(12,i64 ((s.2.2:Int) - 1))])
    (fun s H' n'=>n1<=n'/\s.2.2<=g.nodes.length/\lp (nx+7) ids s.1 H'/\(∀y,y<nx->bk H' y=bk H y)/\jR g jJ cH N s.1/\(fC s.1+if s.2.1=true then 1 else 0)<=fC T/\(s.2.1=false->∀i k,s.2.2<=i->i<g.nodes.length->k<N->eY g jJ cH s.1 i k=true->dj s.1 i k=true))
    (fun s=>s.2.2) (T,false,g.nodes.length) bu ⟨cI,Nat.le_refl _,hT.cH fun x hx=> ?_,fun y hy=>Eq.trans bw (hk2 y hy),hgr,by simp,fun _ i k h1 h2=>absurd h1 (by dsimp only;omega)⟩ ?_
   ·exact bw
   clear hT hk2 hgr hcl r7 hql
   rintro⟨T2,ag,j⟩ H3 n3 ⟨hn3,hj,hT,hk3,hgr,hfa,hcl⟩
   dsimp only at hj hT hgr hfa hcl ⊢
   have hT2l:=hgr.shape.len
   cases j with
   |zero=>
    repeat' (first|refine aQ ?_|exact aC|with_reducible refine aB ?_ ?_|(apply aA;(·exact bp))|refine aH ?_|((with_reducible refine aE ?_ ?_)<;>intro hc<;>try(exfalso;omega)))
    exact⟨(T2,ag),by dsimp only;rw[if_pos rfl];omega,bu,cI,hT.cH fun x hx=>bw,fun y hy=>Eq.trans bw (hk3 y hy),hgr,fun h i k h1 h2=>hcl h i k (Nat.zero_le _) h1 h2⟩
   |succ i=>
    have hi:i<g.nodes.length:=by omega
    have ei:((i+1:Nat):Int) - 1=(i:Int):=by omega
    have en:=fun d=>eH hi d
    rw[ei]
    repeat' (first|refine aQ ?_|exact cP|with_reducible refine aB ?_ ?_|((with_reducible refine Ask.mk ?_);first|exact bx|exact bt|(intro h;simp_all[Node.cells,cB]<;>fail)|(simp_all[Node.cells,cB]<;>fail))|(apply aA;(·(first|exact en _|exact bp)))|refine aH ?_|((with_reducible refine aE ?_ ?_)<;>intro hc<;>try(exfalso;omega)))
    refine aF (fun s:gx×Bool×Nat=>[(0,eG g t cls),(1,i64 N),(2, .fn (.func fb) [] []),(3, .fn (.func fk) [] []),(9, .sl (nx+7) g.nodes.length),(11,bl s.2.1),(12,i64 (i:Int)),(13, .pt (n3+10) 1 0 0),(49,i64 N),(50,i64 s.2.2)])
     (fun s H' n'=>n3+11<=n'/\s.2.2<=N/\(∃d,bk H' (n3+10)=some (.row 46 13 d [(g.nd i).av]))/\lp (nx+7) ids s.1 H'/\(∀y,y<nx->bk H' y=bk H y)/\jR g jJ cH N s.1/\(fC s.1+if s.2.1=true then 1 else 0)<=fC T/\(s.2.1=false->∀i' k,i<=i'->i'<g.nodes.length->k<N->(i'=i->k<s.2.2)->eY g jJ cH s.1 i' k=true->dj s.1 i' k=true))
     (fun s=>N - s.2.2) (T2,ag,0) bu ⟨cI,Nat.zero_le _,⟨_,bm⟩,hT.cH fun x hx=> ?_,fun y hy=>Eq.trans bw (hk3 y hy),hgr,hfa,fun h i' k h1 h2 h3 h4=>hcl h i' k (Classical.byContradiction fun hx=>Nat.not_lt_zero _ (h4 (by omega))) h2 h3⟩ ?_
    ·have:=hids x hx;exact bw
    clear hT hk3 hgr hfa hcl hT2l
    rintro⟨T3,ag2,k⟩ H4 n4 ⟨hn4,hk,⟨dn,rn⟩,hT,hk4,hgr,hfa,hcl⟩
    dsimp only at hk hT hgr hfa hcl ⊢
    have hT3l:=hgr.shape.len
    by_cases hkN:k<N
    ·have hiS:i<(fJ T3).length:=by rw[dC,hT3l];exact hi
     have hiT:i<T3.length:=by rw[hT3l];exact hi
     have hql:(gE ids (fJ T3)).length=g.nodes.length:=by rw[hT.len,dC,hT3l]
     have hrow:=hgr.shape.row i hi
     obtain⟨d7,r7⟩:=hT.row
     obtain⟨di,ri⟩:=hT.qs i hiS
     have e1:=fun d=>hT.get hiS d
     rw[eZ hiT] at ri e1
     rw[List.length_map,hrow] at e1
     have hrl:((T3.getD i []).map bl).length=N:=by rw[List.length_map,hrow]
     have e2:=fun d=>gS (l:=T3.getD i []) (k:=k) (by rw[hrow];exact hkN) d
     have hfol:=(hw.2.2 i hi).2.2
     have hxi:=hids (ids.getD i 0) (List.mem_cons_of_mem _ (dP (by rw[hle];exact hi)))
     have hne:=hT.ne hiS
     repeat' (first|refine aQ ?_|exact cP|with_reducible refine aB ?_ ?_|((with_reducible refine Ask.mk ?_);first|exact bx|(exact hql)|(exact hrl)|exact bt)|(apply aA;(·(first|exact e1 _|exact e2 _|exact bp)))|((refine aS (hbeg i hi k hkN _ _ cI (fun y hy=>Eq.trans bw (hk4 y hy))) ?_ ?_);(·exact True.intro))|((refine aR (fun _=>hbeg i hi k hkN _ _ cI (fun y hy=>Eq.trans bw (hk4 y hy))) ?_ ?_);(·exact True.intro))|((refine aS (hkeep i hi k hkN _ _ cI (fun y hy=>Eq.trans bw (hk4 y hy))) ?_ ?_);(·exact True.intro))|((refine aR (fun _=>hkeep i hi k hkN _ _ cI (fun y hy=>Eq.trans bw (hk4 y hy))) ?_ ?_);(·exact True.intro))|((refine aS (ft (hT.cH fun x hx=>bw) hgr.shape (g.nd i) hfol k hkN _) ?_ ?_);(·exact True.intro))|((refine aR (fun _=>ft (hT.cH fun x hx=>bw) hgr.shape (g.nd i) hfol k hkN _) ?_ ?_);(·exact True.intro))|refine aH ?_|((with_reducible refine aE ?_ ?_)<;>intro hc<;>try(exfalso;omega)))
     ·refine⟨(T3,ag2,k+1),by dsimp only;omega,bu,by omega,by dsimp only;omega,⟨_,bm⟩,hT.cH fun x hx=> ?_,fun y hy=>Eq.trans bw (hk4 y hy),hgr,hfa,fun h i' k' a1 a2 a3 a4 a5=> ?_⟩
      ·exact bw
      ·by_cases e:i'=i/\k'=k
       ·obtain⟨rfl,rfl⟩:=e
        unfold eY at a5
        rcases hc with hc|⟨c1,c2|c2⟩
        ·exact hc
        ·rw[c1,c2] at a5;cases a5
        ·rw[c1,c2,Bool.and_false] at a5;cases a5
       ·refine hcl h i' k' a1 a2 a3 (fun e2=> ?_) a5
        have:=a4 e2
        have:¬k'=k:=fun e3=>e ⟨e2,e3⟩
        dsimp only at *
        omega
     ·have hf0:dj T3 i k=false:=hc.1
      have hcell:eY g jJ cH T3 i k=true:=by
       unfold eY
       rcases hc.2 with c1|⟨c1,c2⟩
       ·rw[Bool.not_eq_false] at c1;rw[c1];rfl
       ·rw[c1,c2];simp
      have hfs:=lO hgr.shape hi hkN hf0
      refine⟨(lA T3 i k,true,k+1),by dsimp only;omega,bu,by omega,by dsimp only;omega,⟨_,bm⟩,hT.set hiT k ?_ ⟨_,bm⟩ (fun x hx hxn=> ?_),fun y hy=>Eq.trans bw (hk4 y hy),hgr.step hi hkN hcell, ?_,fun h=>by cases h⟩
      ·exact bw
      ·exact bw
      ·dsimp only
       rw[if_pos rfl]
       omega
    ·have:k=N:=by omega
     subst this
     repeat' (first|refine aQ ?_|exact aC|with_reducible refine aB ?_ ?_|(apply aA;(·exact bp))|refine aH ?_|((with_reducible refine aE ?_ ?_)<;>intro hc<;>try(exfalso;omega)))
     exact⟨(T3,ag2,i),by dsimp only;omega,bu,by omega,by dsimp only;omega,hT.cH fun x hx=>bw,fun y hy=>Eq.trans bw (hk4 y hy),hgr,hfa,fun h i' k' a1 a2 a3 a5=>hcl h i' k' a1 a2 a3 (fun _=>a3) a5⟩
set_option maxRecDepth 4000 in
set_option maxHeartbeats 8000000 in
theorem w7 (g:br) (hg:g.Wf) (hw:Whole g) (t:Nat) (cls:List cF) (N:Nat) (hN:N<=4160) (fb fk:FuncId) (bb:Nat) (jJ cH:Node->Nat->Bool) (H:Hp) (nx:Nat)
 (hbeg:∀i,i<g.nodes.length->∀k,k<N->∀H' nx',nx<=nx'->(∀y,y<nx->bk H' y=bk H y)->kW Tryz.prog fb ((g.nd i).av::i64 k::[.pt bb 1 0 0]) H' nx' (bl (jJ (g.nd i) k)))
 (hkeep:∀i,i<g.nodes.length->∀k,k<N->∀H' nx',nx<=nx'->(∀y,y<nx->bk H' y=bk H y)->kW Tryz.prog fk ((g.nd i).av::i64 k::[.pt bb 1 0 0]) H' nx' (bl (cH (g.nd i) k))):
 cM Tryz.prog 63 [eG g t cls,i64 N, .fn (.func fb) [] [.pt bb 1 0 0], .fn (.func fk) [] [.pt bb 1 0 0]] H nx (fun r H' n'=>r= .sl (nx+7) g.nodes.length/\qc (nx+7) (oL g jJ cH N) H nx H' n'):=by
 have hl:=hg.len
 have hl0:=hw.1
 have hl1:=hw.2.1
 refine aI CT rfl ?_
 repeat' (first|refine aQ ?_|exact cP|with_reducible refine aB ?_ ?_|((with_reducible refine Ask.mk ?_);first|exact bx|exact bt|(intro h;simp_all[cB]<;>fail)|(simp_all[cB]<;>fail))|(apply aA;(·exact bp))|refine aH ?_|((with_reducible refine aE ?_ ?_)<;>intro hc<;>try(exfalso;omega)))
 simp only[List.length_map,Int.toNat_natCast]
 refine aF (fun ids:List Nat=>[(0,eG g t cls),(1,i64 N),(2, .fn (.func fb) [] [.pt bb 1 0 0]),(3, .fn (.func fk) [] [.pt bb 1 0 0]),(9, .sl (nx+7) g.nodes.length),(23,i64 g.nodes.length),(24,i64 ids.length)])
  (fun ids H' n'=>ids.length<=g.nodes.length/\nx+12<=n'/\BG (nx+7) ids g.nodes.length N H' n'/\∀y,y<nx->bk H' y=bk H y) (fun ids=>g.nodes.length - ids.length) [] bu ⟨Nat.zero_le _,cI,⟨⟨_,bm⟩,fun x h=>by simp at h,fun x h=>by simp at h,List.nodup_nil⟩,fun y hy=>bw⟩ ?_
 rintro ids H1 n1 ⟨hi,hn1,hp,hk1⟩
 by_cases hil:ids.length<g.nodes.length
 ·obtain⟨d7,r7⟩:=hp.row
  have e1:=fun d=>qq (m:=g.nodes.length) (n:=N) hil d
  have e2:=mu (m:=g.nodes.length) (n:=N) hi
  repeat' (first|refine aQ ?_|exact cP|with_reducible refine aB ?_ ?_|((with_reducible refine Ask.mk ?_);first|exact bx|(exact e2)|exact bt)|(apply aA;(·(first|exact e1 _|exact bp)))|refine aH ?_|((with_reducible refine aE ?_ ?_)<;>intro hc<;>try(exfalso;omega)))
  have hlt:=hp.lt
  refine⟨ids++[n1+6],by simp;omega,bu,by simp;omega,cI,⟨⟨_,by rw[<-qt hil];exact bm⟩,fun x hx=> ?_,fun x hx=> ?_, ?_⟩,fun y hy=>Eq.trans bw (hk1 y hy)⟩
  ·rcases List.mem_append.1 hx with hx|hx
   ·obtain⟨d,h1⟩:=hp.each x hx
    have:=hlt x hx
    exact⟨d,Eq.trans bw h1⟩
   ·simp only[List.mem_cons,List.not_mem_nil,or_false] at hx
    subst hx
    exact⟨_,bm⟩
  ·rcases List.mem_append.1 hx with hx|hx
   ·have:=hlt x hx
    exact⟨this.1,Nat.lt_of_lt_of_le this.2 cI⟩
   ·simp only[List.mem_cons,List.not_mem_nil,or_false] at hx
    subst hx
    exact⟨by omega,cI⟩
  ·refine List.nodup_append.2 ⟨hp.nodup,by simp,fun x hx y hy=> ?_⟩
   simp only[List.mem_cons,List.not_mem_nil,or_false] at hy
   have:=(hlt x hx).2
   omega
 ·have hle:ids.length=g.nodes.length:=by omega
  have hfin:=hp.fin hle
  have hlt:=hp.lt
  have hgr:=jR.start g jJ cH N
  repeat' (first|refine aQ ?_|exact aC|with_reducible refine aB ?_ ?_|(apply aA;(·exact bp))|refine aH ?_|((with_reducible refine aE ?_ ?_)<;>intro hc<;>try(exfalso;omega)))
  have hids:∀x∈(nx+7)::ids,nx<=x/\x<n1:=fun x hx=>by
   rcases List.mem_cons.1 hx with rfl|hx
   ·omega
   ·have:=hlt x hx;omega
  clear hp hlt
  refine aF (fun s:gx×Bool=>[(0,eG g t cls),(1,i64 N),(2, .fn (.func fb) [] [.pt bb 1 0 0]),(3, .fn (.func fk) [] [.pt bb 1 0 0]),(9, .sl (nx+7) g.nodes.length),(11,bl s.2)])
   (fun s H' n'=>n1<=n'/\lp (nx+7) ids s.1 H'/\(∀y,y<nx->bk H' y=bk H y)/\jR g jJ cH N s.1/\(s.2=false->∀i k,i<g.nodes.length->k<N->eY g jJ cH s.1 i k=true->dj s.1 i k=true))
   (fun s=>fC s.1+if s.2=true then 1 else 0) (lD g.nodes.length N,true) bu ⟨cI,hfin.cH fun x hx=> ?_,fun y hy=>Eq.trans bw (hk1 y hy),hgr,fun h=>by cases h⟩ ?_
  ·exact bw
  clear hfin hgr hk1
  rintro⟨T,again⟩ H2 n2 ⟨hn2,hT,hk2,hgr,hcl⟩
  dsimp only at hT hgr hcl ⊢
  cases again with
  |false=>
   have hfin:=hgr.fin hw (hcl rfl)
   repeat' (first|refine aQ ?_|exact aC|with_reducible refine aB ?_ ?_|(apply aA;(·exact bp))|refine aH ?_|((with_reducible refine aE ?_ ?_)<;>intro hc<;>try(exfalso;omega)))
   refine⟨rfl,⟨⟨ids, ?_,fun x hx=>⟨(hids x hx).1,Nat.lt_of_lt_of_le (hids x hx).2 cI⟩⟩,fun y hy=>Eq.trans bw (hk2 y hy),cI⟩⟩
   rw[<-hfin]
   exact hT.cH fun x hx=>bw
  |true=>
   have hTl:=hgr.shape.len
   have hql:(gE ids (fJ T)).length=g.nodes.length:=by rw[hT.len,dC,hTl]
   obtain⟨d7,r7⟩:=hT.row
   repeat' (first|refine aQ ?_|exact cP|with_reducible refine aB ?_ ?_|((with_reducible refine Ask.mk ?_);first|exact bx|(exact hql)|exact bt)|(apply aA;(·exact bp))|refine aH ?_|((with_reducible refine aE ?_ ?_)<;>intro hc<;>try(exfalso;omega)))
   refine aF (fun s:gx×Bool×Nat=>[(0,eG g t cls),(1,i64 N),(2, .fn (.func fb) [] [.pt bb 1 0 0]),(3, .fn (.func fk) [] [.pt bb 1 0 0]),(9, .sl (nx+7) g.nodes.length),(11,bl s.2.1),(12,i64 ((s.2.2:Int) - 1))])
    (fun s H' n'=>n1<=n'/\s.2.2<=g.nodes.length/\lp (nx+7) ids s.1 H'/\(∀y,y<nx->bk H' y=bk H y)/\jR g jJ cH N s.1/\(fC s.1+if s.2.1=true then 1 else 0)<=fC T/\(s.2.1=false->∀i k,s.2.2<=i->i<g.nodes.length->k<N->eY g jJ cH s.1 i k=true->dj s.1 i k=true))
    (fun s=>s.2.2) (T,false,g.nodes.length) bu ⟨cI,Nat.le_refl _,hT.cH fun x hx=> ?_,fun y hy=>Eq.trans bw (hk2 y hy),hgr,by simp,fun _ i k h1 h2=>absurd h1 (by dsimp only;omega)⟩ ?_
   ·exact bw
   clear hT hk2 hgr hcl r7 hql
   rintro⟨T2,ag,j⟩ H3 n3 ⟨hn3,hj,hT,hk3,hgr,hfa,hcl⟩
   dsimp only at hj hT hgr hfa hcl ⊢
   have hT2l:=hgr.shape.len
   cases j with
   |zero=>
    repeat' (first|refine aQ ?_|exact aC|with_reducible refine aB ?_ ?_|(apply aA;(·exact bp))|refine aH ?_|((with_reducible refine aE ?_ ?_)<;>intro hc<;>try(exfalso;omega)))
    exact⟨(T2,ag),by dsimp only;rw[if_pos rfl];omega,bu,cI,hT.cH fun x hx=>bw,fun y hy=>Eq.trans bw (hk3 y hy),hgr,fun h i k h1 h2=>hcl h i k (Nat.zero_le _) h1 h2⟩
   |succ i=>
    have hi:i<g.nodes.length:=by omega
    have ei:((i+1:Nat):Int) - 1=(i:Int):=by omega
    have en:=fun d=>eH hi d
    rw[ei]
    repeat' (first|refine aQ ?_|exact cP|with_reducible refine aB ?_ ?_|((with_reducible refine Ask.mk ?_);first|exact bx|exact bt|(intro h;simp_all[Node.cells,cB]<;>fail)|(simp_all[Node.cells,cB]<;>fail))|(apply aA;(·(first|exact en _|exact bp)))|refine aH ?_|((with_reducible refine aE ?_ ?_)<;>intro hc<;>try(exfalso;omega)))
    refine aF (fun s:gx×Bool×Nat=>[(0,eG g t cls),(1,i64 N),(2, .fn (.func fb) [] [.pt bb 1 0 0]),(3, .fn (.func fk) [] [.pt bb 1 0 0]),(9, .sl (nx+7) g.nodes.length),(11,bl s.2.1),(12,i64 (i:Int)),(13, .pt (n3+10) 1 0 0),(49,i64 N),(50,i64 s.2.2)])
     (fun s H' n'=>n3+11<=n'/\s.2.2<=N/\(∃d,bk H' (n3+10)=some (.row 46 13 d [(g.nd i).av]))/\lp (nx+7) ids s.1 H'/\(∀y,y<nx->bk H' y=bk H y)/\jR g jJ cH N s.1/\(fC s.1+if s.2.1=true then 1 else 0)<=fC T/\(s.2.1=false->∀i' k,i<=i'->i'<g.nodes.length->k<N->(i'=i->k<s.2.2)->eY g jJ cH s.1 i' k=true->dj s.1 i' k=true))
     (fun s=>N - s.2.2) (T2,ag,0) bu ⟨cI,Nat.zero_le _,⟨_,bm⟩,hT.cH fun x hx=> ?_,fun y hy=>Eq.trans bw (hk3 y hy),hgr,hfa,fun h i' k h1 h2 h3 h4=>hcl h i' k (Classical.byContradiction fun hx=>Nat.not_lt_zero _ (h4 (by omega))) h2 h3⟩ ?_
    ·have:=hids x hx;exact bw
    clear hT hk3 hgr hfa hcl hT2l
    rintro⟨T3,ag2,k⟩ H4 n4 ⟨hn4,hk,⟨dn,rn⟩,hT,hk4,hgr,hfa,hcl⟩
    dsimp only at hk hT hgr hfa hcl ⊢
    have hT3l:=hgr.shape.len
    by_cases hkN:k<N
    ·have hiS:i<(fJ T3).length:=by rw[dC,hT3l];exact hi
     have hiT:i<T3.length:=by rw[hT3l];exact hi
     have hql:(gE ids (fJ T3)).length=g.nodes.length:=by rw[hT.len,dC,hT3l]
     have hrow:=hgr.shape.row i hi
     obtain⟨d7,r7⟩:=hT.row
     obtain⟨di,ri⟩:=hT.qs i hiS
     have e1:=fun d=>hT.get hiS d
     rw[eZ hiT] at ri e1
     rw[List.length_map,hrow] at e1
     have hrl:((T3.getD i []).map bl).length=N:=by rw[List.length_map,hrow]
     have e2:=fun d=>gS (l:=T3.getD i []) (k:=k) (by rw[hrow];exact hkN) d
     have hfol:=(hw.2.2 i hi).2.2
     have hxi:=hids (ids.getD i 0) (List.mem_cons_of_mem _ (dP (by rw[hle];exact hi)))
     have hne:=hT.ne hiS
     repeat' (first|refine aQ ?_|exact cP|with_reducible refine aB ?_ ?_|((with_reducible refine Ask.mk ?_);first|exact bx|(exact hql)|(exact hrl)|exact bt)|(apply aA;(·(first|exact e1 _|exact e2 _|exact bp)))|((refine aS (hbeg i hi k hkN _ _ cI (fun y hy=>Eq.trans bw (hk4 y hy))) ?_ ?_);(·exact True.intro))|((refine aR (fun _=>hbeg i hi k hkN _ _ cI (fun y hy=>Eq.trans bw (hk4 y hy))) ?_ ?_);(·exact True.intro))|((refine aS (hkeep i hi k hkN _ _ cI (fun y hy=>Eq.trans bw (hk4 y hy))) ?_ ?_);(·exact True.intro))|((refine aR (fun _=>hkeep i hi k hkN _ _ cI (fun y hy=>Eq.trans bw (hk4 y hy))) ?_ ?_);(·exact True.intro))|((refine aS (ft (hT.cH fun x hx=>bw) hgr.shape (g.nd i) hfol k hkN _) ?_ ?_);(·exact True.intro))|((refine aR (fun _=>ft (hT.cH fun x hx=>bw) hgr.shape (g.nd i) hfol k hkN _) ?_ ?_);(·exact True.intro))|refine aH ?_|((with_reducible refine aE ?_ ?_)<;>intro hc<;>try(exfalso;omega)))
     ·refine⟨(T3,ag2,k+1),by dsimp only;omega,bu,by omega,by dsimp only;omega,⟨_,bm⟩,hT.cH fun x hx=> ?_,fun y hy=>Eq.trans bw (hk4 y hy),hgr,hfa,fun h i' k' a1 a2 a3 a4 a5=> ?_⟩
      ·exact bw
      ·by_cases e:i'=i/\k'=k
       ·obtain⟨rfl,rfl⟩:=e
        unfold eY at a5
        rcases hc with hc|⟨c1,c2|c2⟩
        ·exact hc
        ·rw[c1,c2] at a5;cases a5
        ·rw[c1,c2,Bool.and_false] at a5;cases a5
       ·refine hcl h i' k' a1 a2 a3 (fun e2=> ?_) a5
        have:=a4 e2
        have:¬k'=k:=fun e3=>e ⟨e2,e3⟩
        dsimp only at *
        omega
     ·have hf0:dj T3 i k=false:=hc.1
      have hcell:eY g jJ cH T3 i k=true:=by
       unfold eY
       rcases hc.2 with c1|⟨c1,c2⟩
       ·rw[Bool.not_eq_false] at c1;rw[c1];rfl
       ·rw[c1,c2];simp
      have hfs:=lO hgr.shape hi hkN hf0
      refine⟨(lA T3 i k,true,k+1),by dsimp only;omega,bu,by omega,by dsimp only;omega,⟨_,bm⟩,hT.set hiT k ?_ ⟨_,bm⟩ (fun x hx hxn=> ?_),fun y hy=>Eq.trans bw (hk4 y hy),hgr.step hi hkN hcell, ?_,fun h=>by cases h⟩
      ·exact bw
      ·exact bw
      ·dsimp only
       rw[if_pos rfl]
       omega
    ·have:k=N:=by omega
     subst this
     repeat' (first|refine aQ ?_|exact aC|with_reducible refine aB ?_ ?_|(apply aA;(·exact bp))|refine aH ?_|((with_reducible refine aE ?_ ?_)<;>intro hc<;>try(exfalso;omega)))
     exact⟨(T3,ag2,i),by dsimp only;omega,bu,by omega,by dsimp only;omega,hT.cH fun x hx=>bw,fun y hy=>Eq.trans bw (hk4 y hy),hgr,hfa,fun h i' k' a1 a2 a3 a5=>hcl h i' k' a1 a2 a3 (fun _=>a3) a5⟩
theorem pW (u:bq) (g:br) (hg:g.Wf) (hk:dR u g) (t:Nat) (cls:List cF) (H:Hp) (nx:Nat):cM Tryz.prog 37 [eG g t cls] H nx (fun r H' n'=>∃b,r= .sl b g.nodes.length/\qc b (eN g) H nx H' n'):=by
 have hs:=hk.cZ
 have hlo:=hk.locals
 obtain⟨N,hN⟩:∃N:Nat,g.cZ=N:=⟨g.cZ.toNat,by omega⟩
 refine aI GA rfl ?_
 repeat' (first|refine aQ ?_|exact cP|with_reducible refine aB ?_ ?_|((with_reducible refine Ask.mk ?_);first|exact bx|exact bt|(intro h;simp_all[cB]<;>fail)|(simp_all[cB]<;>fail))|(apply aA;(·exact bp))|(simp only[hN])|refine aH ?_|((with_reducible refine aE ?_ ?_)<;>intro hc<;>try(exfalso;omega)))
 refine aJ (ym g hg hk.whole t cls N (by omega) _ _ eM fN _ _ (fun i hi k hkN H' nx' _ _=> ?_) (fun i hi k hkN H' nx' _ _=> ?_)) ?_
 ·exact(wE (g.nd i) (hg.nodes _ (cE default hi)).op.1 (hk.node hi).kind (hk.node hi).op k).view (args2:=[(g.nd i).av,i64 k]) (by rw[List.map_cons,List.map_cons,List.map_nil,dB 6 (by simp[cJ]),dB 6 (by simp[cJ])]) (by simp[cL,cJ]) trivial ⟨rfl,fun _ _=>rfl⟩
 ·exact(zF (g.nd i) (hg.nodes _ (cE default hi)).op.1 (hk.node hi).kind (hk.node hi).op k).view (args2:=[(g.nd i).av,i64 k]) (by rw[List.map_cons,List.map_cons,List.map_nil,dB 6 (by simp[cJ]),dB 6 (by simp[cJ])]) (by simp[cL,cJ]) trivial ⟨rfl,fun _ _=>rfl⟩
 rintro _ H2 n2 ⟨rfl,hgr⟩
 repeat' (first|refine aQ ?_|exact aC|with_reducible refine aB ?_ ?_|(apply aA;(·exact bp))|refine aH ?_|((with_reducible refine aE ?_ ?_)<;>intro hc<;>try(exfalso;omega)))
 have el:oL g eM fN N=eN g:=by unfold eN;rw[hN,Int.toNat_natCast]
 rw[el] at hgr
 obtain⟨ids,h1,h2⟩:=hgr.at_
 have hle:=hgr.le
 exact⟨⟨_,rfl,⟨⟨ids,h1.cH fun x hx=>bw,fun x hx=>⟨Nat.le_trans cI (h2 x hx).1,Nat.lt_of_lt_of_le (h2 x hx).2 cI⟩⟩,fun y hy=>Eq.trans bw ((hgr.cH y (Nat.lt_of_lt_of_le hy cI)).trans bw),cI⟩⟩⟩
@[simp] theorem tE (n:Nat) (g:br) (t:Nat) (cls:List cF):cL n (cB g t cls):=by simp[cB,cJ,cL,cK,cF.cells]
theorem B1 {g:br} {t:Nat} {cls:List cF} {H:Hp} (k:Nat):dD.de H k (eG g t cls)=eG g t cls:=dB k (by simp[eG,cB,cJ,cL,cK,cF.cells])
theorem uB (g:br) (t:Nat) (cls:List cF):cJ 0 (eG g t cls):=by simp[eG,cB,cJ,cL,cK,cF.cells]
set_option maxRecDepth 4000 in
set_option maxHeartbeats 4000000 in
theorem yJ (g:br) (n:Node) (ho:0<=n.op) (h:1<=n.kind/\n.kind<10) (hop:(n.kind=1->n.op<19)/\(n.kind≠1->n.op=0)) (t:Nat) (cls:List cF) (v:Nat) (hv:v<cls.length) (b:Nat) (H:Hp) (nx:Nat) (e:TypeId) (d:AV) (hrb:bk H b=some (.row e 1 d [eG g t cls])) (hbn:b<nx):
 kW Tryz.prog 69 [n.av,i64 v, .pt b 1 0 0] H nx (bl (gN cls t n v)):=by
 have hm:=mU n ho h hop
 unfold uX at hm
 refine aT G7 rfl ?_
 have how:=sP g t cls v hv
 unfold gN
 cases hob:ny cls t v with
 |false=>
  rw[hob] at how
  repeat' (first|refine aQ ?_|exact cP|with_reducible refine aB ?_ ?_|((with_reducible refine Ask.mk ?_);first|exact bx|(intro h1 h2;rw[h1,h2];rfl)|exact bt|(intro h;simp_all[Node.cells]<;>fail)|(simp_all[Node.cells]<;>fail))|(apply aA;(·exact bp))|refine aK (how) ?_|refine aK (hm) ?_|refine aH ?_|((with_reducible refine aE ?_ ?_)<;>intro hc<;>try(exfalso;omega)))
  exact qY.look rfl kE
 |true=>
  rw[hob] at how
  repeat' (first|refine aQ ?_|exact cP|with_reducible refine aB ?_ ?_|((with_reducible refine Ask.mk ?_);first|exact bx|(intro h1 h2;rw[h1,h2];rfl)|exact bt|(intro h;simp_all[Node.cells]<;>fail)|(simp_all[Node.cells]<;>fail))|(apply aA;(·exact bp))|refine aK (how) ?_|refine aK (hm) ?_|refine aH ?_|((with_reducible refine aE ?_ ?_)<;>intro hc<;>try(exfalso;omega)))
  refine qY.look ?_ kE
  refine cn ?_
  rw[show decide (n.kind=2\/n.kind=4)=zG n from rfl]
  cases decide (n.kind=9)<;>cases decide (n.kind=5)<;>cases zG n<;>simp
set_option maxRecDepth 4000 in
set_option maxHeartbeats 4000000 in
theorem yK (g:br) (n:Node) (t:Nat) (cls:List cF) (v:Nat) (hv:v<cls.length) (b:Nat) (H:Hp) (nx:Nat) (e:TypeId) (d:AV) (hrb:bk H b=some (.row e 1 d [eG g t cls])) (hbn:b<nx):
 kW Tryz.prog 70 [n.av,i64 v, .pt b 1 0 0] H nx (bl (gu cls t n v)):=by
 refine aT G8 rfl ?_
 have how:=sP g t cls v hv
 repeat' (first|refine aQ ?_|exact cP|with_reducible refine aB ?_ ?_|((with_reducible refine Ask.mk ?_);first|exact bx|(intro h1 h2;rw[h1,h2];rfl)|exact bt|(intro h;simp_all[Node.cells]<;>fail)|(simp_all[Node.cells]<;>fail))|(apply aA;(·exact bp))|refine aK (how) ?_|refine aH ?_|((with_reducible refine aE ?_ ?_)<;>intro hc<;>try(exfalso;omega)))
 refine qY.look ?_ kE
 refine cn ?_
 unfold gu
 cases ny cls t v<;>by_cases h3:n.kind=3<;>by_cases h4:n.cT=v<;>simp[h3,h4]
set_option maxRecDepth 4000 in
set_option maxHeartbeats 4000000 in
theorem AG (u:bq) (g:br) (hg:g.Wf) (hk:dR u g) (t:Nat) (cls:List cF) (hcl:cls.length<=64) (H:Hp) (nx:Nat):cM Tryz.prog 39 [eG g t cls] H nx (fun r H' n'=>∃b,r= .sl b g.nodes.length/\qc b (kU g cls t) H nx H' n'):=by
 refine aI GC rfl ?_
 repeat' (first|refine aQ ?_|exact cP|with_reducible refine aB ?_ ?_|((with_reducible refine Ask.mk ?_);first|exact bx|exact bt|(intro h;simp_all[cB]<;>fail)|(simp_all[cB]<;>fail))|(apply aA;(·exact bp))|refine aH ?_|((with_reducible refine aE ?_ ?_)<;>intro hc<;>try(exfalso;omega)))
 rw[List.length_map]
 refine aJ (w7 g hg hk.whole t cls cls.length (by omega) _ _ nx (gN cls t) (gu cls t) _ _ (fun i hi k hkN H' nx' h1 h2=> ?_) (fun i hi k hkN H' nx' h1 h2=> ?_)) ?_
 ·exact yJ g (g.nd i) (hg.nodes _ (cE default hi)).op.1 (hk.node hi).kind (hk.node hi).op t cls k hkN nx H' nx' 53 .any ((h2 nx cI).trans bm) (Nat.lt_of_lt_of_le cI h1)
 ·exact yK g (g.nd i) t cls k hkN nx H' nx' 53 .any ((h2 nx cI).trans bm) (Nat.lt_of_lt_of_le cI h1)
 rintro _ H2 n2 ⟨rfl,hgr⟩
 repeat' (first|refine aQ ?_|exact aC|with_reducible refine aB ?_ ?_|(apply aA;(·exact bp))|refine aH ?_|((with_reducible refine aE ?_ ?_)<;>intro hc<;>try(exfalso;omega)))
 have el:oL g (gN cls t) (gu cls t) cls.length=kU g cls t:=rfl
 rw[el] at hgr
 obtain⟨ids,h1,h2⟩:=hgr.at_
 exact⟨⟨_,rfl,⟨⟨ids,h1.cH fun x hx=>bw,fun x hx=>⟨Nat.le_trans cI (h2 x hx).1,Nat.lt_of_lt_of_le (h2 x hx).2 cI⟩⟩,fun y hy=>Eq.trans bw ((hgr.cH y (Nat.lt_of_lt_of_le hy cI)).trans bw),Nat.le_trans cI (Nat.le_trans hgr.le cI)⟩⟩⟩
abbrev OG:AV:= .sc (.pointer none)
theorem ti (u:bq) (hu:u.Wf) (hr:¬cX u) (t:Int):Pure Tryz.prog 22 [u.av,i64 t] (fun r=>r= .dK [OG,i64 60]):=by
 have h:=lK u hu
 rw[if_neg (mt cR.1 hr)] at h
 refine aG zD rfl ?_
 repeat' (first|refine aQ ?_|exact cP|with_reducible refine aB ?_ ?_|((with_reducible refine Ask.mk ?_);first|exact bx|exact bt|(intro h;simp_all[bq.cells]<;>fail)|(simp_all[bq.cells]<;>fail))|(apply aA;(·exact bp))|refine aK (h) ?_|refine aH ?_|((with_reducible refine aE ?_ ?_)<;>intro hc<;>try(exfalso;omega)))
 exact rfl
theorem po (u:bq) (hu:u.Wf) (hr:cX u) (t:Int) (ht:t<0\/(u.bo.length:Int)<=t):Pure Tryz.prog 22 [u.av,i64 t] (fun r=>r= .dK [OG,i64 2]):=by
 have h:=lK u hu
 rw[if_pos (cR.2 hr)] at h
 unfold gk at h
 have hf:cL 0 ((ck u).map cF.av):=iB _
 refine aG zD rfl ?_
 repeat' (first|refine aQ ?_|exact cP|with_reducible refine aB ?_ ?_|((with_reducible refine Ask.mk ?_);first|exact bx|exact bt|(intro h;simp_all[bq.cells]<;>fail)|(simp_all[bq.cells]<;>fail))|(apply aA;(·exact bp))|refine aK (h) ?_|refine aH ?_|((with_reducible refine aE ?_ ?_)<;>intro hc<;>try(exfalso;omega)))
 all_goals first|exact rfl|(exfalso;omega)
theorem mK {H:Hp} {k:Nat} {a b:AV}:dD.de H (k+1) (.dK [a,b])= .dK [dD.de H k a,dD.de H k b]:=by simp only[de,List.map_cons,List.map_nil]
theorem pO {H:Hp} (k:Nat) {v:Value} (h:cJ 0 (.sc v)):dD.de H k (.sc v)= .sc v:=dB k h
set_option maxRecDepth 4000 in
set_option maxHeartbeats 4000000 in
theorem mF (u:bq) (hu:u.Wf) (hr:cX u) (t:Nat) (ht:t<u.bo.length):Pure Tryz.prog 22 [u.av,i64 t] (fun r=>r= .dK [eG (u.gr t) t (ck u),i64 0]):=by
 have h:=lK u hu
 rw[if_pos (cR.2 hr)] at h
 unfold gk at h
 have hgw:=hu.bo _ (cE default ht)
 have hgo:=hr.gr ht
 have hrp:=om (u.gr t) hgw (pg hgo.whole) (qR (u.gr t) hgw hgo.whole (-1) (by unfold jE;omega))
 have eg:=fun d=>j3 ht d
 refine cV ?_ (by rw[cJ,cL,cL,cL];exact⟨uB _ _ _,by simp[cJ],trivial⟩)
 refine aI zD rfl ?_
 repeat' (first|refine aQ ?_|exact cP|with_reducible refine aB ?_ ?_|((with_reducible refine Ask.mk ?_);first|exact bx|exact bt|(intro h;simp_all[bq.cells,br.cells]<;>fail)|(simp_all[bq.cells,br.cells]<;>fail))|(apply aA;(·(first|exact eg _|exact bp)))|refine aK (h) ?_|refine aK (hrp) ?_|refine aH ?_|((with_reducible refine aE ?_ ?_)<;>intro hc<;>try(exfalso;omega)))
 refine⟨mK.trans ?_⟩
 rw[pO 5 (by simp[cJ])]
 refine congrArg (fun z=>AV.dK [z,i64 0]) ?_
 refine(MD (e:=76) (d:= .any) (es:=[.agg (cB (u.gr t) t (ck u))]) bm rfl).trans ?_
 rw[cf _ (by rw[cL,cJ,cL];exact⟨tE _ _ _ _,trivial⟩)]
noncomputable def qU (u:bq) (t:Int) (T:gx):AV:=if k8 u=true then(if t<0\/(u.bo.length:Int)<=t then .dK [.im 1 .any [],i64 2] else .dK [.im 1 .any (T.map fE),i64 0]) else .dK [.im 1 .any [],i64 60]
theorem oQ (T:gx):cL 0 (T.map fE):=(cK _ _).2 fun _ _=>by simp[fE,cJ,cK]
theorem mq {P:Program} {f:FuncId} {args:List AV} {n:Int} (h:Pure P f args (fun r=>r= .dK [.sc (.slice none 0 0),i64 n])):Pure P f args (fun r=>r= .dK [.im 1 .any [],i64 n]):=by
 refine mw (u:= .dK [.sc (.slice none 0 0),i64 n]) (h.mono fun r hr=> .inl hr) (by simp[cJ,cL]) fun c=> ?_
 intro v hv
 rw[VR] at hv ⊢
 obtain⟨vs,rfl,hv⟩:=hv
 refine⟨vs,rfl, ?_⟩
 rw[c9] at hv ⊢
 obtain⟨v1,vs1,e1,h1,h2⟩:=hv
 exact⟨v1,vs1,e1,dD.dk.mV c c 1 .any _ h1,h2⟩
theorem tR (u:bq) (hu:u.Wf) (t:Int):Pure Tryz.prog 17 [u.av,i64 t] (fun r=>r=qU u t (eN (u.gr t.toNat))):=by
 unfold qU
 by_cases hr:cX u
 ·rw[if_pos (cR.2 hr)]
  by_cases ht:t<0\/(u.bo.length:Int)<=t
  ·rw[if_pos ht]
   have ha:=po u hu hr t ht
   refine mq ?_
   refine aG xN rfl ?_
   repeat' (first|refine aQ ?_|exact cP|with_reducible refine aB ?_ ?_|((with_reducible refine Ask.mk ?_);first|exact bx|exact bt|(intro h;simp_all[bq.cells]<;>fail)|(simp_all[bq.cells]<;>fail))|(apply aA;(·exact bp))|refine aK (ha) ?_|refine aH ?_|((with_reducible refine aE ?_ ?_)<;>intro hc<;>try(exfalso;omega)))
   exact rfl
  ·rw[if_neg ht]
   obtain⟨k,rfl⟩:∃k:Nat,t=k:=⟨t.toNat,by omega⟩
   rw[Int.toNat_natCast]
   have hk:k<u.bo.length:=by omega
   have ha:=mF u hu hr k hk
   have hgo:=hr.gr hk
   refine cV ?_ (by rw[cJ,cL,cL,cL,cJ];exact⟨oQ _,by simp[cJ],trivial⟩)
   refine aI xN rfl ?_
   repeat' (first|refine aQ ?_|exact cP|with_reducible refine aB ?_ ?_|((with_reducible refine Ask.mk ?_);first|exact bx|exact bt|(intro h;simp_all[bq.cells]<;>fail)|(simp_all[bq.cells]<;>fail))|(apply aA;(·exact bp))|refine aK (ha) ?_|refine aH ?_|((with_reducible refine aE ?_ ?_)<;>intro hc<;>try(exfalso;omega)))
   refine aJ (pW u (u.gr k) (hu.bo _ (cE default hk)) hgo k (ck u) _ _) ?_
   rintro _ H2 n2 ⟨b,rfl,hgr⟩
   obtain⟨ids,h1,h2⟩:=hgr.at_
   repeat' (first|refine aQ ?_|exact aC|with_reducible refine aB ?_ ?_|(apply aA;(·exact bp))|refine aH ?_|((with_reducible refine aE ?_ ?_)<;>intro hc<;>try(exfalso;omega)))
   refine⟨mK.trans ?_⟩
   have hl:(eN (u.gr k)).length=(u.gr k).nodes.length:=(gZ _ _ _ _).len
   rw[pO 5 (by simp[cJ]),<-hl]
   exact congrArg (fun z=>AV.dK [z,i64 0]) (ou (h1.cH fun x hx=>bw) 3)
 ·rw[if_neg (mt cR.1 hr)]
  have ha:=ti u hu hr t
  refine mq ?_
  refine aG xN rfl ?_
  repeat' (first|refine aQ ?_|exact cP|with_reducible refine aB ?_ ?_|((with_reducible refine Ask.mk ?_);first|exact bx|exact bt|(intro h;simp_all[bq.cells]<;>fail)|(simp_all[bq.cells]<;>fail))|(apply aA;(·exact bp))|refine aK (ha) ?_|refine aH ?_|((with_reducible refine aE ?_ ?_)<;>intro hc<;>try(exfalso;omega)))
  exact rfl
end Go.Proofs.YtmonponfppdgfaaGreatDoor
