import Derived.Test.YtekfmjjmihomlaaGreatDoorM30
namespace Go.Proofs.YtekfmjjmihomlaaGreatDoor
open Go Go.cw Go.Proofs
set_option linter.unusedSimpArgs false
set_option linter.unusedVariables false
def kd (T:jw):List (List AV):=T.map fun l=>l.map bl
abbrev vJ (b:Nat) (ids:List Nat) (T:jw) (H:Hp):Prop:=yR 35 4 1 b ids (kd T) H
theorem fP (T:jw):(kd T).length=T.length:=by simp[kd]
theorem lT {T:jw} {i:Nat} (h:i<T.length):(kd T).getD i []=(T.getD i []).map bl:=by simp[kd,List.getD,h]
theorem yL {b:Nat} {ids:List Nat} {T:jw} {H:Hp} (h:vJ b ids T H) (k:Nat):cw.dj H (k+2) (.sl b T.length)= .im 1 .any (T.map ju):=by
 obtain⟨d,h1⟩:=h.row
 rw[dv h1 (by rw[h.len,fP])]
 congr 1
 apply List.ext_getElem
 ·rw[List.length_map,h.len,fP,List.length_map]
 ·intro i h2 h3
  have hi:i<T.length:=by simpa using h3
  have hi2:i<(kd T).length:=by rw[fP];exact hi
  rw[List.getElem_map,List.getElem_map]
  have e1:(jR ids (kd T))[i]'(by rw[h.len];exact hi2)= .sl (ids.getD i 0) ((kd T).getD i []).length:=by
   rw[<-h.get hi2 .any];exact(gd _ _).symm
  rw[e1,lT hi]
  obtain⟨d2,h4⟩:=h.qs i hi2
  rw[lT hi] at h4
  rw[dv h4 rfl,cu _ (n9 _ _),gd hi]
  rfl
theorem fm {b:Nat} {ids:List Nat} {T:jw} {H:Hp} {m n:Nat} (h:vJ b ids T H) (hT:Shape T m n) (nd:Node) (hl:∀to∈nd.iA,0<=to/\to.toNat<m) (k:Nat) (hk:k<n) (nx:Nat):kU Tryz.prog 52 [.sl b m,nd.av,i64 k] H nx (bl (mb T nd k)):=by
 refine Pure.view (args2:=[.im 1 .any (T.map ju),nd.av,i64 k]) (rX hT nd hl k hk) ?_ ?_ trivial ⟨rfl,fun _ _=>rfl⟩
 ·rw[List.map_cons,List.map_cons,List.map_cons,List.map_nil,<-hT.len,yL h,dG 6 (by simp[cF]),dG 6 (by simp[cF])]
 ·have:cT 0 (T.map ju):=(cI _ _).2 fun _ _=>by simp[ju,cF,cI]
  simp only[cT,cF]
  exact⟨this,yy _ _,trivial,trivial⟩
theorem P2 {ids:List Nat} {S S2:List (List AV)} (h:S.map List.length=S2.map List.length):jR ids S=jR ids S2:=by
 have:∀(ids:List Nat) (S:List (List AV)),jR ids S=List.zipWith (fun x n=>AV.sl x n) ids (S.map List.length):=by
  intro ids S
  simp[jR,List.zipWith_map_right]
 rw[this,this,h]
theorem QS {T:jw} {i k:Nat}:(mT T i k).map List.length=T.map List.length:=by
 apply List.ext_getElem
 ·simp[mT]
 ·intro j h1 h2
  have hj:j<T.length:=by simpa using h2
  simp only[List.getElem_map,mT,List.getElem_set]
  split
  ·rename_i e;subst e;rw[List.length_set,gd hj]
  ·rfl
theorem CC (T:jw):(kd T).map List.length=T.map List.length:=by simp[kd,Function.comp_def]
theorem vJ.set {b:Nat} {ids:List Nat} {T:jw} {H H':Hp} (h:vJ b ids T H) {i:Nat} (hi:i<T.length) (k:Nat) (h1:bo H' b=bo H b)
 (h2:∃d,bo H' (ids.getD i 0)=some (.row 4 1 d (((T.getD i []).map bl).set k (bl true)))) (h3:∀x∈ids,x≠ids.getD i 0->bo H' x=bo H x):vJ b ids (mT T i k) H':=by
 have el:(mT T i k).length=T.length:=by simp[mT]
 have hl:ids.length=T.length:=by rw[h.lens,fP]
 refine⟨?_,fun j hj=> ?_,by rw[hl,fP,el],h.nodup⟩
 ·obtain⟨d,hr⟩:=h.row
  exact⟨d,(h1.trans hr).trans (by rw[show jR ids (kd (mT T i k))=jR ids (kd T) from P2 (by rw[CC,CC,QS])])⟩
 ·rw[fP,el] at hj
  have hjS:j<(kd T).length:=by rw[fP];exact hj
  rw[lT (by rw[el];exact hj)]
  unfold mT
  rw[ct]
  by_cases e:i=j
  ·subst e
   rw[if_pos ⟨rfl,hi⟩]
   obtain⟨d,h4⟩:=h2
   exact⟨d,by rw[h4,tL]⟩
  ·rw[if_neg (fun h=>e h.1)]
   obtain⟨d,h4⟩:=h.qs j hjS
   rw[lT hj] at h4
   exact⟨d,(h3 _ (e9 (by rw[hl];exact hj)) (h.other (by rw[fP];exact hi) hjS (Ne.symm e))).trans h4⟩
structure RC (b:Nat) (ids:List Nat) (m n:Nat) (H:Hp) (nx:Nat):Prop where
 row:∃d,bo H b=some (.row 35 1 d (ids.map (fun x=>AV.sl x n)++List.replicate (m - ids.length) (.sc (.slice none 0 0))))
 each:∀x∈ids,∃d,bo H x=some (.row 4 1 d (List.replicate n (bl false)))
 lt:∀x∈ids,b<x/\x<nx
 nodup:ids.Nodup
theorem RC.fin {b:Nat} {ids:List Nat} {m n:Nat} {H:Hp} {nx:Nat} (h:RC b ids m n H nx) (hl:ids.length=m):vJ b ids (nT m n) H:=by
 have ez:kd (nT m n)=List.replicate m (List.replicate n (bl false)):=by simp[kd,nT]
 refine⟨?_,fun i hi=> ?_,by rw[ez,List.length_replicate,hl],List.nodup_cons.2 ⟨fun hm=>by have:=(h.lt b hm).1;omega,h.nodup⟩⟩
 ·obtain⟨d,h1⟩:=h.row
  refine⟨d, ?_⟩
  rw[h1,ez,hl,Nat.sub_self,List.replicate_zero,List.append_nil]
  congr 3
  apply List.ext_getElem
  ·simp[jR,hl]
  ·intro i h2 h3;simp[jR]
 ·rw[ez] at hi ⊢
  rw[List.length_replicate] at hi
  have e1:(List.replicate m (List.replicate n (bl false))).getD i []=List.replicate n (bl false):=by simp[List.getD,List.getElem?_replicate,hi]
  rw[e1]
  exact h.each _ (e9 (by rw[hl];exact hi))
theorem G1 {ids:List Nat} {m n x:Nat} (h:ids.length<m):(ids.map (fun x=>AV.sl x n)++List.replicate (m - ids.length) (AV.sc (.slice none 0 0))).set ids.length (.sl x n)=(ids++[x]).map (fun x=>AV.sl x n)++List.replicate (m - (ids++[x]).length) (AV.sc (.slice none 0 0)):=by
 rw[List.set_append,if_neg (by simp),List.length_map,Nat.sub_self,show m - ids.length=(m - (ids++[x]).length)+1 by simp;omega,List.replicate_succ]
 simp
theorem GZ {ids:List Nat} {m n:Nat} (h:ids.length<=m):(ids.map (fun x=>AV.sl x n)++List.replicate (m - ids.length) (AV.sc (.slice none 0 0))).length=m:=by simp;omega
theorem GY {ids:List Nat} {m n:Nat} (h:ids.length<m) (d:AV):(ids.map (fun x=>AV.sl x n)++List.replicate (m - ids.length) (AV.sc (.slice none 0 0))).getD ids.length d= .sc (.slice none 0 0):=by
 rw[List.getD,List.getElem?_append_right (by simp),List.length_map,Nat.sub_self]
 rw[List.getElem?_replicate,if_pos (by omega)];rfl
structure sV (b:Nat) (T:jw) (H0:Hp) (nx:Nat) (H:Hp) (n:Nat):Prop where
 at_:∃ids,vJ b ids T H/\∀x∈b::ids,nx<=x/\x<n
 keep:∀y,y<nx->bo H y=bo H0 y
 le:nx<=n
set_option maxRecDepth 4000 in
set_option maxHeartbeats 8000000 in
theorem DQ (g:bu) (hg:g.Wf) (hw:Whole g) (t:Nat) (cls:List cY) (N:Nat) (hN:N<=4160) (fb fk:FuncId) (beg keep:Node->Nat->Bool) (H:Hp) (nx:Nat)
 (hbeg:∀i,i<g.nodes.length->∀k,k<N->∀H' nx',nx<=nx'->(∀y,y<nx->bo H' y=bo H y)->kU Tryz.prog fb ((g.nd i).av::i64 k::[]) H' nx' (bl (beg (g.nd i) k)))
 (hkeep:∀i,i<g.nodes.length->∀k,k<N->∀H' nx',nx<=nx'->(∀y,y<nx->bo H' y=bo H y)->kU Tryz.prog fk ((g.nd i).av::i64 k::[]) H' nx' (bl (keep (g.nd i) k))):
 cQ Tryz.prog 55 [ej g t cls,i64 N, .fn (.func fb) [] [], .fn (.func fk) [] []] H nx (fun r H' n'=>r= .sl (nx+7) g.nodes.length/\sV (nx+7) (qb g beg keep N) H nx H' n'):=by
 have hl:=hg.len
 have hl0:=hw.1
 have hl1:=hw.2.1
 refine aJ JI rfl ?_
 repeat' (first|refine aQ ?_|exact dR|with_reducible refine aB ?_ ?_|((with_reducible refine Ask.mk ?_);first|exact cW|exact cJ|(intro h;simp_all[cD]<;>fail)|(simp_all[cD]<;>fail))|(apply aA;(·exact bz))|refine aH ?_|((with_reducible refine aE ?_ ?_)<;>intro hc<;>try(exfalso;omega)))
 simp only[List.length_map,Int.toNat_natCast]
 refine aI (fun ids:List Nat=>[(0,ej g t cls),(1,i64 N),(2, .fn (.func fb) [] []),(3, .fn (.func fk) [] []),(9, .sl (nx+7) g.nodes.length),(23,i64 g.nodes.length),(24,i64 ids.length)])
  (fun ids H' n'=>ids.length<=g.nodes.length/\nx+12<=n'/\RC (nx+7) ids g.nodes.length N H' n'/\∀y,y<nx->bo H' y=bo H y) (fun ids=>g.nodes.length - ids.length) [] cG ⟨Nat.zero_le _,cU,⟨⟨_,bt⟩,fun x h=>by simp at h,fun x h=>by simp at h,List.nodup_nil⟩,fun y hy=>bx⟩ ?_
 rintro ids H1 n1 ⟨hi,hn1,hp,hk1⟩
 by_cases hil:ids.length<g.nodes.length
 ·obtain⟨d7,r7⟩:=hp.row
  have e1:=fun d=>GY (m:=g.nodes.length) (n:=N) hil d
  have e2:=GZ (m:=g.nodes.length) (n:=N) hi
  repeat' (first|refine aQ ?_|exact dR|with_reducible refine aB ?_ ?_|((with_reducible refine Ask.mk ?_);first|exact cW|(exact e2)|exact cJ)|(apply aA;(·(first|exact e1 _|exact bz)))|refine aH ?_|((with_reducible refine aE ?_ ?_)<;>intro hc<;>try(exfalso;omega)))
  have hlt:=hp.lt
  refine⟨ids++[n1+6],by simp;omega,cG,by simp;omega,cU,⟨⟨_,by rw[<-G1 hil];exact bt⟩,fun x hx=> ?_,fun x hx=> ?_, ?_⟩,fun y hy=>Eq.trans bx (hk1 y hy)⟩
  ·rcases List.mem_append.1 hx with hx|hx
   ·obtain⟨d,h1⟩:=hp.each x hx
    have:=hlt x hx
    exact⟨d,Eq.trans bx h1⟩
   ·simp only[List.mem_cons,List.not_mem_nil,or_false] at hx
    subst hx
    exact⟨_,bt⟩
  ·rcases List.mem_append.1 hx with hx|hx
   ·have:=hlt x hx
    exact⟨this.1,Nat.lt_of_lt_of_le this.2 cU⟩
   ·simp only[List.mem_cons,List.not_mem_nil,or_false] at hx
    subst hx
    exact⟨by omega,cU⟩
  ·refine List.nodup_append.2 ⟨hp.nodup,by simp,fun x hx y hy=> ?_⟩
   simp only[List.mem_cons,List.not_mem_nil,or_false] at hy
   have:=(hlt x hx).2
   omega
 ·have hle:ids.length=g.nodes.length:=by omega
  have hfin:=hp.fin hle
  have hlt:=hp.lt
  have hgr:=Grow.start g beg keep N
  repeat' (first|refine aQ ?_|exact aC|with_reducible refine aB ?_ ?_|(apply aA;(·exact bz))|refine aH ?_|((with_reducible refine aE ?_ ?_)<;>intro hc<;>try(exfalso;omega)))
  have hids:∀x∈(nx+7)::ids,nx<=x/\x<n1:=fun x hx=>by
   rcases List.mem_cons.1 hx with rfl|hx
   ·omega
   ·have:=hlt x hx;omega
  clear hp hlt
  refine aI (fun s:jw×Bool=>[(0,ej g t cls),(1,i64 N),(2, .fn (.func fb) [] []),(3, .fn (.func fk) [] []),(9, .sl (nx+7) g.nodes.length),(11,bl s.2)])
   (fun s H' n'=>n1<=n'/\vJ (nx+7) ids s.1 H'/\(∀y,y<nx->bo H' y=bo H y)/\Grow g beg keep N s.1/\(s.2=false->∀i k,i<g.nodes.length->k<N->iM g beg keep s.1 i k=true->fg s.1 i k=true))
   (fun s=>iw s.1+if s.2=true then 1 else 0) (nT g.nodes.length N,true) cG ⟨cU,hfin.keep fun x hx=> ?_,fun y hy=>Eq.trans bx (hk1 y hy),hgr,fun h=>by cases h⟩ ?_
  ·exact bx
  clear hfin hgr hk1
  rintro⟨T,again⟩ H2 n2 ⟨hn2,hT,hk2,hgr,hcl⟩
  dsimp only at hT hgr hcl ⊢
  cases again with
  |false=>
   have hfin:=hgr.fin hw (hcl rfl)
   repeat' (first|refine aQ ?_|exact aC|with_reducible refine aB ?_ ?_|(apply aA;(·exact bz))|refine aH ?_|((with_reducible refine aE ?_ ?_)<;>intro hc<;>try(exfalso;omega)))
   refine⟨rfl,⟨⟨ids, ?_,fun x hx=>⟨(hids x hx).1,Nat.lt_of_lt_of_le (hids x hx).2 cU⟩⟩,fun y hy=>Eq.trans bx (hk2 y hy),cU⟩⟩
   rw[<-hfin]
   exact hT.keep fun x hx=>bx
  |true=>
   have hTl:=hgr.shape.len
   have hql:(jR ids (kd T)).length=g.nodes.length:=by rw[hT.len,fP,hTl]
   obtain⟨d7,r7⟩:=hT.row
   repeat' (first|refine aQ ?_|exact dR|with_reducible refine aB ?_ ?_|((with_reducible refine Ask.mk ?_);first|exact cW|(exact hql)|exact cJ)|(apply aA;(·exact bz))|refine aH ?_|((with_reducible refine aE ?_ ?_)<;>intro hc<;>try(exfalso;omega)))
   refine aI (fun s:jw×Bool×Nat=>[(0,ej g t cls),(1,i64 N),(2, .fn (.func fb) [] []),(3, .fn (.func fk) [] []),(9, .sl (nx+7) g.nodes.length),(11,bl s.2.1),(12,i64 ((s.2.2:Int) - 1))])
    (fun s H' n'=>n1<=n'/\s.2.2<=g.nodes.length/\vJ (nx+7) ids s.1 H'/\(∀y,y<nx->bo H' y=bo H y)/\Grow g beg keep N s.1/\(iw s.1+if s.2.1=true then 1 else 0)<=iw T/\(s.2.1=false->∀i k,s.2.2<=i->i<g.nodes.length->k<N->iM g beg keep s.1 i k=true->fg s.1 i k=true))
    (fun s=>s.2.2) (T,false,g.nodes.length) cG ⟨cU,Nat.le_refl _,hT.keep fun x hx=> ?_,fun y hy=>Eq.trans bx (hk2 y hy),hgr,by simp,fun _ i k h1 h2=>absurd h1 (by dsimp only;omega)⟩ ?_
   ·exact bx
   clear hT hk2 hgr hcl r7 hql
   rintro⟨T2,ag,j⟩ H3 n3 ⟨hn3,hj,hT,hk3,hgr,hfa,hcl⟩
   dsimp only at hj hT hgr hfa hcl ⊢
   have hT2l:=hgr.shape.len
   cases j with
   |zero=>
    repeat' (first|refine aQ ?_|exact aC|with_reducible refine aB ?_ ?_|(apply aA;(·exact bz))|refine aH ?_|((with_reducible refine aE ?_ ?_)<;>intro hc<;>try(exfalso;omega)))
    exact⟨(T2,ag),by dsimp only;rw[if_pos rfl];omega,cG,cU,hT.keep fun x hx=>bx,fun y hy=>Eq.trans bx (hk3 y hy),hgr,fun h i k h1 h2=>hcl h i k (Nat.zero_le _) h1 h2⟩
   |succ i=>
    have hi:i<g.nodes.length:=by omega
    have ei:((i+1:Nat):Int) - 1=(i:Int):=by omega
    have en:=fun d=>gh hi d
    rw[ei]
    repeat' (first|refine aQ ?_|exact dR|with_reducible refine aB ?_ ?_|((with_reducible refine Ask.mk ?_);first|exact cW|exact cJ|(intro h;simp_all[Node.cells,cD]<;>fail)|(simp_all[Node.cells,cD]<;>fail))|(apply aA;(·(first|exact en _|exact bz)))|refine aH ?_|((with_reducible refine aE ?_ ?_)<;>intro hc<;>try(exfalso;omega)))
    refine aI (fun s:jw×Bool×Nat=>[(0,ej g t cls),(1,i64 N),(2, .fn (.func fb) [] []),(3, .fn (.func fk) [] []),(9, .sl (nx+7) g.nodes.length),(11,bl s.2.1),(12,i64 (i:Int)),(13, .pt (n3+10) 1 0 0),(49,i64 N),(50,i64 s.2.2)])
     (fun s H' n'=>n3+11<=n'/\s.2.2<=N/\(∃d,bo H' (n3+10)=some (.row 51 13 d [(g.nd i).av]))/\vJ (nx+7) ids s.1 H'/\(∀y,y<nx->bo H' y=bo H y)/\Grow g beg keep N s.1/\(iw s.1+if s.2.1=true then 1 else 0)<=iw T/\(s.2.1=false->∀i' k,i<=i'->i'<g.nodes.length->k<N->(i'=i->k<s.2.2)->iM g beg keep s.1 i' k=true->fg s.1 i' k=true))
     (fun s=>N - s.2.2) (T2,ag,0) cG ⟨cU,Nat.zero_le _,⟨_,bt⟩,hT.keep fun x hx=> ?_,fun y hy=>Eq.trans bx (hk3 y hy),hgr,hfa,fun h i' k h1 h2 h3 h4=>hcl h i' k (Classical.byContradiction fun hx=>Nat.not_lt_zero _ (h4 (by omega))) h2 h3⟩ ?_
    ·have:=hids x hx;exact bx
    clear hT hk3 hgr hfa hcl hT2l
    rintro⟨T3,ag2,k⟩ H4 n4 ⟨hn4,hk,⟨dn,rn⟩,hT,hk4,hgr,hfa,hcl⟩
    dsimp only at hk hT hgr hfa hcl ⊢
    have hT3l:=hgr.shape.len
    by_cases hkN:k<N
    ·have hiS:i<(kd T3).length:=by rw[fP,hT3l];exact hi
     have hiT:i<T3.length:=by rw[hT3l];exact hi
     have hql:(jR ids (kd T3)).length=g.nodes.length:=by rw[hT.len,fP,hT3l]
     have hrow:=hgr.shape.row i hi
     obtain⟨d7,r7⟩:=hT.row
     obtain⟨di,ri⟩:=hT.qs i hiS
     have e1:=fun d=>hT.get hiS d
     rw[lT hiT] at ri e1
     rw[List.length_map,hrow] at e1
     have hrl:((T3.getD i []).map bl).length=N:=by rw[List.length_map,hrow]
     have e2:=fun d=>oI (l:=T3.getD i []) (k:=k) (by rw[hrow];exact hkN) d
     have hfol:=(hw.2.2 i hi).2.2
     have hxi:=hids (ids.getD i 0) (List.mem_cons_of_mem _ (e9 (by rw[hle];exact hi)))
     have hne:=hT.ne hiS
     repeat' (first|refine aQ ?_|exact dR|with_reducible refine aB ?_ ?_|((with_reducible refine Ask.mk ?_);first|exact cW|(exact hql)|(exact hrl)|exact cJ)|(apply aA;(·(first|exact e1 _|exact e2 _|exact bz)))|((refine aS (hbeg i hi k hkN _ _ cU (fun y hy=>Eq.trans bx (hk4 y hy))) ?_ ?_);(·exact True.intro))|((refine aR (fun _=>hbeg i hi k hkN _ _ cU (fun y hy=>Eq.trans bx (hk4 y hy))) ?_ ?_);(·exact True.intro))|((refine aS (hkeep i hi k hkN _ _ cU (fun y hy=>Eq.trans bx (hk4 y hy))) ?_ ?_);(·exact True.intro))|((refine aR (fun _=>hkeep i hi k hkN _ _ cU (fun y hy=>Eq.trans bx (hk4 y hy))) ?_ ?_);(·exact True.intro))|((refine aS (fm (hT.keep fun x hx=>bx) hgr.shape (g.nd i) hfol k hkN _) ?_ ?_);(·exact True.intro))|((refine aR (fun _=>fm (hT.keep fun x hx=>bx) hgr.shape (g.nd i) hfol k hkN _) ?_ ?_);(·exact True.intro))|refine aH ?_|((with_reducible refine aE ?_ ?_)<;>intro hc<;>try(exfalso;omega)))
     ·refine⟨(T3,ag2,k+1),by dsimp only;omega,cG,by omega,by dsimp only;omega,⟨_,bt⟩,hT.keep fun x hx=> ?_,fun y hy=>Eq.trans bx (hk4 y hy),hgr,hfa,fun h i' k' a1 a2 a3 a4 a5=> ?_⟩
      ·exact bx
      ·by_cases e:i'=i/\k'=k
       ·obtain⟨rfl,rfl⟩:=e
        unfold iM at a5
        rcases hc with hc|⟨c1,c2|c2⟩
        ·exact hc
        ·rw[c1,c2] at a5;cases a5
        ·rw[c1,c2,Bool.and_false] at a5;cases a5
       ·refine hcl h i' k' a1 a2 a3 (fun e2=> ?_) a5
        have:=a4 e2
        have:¬k'=k:=fun e3=>e ⟨e2,e3⟩
        dsimp only at *
        omega
     ·have hf0:fg T3 i k=false:=hc.1
      have hcell:iM g beg keep T3 i k=true:=by
       unfold iM
       rcases hc.2 with c1|⟨c1,c2⟩
       ·rw[Bool.not_eq_false] at c1;rw[c1];rfl
       ·rw[c1,c2];simp
      have hfs:=tc hgr.shape hi hkN hf0
      refine⟨(mT T3 i k,true,k+1),by dsimp only;omega,cG,by omega,by dsimp only;omega,⟨_,bt⟩,hT.set hiT k ?_ ⟨_,bt⟩ (fun x hx hxn=> ?_),fun y hy=>Eq.trans bx (hk4 y hy),hgr.step hi hkN hcell, ?_,fun h=>by cases h⟩
      ·exact bx
      ·exact bx
      ·dsimp only
       rw[if_pos rfl]
       omega
    ·have:k=N:=by omega
     subst this
     repeat' (first|refine aQ ?_|exact aC|with_reducible refine aB ?_ ?_|(apply aA;(·exact bz))|refine aH ?_|((with_reducible refine aE ?_ ?_)<;>intro hc<;>try(exfalso;omega)))
     exact⟨(T3,ag2,i),by dsimp only;omega,cG,by omega,by dsimp only;omega,hT.keep fun x hx=>bx,fun y hy=>Eq.trans bx (hk4 y hy),hgr,hfa,fun h i' k' a1 a2 a3 a5=>hcl h i' k' a1 a2 a3 (fun _=>a3) a5⟩
set_option maxRecDepth 4000 in
set_option maxHeartbeats 8000000 in
theorem zR (g:bu) (hg:g.Wf) (hw:Whole g) (t:Nat) (cls:List cY) (N:Nat) (hN:N<=4160) (fb fk:FuncId) (bb:Nat) (beg keep:Node->Nat->Bool) (H:Hp) (nx:Nat)
 (hbeg:∀i,i<g.nodes.length->∀k,k<N->∀H' nx',nx<=nx'->(∀y,y<nx->bo H' y=bo H y)->kU Tryz.prog fb ((g.nd i).av::i64 k::[.pt bb 1 0 0]) H' nx' (bl (beg (g.nd i) k)))
 (hkeep:∀i,i<g.nodes.length->∀k,k<N->∀H' nx',nx<=nx'->(∀y,y<nx->bo H' y=bo H y)->kU Tryz.prog fk ((g.nd i).av::i64 k::[.pt bb 1 0 0]) H' nx' (bl (keep (g.nd i) k))):
 cQ Tryz.prog 55 [ej g t cls,i64 N, .fn (.func fb) [] [.pt bb 1 0 0], .fn (.func fk) [] [.pt bb 1 0 0]] H nx (fun r H' n'=>r= .sl (nx+7) g.nodes.length/\sV (nx+7) (qb g beg keep N) H nx H' n'):=by
 have hl:=hg.len
 have hl0:=hw.1
 have hl1:=hw.2.1
 refine aJ JI rfl ?_
 repeat' (first|refine aQ ?_|exact dR|with_reducible refine aB ?_ ?_|((with_reducible refine Ask.mk ?_);first|exact cW|exact cJ|(intro h;simp_all[cD]<;>fail)|(simp_all[cD]<;>fail))|(apply aA;(·exact bz))|refine aH ?_|((with_reducible refine aE ?_ ?_)<;>intro hc<;>try(exfalso;omega)))
 simp only[List.length_map,Int.toNat_natCast]
 refine aI (fun ids:List Nat=>[(0,ej g t cls),(1,i64 N),(2, .fn (.func fb) [] [.pt bb 1 0 0]),(3, .fn (.func fk) [] [.pt bb 1 0 0]),(9, .sl (nx+7) g.nodes.length),(23,i64 g.nodes.length),(24,i64 ids.length)])
  (fun ids H' n'=>ids.length<=g.nodes.length/\nx+12<=n'/\RC (nx+7) ids g.nodes.length N H' n'/\∀y,y<nx->bo H' y=bo H y) (fun ids=>g.nodes.length - ids.length) [] cG ⟨Nat.zero_le _,cU,⟨⟨_,bt⟩,fun x h=>by simp at h,fun x h=>by simp at h,List.nodup_nil⟩,fun y hy=>bx⟩ ?_
 rintro ids H1 n1 ⟨hi,hn1,hp,hk1⟩
 by_cases hil:ids.length<g.nodes.length
 ·obtain⟨d7,r7⟩:=hp.row
  have e1:=fun d=>GY (m:=g.nodes.length) (n:=N) hil d
  have e2:=GZ (m:=g.nodes.length) (n:=N) hi
  repeat' (first|refine aQ ?_|exact dR|with_reducible refine aB ?_ ?_|((with_reducible refine Ask.mk ?_);first|exact cW|(exact e2)|exact cJ)|(apply aA;(·(first|exact e1 _|exact bz)))|refine aH ?_|((with_reducible refine aE ?_ ?_)<;>intro hc<;>try(exfalso;omega)))
  have hlt:=hp.lt
  refine⟨ids++[n1+6],by simp;omega,cG,by simp;omega,cU,⟨⟨_,by rw[<-G1 hil];exact bt⟩,fun x hx=> ?_,fun x hx=> ?_, ?_⟩,fun y hy=>Eq.trans bx (hk1 y hy)⟩
  ·rcases List.mem_append.1 hx with hx|hx
   ·obtain⟨d,h1⟩:=hp.each x hx
    have:=hlt x hx
    exact⟨d,Eq.trans bx h1⟩
   ·simp only[List.mem_cons,List.not_mem_nil,or_false] at hx
    subst hx
    exact⟨_,bt⟩
  ·rcases List.mem_append.1 hx with hx|hx
   ·have:=hlt x hx
    exact⟨this.1,Nat.lt_of_lt_of_le this.2 cU⟩
   ·simp only[List.mem_cons,List.not_mem_nil,or_false] at hx
    subst hx
    exact⟨by omega,cU⟩
  ·refine List.nodup_append.2 ⟨hp.nodup,by simp,fun x hx y hy=> ?_⟩
   simp only[List.mem_cons,List.not_mem_nil,or_false] at hy
   have:=(hlt x hx).2
   omega
 ·have hle:ids.length=g.nodes.length:=by omega
  have hfin:=hp.fin hle
  have hlt:=hp.lt
  have hgr:=Grow.start g beg keep N
  repeat' (first|refine aQ ?_|exact aC|with_reducible refine aB ?_ ?_|(apply aA;(·exact bz))|refine aH ?_|((with_reducible refine aE ?_ ?_)<;>intro hc<;>try(exfalso;omega)))
  have hids:∀x∈(nx+7)::ids,nx<=x/\x<n1:=fun x hx=>by
   rcases List.mem_cons.1 hx with rfl|hx
   ·omega
   ·have:=hlt x hx;omega
  clear hp hlt
  refine aI (fun s:jw×Bool=>[(0,ej g t cls),(1,i64 N),(2, .fn (.func fb) [] [.pt bb 1 0 0]),(3, .fn (.func fk) [] [.pt bb 1 0 0]),(9, .sl (nx+7) g.nodes.length),(11,bl s.2)])
   (fun s H' n'=>n1<=n'/\vJ (nx+7) ids s.1 H'/\(∀y,y<nx->bo H' y=bo H y)/\Grow g beg keep N s.1/\(s.2=false->∀i k,i<g.nodes.length->k<N->iM g beg keep s.1 i k=true->fg s.1 i k=true))
   (fun s=>iw s.1+if s.2=true then 1 else 0) (nT g.nodes.length N,true) cG ⟨cU,hfin.keep fun x hx=> ?_,fun y hy=>Eq.trans bx (hk1 y hy),hgr,fun h=>by cases h⟩ ?_
  ·exact bx
  clear hfin hgr hk1
  rintro⟨T,again⟩ H2 n2 ⟨hn2,hT,hk2,hgr,hcl⟩
  dsimp only at hT hgr hcl ⊢
  cases again with
  |false=>
   have hfin:=hgr.fin hw (hcl rfl)
   repeat' (first|refine aQ ?_|exact aC|with_reducible refine aB ?_ ?_|(apply aA;(·exact bz))|refine aH ?_|((with_reducible refine aE ?_ ?_)<;>intro hc<;>try(exfalso;omega)))
   refine⟨rfl,⟨⟨ids, ?_,fun x hx=>⟨(hids x hx).1,Nat.lt_of_lt_of_le (hids x hx).2 cU⟩⟩,fun y hy=>Eq.trans bx (hk2 y hy),cU⟩⟩
   rw[<-hfin]
   exact hT.keep fun x hx=>bx
  |true=>
   have hTl:=hgr.shape.len
   have hql:(jR ids (kd T)).length=g.nodes.length:=by rw[hT.len,fP,hTl]
   obtain⟨d7,r7⟩:=hT.row
   repeat' (first|refine aQ ?_|exact dR|with_reducible refine aB ?_ ?_|((with_reducible refine Ask.mk ?_);first|exact cW|(exact hql)|exact cJ)|(apply aA;(·exact bz))|refine aH ?_|((with_reducible refine aE ?_ ?_)<;>intro hc<;>try(exfalso;omega)))
   refine aI (fun s:jw×Bool×Nat=>[(0,ej g t cls),(1,i64 N),(2, .fn (.func fb) [] [.pt bb 1 0 0]),(3, .fn (.func fk) [] [.pt bb 1 0 0]),(9, .sl (nx+7) g.nodes.length),(11,bl s.2.1),(12,i64 ((s.2.2:Int) - 1))])
    (fun s H' n'=>n1<=n'/\s.2.2<=g.nodes.length/\vJ (nx+7) ids s.1 H'/\(∀y,y<nx->bo H' y=bo H y)/\Grow g beg keep N s.1/\(iw s.1+if s.2.1=true then 1 else 0)<=iw T/\(s.2.1=false->∀i k,s.2.2<=i->i<g.nodes.length->k<N->iM g beg keep s.1 i k=true->fg s.1 i k=true))
    (fun s=>s.2.2) (T,false,g.nodes.length) cG ⟨cU,Nat.le_refl _,hT.keep fun x hx=> ?_,fun y hy=>Eq.trans bx (hk2 y hy),hgr,by simp,fun _ i k h1 h2=>absurd h1 (by dsimp only;omega)⟩ ?_
   ·exact bx
   clear hT hk2 hgr hcl r7 hql
   rintro⟨T2,ag,j⟩ H3 n3 ⟨hn3,hj,hT,hk3,hgr,hfa,hcl⟩
   dsimp only at hj hT hgr hfa hcl ⊢
   have hT2l:=hgr.shape.len
   cases j with
   |zero=>
    repeat' (first|refine aQ ?_|exact aC|with_reducible refine aB ?_ ?_|(apply aA;(·exact bz))|refine aH ?_|((with_reducible refine aE ?_ ?_)<;>intro hc<;>try(exfalso;omega)))
    exact⟨(T2,ag),by dsimp only;rw[if_pos rfl];omega,cG,cU,hT.keep fun x hx=>bx,fun y hy=>Eq.trans bx (hk3 y hy),hgr,fun h i k h1 h2=>hcl h i k (Nat.zero_le _) h1 h2⟩
   |succ i=>
    have hi:i<g.nodes.length:=by omega
    have ei:((i+1:Nat):Int) - 1=(i:Int):=by omega
    have en:=fun d=>gh hi d
    rw[ei]
    repeat' (first|refine aQ ?_|exact dR|with_reducible refine aB ?_ ?_|((with_reducible refine Ask.mk ?_);first|exact cW|exact cJ|(intro h;simp_all[Node.cells,cD]<;>fail)|(simp_all[Node.cells,cD]<;>fail))|(apply aA;(·(first|exact en _|exact bz)))|refine aH ?_|((with_reducible refine aE ?_ ?_)<;>intro hc<;>try(exfalso;omega)))
    refine aI (fun s:jw×Bool×Nat=>[(0,ej g t cls),(1,i64 N),(2, .fn (.func fb) [] [.pt bb 1 0 0]),(3, .fn (.func fk) [] [.pt bb 1 0 0]),(9, .sl (nx+7) g.nodes.length),(11,bl s.2.1),(12,i64 (i:Int)),(13, .pt (n3+10) 1 0 0),(49,i64 N),(50,i64 s.2.2)])
     (fun s H' n'=>n3+11<=n'/\s.2.2<=N/\(∃d,bo H' (n3+10)=some (.row 51 13 d [(g.nd i).av]))/\vJ (nx+7) ids s.1 H'/\(∀y,y<nx->bo H' y=bo H y)/\Grow g beg keep N s.1/\(iw s.1+if s.2.1=true then 1 else 0)<=iw T/\(s.2.1=false->∀i' k,i<=i'->i'<g.nodes.length->k<N->(i'=i->k<s.2.2)->iM g beg keep s.1 i' k=true->fg s.1 i' k=true))
     (fun s=>N - s.2.2) (T2,ag,0) cG ⟨cU,Nat.zero_le _,⟨_,bt⟩,hT.keep fun x hx=> ?_,fun y hy=>Eq.trans bx (hk3 y hy),hgr,hfa,fun h i' k h1 h2 h3 h4=>hcl h i' k (Classical.byContradiction fun hx=>Nat.not_lt_zero _ (h4 (by omega))) h2 h3⟩ ?_
    ·have:=hids x hx;exact bx
    clear hT hk3 hgr hfa hcl hT2l
    rintro⟨T3,ag2,k⟩ H4 n4 ⟨hn4,hk,⟨dn,rn⟩,hT,hk4,hgr,hfa,hcl⟩
    dsimp only at hk hT hgr hfa hcl ⊢
    have hT3l:=hgr.shape.len
    by_cases hkN:k<N
    ·have hiS:i<(kd T3).length:=by rw[fP,hT3l];exact hi
     have hiT:i<T3.length:=by rw[hT3l];exact hi
     have hql:(jR ids (kd T3)).length=g.nodes.length:=by rw[hT.len,fP,hT3l]
     have hrow:=hgr.shape.row i hi
     obtain⟨d7,r7⟩:=hT.row
     obtain⟨di,ri⟩:=hT.qs i hiS
     have e1:=fun d=>hT.get hiS d
     rw[lT hiT] at ri e1
     rw[List.length_map,hrow] at e1
     have hrl:((T3.getD i []).map bl).length=N:=by rw[List.length_map,hrow]
     have e2:=fun d=>oI (l:=T3.getD i []) (k:=k) (by rw[hrow];exact hkN) d
     have hfol:=(hw.2.2 i hi).2.2
     have hxi:=hids (ids.getD i 0) (List.mem_cons_of_mem _ (e9 (by rw[hle];exact hi)))
     have hne:=hT.ne hiS
     repeat' (first|refine aQ ?_|exact dR|with_reducible refine aB ?_ ?_|((with_reducible refine Ask.mk ?_);first|exact cW|(exact hql)|(exact hrl)|exact cJ)|(apply aA;(·(first|exact e1 _|exact e2 _|exact bz)))|((refine aS (hbeg i hi k hkN _ _ cU (fun y hy=>Eq.trans bx (hk4 y hy))) ?_ ?_);(·exact True.intro))|((refine aR (fun _=>hbeg i hi k hkN _ _ cU (fun y hy=>Eq.trans bx (hk4 y hy))) ?_ ?_);(·exact True.intro))|((refine aS (hkeep i hi k hkN _ _ cU (fun y hy=>Eq.trans bx (hk4 y hy))) ?_ ?_);(·exact True.intro))|((refine aR (fun _=>hkeep i hi k hkN _ _ cU (fun y hy=>Eq.trans bx (hk4 y hy))) ?_ ?_);(·exact True.intro))|((refine aS (fm (hT.keep fun x hx=>bx) hgr.shape (g.nd i) hfol k hkN _) ?_ ?_);(·exact True.intro))|((refine aR (fun _=>fm (hT.keep fun x hx=>bx) hgr.shape (g.nd i) hfol k hkN _) ?_ ?_);(·exact True.intro))|refine aH ?_|((with_reducible refine aE ?_ ?_)<;>intro hc<;>try(exfalso;omega)))
     ·refine⟨(T3,ag2,k+1),by dsimp only;omega,cG,by omega,by dsimp only;omega,⟨_,bt⟩,hT.keep fun x hx=> ?_,fun y hy=>Eq.trans bx (hk4 y hy),hgr,hfa,fun h i' k' a1 a2 a3 a4 a5=> ?_⟩
      ·exact bx
      ·by_cases e:i'=i/\k'=k
       ·obtain⟨rfl,rfl⟩:=e
        unfold iM at a5
        rcases hc with hc|⟨c1,c2|c2⟩
        ·exact hc
        ·rw[c1,c2] at a5;cases a5
        ·rw[c1,c2,Bool.and_false] at a5;cases a5
       ·refine hcl h i' k' a1 a2 a3 (fun e2=> ?_) a5
        have:=a4 e2
        have:¬k'=k:=fun e3=>e ⟨e2,e3⟩
        dsimp only at *
        omega
     ·have hf0:fg T3 i k=false:=hc.1
      have hcell:iM g beg keep T3 i k=true:=by
       unfold iM
       rcases hc.2 with c1|⟨c1,c2⟩
       ·rw[Bool.not_eq_false] at c1;rw[c1];rfl
       ·rw[c1,c2];simp
      have hfs:=tc hgr.shape hi hkN hf0
      refine⟨(mT T3 i k,true,k+1),by dsimp only;omega,cG,by omega,by dsimp only;omega,⟨_,bt⟩,hT.set hiT k ?_ ⟨_,bt⟩ (fun x hx hxn=> ?_),fun y hy=>Eq.trans bx (hk4 y hy),hgr.step hi hkN hcell, ?_,fun h=>by cases h⟩
      ·exact bx
      ·exact bx
      ·dsimp only
       rw[if_pos rfl]
       omega
    ·have:k=N:=by omega
     subst this
     repeat' (first|refine aQ ?_|exact aC|with_reducible refine aB ?_ ?_|(apply aA;(·exact bz))|refine aH ?_|((with_reducible refine aE ?_ ?_)<;>intro hc<;>try(exfalso;omega)))
     exact⟨(T3,ag2,i),by dsimp only;omega,cG,by omega,by dsimp only;omega,hT.keep fun x hx=>bx,fun y hy=>Eq.trans bx (hk4 y hy),hgr,hfa,fun h i' k' a1 a2 a3 a5=>hcl h i' k' a1 a2 a3 (fun _=>a3) a5⟩
theorem wa (u:bq) (g:bu) (hg:g.Wf) (hk:eJ u g) (t:Nat) (cls:List cY) (H:Hp) (nx:Nat):cQ Tryz.prog 24 [ej g t cls] H nx (fun r H' n'=>∃b,r= .sl b g.nodes.length/\sV b (iO g) H nx H' n'):=by
 have hs:=hk.bw
 have hlo:=hk.locals
 obtain⟨N,hN⟩:∃N:Nat,g.bw=N:=⟨g.bw.toNat,by omega⟩
 refine aJ NS rfl ?_
 repeat' (first|refine aQ ?_|exact dR|with_reducible refine aB ?_ ?_|((with_reducible refine Ask.mk ?_);first|exact cW|exact cJ|(intro h;simp_all[cD]<;>fail)|(simp_all[cD]<;>fail))|(apply aA;(·exact bz))|(simp only[hN])|refine aH ?_|((with_reducible refine aE ?_ ?_)<;>intro hc<;>try(exfalso;omega)))
 refine aG (DQ g hg hk.whole t cls N (by omega) _ _ hP kZ _ _ (fun i hi k hkN H' nx' _ _=> ?_) (fun i hi k hkN H' nx' _ _=> ?_)) ?_
 ·exact(yn (g.nd i) (hg.nodes _ (cR default hi)).op.1 (hk.node hi).kind (hk.node hi).op k).view (args2:=[(g.nd i).av,i64 k]) (by rw[List.map_cons,List.map_cons,List.map_nil,dG 6 (by simp[cF]),dG 6 (by simp[cF])]) (by simp[cT,cF]) trivial ⟨rfl,fun _ _=>rfl⟩
 ·exact(D6 (g.nd i) (hg.nodes _ (cR default hi)).op.1 (hk.node hi).kind (hk.node hi).op k).view (args2:=[(g.nd i).av,i64 k]) (by rw[List.map_cons,List.map_cons,List.map_nil,dG 6 (by simp[cF]),dG 6 (by simp[cF])]) (by simp[cT,cF]) trivial ⟨rfl,fun _ _=>rfl⟩
 rintro _ H2 n2 ⟨rfl,hgr⟩
 repeat' (first|refine aQ ?_|exact aC|with_reducible refine aB ?_ ?_|(apply aA;(·exact bz))|refine aH ?_|((with_reducible refine aE ?_ ?_)<;>intro hc<;>try(exfalso;omega)))
 have el:qb g hP kZ N=iO g:=by unfold iO;rw[hN,Int.toNat_natCast]
 rw[el] at hgr
 obtain⟨ids,h1,h2⟩:=hgr.at_
 have hle:=hgr.le
 exact⟨⟨_,rfl,⟨⟨ids,h1.keep fun x hx=>bx,fun x hx=>⟨Nat.le_trans cU (h2 x hx).1,Nat.lt_of_lt_of_le (h2 x hx).2 cU⟩⟩,fun y hy=>Eq.trans bx ((hgr.keep y (Nat.lt_of_lt_of_le hy cU)).trans bx),cU⟩⟩⟩
@[simp] theorem vT (n:Nat) (g:bu) (t:Nat) (cls:List cY):cT n (cD g t cls):=by simp[cD,cF,cT,cI,cY.cells]
theorem IM (g:bu) (t:Nat) (cls:List cY):cF 0 (ej g t cls):=by simp[ej,cD,cF,cT,cI,cY.cells]
set_option maxRecDepth 4000 in
set_option maxHeartbeats 4000000 in
theorem CI (g:bu) (n:Node) (ho:0<=n.op) (h:1<=n.kind/\n.kind<10) (hop:(n.kind=1->n.op<19)/\(n.kind≠1->n.op=0)) (t:Nat) (cls:List cY) (v:Nat) (hv:v<cls.length) (b:Nat) (H:Hp) (nx:Nat) (e:TypeId) (d:AV) (hrb:bo H b=some (.row e 1 d [ej g t cls])) (hbn:b<nx):
 kU Tryz.prog 89 [n.av,i64 v, .pt b 1 0 0] H nx (bl (qX cls t n v)):=by
 have hm:=nA n ho h hop
 unfold wc at hm
 refine aV OX rfl ?_
 have how:=ua g t cls v hv
 unfold qX
 cases hob:jr cls t v with
 |false=>
  rw[hob] at how
  repeat' (first|refine aQ ?_|exact dR|with_reducible refine aB ?_ ?_|((with_reducible refine Ask.mk ?_);first|exact cW|(intro h1 h2;rw[h1,h2];rfl)|exact cJ|(intro h;simp_all[Node.cells]<;>fail)|(simp_all[Node.cells]<;>fail))|(apply aA;(·exact bz))|refine aK (how) ?_|refine aK (hm) ?_|refine aH ?_|((with_reducible refine aE ?_ ?_)<;>intro hc<;>try(exfalso;omega)))
  exact sK.look rfl kB
 |true=>
  rw[hob] at how
  repeat' (first|refine aQ ?_|exact dR|with_reducible refine aB ?_ ?_|((with_reducible refine Ask.mk ?_);first|exact cW|(intro h1 h2;rw[h1,h2];rfl)|exact cJ|(intro h;simp_all[Node.cells]<;>fail)|(simp_all[Node.cells]<;>fail))|(apply aA;(·exact bz))|refine aK (how) ?_|refine aK (hm) ?_|refine aH ?_|((with_reducible refine aE ?_ ?_)<;>intro hc<;>try(exfalso;omega)))
  refine sK.look ?_ kB
  refine dZ ?_
  rw[show decide (n.kind=2\/n.kind=4)=D7 n from rfl]
  cases decide (n.kind=9)<;>cases decide (n.kind=5)<;>cases D7 n<;>simp
set_option maxRecDepth 4000 in
set_option maxHeartbeats 4000000 in
theorem CJ (g:bu) (n:Node) (t:Nat) (cls:List cY) (v:Nat) (hv:v<cls.length) (b:Nat) (H:Hp) (nx:Nat) (e:TypeId) (d:AV) (hrb:bo H b=some (.row e 1 d [ej g t cls])) (hbn:b<nx):
 kU Tryz.prog 90 [n.av,i64 v, .pt b 1 0 0] H nx (bl (rp cls t n v)):=by
 refine aV OY rfl ?_
 have how:=ua g t cls v hv
 repeat' (first|refine aQ ?_|exact dR|with_reducible refine aB ?_ ?_|((with_reducible refine Ask.mk ?_);first|exact cW|(intro h1 h2;rw[h1,h2];rfl)|exact cJ|(intro h;simp_all[Node.cells]<;>fail)|(simp_all[Node.cells]<;>fail))|(apply aA;(·exact bz))|refine aK (how) ?_|refine aH ?_|((with_reducible refine aE ?_ ?_)<;>intro hc<;>try(exfalso;omega)))
 refine sK.look ?_ kB
 refine dZ ?_
 unfold rp
 cases jr cls t v<;>by_cases h3:n.kind=3<;>by_cases h4:n.cB=v<;>simp[h3,h4]
set_option maxRecDepth 4000 in
set_option maxHeartbeats 4000000 in
theorem FM (u:bq) (g:bu) (hg:g.Wf) (hk:eJ u g) (t:Nat) (cls:List cY) (hcl:cls.length<=64) (H:Hp) (nx:Nat):cQ Tryz.prog 51 [ej g t cls] H nx (fun r H' n'=>∃b,r= .sl b g.nodes.length/\sV b (oU g cls t) H nx H' n'):=by
 refine aJ OD rfl ?_
 repeat' (first|refine aQ ?_|exact dR|with_reducible refine aB ?_ ?_|((with_reducible refine Ask.mk ?_);first|exact cW|exact cJ|(intro h;simp_all[cD]<;>fail)|(simp_all[cD]<;>fail))|(apply aA;(·exact bz))|refine aH ?_|((with_reducible refine aE ?_ ?_)<;>intro hc<;>try(exfalso;omega)))
 rw[List.length_map]
 refine aG (zR g hg hk.whole t cls cls.length (by omega) _ _ nx (qX cls t) (rp cls t) _ _ (fun i hi k hkN H' nx' h1 h2=> ?_) (fun i hi k hkN H' nx' h1 h2=> ?_)) ?_
 ·exact CI g (g.nd i) (hg.nodes _ (cR default hi)).op.1 (hk.node hi).kind (hk.node hi).op t cls k hkN nx H' nx' 70 .any ((h2 nx cU).trans bt) (Nat.lt_of_lt_of_le cU h1)
 ·exact CJ g (g.nd i) t cls k hkN nx H' nx' 70 .any ((h2 nx cU).trans bt) (Nat.lt_of_lt_of_le cU h1)
 rintro _ H2 n2 ⟨rfl,hgr⟩
 repeat' (first|refine aQ ?_|exact aC|with_reducible refine aB ?_ ?_|(apply aA;(·exact bz))|refine aH ?_|((with_reducible refine aE ?_ ?_)<;>intro hc<;>try(exfalso;omega)))
 have el:qb g (qX cls t) (rp cls t) cls.length=oU g cls t:=rfl
 rw[el] at hgr
 obtain⟨ids,h1,h2⟩:=hgr.at_
 exact⟨⟨_,rfl,⟨⟨ids,h1.keep fun x hx=>bx,fun x hx=>⟨Nat.le_trans cU (h2 x hx).1,Nat.lt_of_lt_of_le (h2 x hx).2 cU⟩⟩,fun y hy=>Eq.trans bx ((hgr.keep y (Nat.lt_of_lt_of_le hy cU)).trans bx),Nat.le_trans cU (Nat.le_trans hgr.le cU)⟩⟩⟩
abbrev X8:AV:= .sc (.pointer none)
theorem vm (u:bq) (hu:u.Wf) (hr:¬cN u) (t:Int):Pure Tryz.prog 22 [u.av,i64 t] (fun r=>r= .df [X8,i64 60]):=by
 have h:=l6 u hu
 rw[if_neg (mt dB.1 hr)] at h
 refine aD D2 rfl ?_
 repeat' (first|refine aQ ?_|exact dR|with_reducible refine aB ?_ ?_|((with_reducible refine Ask.mk ?_);first|exact cW|exact cJ|(intro h;simp_all[bq.cells]<;>fail)|(simp_all[bq.cells]<;>fail))|(apply aA;(·exact bz))|refine aK (h) ?_|refine aH ?_|((with_reducible refine aE ?_ ?_)<;>intro hc<;>try(exfalso;omega)))
 exact rfl
theorem rW (u:bq) (hu:u.Wf) (hr:cN u) (t:Int) (ht:t<0\/(u.br.length:Int)<=t):Pure Tryz.prog 22 [u.av,i64 t] (fun r=>r= .df [X8,i64 2]):=by
 have h:=l6 u hu
 rw[if_pos (dB.2 hr)] at h
 unfold j9 at h
 have hf:cT 0 ((cP u).map cY.av):=kC _
 refine aD D2 rfl ?_
 repeat' (first|refine aQ ?_|exact dR|with_reducible refine aB ?_ ?_|((with_reducible refine Ask.mk ?_);first|exact cW|exact cJ|(intro h;simp_all[bq.cells]<;>fail)|(simp_all[bq.cells]<;>fail))|(apply aA;(·exact bz))|refine aK (h) ?_|refine aH ?_|((with_reducible refine aE ?_ ?_)<;>intro hc<;>try(exfalso;omega)))
 all_goals first|exact rfl|(exfalso;omega)
theorem pd {H:Hp} {k:Nat} {a b:AV}:cw.dj H (k+1) (.df [a,b])= .df [cw.dj H k a,cw.dj H k b]:=by simp only[dj,List.map_cons,List.map_nil]
theorem tu {H:Hp} (k:Nat) {v:Value} (h:cF 0 (.sc v)):cw.dj H k (.sc v)= .sc v:=dG k h
set_option maxRecDepth 4000 in
set_option maxHeartbeats 4000000 in
theorem tI (u:bq) (hu:u.Wf) (hr:cN u) (t:Nat) (ht:t<u.br.length):Pure Tryz.prog 22 [u.av,i64 t] (fun r=>r= .df [ej (u.gr t) t (cP u),i64 0]):=by
 have h:=l6 u hu
 rw[if_pos (dB.2 hr)] at h
 unfold j9 at h
 have hgw:=hu.br _ (cR default ht)
 have hgo:=hr.gr ht
 have hrp:=qN (u.gr t) hgw (rO hgo.whole) (sD (u.gr t) hgw hgo.whole (-1) (by unfold eW;omega))
 have eg:=fun d=>pj ht d
 refine dO ?_ (by rw[cF,cT,cT,cT];exact⟨IM _ _ _,by simp[cF],trivial⟩)
 refine aJ D2 rfl ?_
 repeat' (first|refine aQ ?_|exact dR|with_reducible refine aB ?_ ?_|((with_reducible refine Ask.mk ?_);first|exact cW|exact cJ|(intro h;simp_all[bq.cells,bu.cells]<;>fail)|(simp_all[bq.cells,bu.cells]<;>fail))|(apply aA;(·(first|exact eg _|exact bz)))|refine aK (h) ?_|refine aK (hrp) ?_|refine aH ?_|((with_reducible refine aE ?_ ?_)<;>intro hc<;>try(exfalso;omega)))
 refine⟨pd.trans ?_⟩
 rw[tu 5 (by simp[cF])]
 refine congrArg (fun z=>AV.df [z,i64 0]) ?_
 refine(MJ (e:=114) (d:= .any) (es:=[.agg (cD (u.gr t) t (cP u))]) bt rfl).trans ?_
 rw[cu _ (by rw[cT,cF,cT];exact⟨vT _ _ _ _,trivial⟩)]
noncomputable def QM (u:bq) (t:Int) (T:jw):AV:=if nI u=true then(if t<0\/(u.br.length:Int)<=t then .df [.im 1 .any [],i64 2] else .df [.im 1 .any (T.map ju),i64 0]) else .df [.im 1 .any [],i64 60]
theorem GD (T:jw):cT 0 (T.map ju):=(cI _ _).2 fun _ _=>by simp[ju,cF,cI]
theorem sg {P:Program} {f:FuncId} {args:List AV} {n:Int} (h:Pure P f args (fun r=>r= .df [.sc (.slice none 0 0),i64 n])):Pure P f args (fun r=>r= .df [.im 1 .any [],i64 n]):=by
 refine qL (u:= .df [.sc (.slice none 0 0),i64 n]) (h.mono fun r hr=> .inl hr) (by simp[cF,cT]) fun c=> ?_
 intro v hv
 rw[VR] at hv ⊢
 obtain⟨vs,rfl,hv⟩:=hv
 refine⟨vs,rfl, ?_⟩
 rw[cj] at hv ⊢
 obtain⟨v1,vs1,e1,h1,h2⟩:=hv
 exact⟨v1,vs1,e1,cw.da.qE c c 1 .any _ h1,h2⟩
theorem HG (u:bq) (hu:u.Wf) (t:Int):Pure Tryz.prog 10 [u.av,i64 t] (fun r=>r=QM u t (iO (u.gr t.toNat))):=by
 unfold QM
 by_cases hr:cN u
 ·rw[if_pos (dB.2 hr)]
  by_cases ht:t<0\/(u.br.length:Int)<=t
  ·rw[if_pos ht]
   have ha:=rW u hu hr t ht
   refine sg ?_
   refine aD D0 rfl ?_
   repeat' (first|refine aQ ?_|exact dR|with_reducible refine aB ?_ ?_|((with_reducible refine Ask.mk ?_);first|exact cW|exact cJ|(intro h;simp_all[bq.cells]<;>fail)|(simp_all[bq.cells]<;>fail))|(apply aA;(·exact bz))|refine aK (ha) ?_|refine aH ?_|((with_reducible refine aE ?_ ?_)<;>intro hc<;>try(exfalso;omega)))
   exact rfl
  ·rw[if_neg ht]
   obtain⟨k,rfl⟩:∃k:Nat,t=k:=⟨t.toNat,by omega⟩
   rw[Int.toNat_natCast]
   have hk:k<u.br.length:=by omega
   have ha:=tI u hu hr k hk
   have hgo:=hr.gr hk
   refine dO ?_ (by rw[cF,cT,cT,cT,cF];exact⟨GD _,by simp[cF],trivial⟩)
   refine aJ D0 rfl ?_
   repeat' (first|refine aQ ?_|exact dR|with_reducible refine aB ?_ ?_|((with_reducible refine Ask.mk ?_);first|exact cW|exact cJ|(intro h;simp_all[bq.cells]<;>fail)|(simp_all[bq.cells]<;>fail))|(apply aA;(·exact bz))|refine aK (ha) ?_|refine aH ?_|((with_reducible refine aE ?_ ?_)<;>intro hc<;>try(exfalso;omega)))
   refine aG (wa u (u.gr k) (hu.br _ (cR default hk)) hgo k (cP u) _ _) ?_
   rintro _ H2 n2 ⟨b,rfl,hgr⟩
   obtain⟨ids,h1,h2⟩:=hgr.at_
   repeat' (first|refine aQ ?_|exact aC|with_reducible refine aB ?_ ?_|(apply aA;(·exact bz))|refine aH ?_|((with_reducible refine aE ?_ ?_)<;>intro hc<;>try(exfalso;omega)))
   refine⟨pd.trans ?_⟩
   have hl:(iO (u.gr k)).length=(u.gr k).nodes.length:=(mE _ _ _ _).len
   rw[tu 5 (by simp[cF]),<-hl]
   exact congrArg (fun z=>AV.df [z,i64 0]) (yL (h1.keep fun x hx=>bx) 3)
 ·rw[if_neg (mt dB.1 hr)]
  have ha:=vm u hu hr t
  refine sg ?_
  refine aD D0 rfl ?_
  repeat' (first|refine aQ ?_|exact dR|with_reducible refine aB ?_ ?_|((with_reducible refine Ask.mk ?_);first|exact cW|exact cJ|(intro h;simp_all[bq.cells]<;>fail)|(simp_all[bq.cells]<;>fail))|(apply aA;(·exact bz))|refine aK (ha) ?_|refine aH ?_|((with_reducible refine aE ?_ ?_)<;>intro hc<;>try(exfalso;omega)))
  exact rfl
end Go.Proofs.YtekfmjjmihomlaaGreatDoor
