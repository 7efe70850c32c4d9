import Derived.Test.YtmonponfppdgfaaGreatDoorM28
section
/- What is behind a node: the walk. -/
namespace Go.Proofs.YtmonponfppdgfaaGreatDoor
open Go Go.ck Go.Proofs
set_option linter.unusedSimpArgs false
set_option linter.unusedVariables false
theorem JS {T:hX} {i:Int} (h:i.toNat<T.length) (d:AV):(T.map fg).getD i.toNat d= .im 1 .any ((T.getD i.toNat []).map bl):=dH fg T _ d h
theorem gR {l:List Bool} {k:Nat} (h:k<l.length) (d:AV):(l.map bl).getD ((k:Int)).toNat d=bl (l.getD k false):=by
 rw[Int.toNat_natCast];exact dH bl l k d h
theorem jI {T:hX} {m n:Nat} (hT:Shape T m n) (to:Int) (h0:0≤to) (h1:to.toNat<m) (k:Nat) (hk:k<n) (b1 b2:Nat) (H:Hp) (nx:Nat) (e1 e2:TypeId) (d1 d2:AV) (hb1:bj H b1=some (.row e1 1 d1 [.im 1 .any (T.map fg)])) (hb2:bj H b2=some (.row e2 1 d2 [i64 k])) (hn1:b1<nx) (hn2:b2<nx):
 kC Tryz.prog 77 [i64 to, .pt b1 1 0 0, .pt b2 1 0 0] H nx (bl (dY T to.toNat k)):=by
 have eT:=fun d=>JS (T:=T) (i:=to) (by rw[hT.len];exact h1) d
 have ek:=fun d=>gR (l:=T.getD to.toNat []) (k:=k) (by rw[hT.row _ h1];exact hk) d
 have hl1:(T.map fg).length=m:=by rw[List.length_map,hT.len]
 have hl2:((T.getD to.toNat []).map bl).length=n:=by rw[List.length_map,hT.row _ h1]
 refine aU EU rfl ?_
 repeat' (first|((with_reducible refine aE ?_);conv=>whnf)|refine aG ?_|exact cN|with_reducible refine aD ?_ ?_|((with_reducible refine Ask.mk ?_);first|exact bw|(exact hl1)|(exact hl2)|exact br)|(apply aA;(·(first|exact eT _|exact ek _|exact bm)))|refine aH ?_|((with_reducible refine aB ?_ ?_)<;>intro hc<;>(try simp only[List.length_map,ne_eq,cD] at hc)<;>try(exfalso;omega)))
 exact pk.look rfl jk
def j0 (p:Int→Bool):List Int→Nat→Int
 |[],_=>-1
 |x::r,i=>if p x=true then(i:Int) else j0 p r (i+1)
theorem vT (p:Int→Bool) (l:List Int) {i:Nat} (h:i<l.length):j0 p (l.drop i) i=if p (l.getD i 0)=true then(i:Int) else j0 p (l.drop (i+1)) (i+1):=by
 rw[List.drop_eq_getElem_cons h,j0,gd h]
theorem qt (p:Int→Bool):∀(l:List Int) (i:Nat),decide (0≤j0 p l i)=l.any p
 |[],i=>by simp[j0]
 |x::r,i=>by
  rw[j0]
  by_cases h:p x=true
  ·rw[if_pos h];simp[h]
  ·rw[if_neg h,qt p r];simp[h]
theorem rE {T:hX} {m n:Nat} (hT:Shape T m n) (l:List Int) (hl2:l.length≤2) (hl:∀to∈l,0≤to∧to.toNat<m) (k:Nat) (hk:k<n) (b1 b2:Nat) (H:Hp) (nx:Nat) (e1 e2:TypeId) (d1 d2:AV) (hb1:bj H b1=some (.row e1 1 d1 [.im 1 .any (T.map fg)])) (hb2:bj H b2=some (.row e2 1 d2 [i64 k])) (hn1:b1<nx) (hn2:b2<nx):
 kC Tryz.prog 101 [.im 1 .any (l.map i64), .fn (.func 77) [] [.pt b1 1 0 0, .pt b2 1 0 0]] H nx (i64 (j0 (fun j=>dY T j.toNat k) l 0)):=by
 refine aU vr rfl ?_
 repeat' (first|((with_reducible refine aE ?_);conv=>whnf)|refine aG ?_|exact aC|with_reducible refine aD ?_ ?_|(apply aA;(·exact bm))|refine aH ?_|((with_reducible refine aB ?_ ?_)<;>intro hc<;>(try simp only[List.length_map,ne_eq,cD] at hc)<;>try(exfalso;omega)))
 simp only[List.length_map]
 refine aJ (fun i:Nat=>[(0, .im 1 .any (l.map i64)),(1, .fn (.func 77) [] [.pt b1 1 0 0, .pt b2 1 0 0]),(7,i64 l.length),(8,i64 i)])
  (fun i H' n'=>i≤l.length∧nx≤n'∧(∀y,y<nx→bj H' y=bj H y)∧j0 (fun j=>dY T j.toNat k) (l.drop i) i=j0 (fun j=>dY T j.toNat k) l 0) (fun i=>l.length - i) 0 bt ⟨Nat.zero_le _,cI,fun y hy=>bu,rfl⟩ ?_
 rintro i H1 n1 ⟨hi,hn,hk1,hf⟩
 by_cases hil:i<l.length
 ·obtain⟨t0,t1⟩:=hl _ (cC 0 hil)
  have e:=fun d=>eS hil d
  rw[vT _ _ hil] at hf
  have g1:=(hk1 b1 hn1).trans hb1
  have g2:=(hk1 b2 hn2).trans hb2
  cases ht:dY T (l.getD i 0).toNat k with
  |true=>
   rw[if_pos ht] at hf
   repeat' (first|((with_reducible refine aE ?_);conv=>whnf)|refine aG ?_|exact aC|with_reducible refine aD ?_ ?_|(apply aA;(·(first|exact e _|exact bm)))|((refine aT ((ht▸jI hT (l.getD i 0) t0 t1 k hk b1 b2 _ _ e1 e2 d1 d2 (by exact bk) (by exact bk) cI cI)) ?_ ?_);(·exact True.intro))|((refine aS (fun _=>(ht▸jI hT (l.getD i 0) t0 t1 k hk b1 b2 _ _ e1 e2 d1 d2 (by exact bk) (by exact bk) cI cI)) ?_ ?_);(·exact True.intro))|refine aH ?_|((with_reducible refine aB ?_ ?_)<;>intro hc<;>(try simp only[List.length_map,ne_eq,cD] at hc)<;>try(exfalso;omega)))
   exact pk.look (by rw[←hf]) (fun y hy=>Eq.trans bu (hk1 y hy))
  |false=>
   rw[if_neg (by rw[ht];decide)] at hf
   repeat' (first|((with_reducible refine aE ?_);conv=>whnf)|refine aG ?_|exact aC|with_reducible refine aD ?_ ?_|(apply aA;(·(first|exact e _|exact bm)))|((refine aT ((ht▸jI hT (l.getD i 0) t0 t1 k hk b1 b2 _ _ e1 e2 d1 d2 (by exact bk) (by exact bk) cI cI)) ?_ ?_);(·exact True.intro))|((refine aS (fun _=>(ht▸jI hT (l.getD i 0) t0 t1 k hk b1 b2 _ _ e1 e2 d1 d2 (by exact bk) (by exact bk) cI cI)) ?_ ?_);(·exact True.intro))|refine aH ?_|((with_reducible refine aB ?_ ?_)<;>intro hc<;>(try simp only[List.length_map,ne_eq,cD] at hc)<;>try(exfalso;omega)))
   exact⟨i+1,by omega,bt,by omega,by omega,fun y hy=>Eq.trans bu (hk1 y hy),hf⟩
 ·have:i=l.length:=by omega
  subst this
  rw[List.drop_eq_nil_of_le (Nat.le_refl _),j0] at hf
  repeat' (first|((with_reducible refine aE ?_);conv=>whnf)|refine aG ?_|exact aC|with_reducible refine aD ?_ ?_|(apply aA;(·exact bm))|refine aH ?_|((with_reducible refine aB ?_ ?_)<;>intro hc<;>(try simp only[List.length_map,ne_eq,cD] at hc)<;>try(exfalso;omega)))
  exact pk.look (by rw[←hf]) (fun y hy=>Eq.trans bu (hk1 y hy))
theorem mc {T:hX} {m n:Nat} (hT:Shape T m n) (l:List Int) (hl2:l.length≤2) (hl:∀to∈l,0≤to∧to.toNat<m) (k:Nat) (hk:k<n) (b1 b2:Nat) (H:Hp) (nx:Nat) (e1 e2:TypeId) (d1 d2:AV) (hb1:bj H b1=some (.row e1 1 d1 [.im 1 .any (T.map fg)])) (hb2:bj H b2=some (.row e2 1 d2 [i64 k])) (hn1:b1<nx) (hn2:b2<nx):
 kC Tryz.prog 75 [.im 1 .any (l.map i64), .fn (.func 77) [] [.pt b1 1 0 0, .pt b2 1 0 0]] H nx (bl (l.any fun j=>dY T j.toNat k)):=by
 refine aU ES rfl ?_
 repeat' (first|((with_reducible refine aE ?_);conv=>whnf)|refine aG ?_|exact aC|with_reducible refine aD ?_ ?_|(apply aA;(·exact bm))|((refine aT (rE hT l hl2 hl k hk b1 b2 _ _ e1 e2 d1 d2 (by exact bk) (by exact bk) cI cI) ?_ ?_);(·exact True.intro))|((refine aS (fun _=>rE hT l hl2 hl k hk b1 b2 _ _ e1 e2 d1 d2 (by exact bk) (by exact bk) cI cI) ?_ ?_);(·exact True.intro))|refine aH ?_|((with_reducible refine aB ?_ ?_)<;>intro hc<;>(try simp only[List.length_map,ne_eq,cD] at hc)<;>try(exfalso;omega)))
 refine pk.look ?_ jk
 exact cf (qt _ _ _)
theorem pL {T:hX} {m n:Nat} (hT:Shape T m n) (nd:Node) (hl:∀to∈nd.dJ,0≤to∧to.toNat<m) (k:Nat) (hk:k<n):Pure Tryz.prog 43 [.im 1 .any (T.map fg),nd.av,i64 k] (fun r=>r=bl (kE T nd k)):=by
 have hf:=sI nd
 unfold dN at hf
 refine aI DY rfl ?_
 repeat' (first|((with_reducible refine aE ?_);conv=>whnf)|refine aG ?_|exact cN|with_reducible refine aD ?_ ?_|((with_reducible refine Ask.mk ?_);first|exact bw|exact br|(intro h;simp_all[Node.cells]<;>fail)|(simp_all[Node.cells]<;>fail))|(apply aA;(·exact bm))|refine aK (hf) ?_|((refine aT (mc hT nd.fold (l9 nd) (fun to h=>hl to (gy.1 h)) k hk _ _ _ _ _ _ _ _ (by exact bk) (by exact bk) cI cI) ?_ ?_);(·exact True.intro))|((refine aS (fun _=>mc hT nd.fold (l9 nd) (fun to h=>hl to (gy.1 h)) k hk _ _ _ _ _ _ _ _ (by exact bk) (by exact bk) cI cI) ?_ ?_);(·exact True.intro))|refine aH ?_|((with_reducible refine aB ?_ ?_)<;>intro hc<;>(try simp only[List.length_map,ne_eq,cD] at hc)<;>try(exfalso;omega)))
 exact cf (ux _ _)
end Go.Proofs.YtmonponfppdgfaaGreatDoor
end
section
/- Tables in rows of rows; how they grow: the walk. -/
namespace Go.Proofs.YtmonponfppdgfaaGreatDoor
open Go Go.ck Go.Proofs
set_option linter.unusedSimpArgs false
set_option linter.unusedVariables false
def gW (T:hX):List (List AV):=T.map fun l=>l.map bl
abbrev nY (b:Nat) (ids:List Nat) (T:hX) (H:Hp):Prop:=uc 26 4 1 b ids (gW T) H
theorem dM (T:hX):(gW T).length=T.length:=by simp[gW]
theorem fp {T:hX} {i:Nat} (h:i<T.length):(gW T).getD i []=(T.getD i []).map bl:=by simp[gW,List.getD,h]
theorem oO {b:Nat} {ids:List Nat} {T:hX} {H:Hp} (h:nY b ids T H) (k:Nat):ck.dw H (k+2) (.sl b T.length)= .im 1 .any (T.map fg):=by
 obtain⟨d,h1⟩:=h.row
 rw[dG h1 (by rw[h.len,dM])]
 congr 1
 apply List.ext_getElem
 ·rw[List.length_map,h.len,dM,List.length_map]
 ·intro i h2 h3
  have hi:i<T.length:=by simpa using h3
  have hi2:i<(gW T).length:=by rw[dM];exact hi
  rw[List.getElem_map,List.getElem_map]
  have e1:(gV ids (gW T))[i]'(by rw[h.len];exact hi2)= .sl (ids.getD i 0) ((gW T).getD i []).length:=by
   rw[←h.get hi2 .any];exact(gd _ _).symm
  rw[e1,fp hi]
  obtain⟨d2,h4⟩:=h.qs i hi2
  rw[fp hi] at h4
  rw[dG h4 rfl,cc _ (jT _ _),gd hi]
  rfl
theorem fW {b:Nat} {ids:List Nat} {T:hX} {H:Hp} {m n:Nat} (h:nY b ids T H) (hT:Shape T m n) (nd:Node) (hl:∀to∈nd.dJ,0≤to∧to.toNat<m) (k:Nat) (hk:k<n) (nx:Nat):kC Tryz.prog 43 [.sl b m,nd.av,i64 k] H nx (bl (kE T nd k)):=by
 refine Pure.view (args2:=[.im 1 .any (T.map fg),nd.av,i64 k]) (pL hT nd hl k hk) ?_ ?_ trivial ⟨rfl,fun _ _=>rfl⟩
 ·rw[List.map_cons,List.map_cons,List.map_cons,List.map_nil,←hT.len,oO h,dB 6 (by simp[cG]),dB 6 (by simp[cG])]
 ·have:cL 0 (T.map fg):=(cJ _ _).2 fun _ _=>by simp[fg,cG,cJ]
  simp only[cL,cG]
  exact⟨this,vN _ _,trivial,trivial⟩
theorem F4 {ids:List Nat} {S S2:List (List AV)} (h:S.map List.length=S2.map List.length):gV ids S=gV ids S2:=by
 have:∀(ids:List Nat) (S:List (List AV)),gV ids S=List.zipWith (fun x n=>AV.sl x n) ids (S.map List.length):=by
  intro ids S
  simp[gV,List.zipWith_map_right]
 rw[this,this,h]
theorem GQ {T:hX} {i k:Nat}:(kd T i k).map List.length=T.map List.length:=by
 apply List.ext_getElem
 ·simp[kd]
 ·intro j h1 h2
  have hj:j<T.length:=by simpa using h2
  simp only[List.getElem_map,kd,List.getElem_set]
  split
  ·rename_i e;subst e;rw[List.length_set,gd hj]
  ·rfl
theorem wz (T:hX):(gW T).map List.length=T.map List.length:=by simp[gW,Function.comp_def]
theorem nY.set {b:Nat} {ids:List Nat} {T:hX} {H H':Hp} (h:nY b ids T H) {i:Nat} (hi:i<T.length) (k:Nat) (h1:bj H' b=bj H b)
 (h2:∃d,bj H' (ids.getD i 0)=some (.row 4 1 d (((T.getD i []).map bl).set k (bl true)))) (h3:∀x∈ids,x≠ids.getD i 0→bj H' x=bj H x):nY b ids (kd T i k) H':=by
 have el:(kd T i k).length=T.length:=by simp[kd]
 have hl:ids.length=T.length:=by rw[h.lens,dM]
 refine⟨?_,fun j hj=> ?_,by rw[hl,dM,el],h.nodup⟩
 ·obtain⟨d,hr⟩:=h.row
  exact⟨d,(h1.trans hr).trans (by rw[show gV ids (gW (kd T i k))=gV ids (gW T) from F4 (by rw[wz,wz,GQ])])⟩
 ·rw[dM,el] at hj
  have hjS:j<(gW T).length:=by rw[dM];exact hj
  rw[fp (by rw[el];exact hj)]
  unfold kd
  rw[dE]
  by_cases e:i=j
  ·subst e
   rw[if_pos ⟨rfl,hi⟩]
   obtain⟨d,h4⟩:=h2
   exact⟨d,by rw[h4,iX]⟩
  ·rw[if_neg (fun h=>e h.1)]
   obtain⟨d,h4⟩:=h.qs j hjS
   rw[fp hj] at h4
   exact⟨d,(h3 _ (ee (by rw[hl];exact hj)) (h.other (by rw[dM];exact hi) hjS (Ne.symm e))).trans h4⟩
structure zQ (b:Nat) (ids:List Nat) (m n:Nat) (H:Hp) (nx:Nat):Prop where
 row:∃d,bj H b=some (.row 26 1 d (ids.map (fun x=>AV.sl x n)++List.replicate (m - ids.length) (.sc (.slice none 0 0))))
 each:∀x∈ids,∃d,bj H x=some (.row 4 1 d (List.replicate n (bl false)))
 lt:∀x∈ids,b<x∧x<nx
 nodup:ids.Nodup
theorem zQ.fin {b:Nat} {ids:List Nat} {m n:Nat} {H:Hp} {nx:Nat} (h:zQ b ids m n H nx) (hl:ids.length=m):nY b ids (kh m n) H:=by
 have ez:gW (kh m n)=List.replicate m (List.replicate n (bl false)):=by simp[gW,kh]
 refine⟨?_,fun i hi=> ?_,by rw[ez,List.length_replicate,hl],List.nodup_cons.2 ⟨fun hm=>by have:=(h.lt b hm).1;omega,h.nodup⟩⟩
 ·obtain⟨d,h1⟩:=h.row
  refine⟨d, ?_⟩
  rw[h1,ez,hl,Nat.sub_self,List.replicate_zero,List.append_nil]
  congr 3
  apply List.ext_getElem
  ·simp[gV,hl]
  ·intro i h2 h3;simp[gV]
 ·rw[ez] at hi ⊢
  rw[List.length_replicate] at hi
  have e1:(List.replicate m (List.replicate n (bl false))).getD i []=List.replicate n (bl false):=by simp[List.getD,List.getElem?_replicate,hi]
  rw[e1]
  exact h.each _ (ee (by rw[hl];exact hi))
theorem qM {ids:List Nat} {m n x:Nat} (h:ids.length<m):(ids.map (fun x=>AV.sl x n)++List.replicate (m - ids.length) (AV.sc (.slice none 0 0))).set ids.length (.sl x n)=(ids++[x]).map (fun x=>AV.sl x n)++List.replicate (m - (ids++[x]).length) (AV.sc (.slice none 0 0)):=by
 rw[List.set_append,if_neg (by simp),List.length_map,Nat.sub_self,show m - ids.length=(m - (ids++[x]).length)+1 by simp;omega,List.replicate_succ]
 simp
theorem mQ {ids:List Nat} {m n:Nat} (h:ids.length≤m):(ids.map (fun x=>AV.sl x n)++List.replicate (m - ids.length) (AV.sc (.slice none 0 0))).length=m:=by simp;omega
theorem qL {ids:List Nat} {m n:Nat} (h:ids.length<m) (d:AV):(ids.map (fun x=>AV.sl x n)++List.replicate (m - ids.length) (AV.sc (.slice none 0 0))).getD ids.length d= .sc (.slice none 0 0):=by
 rw[List.getD,List.getElem?_append_right (by simp),List.length_map,Nat.sub_self]
 rw[List.getElem?_replicate,if_pos (by omega)];rfl
structure pz (b:Nat) (T:hX) (H0:Hp) (nx:Nat) (H:Hp) (n:Nat):Prop where
 at_:∃ids,nY b ids T H∧∀x∈b::ids,nx≤x∧x<n
 cE:∀y,y<nx→bj H y=bj H0 y
 le:nx≤n
set_option maxRecDepth 4000 in
set_option maxHeartbeats 8000000 in
theorem xd (g:bo) (hg:g.Wf) (hw:Whole g) (t:Nat) (cls:List cB) (N:Nat) (hN:N≤4160) (fb fk:FuncId) (iW cE:Node→Nat→Bool) (H:Hp) (nx:Nat)
 (hbeg:∀i,i<g.nodes.length→∀k,k<N→∀H' nx',nx≤nx'→(∀y,y<nx→bj H' y=bj H y)→kC Tryz.prog fb ((g.nd i).av::i64 k::[]) H' nx' (bl (iW (g.nd i) k)))
 (hkeep:∀i,i<g.nodes.length→∀k,k<N→∀H' nx',nx≤nx'→(∀y,y<nx→bj H' y=bj H y)→kC Tryz.prog fk ((g.nd i).av::i64 k::[]) H' nx' (bl (cE (g.nd i) k))):
 cM Tryz.prog 63 [eH g t cls,i64 N, .fn (.func fb) [] [], .fn (.func fk) [] []] H nx (fun r H' n'=>r= .sl (nx+7) g.nodes.length∧pz (nx+7) (na g iW cE N) H nx H' n'):=by
 have hl:=hg.len
 have hl0:=hw.1
 have hl1:=hw.2.1
 refine aL AK rfl ?_
 repeat' (first|((with_reducible refine aE ?_);conv=>whnf)|refine aG ?_|exact cN|with_reducible refine aD ?_ ?_|((with_reducible refine Ask.mk ?_);first|exact bw|exact br|(intro h;simp_all[bz]<;>fail)|(simp_all[bz]<;>fail))|(apply aA;(·exact bm))|refine aH ?_|((with_reducible refine aB ?_ ?_)<;>intro hc<;>(try simp only[List.length_map,ne_eq,cD] at hc)<;>try(exfalso;omega)))
 simp only[List.length_map,Int.toNat_natCast]
 refine aJ (fun ids:List Nat=>[(0,eH g t cls),(1,i64 N),(2, .fn (.func fb) [] []),(3, .fn (.func fk) [] []),(9, .sl (nx+7) g.nodes.length),(23,i64 g.nodes.length),(24,i64 ids.length)])
  (fun ids H' n'=>ids.length≤g.nodes.length∧nx+12≤n'∧zQ (nx+7) ids g.nodes.length N H' n'∧∀y,y<nx→bj H' y=bj H y) (fun ids=>g.nodes.length - ids.length) [] bt ⟨Nat.zero_le _,cI,⟨⟨_,bk⟩,fun x h=>by simp at h,fun x h=>by simp at h,List.nodup_nil⟩,fun y hy=>bu⟩ ?_
 rintro ids H1 n1 ⟨hi,hn1,hp,hk1⟩
 by_cases hil:ids.length<g.nodes.length
 ·obtain⟨d7,r7⟩:=hp.row
  have e1:=fun d=>qL (m:=g.nodes.length) (n:=N) hil d
  have e2:=mQ (m:=g.nodes.length) (n:=N) hi
  repeat' (first|((with_reducible refine aE ?_);conv=>whnf)|refine aG ?_|exact cN|with_reducible refine aD ?_ ?_|((with_reducible refine Ask.mk ?_);first|exact bw|(exact e2)|exact br)|(apply aA;(·(first|exact e1 _|exact bm)))|refine aH ?_|((with_reducible refine aB ?_ ?_)<;>intro hc<;>(try simp only[List.length_map,ne_eq,cD] at hc)<;>try(exfalso;omega)))
  have hlt:=hp.lt
  refine⟨ids++[n1+6],by simp;omega,bt,by simp;omega,cI,⟨⟨_,by rw[←qM hil];exact bk⟩,fun x hx=> ?_,fun x hx=> ?_, ?_⟩,fun y hy=>Eq.trans bu (hk1 y hy)⟩
  ·rcases List.mem_append.1 hx with hx|hx
   ·obtain⟨d,h1⟩:=hp.each x hx
    have:=hlt x hx
    exact⟨d,Eq.trans bu h1⟩
   ·simp only[List.mem_cons,List.not_mem_nil,or_false] at hx
    subst hx
    exact⟨_,bk⟩
  ·rcases List.mem_append.1 hx with hx|hx
   ·have:=hlt x hx
    exact⟨this.1,Nat.lt_of_lt_of_le this.2 cI⟩
   ·simp only[List.mem_cons,List.not_mem_nil,or_false] at hx
    subst hx
    exact⟨by omega,cI⟩
  ·refine List.nodup_append.2 ⟨hp.nodup,by simp,fun x hx y hy=> ?_⟩
   simp only[List.mem_cons,List.not_mem_nil,or_false] at hy
   have:=(hlt x hx).2
   omega
 ·have hle:ids.length=g.nodes.length:=by omega
  have hfin:=hp.fin hle
  have hlt:=hp.lt
  have hgr:=iw.start g iW cE N
  repeat' (first|((with_reducible refine aE ?_);conv=>whnf)|refine aG ?_|exact aC|with_reducible refine aD ?_ ?_|(apply aA;(·exact bm))|refine aH ?_|((with_reducible refine aB ?_ ?_)<;>intro hc<;>(try simp only[List.length_map,ne_eq,cD] at hc)<;>try(exfalso;omega)))
  have hids:∀x∈(nx+7)::ids,nx≤x∧x<n1:=fun x hx=>by
   rcases List.mem_cons.1 hx with rfl|hx
   ·omega
   ·have:=hlt x hx;omega
  clear hp hlt
  refine aJ (fun s:hX×Bool=>[(0,eH g t cls),(1,i64 N),(2, .fn (.func fb) [] []),(3, .fn (.func fk) [] []),(9, .sl (nx+7) g.nodes.length),(11,bl s.2)])
   (fun s H' n'=>n1≤n'∧nY (nx+7) ids s.1 H'∧(∀y,y<nx→bj H' y=bj H y)∧iw g iW cE N s.1∧(s.2=false→∀i k,i<g.nodes.length→k<N→eO g iW cE s.1 i k=true→dY s.1 i k=true))
   (fun s=>e8 s.1+if s.2=true then 1 else 0) (kh g.nodes.length N,true) bt ⟨cI,hfin.cE fun x hx=> ?_,fun y hy=>Eq.trans bu (hk1 y hy),hgr,fun h=>by cases h⟩ ?_
  ·exact bu
  clear hfin hgr hk1
  rintro⟨T,again⟩ H2 n2 ⟨hn2,hT,hk2,hgr,hcl⟩
  dsimp only at hT hgr hcl ⊢
  cases again with
  |false=>
   have hfin:=hgr.fin hw (hcl rfl)
   repeat' (first|((with_reducible refine aE ?_);conv=>whnf)|refine aG ?_|exact aC|with_reducible refine aD ?_ ?_|(apply aA;(·exact bm))|refine aH ?_|((with_reducible refine aB ?_ ?_)<;>intro hc<;>(try simp only[List.length_map,ne_eq,cD] at hc)<;>try(exfalso;omega)))
   refine⟨rfl,⟨⟨ids, ?_,fun x hx=>⟨(hids x hx).1,Nat.lt_of_lt_of_le (hids x hx).2 cI⟩⟩,fun y hy=>Eq.trans bu (hk2 y hy),cI⟩⟩
   rw[←hfin]
   exact hT.cE fun x hx=>bu
  |true=>
   have hTl:=hgr.shape.len
   have hql:(gV ids (gW T)).length=g.nodes.length:=by rw[hT.len,dM,hTl]
   obtain⟨d7,r7⟩:=hT.row
   repeat' (first|((with_reducible refine aE ?_);conv=>whnf)|refine aG ?_|exact cN|with_reducible refine aD ?_ ?_|((with_reducible refine Ask.mk ?_);first|exact bw|(exact hql)|exact br)|(apply aA;(·exact bm))|refine aH ?_|((with_reducible refine aB ?_ ?_)<;>intro hc<;>(try simp only[List.length_map,ne_eq,cD] at hc)<;>try(exfalso;omega)))
   refine aJ (fun s:hX×Bool×Nat=>[(0,eH g t cls),(1,i64 N),(2, .fn (.func fb) [] []),(3, .fn (.func fk) [] []),(9, .sl (nx+7) g.nodes.length),(11,bl s.2.1),(12,i64 ((s.2.2:Int) - 1))])
    (fun s H' n'=>n1≤n'∧s.2.2≤g.nodes.length∧nY (nx+7) ids s.1 H'∧(∀y,y<nx→bj H' y=bj H y)∧iw g iW cE N s.1∧(e8 s.1+if s.2.1=true then 1 else 0)≤e8 T∧(s.2.1=false→∀i k,s.2.2≤i→i<g.nodes.length→k<N→eO g iW cE s.1 i k=true→dY s.1 i k=true))
    (fun s=>s.2.2) (T,false,g.nodes.length) bt ⟨cI,Nat.le_refl _,hT.cE fun x hx=> ?_,fun y hy=>Eq.trans bu (hk2 y hy),hgr,by simp,fun _ i k h1 h2=>absurd h1 (by dsimp only;omega)⟩ ?_
   ·exact bu
   clear hT hk2 hgr hcl r7 hql
   rintro⟨T2,ag,j⟩ H3 n3 ⟨hn3,hj,hT,hk3,hgr,hfa,hcl⟩
   dsimp only at hj hT hgr hfa hcl ⊢
   have hT2l:=hgr.shape.len
   cases j with
   |zero=>
    repeat' (first|((with_reducible refine aE ?_);conv=>whnf)|refine aG ?_|exact aC|with_reducible refine aD ?_ ?_|(apply aA;(·exact bm))|refine aH ?_|((with_reducible refine aB ?_ ?_)<;>intro hc<;>(try simp only[List.length_map,ne_eq,cD] at hc)<;>try(exfalso;omega)))
    exact⟨(T2,ag),by dsimp only;rw[if_pos rfl];omega,bt,cI,hT.cE fun x hx=>bu,fun y hy=>Eq.trans bu (hk3 y hy),hgr,fun h i k h1 h2=>hcl h i k (Nat.zero_le _) h1 h2⟩
   |succ i=>
    have hi:i<g.nodes.length:=by omega
    have ei:((i+1:Nat):Int) - 1=(i:Int):=by omega
    have en:=fun d=>dy hi d
    rw[ei]
    repeat' (first|((with_reducible refine aE ?_);conv=>whnf)|refine aG ?_|exact cN|with_reducible refine aD ?_ ?_|((with_reducible refine Ask.mk ?_);first|exact bw|exact br|(intro h;simp_all[Node.cells,bz]<;>fail)|(simp_all[Node.cells,bz]<;>fail))|(apply aA;(·(first|exact en _|exact bm)))|refine aH ?_|((with_reducible refine aB ?_ ?_)<;>intro hc<;>(try simp only[List.length_map,ne_eq,cD] at hc)<;>try(exfalso;omega)))
    refine aJ (fun s:hX×Bool×Nat=>[(0,eH g t cls),(1,i64 N),(2, .fn (.func fb) [] []),(3, .fn (.func fk) [] []),(9, .sl (nx+7) g.nodes.length),(11,bl s.2.1),(12,i64 (i:Int)),(13, .pt (n3+10) 1 0 0),(49,i64 N),(50,i64 s.2.2)])
     (fun s H' n'=>n3+11≤n'∧s.2.2≤N∧(∃d,bj H' (n3+10)=some (.row 46 13 d [(g.nd i).av]))∧nY (nx+7) ids s.1 H'∧(∀y,y<nx→bj H' y=bj H y)∧iw g iW cE N s.1∧(e8 s.1+if s.2.1=true then 1 else 0)≤e8 T∧(s.2.1=false→∀i' k,i≤i'→i'<g.nodes.length→k<N→(i'=i→k<s.2.2)→eO g iW cE s.1 i' k=true→dY s.1 i' k=true))
     (fun s=>N - s.2.2) (T2,ag,0) bt ⟨cI,Nat.zero_le _,⟨_,bk⟩,hT.cE fun x hx=> ?_,fun y hy=>Eq.trans bu (hk3 y hy),hgr,hfa,fun h i' k h1 h2 h3 h4=>hcl h i' k (Classical.byContradiction fun hx=>Nat.not_lt_zero _ (h4 (by omega))) h2 h3⟩ ?_
    ·have:=hids x hx;exact bu
    clear hT hk3 hgr hfa hcl hT2l
    rintro⟨T3,ag2,k⟩ H4 n4 ⟨hn4,hk,⟨dn,rn⟩,hT,hk4,hgr,hfa,hcl⟩
    dsimp only at hk hT hgr hfa hcl ⊢
    have hT3l:=hgr.shape.len
    by_cases hkN:k<N
    ·have hiS:i<(gW T3).length:=by rw[dM,hT3l];exact hi
     have hiT:i<T3.length:=by rw[hT3l];exact hi
     have hql:(gV ids (gW T3)).length=g.nodes.length:=by rw[hT.len,dM,hT3l]
     have hrow:=hgr.shape.row i hi
     obtain⟨d7,r7⟩:=hT.row
     obtain⟨di,ri⟩:=hT.qs i hiS
     have e1:=fun d=>hT.get hiS d
     rw[fp hiT] at ri e1
     rw[List.length_map,hrow] at e1
     have hrl:((T3.getD i []).map bl).length=N:=by rw[List.length_map,hrow]
     have e2:=fun d=>gR (l:=T3.getD i []) (k:=k) (by rw[hrow];exact hkN) d
     have hfol:=(hw.2.2 i hi).2.2
     have hxi:=hids (ids.getD i 0) (List.mem_cons_of_mem _ (ee (by rw[hle];exact hi)))
     have hne:=hT.ne hiS
     repeat' (first|((with_reducible refine aE ?_);conv=>whnf)|refine aG ?_|exact cN|with_reducible refine aD ?_ ?_|((with_reducible refine Ask.mk ?_);first|exact bw|(exact hql)|(exact hrl)|exact br)|(apply aA;(·(first|exact e1 _|exact e2 _|exact bm)))|((refine aT (hbeg i hi k hkN _ _ cI (fun y hy=>Eq.trans bu (hk4 y hy))) ?_ ?_);(·exact True.intro))|((refine aS (fun _=>hbeg i hi k hkN _ _ cI (fun y hy=>Eq.trans bu (hk4 y hy))) ?_ ?_);(·exact True.intro))|((refine aT (hkeep i hi k hkN _ _ cI (fun y hy=>Eq.trans bu (hk4 y hy))) ?_ ?_);(·exact True.intro))|((refine aS (fun _=>hkeep i hi k hkN _ _ cI (fun y hy=>Eq.trans bu (hk4 y hy))) ?_ ?_);(·exact True.intro))|((refine aT (fW (hT.cE fun x hx=>bu) hgr.shape (g.nd i) hfol k hkN _) ?_ ?_);(·exact True.intro))|((refine aS (fun _=>fW (hT.cE fun x hx=>bu) hgr.shape (g.nd i) hfol k hkN _) ?_ ?_);(·exact True.intro))|refine aH ?_|((with_reducible refine aB ?_ ?_)<;>intro hc<;>(try simp only[List.length_map,ne_eq,cD] at hc)<;>try(exfalso;omega)))
     ·refine⟨(T3,ag2,k+1),by dsimp only;omega,bt,by omega,by dsimp only;omega,⟨_,bk⟩,hT.cE fun x hx=> ?_,fun y hy=>Eq.trans bu (hk4 y hy),hgr,hfa,fun h i' k' a1 a2 a3 a4 a5=> ?_⟩
      ·exact bu
      ·by_cases e:i'=i∧k'=k
       ·obtain⟨rfl,rfl⟩:=e
        unfold eO at a5
        rcases hc with hc|⟨c1,c2|c2⟩
        ·exact hc
        ·rw[c1,c2] at a5;cases a5
        ·rw[c1,c2,Bool.and_false] at a5;cases a5
       ·refine hcl h i' k' a1 a2 a3 (fun e2=> ?_) a5
        have:=a4 e2
        have:¬k'=k:=fun e3=>e ⟨e2,e3⟩
        dsimp only at *
        omega
     ·have hf0:dY T3 i k=false:=hc.1
      have hcell:eO g iW cE T3 i k=true:=by
       unfold eO
       rcases hc.2 with c1|⟨c1,c2⟩
       ·rw[Bool.not_eq_false] at c1;rw[c1];rfl
       ·rw[c1,c2];simp
      have hfs:=kq hgr.shape hi hkN hf0
      refine⟨(kd T3 i k,true,k+1),by dsimp only;omega,bt,by omega,by dsimp only;omega,⟨_,bk⟩,hT.set hiT k ?_ ⟨_,bk⟩ (fun x hx hxn=> ?_),fun y hy=>Eq.trans bu (hk4 y hy),hgr.step hi hkN hcell, ?_,fun h=>by cases h⟩
      ·exact bu
      ·exact bu
      ·dsimp only
       rw[if_pos rfl]
       omega
    ·have:k=N:=by omega
     subst this
     repeat' (first|((with_reducible refine aE ?_);conv=>whnf)|refine aG ?_|exact aC|with_reducible refine aD ?_ ?_|(apply aA;(·exact bm))|refine aH ?_|((with_reducible refine aB ?_ ?_)<;>intro hc<;>(try simp only[List.length_map,ne_eq,cD] at hc)<;>try(exfalso;omega)))
     exact⟨(T3,ag2,i),by dsimp only;omega,bt,by omega,by dsimp only;omega,hT.cE fun x hx=>bu,fun y hy=>Eq.trans bu (hk4 y hy),hgr,hfa,fun h i' k' a1 a2 a3 a5=>hcl h i' k' a1 a2 a3 (fun _=>a3) a5⟩
set_option maxRecDepth 4000 in
set_option maxHeartbeats 8000000 in
theorem va (g:bo) (hg:g.Wf) (hw:Whole g) (t:Nat) (cls:List cB) (N:Nat) (hN:N≤4160) (fb fk:FuncId) (bb:Nat) (iW cE:Node→Nat→Bool) (H:Hp) (nx:Nat)
 (hbeg:∀i,i<g.nodes.length→∀k,k<N→∀H' nx',nx≤nx'→(∀y,y<nx→bj H' y=bj H y)→kC Tryz.prog fb ((g.nd i).av::i64 k::[.pt bb 1 0 0]) H' nx' (bl (iW (g.nd i) k)))
 (hkeep:∀i,i<g.nodes.length→∀k,k<N→∀H' nx',nx≤nx'→(∀y,y<nx→bj H' y=bj H y)→kC Tryz.prog fk ((g.nd i).av::i64 k::[.pt bb 1 0 0]) H' nx' (bl (cE (g.nd i) k))):
 cM Tryz.prog 63 [eH g t cls,i64 N, .fn (.func fb) [] [.pt bb 1 0 0], .fn (.func fk) [] [.pt bb 1 0 0]] H nx (fun r H' n'=>r= .sl (nx+7) g.nodes.length∧pz (nx+7) (na g iW cE N) H nx H' n'):=by
 have hl:=hg.len
 have hl0:=hw.1
 have hl1:=hw.2.1
 refine aL AK rfl ?_
 repeat' (first|((with_reducible refine aE ?_);conv=>whnf)|refine aG ?_|exact cN|with_reducible refine aD ?_ ?_|((with_reducible refine Ask.mk ?_);first|exact bw|exact br|(intro h;simp_all[bz]<;>fail)|(simp_all[bz]<;>fail))|(apply aA;(·exact bm))|refine aH ?_|((with_reducible refine aB ?_ ?_)<;>intro hc<;>(try simp only[List.length_map,ne_eq,cD] at hc)<;>try(exfalso;omega)))
 simp only[List.length_map,Int.toNat_natCast]
 refine aJ (fun ids:List Nat=>[(0,eH g t cls),(1,i64 N),(2, .fn (.func fb) [] [.pt bb 1 0 0]),(3, .fn (.func fk) [] [.pt bb 1 0 0]),(9, .sl (nx+7) g.nodes.length),(23,i64 g.nodes.length),(24,i64 ids.length)])
  (fun ids H' n'=>ids.length≤g.nodes.length∧nx+12≤n'∧zQ (nx+7) ids g.nodes.length N H' n'∧∀y,y<nx→bj H' y=bj H y) (fun ids=>g.nodes.length - ids.length) [] bt ⟨Nat.zero_le _,cI,⟨⟨_,bk⟩,fun x h=>by simp at h,fun x h=>by simp at h,List.nodup_nil⟩,fun y hy=>bu⟩ ?_
 rintro ids H1 n1 ⟨hi,hn1,hp,hk1⟩
 by_cases hil:ids.length<g.nodes.length
 ·obtain⟨d7,r7⟩:=hp.row
  have e1:=fun d=>qL (m:=g.nodes.length) (n:=N) hil d
  have e2:=mQ (m:=g.nodes.length) (n:=N) hi
  repeat' (first|((with_reducible refine aE ?_);conv=>whnf)|refine aG ?_|exact cN|with_reducible refine aD ?_ ?_|((with_reducible refine Ask.mk ?_);first|exact bw|(exact e2)|exact br)|(apply aA;(·(first|exact e1 _|exact bm)))|refine aH ?_|((with_reducible refine aB ?_ ?_)<;>intro hc<;>(try simp only[List.length_map,ne_eq,cD] at hc)<;>try(exfalso;omega)))
  have hlt:=hp.lt
  refine⟨ids++[n1+6],by simp;omega,bt,by simp;omega,cI,⟨⟨_,by rw[←qM hil];exact bk⟩,fun x hx=> ?_,fun x hx=> ?_, ?_⟩,fun y hy=>Eq.trans bu (hk1 y hy)⟩
  ·rcases List.mem_append.1 hx with hx|hx
   ·obtain⟨d,h1⟩:=hp.each x hx
    have:=hlt x hx
    exact⟨d,Eq.trans bu h1⟩
   ·simp only[List.mem_cons,List.not_mem_nil,or_false] at hx
    subst hx
    exact⟨_,bk⟩
  ·rcases List.mem_append.1 hx with hx|hx
   ·have:=hlt x hx
    exact⟨this.1,Nat.lt_of_lt_of_le this.2 cI⟩
   ·simp only[List.mem_cons,List.not_mem_nil,or_false] at hx
    subst hx
    exact⟨by omega,cI⟩
  ·refine List.nodup_append.2 ⟨hp.nodup,by simp,fun x hx y hy=> ?_⟩
   simp only[List.mem_cons,List.not_mem_nil,or_false] at hy
   have:=(hlt x hx).2
   omega
 ·have hle:ids.length=g.nodes.length:=by omega
  have hfin:=hp.fin hle
  have hlt:=hp.lt
  have hgr:=iw.start g iW cE N
  repeat' (first|((with_reducible refine aE ?_);conv=>whnf)|refine aG ?_|exact aC|with_reducible refine aD ?_ ?_|(apply aA;(·exact bm))|refine aH ?_|((with_reducible refine aB ?_ ?_)<;>intro hc<;>(try simp only[List.length_map,ne_eq,cD] at hc)<;>try(exfalso;omega)))
  have hids:∀x∈(nx+7)::ids,nx≤x∧x<n1:=fun x hx=>by
   rcases List.mem_cons.1 hx with rfl|hx
   ·omega
   ·have:=hlt x hx;omega
  clear hp hlt
  refine aJ (fun s:hX×Bool=>[(0,eH g t cls),(1,i64 N),(2, .fn (.func fb) [] [.pt bb 1 0 0]),(3, .fn (.func fk) [] [.pt bb 1 0 0]),(9, .sl (nx+7) g.nodes.length),(11,bl s.2)])
   (fun s H' n'=>n1≤n'∧nY (nx+7) ids s.1 H'∧(∀y,y<nx→bj H' y=bj H y)∧iw g iW cE N s.1∧(s.2=false→∀i k,i<g.nodes.length→k<N→eO g iW cE s.1 i k=true→dY s.1 i k=true))
   (fun s=>e8 s.1+if s.2=true then 1 else 0) (kh g.nodes.length N,true) bt ⟨cI,hfin.cE fun x hx=> ?_,fun y hy=>Eq.trans bu (hk1 y hy),hgr,fun h=>by cases h⟩ ?_
  ·exact bu
  clear hfin hgr hk1
  rintro⟨T,again⟩ H2 n2 ⟨hn2,hT,hk2,hgr,hcl⟩
  dsimp only at hT hgr hcl ⊢
  cases again with
  |false=>
   have hfin:=hgr.fin hw (hcl rfl)
   repeat' (first|((with_reducible refine aE ?_);conv=>whnf)|refine aG ?_|exact aC|with_reducible refine aD ?_ ?_|(apply aA;(·exact bm))|refine aH ?_|((with_reducible refine aB ?_ ?_)<;>intro hc<;>(try simp only[List.length_map,ne_eq,cD] at hc)<;>try(exfalso;omega)))
   refine⟨rfl,⟨⟨ids, ?_,fun x hx=>⟨(hids x hx).1,Nat.lt_of_lt_of_le (hids x hx).2 cI⟩⟩,fun y hy=>Eq.trans bu (hk2 y hy),cI⟩⟩
   rw[←hfin]
   exact hT.cE fun x hx=>bu
  |true=>
   have hTl:=hgr.shape.len
   have hql:(gV ids (gW T)).length=g.nodes.length:=by rw[hT.len,dM,hTl]
   obtain⟨d7,r7⟩:=hT.row
   repeat' (first|((with_reducible refine aE ?_);conv=>whnf)|refine aG ?_|exact cN|with_reducible refine aD ?_ ?_|((with_reducible refine Ask.mk ?_);first|exact bw|(exact hql)|exact br)|(apply aA;(·exact bm))|refine aH ?_|((with_reducible refine aB ?_ ?_)<;>intro hc<;>(try simp only[List.length_map,ne_eq,cD] at hc)<;>try(exfalso;omega)))
   refine aJ (fun s:hX×Bool×Nat=>[(0,eH g t cls),(1,i64 N),(2, .fn (.func fb) [] [.pt bb 1 0 0]),(3, .fn (.func fk) [] [.pt bb 1 0 0]),(9, .sl (nx+7) g.nodes.length),(11,bl s.2.1),(12,i64 ((s.2.2:Int) - 1))])
    (fun s H' n'=>n1≤n'∧s.2.2≤g.nodes.length∧nY (nx+7) ids s.1 H'∧(∀y,y<nx→bj H' y=bj H y)∧iw g iW cE N s.1∧(e8 s.1+if s.2.1=true then 1 else 0)≤e8 T∧(s.2.1=false→∀i k,s.2.2≤i→i<g.nodes.length→k<N→eO g iW cE s.1 i k=true→dY s.1 i k=true))
    (fun s=>s.2.2) (T,false,g.nodes.length) bt ⟨cI,Nat.le_refl _,hT.cE fun x hx=> ?_,fun y hy=>Eq.trans bu (hk2 y hy),hgr,by simp,fun _ i k h1 h2=>absurd h1 (by dsimp only;omega)⟩ ?_
   ·exact bu
   clear hT hk2 hgr hcl r7 hql
   rintro⟨T2,ag,j⟩ H3 n3 ⟨hn3,hj,hT,hk3,hgr,hfa,hcl⟩
   dsimp only at hj hT hgr hfa hcl ⊢
   have hT2l:=hgr.shape.len
   cases j with
   |zero=>
    repeat' (first|((with_reducible refine aE ?_);conv=>whnf)|refine aG ?_|exact aC|with_reducible refine aD ?_ ?_|(apply aA;(·exact bm))|refine aH ?_|((with_reducible refine aB ?_ ?_)<;>intro hc<;>(try simp only[List.length_map,ne_eq,cD] at hc)<;>try(exfalso;omega)))
    exact⟨(T2,ag),by dsimp only;rw[if_pos rfl];omega,bt,cI,hT.cE fun x hx=>bu,fun y hy=>Eq.trans bu (hk3 y hy),hgr,fun h i k h1 h2=>hcl h i k (Nat.zero_le _) h1 h2⟩
   |succ i=>
    have hi:i<g.nodes.length:=by omega
    have ei:((i+1:Nat):Int) - 1=(i:Int):=by omega
    have en:=fun d=>dy hi d
    rw[ei]
    repeat' (first|((with_reducible refine aE ?_);conv=>whnf)|refine aG ?_|exact cN|with_reducible refine aD ?_ ?_|((with_reducible refine Ask.mk ?_);first|exact bw|exact br|(intro h;simp_all[Node.cells,bz]<;>fail)|(simp_all[Node.cells,bz]<;>fail))|(apply aA;(·(first|exact en _|exact bm)))|refine aH ?_|((with_reducible refine aB ?_ ?_)<;>intro hc<;>(try simp only[List.length_map,ne_eq,cD] at hc)<;>try(exfalso;omega)))
    refine aJ (fun s:hX×Bool×Nat=>[(0,eH g t cls),(1,i64 N),(2, .fn (.func fb) [] [.pt bb 1 0 0]),(3, .fn (.func fk) [] [.pt bb 1 0 0]),(9, .sl (nx+7) g.nodes.length),(11,bl s.2.1),(12,i64 (i:Int)),(13, .pt (n3+10) 1 0 0),(49,i64 N),(50,i64 s.2.2)])
     (fun s H' n'=>n3+11≤n'∧s.2.2≤N∧(∃d,bj H' (n3+10)=some (.row 46 13 d [(g.nd i).av]))∧nY (nx+7) ids s.1 H'∧(∀y,y<nx→bj H' y=bj H y)∧iw g iW cE N s.1∧(e8 s.1+if s.2.1=true then 1 else 0)≤e8 T∧(s.2.1=false→∀i' k,i≤i'→i'<g.nodes.length→k<N→(i'=i→k<s.2.2)→eO g iW cE s.1 i' k=true→dY s.1 i' k=true))
     (fun s=>N - s.2.2) (T2,ag,0) bt ⟨cI,Nat.zero_le _,⟨_,bk⟩,hT.cE fun x hx=> ?_,fun y hy=>Eq.trans bu (hk3 y hy),hgr,hfa,fun h i' k h1 h2 h3 h4=>hcl h i' k (Classical.byContradiction fun hx=>Nat.not_lt_zero _ (h4 (by omega))) h2 h3⟩ ?_
    ·have:=hids x hx;exact bu
    clear hT hk3 hgr hfa hcl hT2l
    rintro⟨T3,ag2,k⟩ H4 n4 ⟨hn4,hk,⟨dn,rn⟩,hT,hk4,hgr,hfa,hcl⟩
    dsimp only at hk hT hgr hfa hcl ⊢
    have hT3l:=hgr.shape.len
    by_cases hkN:k<N
    ·have hiS:i<(gW T3).length:=by rw[dM,hT3l];exact hi
     have hiT:i<T3.length:=by rw[hT3l];exact hi
     have hql:(gV ids (gW T3)).length=g.nodes.length:=by rw[hT.len,dM,hT3l]
     have hrow:=hgr.shape.row i hi
     obtain⟨d7,r7⟩:=hT.row
     obtain⟨di,ri⟩:=hT.qs i hiS
     have e1:=fun d=>hT.get hiS d
     rw[fp hiT] at ri e1
     rw[List.length_map,hrow] at e1
     have hrl:((T3.getD i []).map bl).length=N:=by rw[List.length_map,hrow]
     have e2:=fun d=>gR (l:=T3.getD i []) (k:=k) (by rw[hrow];exact hkN) d
     have hfol:=(hw.2.2 i hi).2.2
     have hxi:=hids (ids.getD i 0) (List.mem_cons_of_mem _ (ee (by rw[hle];exact hi)))
     have hne:=hT.ne hiS
     repeat' (first|((with_reducible refine aE ?_);conv=>whnf)|refine aG ?_|exact cN|with_reducible refine aD ?_ ?_|((with_reducible refine Ask.mk ?_);first|exact bw|(exact hql)|(exact hrl)|exact br)|(apply aA;(·(first|exact e1 _|exact e2 _|exact bm)))|((refine aT (hbeg i hi k hkN _ _ cI (fun y hy=>Eq.trans bu (hk4 y hy))) ?_ ?_);(·exact True.intro))|((refine aS (fun _=>hbeg i hi k hkN _ _ cI (fun y hy=>Eq.trans bu (hk4 y hy))) ?_ ?_);(·exact True.intro))|((refine aT (hkeep i hi k hkN _ _ cI (fun y hy=>Eq.trans bu (hk4 y hy))) ?_ ?_);(·exact True.intro))|((refine aS (fun _=>hkeep i hi k hkN _ _ cI (fun y hy=>Eq.trans bu (hk4 y hy))) ?_ ?_);(·exact True.intro))|((refine aT (fW (hT.cE fun x hx=>bu) hgr.shape (g.nd i) hfol k hkN _) ?_ ?_);(·exact True.intro))|((refine aS (fun _=>fW (hT.cE fun x hx=>bu) hgr.shape (g.nd i) hfol k hkN _) ?_ ?_);(·exact True.intro))|refine aH ?_|((with_reducible refine aB ?_ ?_)<;>intro hc<;>(try simp only[List.length_map,ne_eq,cD] at hc)<;>try(exfalso;omega)))
     ·refine⟨(T3,ag2,k+1),by dsimp only;omega,bt,by omega,by dsimp only;omega,⟨_,bk⟩,hT.cE fun x hx=> ?_,fun y hy=>Eq.trans bu (hk4 y hy),hgr,hfa,fun h i' k' a1 a2 a3 a4 a5=> ?_⟩
      ·exact bu
      ·by_cases e:i'=i∧k'=k
       ·obtain⟨rfl,rfl⟩:=e
        unfold eO at a5
        rcases hc with hc|⟨c1,c2|c2⟩
        ·exact hc
        ·rw[c1,c2] at a5;cases a5
        ·rw[c1,c2,Bool.and_false] at a5;cases a5
       ·refine hcl h i' k' a1 a2 a3 (fun e2=> ?_) a5
        have:=a4 e2
        have:¬k'=k:=fun e3=>e ⟨e2,e3⟩
        dsimp only at *
        omega
     ·have hf0:dY T3 i k=false:=hc.1
      have hcell:eO g iW cE T3 i k=true:=by
       unfold eO
       rcases hc.2 with c1|⟨c1,c2⟩
       ·rw[Bool.not_eq_false] at c1;rw[c1];rfl
       ·rw[c1,c2];simp
      have hfs:=kq hgr.shape hi hkN hf0
      refine⟨(kd T3 i k,true,k+1),by dsimp only;omega,bt,by omega,by dsimp only;omega,⟨_,bk⟩,hT.set hiT k ?_ ⟨_,bk⟩ (fun x hx hxn=> ?_),fun y hy=>Eq.trans bu (hk4 y hy),hgr.step hi hkN hcell, ?_,fun h=>by cases h⟩
      ·exact bu
      ·exact bu
      ·dsimp only
       rw[if_pos rfl]
       omega
    ·have:k=N:=by omega
     subst this
     repeat' (first|((with_reducible refine aE ?_);conv=>whnf)|refine aG ?_|exact aC|with_reducible refine aD ?_ ?_|(apply aA;(·exact bm))|refine aH ?_|((with_reducible refine aB ?_ ?_)<;>intro hc<;>(try simp only[List.length_map,ne_eq,cD] at hc)<;>try(exfalso;omega)))
     exact⟨(T3,ag2,i),by dsimp only;omega,bt,by omega,by dsimp only;omega,hT.cE fun x hx=>bu,fun y hy=>Eq.trans bu (hk4 y hy),hgr,hfa,fun h i' k' a1 a2 a3 a5=>hcl h i' k' a1 a2 a3 (fun _=>a3) a5⟩
end Go.Proofs.YtmonponfppdgfaaGreatDoor
end
section
/- What is live, and what waits: the walk. -/
namespace Go.Proofs.YtmonponfppdgfaaGreatDoor
open Go Go.ck Go.Proofs
set_option linter.unusedSimpArgs false
set_option linter.unusedVariables false
theorem tN (u:bq) (g:bo) (hg:g.Wf) (hk:dK u g) (t:Nat) (cls:List cB) (H:Hp) (nx:Nat):cM Tryz.prog 37 [eH g t cls] H nx (fun r H' n'=>∃b,r= .sl b g.nodes.length∧pz b (fj g) H nx H' n'):=by
 have hs:=hk.cd
 have hlo:=hk.locals
 obtain⟨N,hN⟩:∃N:Nat,g.cd=N:=⟨g.cd.toNat,by omega⟩
 refine aL DS rfl ?_
 repeat' (first|((with_reducible refine aE ?_);conv=>whnf)|refine aG ?_|exact cN|with_reducible refine aD ?_ ?_|((with_reducible refine Ask.mk ?_);first|exact bw|exact br|(intro h;simp_all[bz]<;>fail)|(simp_all[bz]<;>fail))|(apply aA;(·exact bm))|(simp only[hN])|refine aH ?_|((with_reducible refine aB ?_ ?_)<;>intro hc<;>(try simp only[List.length_map,ne_eq,cD] at hc)<;>try(exfalso;omega)))
 refine aN (xd g hg hk.whole t cls N (by omega) _ _ eF fN _ _ (fun i hi k hkN H' nx' _ _=> ?_) (fun i hi k hkN H' nx' _ _=> ?_)) ?_
 ·exact(vG (g.nd i) (hg.nodes _ (cC default hi)).op.1 (hk.node hi).kind (hk.node hi).op k).view (args2:=[(g.nd i).av,i64 k]) (by rw[List.map_cons,List.map_cons,List.map_nil,dB 6 (by simp[cG]),dB 6 (by simp[cG])]) (by simp[cL,cG]) trivial ⟨rfl,fun _ _=>rfl⟩
 ·exact(xp (g.nd i) (hg.nodes _ (cC default hi)).op.1 (hk.node hi).kind (hk.node hi).op k).view (args2:=[(g.nd i).av,i64 k]) (by rw[List.map_cons,List.map_cons,List.map_nil,dB 6 (by simp[cG]),dB 6 (by simp[cG])]) (by simp[cL,cG]) trivial ⟨rfl,fun _ _=>rfl⟩
 rintro _ H2 n2 ⟨rfl,hgr⟩
 repeat' (first|((with_reducible refine aE ?_);conv=>whnf)|refine aG ?_|exact aC|with_reducible refine aD ?_ ?_|(apply aA;(·exact bm))|refine aH ?_|((with_reducible refine aB ?_ ?_)<;>intro hc<;>(try simp only[List.length_map,ne_eq,cD] at hc)<;>try(exfalso;omega)))
 have el:na g eF fN N=fj g:=by unfold fj;rw[hN,Int.toNat_natCast]
 rw[el] at hgr
 obtain⟨ids,h1,h2⟩:=hgr.at_
 have hle:=hgr.le
 exact⟨⟨_,rfl,⟨⟨ids,h1.cE fun x hx=>bu,fun x hx=>⟨Nat.le_trans cI (h2 x hx).1,Nat.lt_of_lt_of_le (h2 x hx).2 cI⟩⟩,fun y hy=>Eq.trans bu ((hgr.cE y (Nat.lt_of_lt_of_le hy cI)).trans bu),cI⟩⟩⟩
@[simp] theorem sL (n:Nat) (g:bo) (t:Nat) (cls:List cB):cL n (bz g t cls):=by simp[bz,cG,cL,cJ,cB.cells]
theorem zg (g:bo) (t:Nat) (cls:List cB):cG 0 (eH g t cls):=by simp[eH,bz,cG,cL,cJ,cB.cells]
set_option maxRecDepth 4000 in
set_option maxHeartbeats 4000000 in
theorem xC (g:bo) (n:Node) (ho:0≤n.op) (h:1≤n.kind∧n.kind<10) (hop:(n.kind=1→n.op<19)∧(n.kind≠1→n.op=0)) (t:Nat) (cls:List cB) (v:Nat) (hv:v<cls.length) (b:Nat) (H:Hp) (nx:Nat) (e:TypeId) (d:AV) (hrb:bj H b=some (.row e 1 d [eH g t cls])) (hbn:b<nx):
 kC Tryz.prog 69 [n.av,i64 v, .pt b 1 0 0] H nx (bl (fx cls t n v)):=by
 have hm:=lr n ho h hop
 unfold tP at hm
 refine aU EM rfl ?_
 have how:=rS g t cls v hv
 unfold fx
 cases hob:nR cls t v with
 |false=>
  rw[hob] at how
  repeat' (first|((with_reducible refine aE ?_);conv=>whnf)|refine aG ?_|exact cN|with_reducible refine aD ?_ ?_|((with_reducible refine Ask.mk ?_);first|exact bw|(intro h1 h2;rw[h1,h2];rfl)|exact br|(intro h;simp_all[Node.cells]<;>fail)|(simp_all[Node.cells]<;>fail))|(apply aA;(·exact bm))|refine aK (how) ?_|refine aK (hm) ?_|refine aH ?_|((with_reducible refine aB ?_ ?_)<;>intro hc<;>(try simp only[List.length_map,ne_eq,cD] at hc)<;>try(exfalso;omega)))
  exact pk.look rfl jk
 |true=>
  rw[hob] at how
  repeat' (first|((with_reducible refine aE ?_);conv=>whnf)|refine aG ?_|exact cN|with_reducible refine aD ?_ ?_|((with_reducible refine Ask.mk ?_);first|exact bw|(intro h1 h2;rw[h1,h2];rfl)|exact br|(intro h;simp_all[Node.cells]<;>fail)|(simp_all[Node.cells]<;>fail))|(apply aA;(·exact bm))|refine aK (how) ?_|refine aK (hm) ?_|refine aH ?_|((with_reducible refine aB ?_ ?_)<;>intro hc<;>(try simp only[List.length_map,ne_eq,cD] at hc)<;>try(exfalso;omega)))
  refine pk.look ?_ jk
  refine cf ?_
  rw[show decide (n.kind=2∨n.kind=4)=xq n from rfl]
  cases decide (n.kind=9)<;>cases decide (n.kind=5)<;>cases xq n<;>simp
set_option maxRecDepth 4000 in
set_option maxHeartbeats 4000000 in
theorem xD (g:bo) (n:Node) (t:Nat) (cls:List cB) (v:Nat) (hv:v<cls.length) (b:Nat) (H:Hp) (nx:Nat) (e:TypeId) (d:AV) (hrb:bj H b=some (.row e 1 d [eH g t cls])) (hbn:b<nx):
 kC Tryz.prog 70 [n.av,i64 v, .pt b 1 0 0] H nx (bl (gO cls t n v)):=by
 refine aU EN rfl ?_
 have how:=rS g t cls v hv
 repeat' (first|((with_reducible refine aE ?_);conv=>whnf)|refine aG ?_|exact cN|with_reducible refine aD ?_ ?_|((with_reducible refine Ask.mk ?_);first|exact bw|(intro h1 h2;rw[h1,h2];rfl)|exact br|(intro h;simp_all[Node.cells]<;>fail)|(simp_all[Node.cells]<;>fail))|(apply aA;(·exact bm))|refine aK (how) ?_|refine aH ?_|((with_reducible refine aB ?_ ?_)<;>intro hc<;>(try simp only[List.length_map,ne_eq,cD] at hc)<;>try(exfalso;omega)))
 refine pk.look ?_ jk
 refine cf ?_
 unfold gO
 cases nR cls t v<;>by_cases h3:n.kind=3<;>by_cases h4:n.cP=v<;>simp[h3,h4]
set_option maxRecDepth 4000 in
set_option maxHeartbeats 4000000 in
theorem yh (u:bq) (g:bo) (hg:g.Wf) (hk:dK u g) (t:Nat) (cls:List cB) (hcl:cls.length≤64) (H:Hp) (nx:Nat):cM Tryz.prog 39 [eH g t cls] H nx (fun r H' n'=>∃b,r= .sl b g.nodes.length∧pz b (kA g cls t) H nx H' n'):=by
 refine aL DU rfl ?_
 repeat' (first|((with_reducible refine aE ?_);conv=>whnf)|refine aG ?_|exact cN|with_reducible refine aD ?_ ?_|((with_reducible refine Ask.mk ?_);first|exact bw|exact br|(intro h;simp_all[bz]<;>fail)|(simp_all[bz]<;>fail))|(apply aA;(·exact bm))|refine aH ?_|((with_reducible refine aB ?_ ?_)<;>intro hc<;>(try simp only[List.length_map,ne_eq,cD] at hc)<;>try(exfalso;omega)))
 rw[List.length_map]
 refine aN (va g hg hk.whole t cls cls.length (by omega) _ _ nx (fx cls t) (gO cls t) _ _ (fun i hi k hkN H' nx' h1 h2=> ?_) (fun i hi k hkN H' nx' h1 h2=> ?_)) ?_
 ·exact xC g (g.nd i) (hg.nodes _ (cC default hi)).op.1 (hk.node hi).kind (hk.node hi).op t cls k hkN nx H' nx' 53 .any ((h2 nx cI).trans bk) (Nat.lt_of_lt_of_le cI h1)
 ·exact xD g (g.nd i) t cls k hkN nx H' nx' 53 .any ((h2 nx cI).trans bk) (Nat.lt_of_lt_of_le cI h1)
 rintro _ H2 n2 ⟨rfl,hgr⟩
 repeat' (first|((with_reducible refine aE ?_);conv=>whnf)|refine aG ?_|exact aC|with_reducible refine aD ?_ ?_|(apply aA;(·exact bm))|refine aH ?_|((with_reducible refine aB ?_ ?_)<;>intro hc<;>(try simp only[List.length_map,ne_eq,cD] at hc)<;>try(exfalso;omega)))
 have el:na g (fx cls t) (gO cls t) cls.length=kA g cls t:=rfl
 rw[el] at hgr
 obtain⟨ids,h1,h2⟩:=hgr.at_
 exact⟨⟨_,rfl,⟨⟨ids,h1.cE fun x hx=>bu,fun x hx=>⟨Nat.le_trans cI (h2 x hx).1,Nat.lt_of_lt_of_le (h2 x hx).2 cI⟩⟩,fun y hy=>Eq.trans bu ((hgr.cE y (Nat.lt_of_lt_of_le hy cI)).trans bu),Nat.le_trans cI (Nat.le_trans hgr.le cI)⟩⟩⟩
end Go.Proofs.YtmonponfppdgfaaGreatDoor
end
