import Derived.Test.YtmonponfppdgfaaGreatDoorM28
section
/- What is behind a node: the walk. -/
namespace Go.Proofs.YtmonponfppdgfaaGreatDoor
open Go Go.ch Go.Proofs
set_option linter.unusedSimpArgs false
set_option linter.unusedVariables false
theorem JV {T:hZ} {i:Int} (h:i.toNat<T.length) (d:AV):(T.map fp).getD i.toNat d= .im 1 .any ((T.getD i.toNat []).map bl):=dJ fp T _ d h
theorem gR {l:List Bool} {k:Nat} (h:k<l.length) (d:AV):(l.map bl).getD ((k:Int)).toNat d=bl (l.getD k false):=by
 rw[Int.toNat_natCast];exact dJ bl l k d h
theorem jJ {T:hZ} {m n:Nat} (hT:Shape T m n) (to:Int) (h0:0≤to) (h1:to.toNat<m) (k:Nat) (hk:k<n) (b1 b2:Nat) (H:Hp) (nx:Nat) (e1 e2:TypeId) (d1 d2:AV) (hb1:bj H b1=some (.row e1 1 d1 [.im 1 .any (T.map fp)])) (hb2:bj H b2=some (.row e2 1 d2 [i64 k])) (hn1:b1<nx) (hn2:b2<nx):
 kB Tryz.prog 77 [i64 to, .pt b1 1 0 0, .pt b2 1 0 0] H nx (bl (dY T to.toNat k)):=by
 have eT:=fun d=>JV (T:=T) (i:=to) (by rw[hT.len];exact h1) d
 have ek:=fun d=>gR (l:=T.getD to.toNat []) (k:=k) (by rw[hT.row _ h1];exact hk) d
 have hl1:(T.map fp).length=m:=by rw[List.length_map,hT.len]
 have hl2:((T.getD to.toNat []).map bl).length=n:=by rw[List.length_map,hT.row _ h1]
 refine aU EY rfl ?_
 repeat' (first|((with_reducible refine aE ?_);conv=>whnf)|refine aG ?_|exact cN|with_reducible refine aD ?_ ?_|((with_reducible refine Ask.mk ?_);first|exact bw|(exact hl1)|(exact hl2)|exact br)|(apply aA;(·(first|exact eT _|exact ek _|exact bm)))|refine aH ?_|((with_reducible refine aB ?_ ?_)<;>intro hc<;>(try simp only[List.length_map,ne_eq,cD] at hc)<;>try(exfalso;omega)))
 exact pq.look rfl jk
def jZ (p:Int→Bool):List Int→Nat→Int
 |[],_=>-1
 |x::r,i=>if p x=true then(i:Int) else jZ p r (i+1)
theorem vX (p:Int→Bool) (l:List Int) {i:Nat} (h:i<l.length):jZ p (l.drop i) i=if p (l.getD i 0)=true then(i:Int) else jZ p (l.drop (i+1)) (i+1):=by
 rw[List.drop_eq_getElem_cons h,jZ,gd h]
theorem qw (p:Int→Bool):∀(l:List Int) (i:Nat),decide (0≤jZ p l i)=l.any p
 |[],i=>by simp[jZ]
 |x::r,i=>by
  rw[jZ]
  by_cases h:p x=true
  ·rw[if_pos h];simp[h]
  ·rw[if_neg h,qw p r];simp[h]
theorem rH {T:hZ} {m n:Nat} (hT:Shape T m n) (l:List Int) (hl2:l.length≤2) (hl:∀to∈l,0≤to∧to.toNat<m) (k:Nat) (hk:k<n) (b1 b2:Nat) (H:Hp) (nx:Nat) (e1 e2:TypeId) (d1 d2:AV) (hb1:bj H b1=some (.row e1 1 d1 [.im 1 .any (T.map fp)])) (hb2:bj H b2=some (.row e2 1 d2 [i64 k])) (hn1:b1<nx) (hn2:b2<nx):
 kB Tryz.prog 101 [.im 1 .any (l.map i64), .fn (.func 77) [] [.pt b1 1 0 0, .pt b2 1 0 0]] H nx (i64 (jZ (fun j=>dY T j.toNat k) l 0)):=by
 refine aU vw rfl ?_
 repeat' (first|((with_reducible refine aE ?_);conv=>whnf)|refine aG ?_|exact aC|with_reducible refine aD ?_ ?_|(apply aA;(·exact bm))|refine aH ?_|((with_reducible refine aB ?_ ?_)<;>intro hc<;>(try simp only[List.length_map,ne_eq,cD] at hc)<;>try(exfalso;omega)))
 simp only[List.length_map]
 refine aI (fun i:Nat=>[(0, .im 1 .any (l.map i64)),(1, .fn (.func 77) [] [.pt b1 1 0 0, .pt b2 1 0 0]),(7,i64 l.length),(8,i64 i)])
  (fun i H' n'=>i≤l.length∧nx≤n'∧(∀y,y<nx→bj H' y=bj H y)∧jZ (fun j=>dY T j.toNat k) (l.drop i) i=jZ (fun j=>dY T j.toNat k) l 0) (fun i=>l.length - i) 0 bt ⟨Nat.zero_le _,cH,fun y hy=>bu,rfl⟩ ?_
 rintro i H1 n1 ⟨hi,hn,hk1,hf⟩
 by_cases hil:i<l.length
 ·obtain⟨t0,t1⟩:=hl _ (cC 0 hil)
  have e:=fun d=>eS hil d
  rw[vX _ _ hil] at hf
  have g1:=(hk1 b1 hn1).trans hb1
  have g2:=(hk1 b2 hn2).trans hb2
  cases ht:dY T (l.getD i 0).toNat k with
  |true=>
   rw[if_pos ht] at hf
   repeat' (first|((with_reducible refine aE ?_);conv=>whnf)|refine aG ?_|exact aC|with_reducible refine aD ?_ ?_|(apply aA;(·(first|exact e _|exact bm)))|((refine aT ((ht▸jJ hT (l.getD i 0) t0 t1 k hk b1 b2 _ _ e1 e2 d1 d2 (by exact bk) (by exact bk) cH cH)) ?_ ?_);(·exact True.intro))|((refine aS (fun _=>(ht▸jJ hT (l.getD i 0) t0 t1 k hk b1 b2 _ _ e1 e2 d1 d2 (by exact bk) (by exact bk) cH cH)) ?_ ?_);(·exact True.intro))|refine aH ?_|((with_reducible refine aB ?_ ?_)<;>intro hc<;>(try simp only[List.length_map,ne_eq,cD] at hc)<;>try(exfalso;omega)))
   exact pq.look (by rw[←hf]) (fun y hy=>Eq.trans bu (hk1 y hy))
  |false=>
   rw[if_neg (by rw[ht];decide)] at hf
   repeat' (first|((with_reducible refine aE ?_);conv=>whnf)|refine aG ?_|exact aC|with_reducible refine aD ?_ ?_|(apply aA;(·(first|exact e _|exact bm)))|((refine aT ((ht▸jJ hT (l.getD i 0) t0 t1 k hk b1 b2 _ _ e1 e2 d1 d2 (by exact bk) (by exact bk) cH cH)) ?_ ?_);(·exact True.intro))|((refine aS (fun _=>(ht▸jJ hT (l.getD i 0) t0 t1 k hk b1 b2 _ _ e1 e2 d1 d2 (by exact bk) (by exact bk) cH cH)) ?_ ?_);(·exact True.intro))|refine aH ?_|((with_reducible refine aB ?_ ?_)<;>intro hc<;>(try simp only[List.length_map,ne_eq,cD] at hc)<;>try(exfalso;omega)))
   exact⟨i+1,by omega,bt,by omega,by omega,fun y hy=>Eq.trans bu (hk1 y hy),hf⟩
 ·have:i=l.length:=by omega
  subst this
  rw[List.drop_eq_nil_of_le (Nat.le_refl _),jZ] at hf
  repeat' (first|((with_reducible refine aE ?_);conv=>whnf)|refine aG ?_|exact aC|with_reducible refine aD ?_ ?_|(apply aA;(·exact bm))|refine aH ?_|((with_reducible refine aB ?_ ?_)<;>intro hc<;>(try simp only[List.length_map,ne_eq,cD] at hc)<;>try(exfalso;omega)))
  exact pq.look (by rw[←hf]) (fun y hy=>Eq.trans bu (hk1 y hy))
theorem mf {T:hZ} {m n:Nat} (hT:Shape T m n) (l:List Int) (hl2:l.length≤2) (hl:∀to∈l,0≤to∧to.toNat<m) (k:Nat) (hk:k<n) (b1 b2:Nat) (H:Hp) (nx:Nat) (e1 e2:TypeId) (d1 d2:AV) (hb1:bj H b1=some (.row e1 1 d1 [.im 1 .any (T.map fp)])) (hb2:bj H b2=some (.row e2 1 d2 [i64 k])) (hn1:b1<nx) (hn2:b2<nx):
 kB Tryz.prog 75 [.im 1 .any (l.map i64), .fn (.func 77) [] [.pt b1 1 0 0, .pt b2 1 0 0]] H nx (bl (l.any fun j=>dY T j.toNat k)):=by
 refine aU EW rfl ?_
 repeat' (first|((with_reducible refine aE ?_);conv=>whnf)|refine aG ?_|exact aC|with_reducible refine aD ?_ ?_|(apply aA;(·exact bm))|((refine aT (rH hT l hl2 hl k hk b1 b2 _ _ e1 e2 d1 d2 (by exact bk) (by exact bk) cH cH) ?_ ?_);(·exact True.intro))|((refine aS (fun _=>rH hT l hl2 hl k hk b1 b2 _ _ e1 e2 d1 d2 (by exact bk) (by exact bk) cH cH) ?_ ?_);(·exact True.intro))|refine aH ?_|((with_reducible refine aB ?_ ?_)<;>intro hc<;>(try simp only[List.length_map,ne_eq,cD] at hc)<;>try(exfalso;omega)))
 refine pq.look ?_ jk
 exact cg (qw _ _ _)
theorem pN {T:hZ} {m n:Nat} (hT:Shape T m n) (nd:Node) (hl:∀to∈nd.dK,0≤to∧to.toNat<m) (k:Nat) (hk:k<n):Pure Tryz.prog 43 [.im 1 .any (T.map fp),nd.av,i64 k] (fun r=>r=bl (kC T nd k)):=by
 have hf:=sL nd
 unfold dO at hf
 refine aJ D2 rfl ?_
 repeat' (first|((with_reducible refine aE ?_);conv=>whnf)|refine aG ?_|exact cN|with_reducible refine aD ?_ ?_|((with_reducible refine Ask.mk ?_);first|exact bw|exact br|(intro h;simp_all[Node.cells]<;>fail)|(simp_all[Node.cells]<;>fail))|(apply aA;(·exact bm))|refine aK (hf) ?_|((refine aT (mf hT nd.fold (la nd) (fun to h=>hl to (gz.1 h)) k hk _ _ _ _ _ _ _ _ (by exact bk) (by exact bk) cH cH) ?_ ?_);(·exact True.intro))|((refine aS (fun _=>mf hT nd.fold (la nd) (fun to h=>hl to (gz.1 h)) k hk _ _ _ _ _ _ _ _ (by exact bk) (by exact bk) cH cH) ?_ ?_);(·exact True.intro))|refine aH ?_|((with_reducible refine aB ?_ ?_)<;>intro hc<;>(try simp only[List.length_map,ne_eq,cD] at hc)<;>try(exfalso;omega)))
 exact cg (vA _ _)
end Go.Proofs.YtmonponfppdgfaaGreatDoor
end
section
/- Tables in rows of rows; how they grow: the walk. -/
namespace Go.Proofs.YtmonponfppdgfaaGreatDoor
open Go Go.ch Go.Proofs
set_option linter.unusedSimpArgs false
set_option linter.unusedVariables false
def gX (T:hZ):List (List AV):=T.map fun l=>l.map bl
abbrev nZ (b:Nat) (ids:List Nat) (T:hZ) (H:Hp):Prop:=ug 26 4 1 b ids (gX T) H
theorem dN (T:hZ):(gX T).length=T.length:=by simp[gX]
theorem ft {T:hZ} {i:Nat} (h:i<T.length):(gX T).getD i []=(T.getD i []).map bl:=by simp[gX,List.getD,h]
theorem oQ {b:Nat} {ids:List Nat} {T:hZ} {H:Hp} (h:nZ b ids T H) (k:Nat):ch.dk H (k+2) (.sl b T.length)= .im 1 .any (T.map fp):=by
 obtain⟨d,h1⟩:=h.row
 rw[dH h1 (by rw[h.len,dN])]
 congr 1
 apply List.ext_getElem
 ·rw[List.length_map,h.len,dN,List.length_map]
 ·intro i h2 h3
  have hi:i<T.length:=by simpa using h3
  have hi2:i<(gX T).length:=by rw[dN];exact hi
  rw[List.getElem_map,List.getElem_map]
  have e1:(gW ids (gX T))[i]'(by rw[h.len];exact hi2)= .sl (ids.getD i 0) ((gX T).getD i []).length:=by
   rw[←h.get hi2 .any];exact(gd _ _).symm
  rw[e1,ft hi]
  obtain⟨d2,h4⟩:=h.qs i hi2
  rw[ft hi] at h4
  rw[dH h4 rfl,ca _ (jU _ _),gd hi]
  rfl
theorem fY {b:Nat} {ids:List Nat} {T:hZ} {H:Hp} {m n:Nat} (h:nZ b ids T H) (hT:Shape T m n) (nd:Node) (hl:∀to∈nd.dK,0≤to∧to.toNat<m) (k:Nat) (hk:k<n) (nx:Nat):kB Tryz.prog 43 [.sl b m,nd.av,i64 k] H nx (bl (kC T nd k)):=by
 refine Pure.view (args2:=[.im 1 .any (T.map fp),nd.av,i64 k]) (pN hT nd hl k hk) ?_ ?_ trivial ⟨rfl,fun _ _=>rfl⟩
 ·rw[List.map_cons,List.map_cons,List.map_cons,List.map_nil,←hT.len,oQ h,dB 6 (by simp[cG]),dB 6 (by simp[cG])]
 ·have:cL 0 (T.map fp):=(cJ _ _).2 fun _ _=>by simp[fp,cG,cJ]
  simp only[cL,cG]
  exact⟨this,vQ _ _,trivial,trivial⟩
theorem F8 {ids:List Nat} {S S2:List (List AV)} (h:S.map List.length=S2.map List.length):gW ids S=gW ids S2:=by
 have:∀(ids:List Nat) (S:List (List AV)),gW ids S=List.zipWith (fun x n=>AV.sl x n) ids (S.map List.length):=by
  intro ids S
  simp[gW,List.zipWith_map_right]
 rw[this,this,h]
theorem GU {T:hZ} {i k:Nat}:(ka T i k).map List.length=T.map List.length:=by
 apply List.ext_getElem
 ·simp[ka]
 ·intro j h1 h2
  have hj:j<T.length:=by simpa using h2
  simp only[List.getElem_map,ka,List.getElem_set]
  split
  ·rename_i e;subst e;rw[List.length_set,gd hj]
  ·rfl
theorem xB (T:hZ):(gX T).map List.length=T.map List.length:=by simp[gX,Function.comp_def]
theorem nZ.set {b:Nat} {ids:List Nat} {T:hZ} {H H':Hp} (h:nZ b ids T H) {i:Nat} (hi:i<T.length) (k:Nat) (h1:bj H' b=bj H b)
 (h2:∃d,bj H' (ids.getD i 0)=some (.row 4 1 d (((T.getD i []).map bl).set k (bl true)))) (h3:∀x∈ids,x≠ids.getD i 0→bj H' x=bj H x):nZ b ids (ka T i k) H':=by
 have el:(ka T i k).length=T.length:=by simp[ka]
 have hl:ids.length=T.length:=by rw[h.lens,dN]
 refine⟨?_,fun j hj=> ?_,by rw[hl,dN,el],h.nodup⟩
 ·obtain⟨d,hr⟩:=h.row
  exact⟨d,(h1.trans hr).trans (by rw[show gW ids (gX (ka T i k))=gW ids (gX T) from F8 (by rw[xB,xB,GU])])⟩
 ·rw[dN,el] at hj
  have hjS:j<(gX T).length:=by rw[dN];exact hj
  rw[ft (by rw[el];exact hj)]
  unfold ka
  rw[dE]
  by_cases e:i=j
  ·subst e
   rw[if_pos ⟨rfl,hi⟩]
   obtain⟨d,h4⟩:=h2
   exact⟨d,by rw[h4,iZ]⟩
  ·rw[if_neg (fun h=>e h.1)]
   obtain⟨d,h4⟩:=h.qs j hjS
   rw[ft hj] at h4
   exact⟨d,(h3 _ (ee (by rw[hl];exact hj)) (h.other (by rw[dN];exact hi) hjS (Ne.symm e))).trans h4⟩
structure zV (b:Nat) (ids:List Nat) (m n:Nat) (H:Hp) (nx:Nat):Prop where
 row:∃d,bj H b=some (.row 26 1 d (ids.map (fun x=>AV.sl x n)++List.replicate (m - ids.length) (.sc (.slice none 0 0))))
 each:∀x∈ids,∃d,bj H x=some (.row 4 1 d (List.replicate n (bl false)))
 lt:∀x∈ids,b<x∧x<nx
 nodup:ids.Nodup
theorem zV.fin {b:Nat} {ids:List Nat} {m n:Nat} {H:Hp} {nx:Nat} (h:zV b ids m n H nx) (hl:ids.length=m):nZ b ids (ke m n) H:=by
 have ez:gX (ke m n)=List.replicate m (List.replicate n (bl false)):=by simp[gX,ke]
 refine⟨?_,fun i hi=> ?_,by rw[ez,List.length_replicate,hl],List.nodup_cons.2 ⟨fun hm=>by have:=(h.lt b hm).1;omega,h.nodup⟩⟩
 ·obtain⟨d,h1⟩:=h.row
  refine⟨d, ?_⟩
  rw[h1,ez,hl,Nat.sub_self,List.replicate_zero,List.append_nil]
  congr 3
  apply List.ext_getElem
  ·simp[gW,hl]
  ·intro i h2 h3;simp[gW]
 ·rw[ez] at hi ⊢
  rw[List.length_replicate] at hi
  have e1:(List.replicate m (List.replicate n (bl false))).getD i []=List.replicate n (bl false):=by simp[List.getD,List.getElem?_replicate,hi]
  rw[e1]
  exact h.each _ (ee (by rw[hl];exact hi))
theorem qQ {ids:List Nat} {m n x:Nat} (h:ids.length<m):(ids.map (fun x=>AV.sl x n)++List.replicate (m - ids.length) (AV.sc (.slice none 0 0))).set ids.length (.sl x n)=(ids++[x]).map (fun x=>AV.sl x n)++List.replicate (m - (ids++[x]).length) (AV.sc (.slice none 0 0)):=by
 rw[List.set_append,if_neg (by simp),List.length_map,Nat.sub_self,show m - ids.length=(m - (ids++[x]).length)+1 by simp;omega,List.replicate_succ]
 simp
theorem mS {ids:List Nat} {m n:Nat} (h:ids.length≤m):(ids.map (fun x=>AV.sl x n)++List.replicate (m - ids.length) (AV.sc (.slice none 0 0))).length=m:=by simp;omega
theorem qP {ids:List Nat} {m n:Nat} (h:ids.length<m) (d:AV):(ids.map (fun x=>AV.sl x n)++List.replicate (m - ids.length) (AV.sc (.slice none 0 0))).getD ids.length d= .sc (.slice none 0 0):=by
 rw[List.getD,List.getElem?_append_right (by simp),List.length_map,Nat.sub_self]
 rw[List.getElem?_replicate,if_pos (by omega)];rfl
structure qD (b:Nat) (T:hZ) (H0:Hp) (nx:Nat) (H:Hp) (n:Nat):Prop where
 at_:∃ids,nZ b ids T H∧∀x∈b::ids,nx≤x∧x<n
 cE:∀y,y<nx→bj H y=bj H0 y
 le:nx≤n
set_option maxRecDepth 4000 in
set_option maxHeartbeats 8000000 in
theorem xg (g:bo) (hg:g.Wf) (hw:Whole g) (t:Nat) (cls:List cB) (N:Nat) (hN:N≤4160) (fb fk:FuncId) (iY cE:Node→Nat→Bool) (H:Hp) (nx:Nat)
 (hbeg:∀i,i<g.nodes.length→∀k,k<N→∀H' nx',nx≤nx'→(∀y,y<nx→bj H' y=bj H y)→kB Tryz.prog fb ((g.nd i).av::i64 k::[]) H' nx' (bl (iY (g.nd i) k)))
 (hkeep:∀i,i<g.nodes.length→∀k,k<N→∀H' nx',nx≤nx'→(∀y,y<nx→bj H' y=bj H y)→kB Tryz.prog fk ((g.nd i).av::i64 k::[]) H' nx' (bl (cE (g.nd i) k))):
 cM Tryz.prog 63 [eH g t cls,i64 N, .fn (.func fb) [] [], .fn (.func fk) [] []] H nx (fun r H' n'=>r= .sl (nx+7) g.nodes.length∧qD (nx+7) (nb g iY cE N) H nx H' n'):=by
 have hl:=hg.len
 have hl0:=hw.1
 have hl1:=hw.2.1
 refine aL AQ rfl ?_
 repeat' (first|((with_reducible refine aE ?_);conv=>whnf)|refine aG ?_|exact cN|with_reducible refine aD ?_ ?_|((with_reducible refine Ask.mk ?_);first|exact bw|exact br|(intro h;simp_all[bz]<;>fail)|(simp_all[bz]<;>fail))|(apply aA;(·exact bm))|refine aH ?_|((with_reducible refine aB ?_ ?_)<;>intro hc<;>(try simp only[List.length_map,ne_eq,cD] at hc)<;>try(exfalso;omega)))
 simp only[List.length_map,Int.toNat_natCast]
 refine aI (fun ids:List Nat=>[(0,eH g t cls),(1,i64 N),(2, .fn (.func fb) [] []),(3, .fn (.func fk) [] []),(9, .sl (nx+7) g.nodes.length),(23,i64 g.nodes.length),(24,i64 ids.length)])
  (fun ids H' n'=>ids.length≤g.nodes.length∧nx+12≤n'∧zV (nx+7) ids g.nodes.length N H' n'∧∀y,y<nx→bj H' y=bj H y) (fun ids=>g.nodes.length - ids.length) [] bt ⟨Nat.zero_le _,cH,⟨⟨_,bk⟩,fun x h=>by simp at h,fun x h=>by simp at h,List.nodup_nil⟩,fun y hy=>bu⟩ ?_
 rintro ids H1 n1 ⟨hi,hn1,hp,hk1⟩
 by_cases hil:ids.length<g.nodes.length
 ·obtain⟨d7,r7⟩:=hp.row
  have e1:=fun d=>qP (m:=g.nodes.length) (n:=N) hil d
  have e2:=mS (m:=g.nodes.length) (n:=N) hi
  repeat' (first|((with_reducible refine aE ?_);conv=>whnf)|refine aG ?_|exact cN|with_reducible refine aD ?_ ?_|((with_reducible refine Ask.mk ?_);first|exact bw|(exact e2)|exact br)|(apply aA;(·(first|exact e1 _|exact bm)))|refine aH ?_|((with_reducible refine aB ?_ ?_)<;>intro hc<;>(try simp only[List.length_map,ne_eq,cD] at hc)<;>try(exfalso;omega)))
  have hlt:=hp.lt
  refine⟨ids++[n1+6],by simp;omega,bt,by simp;omega,cH,⟨⟨_,by rw[←qQ hil];exact bk⟩,fun x hx=> ?_,fun x hx=> ?_, ?_⟩,fun y hy=>Eq.trans bu (hk1 y hy)⟩
  ·rcases List.mem_append.1 hx with hx|hx
   ·obtain⟨d,h1⟩:=hp.each x hx
    have:=hlt x hx
    exact⟨d,Eq.trans bu h1⟩
   ·simp only[List.mem_cons,List.not_mem_nil,or_false] at hx
    subst hx
    exact⟨_,bk⟩
  ·rcases List.mem_append.1 hx with hx|hx
   ·have:=hlt x hx
    exact⟨this.1,Nat.lt_of_lt_of_le this.2 cH⟩
   ·simp only[List.mem_cons,List.not_mem_nil,or_false] at hx
    subst hx
    exact⟨by omega,cH⟩
  ·refine List.nodup_append.2 ⟨hp.nodup,by simp,fun x hx y hy=> ?_⟩
   simp only[List.mem_cons,List.not_mem_nil,or_false] at hy
   have:=(hlt x hx).2
   omega
 ·have hle:ids.length=g.nodes.length:=by omega
  have hfin:=hp.fin hle
  have hlt:=hp.lt
  have hgr:=iw.start g iY cE N
  repeat' (first|((with_reducible refine aE ?_);conv=>whnf)|refine aG ?_|exact aC|with_reducible refine aD ?_ ?_|(apply aA;(·exact bm))|refine aH ?_|((with_reducible refine aB ?_ ?_)<;>intro hc<;>(try simp only[List.length_map,ne_eq,cD] at hc)<;>try(exfalso;omega)))
  have hids:∀x∈(nx+7)::ids,nx≤x∧x<n1:=fun x hx=>by
   rcases List.mem_cons.1 hx with rfl|hx
   ·omega
   ·have:=hlt x hx;omega
  clear hp hlt
  refine aI (fun s:hZ×Bool=>[(0,eH g t cls),(1,i64 N),(2, .fn (.func fb) [] []),(3, .fn (.func fk) [] []),(9, .sl (nx+7) g.nodes.length),(11,bl s.2)])
   (fun s H' n'=>n1≤n'∧nZ (nx+7) ids s.1 H'∧(∀y,y<nx→bj H' y=bj H y)∧iw g iY cE N s.1∧(s.2=false→∀i k,i<g.nodes.length→k<N→eO g iY cE s.1 i k=true→dY s.1 i k=true))
   (fun s=>e8 s.1+if s.2=true then 1 else 0) (ke g.nodes.length N,true) bt ⟨cH,hfin.cE fun x hx=> ?_,fun y hy=>Eq.trans bu (hk1 y hy),hgr,fun h=>by cases h⟩ ?_
  ·exact bu
  clear hfin hgr hk1
  rintro⟨T,again⟩ H2 n2 ⟨hn2,hT,hk2,hgr,hcl⟩
  dsimp only at hT hgr hcl ⊢
  cases again with
  |false=>
   have hfin:=hgr.fin hw (hcl rfl)
   repeat' (first|((with_reducible refine aE ?_);conv=>whnf)|refine aG ?_|exact aC|with_reducible refine aD ?_ ?_|(apply aA;(·exact bm))|refine aH ?_|((with_reducible refine aB ?_ ?_)<;>intro hc<;>(try simp only[List.length_map,ne_eq,cD] at hc)<;>try(exfalso;omega)))
   refine⟨rfl,⟨⟨ids, ?_,fun x hx=>⟨(hids x hx).1,Nat.lt_of_lt_of_le (hids x hx).2 cH⟩⟩,fun y hy=>Eq.trans bu (hk2 y hy),cH⟩⟩
   rw[←hfin]
   exact hT.cE fun x hx=>bu
  |true=>
   have hTl:=hgr.shape.len
   have hql:(gW ids (gX T)).length=g.nodes.length:=by rw[hT.len,dN,hTl]
   obtain⟨d7,r7⟩:=hT.row
   repeat' (first|((with_reducible refine aE ?_);conv=>whnf)|refine aG ?_|exact cN|with_reducible refine aD ?_ ?_|((with_reducible refine Ask.mk ?_);first|exact bw|(exact hql)|exact br)|(apply aA;(·exact bm))|refine aH ?_|((with_reducible refine aB ?_ ?_)<;>intro hc<;>(try simp only[List.length_map,ne_eq,cD] at hc)<;>try(exfalso;omega)))
   refine aI (fun s:hZ×Bool×Nat=>[(0,eH g t cls),(1,i64 N),(2, .fn (.func fb) [] []),(3, .fn (.func fk) [] []),(9, .sl (nx+7) g.nodes.length),(11,bl s.2.1),(12,i64 ((s.2.2:Int) - 1))])
    (fun s H' n'=>n1≤n'∧s.2.2≤g.nodes.length∧nZ (nx+7) ids s.1 H'∧(∀y,y<nx→bj H' y=bj H y)∧iw g iY cE N s.1∧(e8 s.1+if s.2.1=true then 1 else 0)≤e8 T∧(s.2.1=false→∀i k,s.2.2≤i→i<g.nodes.length→k<N→eO g iY cE s.1 i k=true→dY s.1 i k=true))
    (fun s=>s.2.2) (T,false,g.nodes.length) bt ⟨cH,Nat.le_refl _,hT.cE fun x hx=> ?_,fun y hy=>Eq.trans bu (hk2 y hy),hgr,by simp,fun _ i k h1 h2=>absurd h1 (by dsimp only;omega)⟩ ?_
   ·exact bu
   clear hT hk2 hgr hcl r7 hql
   rintro⟨T2,ag,j⟩ H3 n3 ⟨hn3,hj,hT,hk3,hgr,hfa,hcl⟩
   dsimp only at hj hT hgr hfa hcl ⊢
   have hT2l:=hgr.shape.len
   cases j with
   |zero=>
    repeat' (first|((with_reducible refine aE ?_);conv=>whnf)|refine aG ?_|exact aC|with_reducible refine aD ?_ ?_|(apply aA;(·exact bm))|refine aH ?_|((with_reducible refine aB ?_ ?_)<;>intro hc<;>(try simp only[List.length_map,ne_eq,cD] at hc)<;>try(exfalso;omega)))
    exact⟨(T2,ag),by dsimp only;rw[if_pos rfl];omega,bt,cH,hT.cE fun x hx=>bu,fun y hy=>Eq.trans bu (hk3 y hy),hgr,fun h i k h1 h2=>hcl h i k (Nat.zero_le _) h1 h2⟩
   |succ i=>
    have hi:i<g.nodes.length:=by omega
    have ei:((i+1:Nat):Int) - 1=(i:Int):=by omega
    have en:=fun d=>dy hi d
    rw[ei]
    repeat' (first|((with_reducible refine aE ?_);conv=>whnf)|refine aG ?_|exact cN|with_reducible refine aD ?_ ?_|((with_reducible refine Ask.mk ?_);first|exact bw|exact br|(intro h;simp_all[Node.cells,bz]<;>fail)|(simp_all[Node.cells,bz]<;>fail))|(apply aA;(·(first|exact en _|exact bm)))|refine aH ?_|((with_reducible refine aB ?_ ?_)<;>intro hc<;>(try simp only[List.length_map,ne_eq,cD] at hc)<;>try(exfalso;omega)))
    refine aI (fun s:hZ×Bool×Nat=>[(0,eH g t cls),(1,i64 N),(2, .fn (.func fb) [] []),(3, .fn (.func fk) [] []),(9, .sl (nx+7) g.nodes.length),(11,bl s.2.1),(12,i64 (i:Int)),(13, .pt (n3+10) 1 0 0),(49,i64 N),(50,i64 s.2.2)])
     (fun s H' n'=>n3+11≤n'∧s.2.2≤N∧(∃d,bj H' (n3+10)=some (.row 46 13 d [(g.nd i).av]))∧nZ (nx+7) ids s.1 H'∧(∀y,y<nx→bj H' y=bj H y)∧iw g iY cE N s.1∧(e8 s.1+if s.2.1=true then 1 else 0)≤e8 T∧(s.2.1=false→∀i' k,i≤i'→i'<g.nodes.length→k<N→(i'=i→k<s.2.2)→eO g iY cE s.1 i' k=true→dY s.1 i' k=true))
     (fun s=>N - s.2.2) (T2,ag,0) bt ⟨cH,Nat.zero_le _,⟨_,bk⟩,hT.cE fun x hx=> ?_,fun y hy=>Eq.trans bu (hk3 y hy),hgr,hfa,fun h i' k h1 h2 h3 h4=>hcl h i' k (Classical.byContradiction fun hx=>Nat.not_lt_zero _ (h4 (by omega))) h2 h3⟩ ?_
    ·have:=hids x hx;exact bu
    clear hT hk3 hgr hfa hcl hT2l
    rintro⟨T3,ag2,k⟩ H4 n4 ⟨hn4,hk,⟨dn,rn⟩,hT,hk4,hgr,hfa,hcl⟩
    dsimp only at hk hT hgr hfa hcl ⊢
    have hT3l:=hgr.shape.len
    by_cases hkN:k<N
    ·have hiS:i<(gX T3).length:=by rw[dN,hT3l];exact hi
     have hiT:i<T3.length:=by rw[hT3l];exact hi
     have hql:(gW ids (gX T3)).length=g.nodes.length:=by rw[hT.len,dN,hT3l]
     have hrow:=hgr.shape.row i hi
     obtain⟨d7,r7⟩:=hT.row
     obtain⟨di,ri⟩:=hT.qs i hiS
     have e1:=fun d=>hT.get hiS d
     rw[ft hiT] at ri e1
     rw[List.length_map,hrow] at e1
     have hrl:((T3.getD i []).map bl).length=N:=by rw[List.length_map,hrow]
     have e2:=fun d=>gR (l:=T3.getD i []) (k:=k) (by rw[hrow];exact hkN) d
     have hfol:=(hw.2.2 i hi).2.2
     have hxi:=hids (ids.getD i 0) (List.mem_cons_of_mem _ (ee (by rw[hle];exact hi)))
     have hne:=hT.ne hiS
     repeat' (first|((with_reducible refine aE ?_);conv=>whnf)|refine aG ?_|exact cN|with_reducible refine aD ?_ ?_|((with_reducible refine Ask.mk ?_);first|exact bw|(exact hql)|(exact hrl)|exact br)|(apply aA;(·(first|exact e1 _|exact e2 _|exact bm)))|((refine aT (hbeg i hi k hkN _ _ cH (fun y hy=>Eq.trans bu (hk4 y hy))) ?_ ?_);(·exact True.intro))|((refine aS (fun _=>hbeg i hi k hkN _ _ cH (fun y hy=>Eq.trans bu (hk4 y hy))) ?_ ?_);(·exact True.intro))|((refine aT (hkeep i hi k hkN _ _ cH (fun y hy=>Eq.trans bu (hk4 y hy))) ?_ ?_);(·exact True.intro))|((refine aS (fun _=>hkeep i hi k hkN _ _ cH (fun y hy=>Eq.trans bu (hk4 y hy))) ?_ ?_);(·exact True.intro))|((refine aT (fY (hT.cE fun x hx=>bu) hgr.shape (g.nd i) hfol k hkN _) ?_ ?_);(·exact True.intro))|((refine aS (fun _=>fY (hT.cE fun x hx=>bu) hgr.shape (g.nd i) hfol k hkN _) ?_ ?_);(·exact True.intro))|refine aH ?_|((with_reducible refine aB ?_ ?_)<;>intro hc<;>(try simp only[List.length_map,ne_eq,cD] at hc)<;>try(exfalso;omega)))
     ·refine⟨(T3,ag2,k+1),by dsimp only;omega,bt,by omega,by dsimp only;omega,⟨_,bk⟩,hT.cE fun x hx=> ?_,fun y hy=>Eq.trans bu (hk4 y hy),hgr,hfa,fun h i' k' a1 a2 a3 a4 a5=> ?_⟩
      ·exact bu
      ·by_cases e:i'=i∧k'=k
       ·obtain⟨rfl,rfl⟩:=e
        unfold eO at a5
        rcases hc with hc|⟨c1,c2|c2⟩
        ·exact hc
        ·rw[c1,c2] at a5;cases a5
        ·rw[c1,c2,Bool.and_false] at a5;cases a5
       ·refine hcl h i' k' a1 a2 a3 (fun e2=> ?_) a5
        have:=a4 e2
        have:¬k'=k:=fun e3=>e ⟨e2,e3⟩
        dsimp only at *
        omega
     ·have hf0:dY T3 i k=false:=hc.1
      have hcell:eO g iY cE T3 i k=true:=by
       unfold eO
       rcases hc.2 with c1|⟨c1,c2⟩
       ·rw[Bool.not_eq_false] at c1;rw[c1];rfl
       ·rw[c1,c2];simp
      have hfs:=kp hgr.shape hi hkN hf0
      refine⟨(ka T3 i k,true,k+1),by dsimp only;omega,bt,by omega,by dsimp only;omega,⟨_,bk⟩,hT.set hiT k ?_ ⟨_,bk⟩ (fun x hx hxn=> ?_),fun y hy=>Eq.trans bu (hk4 y hy),hgr.step hi hkN hcell, ?_,fun h=>by cases h⟩
      ·exact bu
      ·exact bu
      ·dsimp only
       rw[if_pos rfl]
       omega
    ·have:k=N:=by omega
     subst this
     repeat' (first|((with_reducible refine aE ?_);conv=>whnf)|refine aG ?_|exact aC|with_reducible refine aD ?_ ?_|(apply aA;(·exact bm))|refine aH ?_|((with_reducible refine aB ?_ ?_)<;>intro hc<;>(try simp only[List.length_map,ne_eq,cD] at hc)<;>try(exfalso;omega)))
     exact⟨(T3,ag2,i),by dsimp only;omega,bt,by omega,by dsimp only;omega,hT.cE fun x hx=>bu,fun y hy=>Eq.trans bu (hk4 y hy),hgr,hfa,fun h i' k' a1 a2 a3 a5=>hcl h i' k' a1 a2 a3 (fun _=>a3) a5⟩
set_option maxRecDepth 4000 in
set_option maxHeartbeats 8000000 in
theorem ve (g:bo) (hg:g.Wf) (hw:Whole g) (t:Nat) (cls:List cB) (N:Nat) (hN:N≤4160) (fb fk:FuncId) (bb:Nat) (iY cE:Node→Nat→Bool) (H:Hp) (nx:Nat)
 (hbeg:∀i,i<g.nodes.length→∀k,k<N→∀H' nx',nx≤nx'→(∀y,y<nx→bj H' y=bj H y)→kB Tryz.prog fb ((g.nd i).av::i64 k::[.pt bb 1 0 0]) H' nx' (bl (iY (g.nd i) k)))
 (hkeep:∀i,i<g.nodes.length→∀k,k<N→∀H' nx',nx≤nx'→(∀y,y<nx→bj H' y=bj H y)→kB Tryz.prog fk ((g.nd i).av::i64 k::[.pt bb 1 0 0]) H' nx' (bl (cE (g.nd i) k))):
 cM Tryz.prog 63 [eH g t cls,i64 N, .fn (.func fb) [] [.pt bb 1 0 0], .fn (.func fk) [] [.pt bb 1 0 0]] H nx (fun r H' n'=>r= .sl (nx+7) g.nodes.length∧qD (nx+7) (nb g iY cE N) H nx H' n'):=by
 have hl:=hg.len
 have hl0:=hw.1
 have hl1:=hw.2.1
 refine aL AQ rfl ?_
 repeat' (first|((with_reducible refine aE ?_);conv=>whnf)|refine aG ?_|exact cN|with_reducible refine aD ?_ ?_|((with_reducible refine Ask.mk ?_);first|exact bw|exact br|(intro h;simp_all[bz]<;>fail)|(simp_all[bz]<;>fail))|(apply aA;(·exact bm))|refine aH ?_|((with_reducible refine aB ?_ ?_)<;>intro hc<;>(try simp only[List.length_map,ne_eq,cD] at hc)<;>try(exfalso;omega)))
 simp only[List.length_map,Int.toNat_natCast]
 refine aI (fun ids:List Nat=>[(0,eH g t cls),(1,i64 N),(2, .fn (.func fb) [] [.pt bb 1 0 0]),(3, .fn (.func fk) [] [.pt bb 1 0 0]),(9, .sl (nx+7) g.nodes.length),(23,i64 g.nodes.length),(24,i64 ids.length)])
  (fun ids H' n'=>ids.length≤g.nodes.length∧nx+12≤n'∧zV (nx+7) ids g.nodes.length N H' n'∧∀y,y<nx→bj H' y=bj H y) (fun ids=>g.nodes.length - ids.length) [] bt ⟨Nat.zero_le _,cH,⟨⟨_,bk⟩,fun x h=>by simp at h,fun x h=>by simp at h,List.nodup_nil⟩,fun y hy=>bu⟩ ?_
 rintro ids H1 n1 ⟨hi,hn1,hp,hk1⟩
 by_cases hil:ids.length<g.nodes.length
 ·obtain⟨d7,r7⟩:=hp.row
  have e1:=fun d=>qP (m:=g.nodes.length) (n:=N) hil d
  have e2:=mS (m:=g.nodes.length) (n:=N) hi
  repeat' (first|((with_reducible refine aE ?_);conv=>whnf)|refine aG ?_|exact cN|with_reducible refine aD ?_ ?_|((with_reducible refine Ask.mk ?_);first|exact bw|(exact e2)|exact br)|(apply aA;(·(first|exact e1 _|exact bm)))|refine aH ?_|((with_reducible refine aB ?_ ?_)<;>intro hc<;>(try simp only[List.length_map,ne_eq,cD] at hc)<;>try(exfalso;omega)))
  have hlt:=hp.lt
  refine⟨ids++[n1+6],by simp;omega,bt,by simp;omega,cH,⟨⟨_,by rw[←qQ hil];exact bk⟩,fun x hx=> ?_,fun x hx=> ?_, ?_⟩,fun y hy=>Eq.trans bu (hk1 y hy)⟩
  ·rcases List.mem_append.1 hx with hx|hx
   ·obtain⟨d,h1⟩:=hp.each x hx
    have:=hlt x hx
    exact⟨d,Eq.trans bu h1⟩
   ·simp only[List.mem_cons,List.not_mem_nil,or_false] at hx
    subst hx
    exact⟨_,bk⟩
  ·rcases List.mem_append.1 hx with hx|hx
   ·have:=hlt x hx
    exact⟨this.1,Nat.lt_of_lt_of_le this.2 cH⟩
   ·simp only[List.mem_cons,List.not_mem_nil,or_false] at hx
    subst hx
    exact⟨by omega,cH⟩
  ·refine List.nodup_append.2 ⟨hp.nodup,by simp,fun x hx y hy=> ?_⟩
   simp only[List.mem_cons,List.not_mem_nil,or_false] at hy
   have:=(hlt x hx).2
   omega
 ·have hle:ids.length=g.nodes.length:=by omega
  have hfin:=hp.fin hle
  have hlt:=hp.lt
  have hgr:=iw.start g iY cE N
  repeat' (first|((with_reducible refine aE ?_);conv=>whnf)|refine aG ?_|exact aC|with_reducible refine aD ?_ ?_|(apply aA;(·exact bm))|refine aH ?_|((with_reducible refine aB ?_ ?_)<;>intro hc<;>(try simp only[List.length_map,ne_eq,cD] at hc)<;>try(exfalso;omega)))
  have hids:∀x∈(nx+7)::ids,nx≤x∧x<n1:=fun x hx=>by
   rcases List.mem_cons.1 hx with rfl|hx
   ·omega
   ·have:=hlt x hx;omega
  clear hp hlt
  refine aI (fun s:hZ×Bool=>[(0,eH g t cls),(1,i64 N),(2, .fn (.func fb) [] [.pt bb 1 0 0]),(3, .fn (.func fk) [] [.pt bb 1 0 0]),(9, .sl (nx+7) g.nodes.length),(11,bl s.2)])
   (fun s H' n'=>n1≤n'∧nZ (nx+7) ids s.1 H'∧(∀y,y<nx→bj H' y=bj H y)∧iw g iY cE N s.1∧(s.2=false→∀i k,i<g.nodes.length→k<N→eO g iY cE s.1 i k=true→dY s.1 i k=true))
   (fun s=>e8 s.1+if s.2=true then 1 else 0) (ke g.nodes.length N,true) bt ⟨cH,hfin.cE fun x hx=> ?_,fun y hy=>Eq.trans bu (hk1 y hy),hgr,fun h=>by cases h⟩ ?_
  ·exact bu
  clear hfin hgr hk1
  rintro⟨T,again⟩ H2 n2 ⟨hn2,hT,hk2,hgr,hcl⟩
  dsimp only at hT hgr hcl ⊢
  cases again with
  |false=>
   have hfin:=hgr.fin hw (hcl rfl)
   repeat' (first|((with_reducible refine aE ?_);conv=>whnf)|refine aG ?_|exact aC|with_reducible refine aD ?_ ?_|(apply aA;(·exact bm))|refine aH ?_|((with_reducible refine aB ?_ ?_)<;>intro hc<;>(try simp only[List.length_map,ne_eq,cD] at hc)<;>try(exfalso;omega)))
   refine⟨rfl,⟨⟨ids, ?_,fun x hx=>⟨(hids x hx).1,Nat.lt_of_lt_of_le (hids x hx).2 cH⟩⟩,fun y hy=>Eq.trans bu (hk2 y hy),cH⟩⟩
   rw[←hfin]
   exact hT.cE fun x hx=>bu
  |true=>
   have hTl:=hgr.shape.len
   have hql:(gW ids (gX T)).length=g.nodes.length:=by rw[hT.len,dN,hTl]
   obtain⟨d7,r7⟩:=hT.row
   repeat' (first|((with_reducible refine aE ?_);conv=>whnf)|refine aG ?_|exact cN|with_reducible refine aD ?_ ?_|((with_reducible refine Ask.mk ?_);first|exact bw|(exact hql)|exact br)|(apply aA;(·exact bm))|refine aH ?_|((with_reducible refine aB ?_ ?_)<;>intro hc<;>(try simp only[List.length_map,ne_eq,cD] at hc)<;>try(exfalso;omega)))
   refine aI (fun s:hZ×Bool×Nat=>[(0,eH g t cls),(1,i64 N),(2, .fn (.func fb) [] [.pt bb 1 0 0]),(3, .fn (.func fk) [] [.pt bb 1 0 0]),(9, .sl (nx+7) g.nodes.length),(11,bl s.2.1),(12,i64 ((s.2.2:Int) - 1))])
    (fun s H' n'=>n1≤n'∧s.2.2≤g.nodes.length∧nZ (nx+7) ids s.1 H'∧(∀y,y<nx→bj H' y=bj H y)∧iw g iY cE N s.1∧(e8 s.1+if s.2.1=true then 1 else 0)≤e8 T∧(s.2.1=false→∀i k,s.2.2≤i→i<g.nodes.length→k<N→eO g iY cE s.1 i k=true→dY s.1 i k=true))
    (fun s=>s.2.2) (T,false,g.nodes.length) bt ⟨cH,Nat.le_refl _,hT.cE fun x hx=> ?_,fun y hy=>Eq.trans bu (hk2 y hy),hgr,by simp,fun _ i k h1 h2=>absurd h1 (by dsimp only;omega)⟩ ?_
   ·exact bu
   clear hT hk2 hgr hcl r7 hql
   rintro⟨T2,ag,j⟩ H3 n3 ⟨hn3,hj,hT,hk3,hgr,hfa,hcl⟩
   dsimp only at hj hT hgr hfa hcl ⊢
   have hT2l:=hgr.shape.len
   cases j with
   |zero=>
    repeat' (first|((with_reducible refine aE ?_);conv=>whnf)|refine aG ?_|exact aC|with_reducible refine aD ?_ ?_|(apply aA;(·exact bm))|refine aH ?_|((with_reducible refine aB ?_ ?_)<;>intro hc<;>(try simp only[List.length_map,ne_eq,cD] at hc)<;>try(exfalso;omega)))
    exact⟨(T2,ag),by dsimp only;rw[if_pos rfl];omega,bt,cH,hT.cE fun x hx=>bu,fun y hy=>Eq.trans bu (hk3 y hy),hgr,fun h i k h1 h2=>hcl h i k (Nat.zero_le _) h1 h2⟩
   |succ i=>
    have hi:i<g.nodes.length:=by omega
    have ei:((i+1:Nat):Int) - 1=(i:Int):=by omega
    have en:=fun d=>dy hi d
    rw[ei]
    repeat' (first|((with_reducible refine aE ?_);conv=>whnf)|refine aG ?_|exact cN|with_reducible refine aD ?_ ?_|((with_reducible refine Ask.mk ?_);first|exact bw|exact br|(intro h;simp_all[Node.cells,bz]<;>fail)|(simp_all[Node.cells,bz]<;>fail))|(apply aA;(·(first|exact en _|exact bm)))|refine aH ?_|((with_reducible refine aB ?_ ?_)<;>intro hc<;>(try simp only[List.length_map,ne_eq,cD] at hc)<;>try(exfalso;omega)))
    refine aI (fun s:hZ×Bool×Nat=>[(0,eH g t cls),(1,i64 N),(2, .fn (.func fb) [] [.pt bb 1 0 0]),(3, .fn (.func fk) [] [.pt bb 1 0 0]),(9, .sl (nx+7) g.nodes.length),(11,bl s.2.1),(12,i64 (i:Int)),(13, .pt (n3+10) 1 0 0),(49,i64 N),(50,i64 s.2.2)])
     (fun s H' n'=>n3+11≤n'∧s.2.2≤N∧(∃d,bj H' (n3+10)=some (.row 46 13 d [(g.nd i).av]))∧nZ (nx+7) ids s.1 H'∧(∀y,y<nx→bj H' y=bj H y)∧iw g iY cE N s.1∧(e8 s.1+if s.2.1=true then 1 else 0)≤e8 T∧(s.2.1=false→∀i' k,i≤i'→i'<g.nodes.length→k<N→(i'=i→k<s.2.2)→eO g iY cE s.1 i' k=true→dY s.1 i' k=true))
     (fun s=>N - s.2.2) (T2,ag,0) bt ⟨cH,Nat.zero_le _,⟨_,bk⟩,hT.cE fun x hx=> ?_,fun y hy=>Eq.trans bu (hk3 y hy),hgr,hfa,fun h i' k h1 h2 h3 h4=>hcl h i' k (Classical.byContradiction fun hx=>Nat.not_lt_zero _ (h4 (by omega))) h2 h3⟩ ?_
    ·have:=hids x hx;exact bu
    clear hT hk3 hgr hfa hcl hT2l
    rintro⟨T3,ag2,k⟩ H4 n4 ⟨hn4,hk,⟨dn,rn⟩,hT,hk4,hgr,hfa,hcl⟩
    dsimp only at hk hT hgr hfa hcl ⊢
    have hT3l:=hgr.shape.len
    by_cases hkN:k<N
    ·have hiS:i<(gX T3).length:=by rw[dN,hT3l];exact hi
     have hiT:i<T3.length:=by rw[hT3l];exact hi
     have hql:(gW ids (gX T3)).length=g.nodes.length:=by rw[hT.len,dN,hT3l]
     have hrow:=hgr.shape.row i hi
     obtain⟨d7,r7⟩:=hT.row
     obtain⟨di,ri⟩:=hT.qs i hiS
     have e1:=fun d=>hT.get hiS d
     rw[ft hiT] at ri e1
     rw[List.length_map,hrow] at e1
     have hrl:((T3.getD i []).map bl).length=N:=by rw[List.length_map,hrow]
     have e2:=fun d=>gR (l:=T3.getD i []) (k:=k) (by rw[hrow];exact hkN) d
     have hfol:=(hw.2.2 i hi).2.2
     have hxi:=hids (ids.getD i 0) (List.mem_cons_of_mem _ (ee (by rw[hle];exact hi)))
     have hne:=hT.ne hiS
     repeat' (first|((with_reducible refine aE ?_);conv=>whnf)|refine aG ?_|exact cN|with_reducible refine aD ?_ ?_|((with_reducible refine Ask.mk ?_);first|exact bw|(exact hql)|(exact hrl)|exact br)|(apply aA;(·(first|exact e1 _|exact e2 _|exact bm)))|((refine aT (hbeg i hi k hkN _ _ cH (fun y hy=>Eq.trans bu (hk4 y hy))) ?_ ?_);(·exact True.intro))|((refine aS (fun _=>hbeg i hi k hkN _ _ cH (fun y hy=>Eq.trans bu (hk4 y hy))) ?_ ?_);(·exact True.intro))|((refine aT (hkeep i hi k hkN _ _ cH (fun y hy=>Eq.trans bu (hk4 y hy))) ?_ ?_);(·exact True.intro))|((refine aS (fun _=>hkeep i hi k hkN _ _ cH (fun y hy=>Eq.trans bu (hk4 y hy))) ?_ ?_);(·exact True.intro))|((refine aT (fY (hT.cE fun x hx=>bu) hgr.shape (g.nd i) hfol k hkN _) ?_ ?_);(·exact True.intro))|((refine aS (fun _=>fY (hT.cE fun x hx=>bu) hgr.shape (g.nd i) hfol k hkN _) ?_ ?_);(·exact True.intro))|refine aH ?_|((with_reducible refine aB ?_ ?_)<;>intro hc<;>(try simp only[List.length_map,ne_eq,cD] at hc)<;>try(exfalso;omega)))
     ·refine⟨(T3,ag2,k+1),by dsimp only;omega,bt,by omega,by dsimp only;omega,⟨_,bk⟩,hT.cE fun x hx=> ?_,fun y hy=>Eq.trans bu (hk4 y hy),hgr,hfa,fun h i' k' a1 a2 a3 a4 a5=> ?_⟩
      ·exact bu
      ·by_cases e:i'=i∧k'=k
       ·obtain⟨rfl,rfl⟩:=e
        unfold eO at a5
        rcases hc with hc|⟨c1,c2|c2⟩
        ·exact hc
        ·rw[c1,c2] at a5;cases a5
        ·rw[c1,c2,Bool.and_false] at a5;cases a5
       ·refine hcl h i' k' a1 a2 a3 (fun e2=> ?_) a5
        have:=a4 e2
        have:¬k'=k:=fun e3=>e ⟨e2,e3⟩
        dsimp only at *
        omega
     ·have hf0:dY T3 i k=false:=hc.1
      have hcell:eO g iY cE T3 i k=true:=by
       unfold eO
       rcases hc.2 with c1|⟨c1,c2⟩
       ·rw[Bool.not_eq_false] at c1;rw[c1];rfl
       ·rw[c1,c2];simp
      have hfs:=kp hgr.shape hi hkN hf0
      refine⟨(ka T3 i k,true,k+1),by dsimp only;omega,bt,by omega,by dsimp only;omega,⟨_,bk⟩,hT.set hiT k ?_ ⟨_,bk⟩ (fun x hx hxn=> ?_),fun y hy=>Eq.trans bu (hk4 y hy),hgr.step hi hkN hcell, ?_,fun h=>by cases h⟩
      ·exact bu
      ·exact bu
      ·dsimp only
       rw[if_pos rfl]
       omega
    ·have:k=N:=by omega
     subst this
     repeat' (first|((with_reducible refine aE ?_);conv=>whnf)|refine aG ?_|exact aC|with_reducible refine aD ?_ ?_|(apply aA;(·exact bm))|refine aH ?_|((with_reducible refine aB ?_ ?_)<;>intro hc<;>(try simp only[List.length_map,ne_eq,cD] at hc)<;>try(exfalso;omega)))
     exact⟨(T3,ag2,i),by dsimp only;omega,bt,by omega,by dsimp only;omega,hT.cE fun x hx=>bu,fun y hy=>Eq.trans bu (hk4 y hy),hgr,hfa,fun h i' k' a1 a2 a3 a5=>hcl h i' k' a1 a2 a3 (fun _=>a3) a5⟩
end Go.Proofs.YtmonponfppdgfaaGreatDoor
end
section
/- What is live, and what waits: the walk. -/
namespace Go.Proofs.YtmonponfppdgfaaGreatDoor
open Go Go.ch Go.Proofs
set_option linter.unusedSimpArgs false
set_option linter.unusedVariables false
theorem tU (u:bp) (g:bo) (hg:g.Wf) (hk:dL u g) (t:Nat) (cls:List cB) (H:Hp) (nx:Nat):cM Tryz.prog 37 [eH g t cls] H nx (fun r H' n'=>∃b,r= .sl b g.nodes.length∧qD b (fq g) H nx H' n'):=by
 have hs:=hk.cf
 have hlo:=hk.locals
 obtain⟨N,hN⟩:∃N:Nat,g.cf=N:=⟨g.cf.toNat,by omega⟩
 refine aL DW rfl ?_
 repeat' (first|((with_reducible refine aE ?_);conv=>whnf)|refine aG ?_|exact cN|with_reducible refine aD ?_ ?_|((with_reducible refine Ask.mk ?_);first|exact bw|exact br|(intro h;simp_all[bz]<;>fail)|(simp_all[bz]<;>fail))|(apply aA;(·exact bm))|(simp only[hN])|refine aH ?_|((with_reducible refine aB ?_ ?_)<;>intro hc<;>(try simp only[List.length_map,ne_eq,cD] at hc)<;>try(exfalso;omega)))
 refine aN (xg g hg hk.whole t cls N (by omega) _ _ eE fN _ _ (fun i hi k hkN H' nx' _ _=> ?_) (fun i hi k hkN H' nx' _ _=> ?_)) ?_
 ·exact(vJ (g.nd i) (hg.nodes _ (cC default hi)).op.1 (hk.node hi).kind (hk.node hi).op k).view (args2:=[(g.nd i).av,i64 k]) (by rw[List.map_cons,List.map_cons,List.map_nil,dB 6 (by simp[cG]),dB 6 (by simp[cG])]) (by simp[cL,cG]) trivial ⟨rfl,fun _ _=>rfl⟩
 ·exact(xw (g.nd i) (hg.nodes _ (cC default hi)).op.1 (hk.node hi).kind (hk.node hi).op k).view (args2:=[(g.nd i).av,i64 k]) (by rw[List.map_cons,List.map_cons,List.map_nil,dB 6 (by simp[cG]),dB 6 (by simp[cG])]) (by simp[cL,cG]) trivial ⟨rfl,fun _ _=>rfl⟩
 rintro _ H2 n2 ⟨rfl,hgr⟩
 repeat' (first|((with_reducible refine aE ?_);conv=>whnf)|refine aG ?_|exact aC|with_reducible refine aD ?_ ?_|(apply aA;(·exact bm))|refine aH ?_|((with_reducible refine aB ?_ ?_)<;>intro hc<;>(try simp only[List.length_map,ne_eq,cD] at hc)<;>try(exfalso;omega)))
 have el:nb g eE fN N=fq g:=by unfold fq;rw[hN,Int.toNat_natCast]
 rw[el] at hgr
 obtain⟨ids,h1,h2⟩:=hgr.at_
 have hle:=hgr.le
 exact⟨⟨_,rfl,⟨⟨ids,h1.cE fun x hx=>bu,fun x hx=>⟨Nat.le_trans cH (h2 x hx).1,Nat.lt_of_lt_of_le (h2 x hx).2 cH⟩⟩,fun y hy=>Eq.trans bu ((hgr.cE y (Nat.lt_of_lt_of_le hy cH)).trans bu),cH⟩⟩⟩
@[simp] theorem sO (n:Nat) (g:bo) (t:Nat) (cls:List cB):cL n (bz g t cls):=by simp[bz,cG,cL,cJ,cB.cells]
theorem zl (g:bo) (t:Nat) (cls:List cB):cG 0 (eH g t cls):=by simp[eH,bz,cG,cL,cJ,cB.cells]
set_option maxRecDepth 4000 in
set_option maxHeartbeats 4000000 in
theorem xE (g:bo) (n:Node) (ho:0≤n.op) (h:1≤n.kind∧n.kind<10) (hop:(n.kind=1→n.op<19)∧(n.kind≠1→n.op=0)) (t:Nat) (cls:List cB) (v:Nat) (hv:v<cls.length) (b:Nat) (H:Hp) (nx:Nat) (e:TypeId) (d:AV) (hrb:bj H b=some (.row e 1 d [eH g t cls])) (hbn:b<nx):
 kB Tryz.prog 69 [n.av,i64 v, .pt b 1 0 0] H nx (bl (fy cls t n v)):=by
 have hm:=lu n ho h hop
 unfold tW at hm
 refine aU ER rfl ?_
 have how:=rX g t cls v hv
 unfold fy
 cases hob:nQ cls t v with
 |false=>
  rw[hob] at how
  repeat' (first|((with_reducible refine aE ?_);conv=>whnf)|refine aG ?_|exact cN|with_reducible refine aD ?_ ?_|((with_reducible refine Ask.mk ?_);first|exact bw|(intro h1 h2;rw[h1,h2];rfl)|exact br|(intro h;simp_all[Node.cells]<;>fail)|(simp_all[Node.cells]<;>fail))|(apply aA;(·exact bm))|refine aK (how) ?_|refine aK (hm) ?_|refine aH ?_|((with_reducible refine aB ?_ ?_)<;>intro hc<;>(try simp only[List.length_map,ne_eq,cD] at hc)<;>try(exfalso;omega)))
  exact pq.look rfl jk
 |true=>
  rw[hob] at how
  repeat' (first|((with_reducible refine aE ?_);conv=>whnf)|refine aG ?_|exact cN|with_reducible refine aD ?_ ?_|((with_reducible refine Ask.mk ?_);first|exact bw|(intro h1 h2;rw[h1,h2];rfl)|exact br|(intro h;simp_all[Node.cells]<;>fail)|(simp_all[Node.cells]<;>fail))|(apply aA;(·exact bm))|refine aK (how) ?_|refine aK (hm) ?_|refine aH ?_|((with_reducible refine aB ?_ ?_)<;>intro hc<;>(try simp only[List.length_map,ne_eq,cD] at hc)<;>try(exfalso;omega)))
  refine pq.look ?_ jk
  refine cg ?_
  rw[show decide (n.kind=2∨n.kind=4)=xx n from rfl]
  cases decide (n.kind=9)<;>cases decide (n.kind=5)<;>cases xx n<;>simp
set_option maxRecDepth 4000 in
set_option maxHeartbeats 4000000 in
theorem xF (g:bo) (n:Node) (t:Nat) (cls:List cB) (v:Nat) (hv:v<cls.length) (b:Nat) (H:Hp) (nx:Nat) (e:TypeId) (d:AV) (hrb:bj H b=some (.row e 1 d [eH g t cls])) (hbn:b<nx):
 kB Tryz.prog 70 [n.av,i64 v, .pt b 1 0 0] H nx (bl (gN cls t n v)):=by
 refine aU ES rfl ?_
 have how:=rX g t cls v hv
 repeat' (first|((with_reducible refine aE ?_);conv=>whnf)|refine aG ?_|exact cN|with_reducible refine aD ?_ ?_|((with_reducible refine Ask.mk ?_);first|exact bw|(intro h1 h2;rw[h1,h2];rfl)|exact br|(intro h;simp_all[Node.cells]<;>fail)|(simp_all[Node.cells]<;>fail))|(apply aA;(·exact bm))|refine aK (how) ?_|refine aH ?_|((with_reducible refine aB ?_ ?_)<;>intro hc<;>(try simp only[List.length_map,ne_eq,cD] at hc)<;>try(exfalso;omega)))
 refine pq.look ?_ jk
 refine cg ?_
 unfold gN
 cases nQ cls t v<;>by_cases h3:n.kind=3<;>by_cases h4:n.cP=v<;>simp[h3,h4]
set_option maxRecDepth 4000 in
set_option maxHeartbeats 4000000 in
theorem yj (u:bp) (g:bo) (hg:g.Wf) (hk:dL u g) (t:Nat) (cls:List cB) (hcl:cls.length≤64) (H:Hp) (nx:Nat):cM Tryz.prog 39 [eH g t cls] H nx (fun r H' n'=>∃b,r= .sl b g.nodes.length∧qD b (jz g cls t) H nx H' n'):=by
 refine aL DY rfl ?_
 repeat' (first|((with_reducible refine aE ?_);conv=>whnf)|refine aG ?_|exact cN|with_reducible refine aD ?_ ?_|((with_reducible refine Ask.mk ?_);first|exact bw|exact br|(intro h;simp_all[bz]<;>fail)|(simp_all[bz]<;>fail))|(apply aA;(·exact bm))|refine aH ?_|((with_reducible refine aB ?_ ?_)<;>intro hc<;>(try simp only[List.length_map,ne_eq,cD] at hc)<;>try(exfalso;omega)))
 rw[List.length_map]
 refine aN (ve g hg hk.whole t cls cls.length (by omega) _ _ nx (fy cls t) (gN cls t) _ _ (fun i hi k hkN H' nx' h1 h2=> ?_) (fun i hi k hkN H' nx' h1 h2=> ?_)) ?_
 ·exact xE g (g.nd i) (hg.nodes _ (cC default hi)).op.1 (hk.node hi).kind (hk.node hi).op t cls k hkN nx H' nx' 53 .any ((h2 nx cH).trans bk) (Nat.lt_of_lt_of_le cH h1)
 ·exact xF g (g.nd i) t cls k hkN nx H' nx' 53 .any ((h2 nx cH).trans bk) (Nat.lt_of_lt_of_le cH h1)
 rintro _ H2 n2 ⟨rfl,hgr⟩
 repeat' (first|((with_reducible refine aE ?_);conv=>whnf)|refine aG ?_|exact aC|with_reducible refine aD ?_ ?_|(apply aA;(·exact bm))|refine aH ?_|((with_reducible refine aB ?_ ?_)<;>intro hc<;>(try simp only[List.length_map,ne_eq,cD] at hc)<;>try(exfalso;omega)))
 have el:nb g (fy cls t) (gN cls t) cls.length=jz g cls t:=rfl
 rw[el] at hgr
 obtain⟨ids,h1,h2⟩:=hgr.at_
 exact⟨⟨_,rfl,⟨⟨ids,h1.cE fun x hx=>bu,fun x hx=>⟨Nat.le_trans cH (h2 x hx).1,Nat.lt_of_lt_of_le (h2 x hx).2 cH⟩⟩,fun y hy=>Eq.trans bu ((hgr.cE y (Nat.lt_of_lt_of_le hy cH)).trans bu),Nat.le_trans cH (Nat.le_trans hgr.le cH)⟩⟩⟩
end Go.Proofs.YtmonponfppdgfaaGreatDoor
end
