import Derived.Test.YtmonponfppdgfaaGreatDoorM36
import Derived.Test.YtmonponfppdgfaaGreatDoorM34
section
/- Idle: the walk. -/
namespace Go.Proofs.YtmonponfppdgfaaGreatDoor
open Go Go.ck Go.Proofs
set_option linter.unusedSimpArgs false
set_option linter.unusedVariables false
noncomputable def nI (u:bq) (t:Int) (l:List Bool):AV:=if kK u=true then(if t<0∨(u.bp.length:Int)≤t then .dI [.im 1 .any [],i64 2] else .dI [fg l,i64 0]) else .dI [.im 1 .any [],i64 60]
theorem gp (u:bq):(cq u).length=u.shared.length:=by simp[cq]
theorem sV (u:bq) (hu:u.Wf) (t:Int):Pure Tryz.prog 7 [u.av,i64 t] (fun r=>r=nI u t (eD (u.gr t.toNat) (cq u) t.toNat)):=by
 unfold nI
 by_cases hr:cp u
 ·rw[if_pos (cT.2 hr)]
  by_cases ht:t<0∨(u.bp.length:Int)≤t
  ·rw[if_pos ht]
   have ha:=pK u hu hr t ht
   refine mO ?_
   refine aI JW rfl ?_
   repeat' (first|((with_reducible refine aE ?_);conv=>whnf)|refine aG ?_|exact cN|with_reducible refine aD ?_ ?_|((with_reducible refine Ask.mk ?_);first|exact bw|exact br|(intro h;simp_all[bq.cells]<;>fail)|(simp_all[bq.cells]<;>fail))|(apply aA;(·exact bm))|refine aK (ha) ?_|refine aH ?_|((with_reducible refine aB ?_ ?_)<;>intro hc<;>(try simp only[List.length_map,ne_eq,cD] at hc)<;>try(exfalso;omega)))
   exact rfl
  ·rw[if_neg ht]
   obtain⟨k,rfl⟩:∃k:Nat,t=k:=⟨t.toNat,by omega⟩
   rw[Int.toNat_natCast]
   have hk:k<u.bp.length:=by omega
   have ha:=qY u hu hr k hk
   have hgo:=hr.gr hk
   have hfew:=hr.BH
   have hcl:=gp u
   refine cV ?_ (by rw[cG,cL,cL,cL];exact⟨by simp[fg,cG,cJ],by simp[cG],trivial⟩)
   refine aL JW rfl ?_
   repeat' (first|((with_reducible refine aE ?_);conv=>whnf)|refine aG ?_|exact cN|with_reducible refine aD ?_ ?_|((with_reducible refine Ask.mk ?_);first|exact bw|exact br|(intro h;simp_all[bq.cells]<;>fail)|(simp_all[bq.cells]<;>fail))|(apply aA;(·exact bm))|refine aK (ha) ?_|refine aH ?_|((with_reducible refine aB ?_ ?_)<;>intro hc<;>(try simp only[List.length_map,ne_eq,cD] at hc)<;>try(exfalso;omega)))
   refine aN (tK u (u.gr k) (hu.bp _ (cC default hk)) hgo k (cq u) hcl (by omega) _ _) ?_
   rintro _ H2 n2 ⟨b,d,rfl,hb1,hb2,hb,_⟩
   repeat' (first|((with_reducible refine aE ?_);conv=>whnf)|refine aG ?_|exact aC|with_reducible refine aD ?_ ?_|(apply aA;(·exact bm))|refine aH ?_|((with_reducible refine aB ?_ ?_)<;>intro hc<;>(try simp only[List.length_map,ne_eq,cD] at hc)<;>try(exfalso;omega)))
   refine⟨la.trans ?_⟩
   rw[od 5 (by simp[cG])]
   refine congrArg (fun z=>AV.dI [z,i64 0]) ((dG (e:=4) (sz:=1) (d:=d) (es:=(eD (u.gr k) (cq u) k).map bl) bk (by rw[List.length_map,kW])).trans ?_)
   rw[cc _ (jT _ _)]
   rfl
 ·rw[if_neg (mt cT.1 hr)]
  have ha:=se u hu hr t
  refine mO ?_
  refine aI JW rfl ?_
  repeat' (first|((with_reducible refine aE ?_);conv=>whnf)|refine aG ?_|exact cN|with_reducible refine aD ?_ ?_|((with_reducible refine Ask.mk ?_);first|exact bw|exact br|(intro h;simp_all[bq.cells]<;>fail)|(simp_all[bq.cells]<;>fail))|(apply aA;(·exact bm))|refine aK (ha) ?_|refine aH ?_|((with_reducible refine aB ?_ ?_)<;>intro hc<;>(try simp only[List.length_map,ne_eq,cD] at hc)<;>try(exfalso;omega)))
  exact rfl
abbrev oD (E:List (Int×Int)):List AV:=lW (fun n:Int=>Value.int .i64 n) i64 E
theorem HD (E:List (Int×Int)) (t:Int):pq false (.int .i64 t) (oD E) (i64 0)=some (i64 ((c8 E t).getD 0),(c8 E t).isSome):=(uO nH i64 t E (i64 0)).trans (by cases c8 E t<;>rfl)
theorem J4 (E:List (Int×Int)) (t v:Int):sM false (.int .i64 t) (oD E) (i64 v)=some (oD (gE E t v)):=uP nH i64 t v E
theorem K2 (E:List (Int×Bool)) (t:Int):FM false (.int .i64 t) (lX E)=some (lX (kP E t)):=JY nH bl t E
structure m9 (out:List Bool) (g:bo) (E:List (Int×Bool)) (F:List (Int×Int)):Prop where
 nodup:(E.map Prod.fst).Nodup
 keys:∀k∈E.map Prod.fst,0≤k∧k<out.length
 yes:∀k,c8 E k≠some false
 is:∀(i:Nat),i<out.length→c8 E i=none→c8 F i=some (dR out g i:Int)
 no:∀(i:Nat),i<out.length→c8 E i≠none→c8 F i=none
 yy:∀k,c8 F k≠none→0≤k∧k<out.length
theorem w4 {κ β:Type} [DecidableEq κ]:∀(E:List (κ×β)) (k:κ) (v:β),k∉E.map Prod.fst→gE E k v=E++[(k,v)]
 |[],k,v,_=>rfl
 |(a,b)::E,k,v,h=>by
  simp only[List.map_cons,List.mem_cons,not_or] at h
  rw[gE,if_neg h.1,w4 E k v h.2];rfl
def j7 (i:Nat):List (Int×Bool):=(List.range i).map fun(j:Nat)=>((j:Int),true)
theorem pZ (i:Nat):(j7 i).map Prod.fst=(List.range i).map fun(j:Nat)=>(j:Int):=by simp[j7,Function.comp_def]
theorem nO (i:Nat) (k:Int):k∈(j7 i).map Prod.fst↔0≤k∧k<i:=by
 rw[pZ,List.mem_map]
 constructor
 ·rintro⟨j,hj,rfl⟩;have:=List.mem_range.1 hj;omega
 ·intro h;exact⟨k.toNat,List.mem_range.2 (by omega),by omega⟩
theorem wX (i:Nat):gE (j7 i) (i:Int) true=j7 (i+1):=by
 rw[w4 _ _ _ (fun h=>by have:=(nO i i).1 h;omega),j7,j7,List.range_succ,List.map_append];rfl
theorem wJ {κ β:Type} [DecidableEq κ]:∀{E:List (κ×β)} {k:κ} {v:β},c8 E k=some v→(k,v)∈E
 |(a,b)::E,k,v,h=>by
  rw[c8] at h
  split at h
  ·rename_i e;cases h;rw[e];simp
  ·exact List.mem_cons_of_mem _ (wJ h)
theorem m9.start (out:List Bool) (g:bo):m9 out g (j7 out.length) []:=by
 refine⟨?_,fun k hk=>(nO _ _).1 hk,fun k h=> ?_,fun i hi h=> ?_,fun i hi h=>rfl,fun k h=>absurd rfl h⟩
 ·rw[pZ]
  exact List.pairwise_map.2 ((List.pairwise_lt_range (n:=out.length)).imp fun h e=>by omega)
 ·have:=wJ h
  unfold j7 at this
  simp at this
 ·exact absurd ((nO _ _).2 ⟨by omega,by omega⟩) ((kY _ _).1 h)
theorem m9.settle {out:List Bool} {g:bo} {E:List (Int×Bool)} {F:List (Int×Int)} (h:m9 out g E F) {i:Nat} (hi:i<out.length) (ho:c8 E (i:Int)≠none):m9 out g (kP E (i:Int)) (gE F (i:Int) (dR out g i:Int))∧(kP E (i:Int)).length+1=E.length:=by
 have hd:=vn E (i:Int) h.nodup
 refine⟨⟨hd.2,fun k hk=>h.keys k ((hd.1 k).1 hk).2,fun k hk=> ?_,fun j hj hl=> ?_,fun j hj hl=> ?_,fun k hk=> ?_⟩, ?_⟩
 ·rw[oA _ _ _ h.nodup] at hk
  split at hk
  ·cases hk
  ·exact h.yes k hk
 ·rw[gT]
  by_cases e:(j:Int)=(i:Int)
  ·rw[if_pos e,show j=i by omega]
  ·rw[if_neg e]
   rw[oA _ _ _ h.nodup,if_neg e] at hl
   exact h.is j hj hl
 ·rw[oA _ _ _ h.nodup] at hl
  by_cases e:(j:Int)=(i:Int)
  ·rw[if_pos e] at hl;exact absurd rfl hl
  ·rw[if_neg e] at hl
   rw[gT,if_neg e]
   exact h.no j hj hl
 ·rw[gT] at hk
  split at hk
  ·rename_i e;rw[e];omega
  ·exact h.yy k hk
 ·have:=zD E (i:Int)
  cases hl:c8 E (i:Int) with
  |none=>exact absurd hl ho
  |some v=>rw[hl] at this;simpa using this
theorem m9.turns {out:List Bool} {g:bo} {E:List (Int×Bool)} {F:List (Int×Int)} (h:m9 out g E F) (he:Ends out g) (hne:E≠[]):¬∀(j:Nat),j<out.length→c8 E (j:Int)≠none→tf out j=true∧c8 E (hZ g j:Int)≠none:=by
 intro hall
 obtain⟨p,hp⟩:=List.exists_mem_of_ne_nil _ hne
 have hpk:p.1∈E.map Prod.fst:=List.mem_map_of_mem hp
 have hk:=h.keys _ hpk
 obtain⟨i,hi⟩:∃i:Nat,p.1=i:=⟨p.1.toNat,by omega⟩
 obtain⟨k,h1,h2,h3⟩:=he i
 have hop:∀q,q≤k→c8 E (iter g i q:Int)≠none∧iter g i q<out.length:=by
  intro q
  induction q with
  |zero=>
   intro _
   refine⟨?_, ?_⟩
   ·show c8 E (i:Int)≠none
    rw[←hi];exact fun e=>(kY _ _).1 e hpk
   ·show i<out.length
    omega
  |succ q ih=>
   intro hq
   obtain⟨a1,a2⟩:=ih (by omega)
   have hx:c8 E (iter g i (q+1):Int)≠none:=(hall _ a2 a1).2
   refine⟨hx, ?_⟩
   have:(iter g i (q+1):Int)∈E.map Prod.fst:=Classical.byContradiction fun e=>hx ((kY _ _).2 e)
   have:=h.keys _ this
   omega
 have:=(hall _ (hop k (Nat.le_refl _)).2 (hop k (Nat.le_refl _)).1).1
 rw[h2] at this;cases this
set_option maxRecDepth 4000 in
set_option maxHeartbeats 8000000 in
theorem xg (g:bo) (hg:g.Wf) (t:Nat) (cls:List cB) (out:List Bool) (hm:out.length=g.nodes.length) (hm4:out.length≤4096) (he:Ends out g) (hnx:∀j,tf out j=true→0≤(g.nd j).next∧(g.nd j).next<out.length) (b:Nat) (H:Hp) (nx:Nat) (d:AV) (hb:bj H b=some (.row 4 1 d (out.map bl))) (hbn:b<nx):
 cM Tryz.prog 54 [eH g t cls, .sl b out.length] H nx (fun r H2 n2=>∃mm d2 em F,r= .mp mm∧nx≤mm∧mm<n2∧bj H2 mm=some (.row em 0 d2 (mapA (oD F)))∧(∀i:Nat,i<out.length→c8 F (i:Int)=some (dR out g i:Int))∧∀y,y<nx→bj H2 y=bj H y):=by
 refine aL D9 rfl ?_
 have hml:(out.map bl).length=out.length:=by simp
 have hnl:(g.nodes.map Node.av).length=out.length:=by rw[List.length_map,hm]
 repeat' (first|((with_reducible refine aE ?_);conv=>whnf)|refine aG ?_|exact cN|with_reducible refine aD ?_ ?_|((with_reducible refine Ask.mk ?_);first|exact bw|(exact hml)|exact br)|(apply aA;(·exact bm))|refine aH ?_|((with_reducible refine aB ?_ ?_)<;>intro hc<;>(try simp only[List.length_map,ne_eq,cD] at hc)<;>try(exfalso;omega)))
 refine aJ (fun i:Nat=>[(0,eH g t cls),(1, .sl b out.length),(5, .mp (nx+1)),(13,i64 out.length),(14,i64 i)])
  (fun i H' n'=>i≤out.length∧nx+6≤n'∧(∃d,bj H' b=some (.row 4 1 d (out.map bl)))∧(∃d,bj H' (nx+1)=some (.row 3 0 d (mapA (lX (j7 i)))))∧∀y,y<nx→bj H' y=bj H y) (fun i=>out.length - i) 0 bt ⟨Nat.zero_le _,cI,⟨_,bk⟩,⟨_,bk⟩,fun y hy=>bu⟩ ?_
 clear hb
 rintro i H1 n1 ⟨hi,hn1,⟨db,rb⟩,⟨d1,r1⟩,hk1⟩
 by_cases hil:i<out.length
 ·have hnxt:=wX i
  repeat' (first|((with_reducible refine aE ?_);conv=>whnf)|refine aG ?_|exact cN|with_reducible refine aD ?_ ?_|((with_reducible refine Ask.mk ?_);first|exact bw|(exact hml)|exact br)|(apply aA;(·exact bm))|(apply aF (g:=none);(·exact fun _=>mA _ _ _))|refine aH ?_|((with_reducible refine aB ?_ ?_)<;>intro hc<;>(try simp only[List.length_map,ne_eq,cD] at hc)<;>try(exfalso;omega)))
  exact⟨i+1,by omega,bt,by omega,by omega,⟨_,bk⟩,⟨_,by rw[←hnxt];exact bk⟩,fun y hy=>Eq.trans bu (hk1 y hy)⟩
 ·have:i=out.length:=by omega
  subst this
  repeat' (first|((with_reducible refine aE ?_);conv=>whnf)|refine aG ?_|exact aC|with_reducible refine aD ?_ ?_|(apply aA;(·exact bm))|refine aH ?_|((with_reducible refine aB ?_ ?_)<;>intro hc<;>(try simp only[List.length_map,ne_eq,cD] at hc)<;>try(exfalso;omega)))
  refine aJ (fun s:List (Int×Bool)×List (Int×Int)=>[(0,eH g t cls),(1, .sl b out.length),(5, .mp (nx+1)),(7, .mp (n1+1))])
   (fun s H' n'=>n1+3≤n'∧(∃d,bj H' b=some (.row 4 1 d (out.map bl)))∧(∃d,bj H' (nx+1)=some (.row 3 0 d (mapA (lX s.1))))∧(∃d,bj H' (n1+1)=some (.row 3 0 d (mapA (oD s.2))))∧m9 out g s.1 s.2∧∀y,y<nx→bj H' y=bj H y) (fun s=>s.1.length) (j7 out.length,[]) bt ⟨cI,⟨_,bk⟩,⟨_,bk⟩,⟨_,bk⟩,m9.start out g,fun y hy=>Eq.trans bu (hk1 y hy)⟩ ?_
  clear rb r1 hk1
  rintro⟨E,F⟩ H2 n2 ⟨hn2,⟨db,rb⟩,⟨d1,r1⟩,⟨d2,r2⟩,hop,hk2⟩
  dsimp only at r1 r2 hop ⊢
  have hEl:(lX E).length=E.length:=by simp[lW]
  by_cases hE:E=[]
  ·subst hE
   repeat' (first|((with_reducible refine aE ?_);conv=>whnf)|refine aG ?_|exact aC|with_reducible refine aD ?_ ?_|(apply aA;(·exact bm))|refine aH ?_|((with_reducible refine aB ?_ ?_)<;>intro hc<;>(try simp only[List.length_map,ne_eq,cD] at hc)<;>try(exfalso;omega)))
   exact⟨⟨n1+1,d2,_,F,rfl,by omega,cI,bk,fun i hi=>hop.is i hi rfl,fun y hy=>Eq.trans bu (hk2 y hy)⟩⟩
  ·have hE0:0<E.length:=List.length_pos_iff.2 hE
   repeat' (first|((with_reducible refine aE ?_);conv=>whnf)|refine aG ?_|exact cN|with_reducible refine aD ?_ ?_|((with_reducible refine Ask.mk ?_);first|exact bw|(exact hml)|(rw[hEl];omega)|exact br)|(apply aA;(·exact bm))|(simp only[hEl])|refine aH ?_|((with_reducible refine aB ?_ ?_)<;>intro hc<;>(try simp only[List.length_map,ne_eq,cD] at hc)<;>try(exfalso;omega)))
   refine aJ (fun s:(List (Int×Bool)×List (Int×Int))×Nat=>[(0,eH g t cls),(1, .sl b out.length),(5, .mp (nx+1)),(7, .mp (n1+1)),(25,i64 out.length),(26,i64 s.2)])
    (fun s H' n'=>s.2≤out.length∧n2≤n'∧(∃d,bj H' b=some (.row 4 1 d (out.map bl)))∧(∃d,bj H' (nx+1)=some (.row 3 0 d (mapA (lX s.1.1))))∧(∃d,bj H' (n1+1)=some (.row 3 0 d (mapA (oD s.1.2))))∧m9 out g s.1.1 s.1.2∧s.1.1.length≤E.length∧(s.1.1.length=E.length→s.1=(E,F)∧∀(j:Nat),j<s.2→c8 E (j:Int)≠none→tf out j=true∧c8 E (hZ g j:Int)≠none)∧∀y,y<nx→bj H' y=bj H y) (fun s=>out.length - s.2) ((E,F),0) bt ⟨Nat.zero_le _,cI,⟨_,bk⟩,⟨_,bk⟩,⟨_,bk⟩,hop,Nat.le_refl _,fun _=>⟨rfl,fun j hj=>absurd hj (Nat.not_lt_zero _)⟩,fun y hy=>Eq.trans bu (hk2 y hy)⟩ ?_
   clear rb r1 r2 hk2
   rintro⟨⟨E2,F2⟩,i⟩ H3 n3 ⟨hi,hn3,⟨db,rb⟩,⟨d1,r1⟩,⟨d2,r2⟩,hop2,hle,hsame,hk3⟩
   dsimp only at hi r1 r2 hop2 hle hsame ⊢
   by_cases hil:i<out.length
   ·have eg:=mV E2 (i:Int)
    have el:=fun d=>gR (l:=out) (k:=i) hil d
    cases hlk:c8 E2 (i:Int) with
    |none=>
     rw[hlk] at eg
     repeat' (first|((with_reducible refine aE ?_);conv=>whnf)|refine aG ?_|exact cN|with_reducible refine aD ?_ ?_|((with_reducible refine Ask.mk ?_);first|exact bw|(exact hml)|exact br)|(apply aA;(·exact bm))|(apply aF (g:=none);(·exact fun _=>eg))|refine aH ?_|((with_reducible refine aB ?_ ?_)<;>intro hc<;>(try simp only[List.length_map,ne_eq,cD] at hc)<;>try(exfalso;omega)))
     refine⟨((E2,F2),i+1),by dsimp only;omega,bt,by dsimp only;omega,by omega,⟨_,bk⟩,⟨_,bk⟩,⟨_,bk⟩,hop2,hle,fun h=>⟨(hsame h).1,fun j hj ho=> ?_⟩,fun y hy=>Eq.trans bu (hk3 y hy)⟩
     by_cases e:j=i
     ·subst e
      have:=(hsame h).1
      cases this
      exact absurd hlk ho
     ·exact(hsame h).2 j (by dsimp only at hj;omega) ho
    |some v=>
     have hv:v=true:=by
      cases v with
      |true=>rfl
      |false=>exact absurd hlk (hop2.yes _)
     subst hv
     have hon:c8 E2 (i:Int)≠none:=by rw[hlk];exact fun e=>by cases e
     obtain⟨hst,hsl⟩:=hop2.settle hil hon
     rw[hlk] at eg
     cases hto:tf out i with
     |false=>
      rw[show out.getD i false=false from hto] at el
      have hh:dR out g i=i:=oi hto
      rw[hh] at hst
      repeat' (first|((with_reducible refine aE ?_);conv=>whnf)|refine aG ?_|exact cN|with_reducible refine aD ?_ ?_|((with_reducible refine Ask.mk ?_);first|exact bw|(exact hml)|exact br)|(apply aA;(·(first|exact el _|exact bm)))|(apply aF (g:=none);(·exact fun _=>eg))|(apply aF (g:=none);(·exact fun _=>J4 _ _ _))|(apply aF (g:=none);(·exact fun _=>K2 _ _))|refine aH ?_|((with_reducible refine aB ?_ ?_)<;>intro hc<;>(try simp only[List.length_map,ne_eq,cD] at hc)<;>try(exfalso;omega)))
      exact⟨((kP E2 (i:Int),gE F2 (i:Int) (i:Int)),i+1),by dsimp only;omega,bt,by dsimp only;omega,by omega,⟨_,bk⟩,⟨_,bk⟩,⟨_,bk⟩,hst,by dsimp only;omega,fun h=>by dsimp only at h;omega,fun y hy=>Eq.trans bu (hk3 y hy)⟩
     |true=>
      rw[show out.getD i false=true from hto] at el
      obtain⟨x0,x1⟩:=hnx i hto
      have hxn:(g.nd i).next=(hZ g i:Int):=(Int.toNat_of_nonneg x0).symm
      have hxl:hZ g i<out.length:=by show(g.nd i).next.toNat<out.length;omega
      have en:=fun d=>dy (l:=g.nodes) (i:=i) (by rw[←hm];exact hil) d
      have eg2:=HD F2 (g.nd i).next
      rw[hxn] at eg2
      have hho:=HK he hto
      cases hlf:c8 F2 (hZ g i:Int) with
      |none=>
       rw[hlf] at eg2
       rw[←hxn] at eg2
       repeat' (first|((with_reducible refine aE ?_);conv=>whnf)|refine aG ?_|exact cN|with_reducible refine aD ?_ ?_|((with_reducible refine Ask.mk ?_);first|exact bw|(exact hml)|(rw[hnl];omega)|exact br|(intro h;simp_all[bz,Node.cells]<;>fail)|(simp_all[bz,Node.cells]<;>fail))|(apply aA;(·(first|exact el _|exact en _|exact bm)))|(apply aF (g:=none);(·exact fun _=>eg))|(apply aF (g:=none);(·exact fun _=>eg2))|refine aH ?_|((with_reducible refine aB ?_ ?_)<;>intro hc<;>(try simp only[List.length_map,ne_eq,cD] at hc)<;>try(exfalso;omega)))
       refine⟨((E2,F2),i+1),by dsimp only;omega,bt,by dsimp only;omega,by omega,⟨_,bk⟩,⟨_,bk⟩,⟨_,bk⟩,hop2,hle,fun h=>⟨(hsame h).1,fun j hj ho=> ?_⟩,fun y hy=>Eq.trans bu (hk3 y hy)⟩
       by_cases e:j=i
       ·subst e
        have:=(hsame h).1
        cases this
        refine⟨hto,fun h2=> ?_⟩
        rw[hop2.is _ hxl h2] at hlf
        cases hlf
       ·exact(hsame h).2 j (by dsimp only at hj;omega) ho
      |some hv=>
       have hhv:hv=(dR out g (hZ g i):Int):=by
        cases h2:c8 E2 (hZ g i:Int) with
        |none=>rw[hop2.is _ hxl h2] at hlf;cases hlf;rfl
        |some w=>rw[hop2.no _ hxl (by rw[h2];exact fun e=>by cases e)] at hlf;cases hlf
       rw[hlf] at eg2
       rw[←hxn] at eg2
       subst hhv
       rw[←hho] at eg2
       repeat' (first|((with_reducible refine aE ?_);conv=>whnf)|refine aG ?_|exact cN|with_reducible refine aD ?_ ?_|((with_reducible refine Ask.mk ?_);first|exact bw|(exact hml)|(rw[hnl];omega)|exact br|(intro h;simp_all[bz,Node.cells]<;>fail)|(simp_all[bz,Node.cells]<;>fail))|(apply aA;(·(first|exact el _|exact en _|exact bm)))|(apply aF (g:=none);(·exact fun _=>eg))|(apply aF (g:=none);(·exact fun _=>eg2))|(apply aF (g:=none);(·exact fun _=>J4 _ _ _))|(apply aF (g:=none);(·exact fun _=>K2 _ _))|refine aH ?_|((with_reducible refine aB ?_ ?_)<;>intro hc<;>(try simp only[List.length_map,ne_eq,cD] at hc)<;>try(exfalso;omega)))
       exact⟨((kP E2 (i:Int),gE F2 (i:Int) (dR out g i:Int)),i+1),by dsimp only;omega,bt,by dsimp only;omega,by omega,⟨_,bk⟩,⟨_,bk⟩,⟨_,bk⟩,hst,by dsimp only;omega,fun h=>by dsimp only at h;omega,fun y hy=>Eq.trans bu (hk3 y hy)⟩
   ·have:i=out.length:=by omega
    subst this
    have hlt:E2.length<E.length:=by
     apply Nat.lt_of_le_of_ne hle
     intro h
     obtain⟨e,hall⟩:=hsame h
     exact hop.turns he hE hall
    repeat' (first|((with_reducible refine aE ?_);conv=>whnf)|refine aG ?_|exact aC|with_reducible refine aD ?_ ?_|(apply aA;(·exact bm))|refine aH ?_|((with_reducible refine aB ?_ ?_)<;>intro hc<;>(try simp only[List.length_map,ne_eq,cD] at hc)<;>try(exfalso;omega)))
    exact⟨(E2,F2),hlt,bt,by omega,⟨_,bk⟩,⟨_,bk⟩,⟨_,bk⟩,hop2,fun y hy=>Eq.trans bu (hk3 y hy)⟩
end Go.Proofs.YtmonponfppdgfaaGreatDoor
end
section
/- The order of what is left, in plain data. -/
namespace Go.Proofs.YtmonponfppdgfaaGreatDoor
open Go Go.ck Go.Proofs
set_option linter.unusedSimpArgs false
set_option linter.unusedVariables false
noncomputable def iN (g:bo) (out:List Bool) (i:Nat):Bool:=gh (ca g (-1)) (i:Int)&& !tf out i&&decide (i≠dR out g 0)
noncomputable def eC (g:bo) (out:List Bool) (m:Nat):List Nat:=dR out g 0::(List.range m).filter (iN g out)
theorem p7 (g:bo) (out:List Bool):eC g out g.nodes.length=cX g out:=rfl
theorem oH (g:bo) (out:List Bool) (m:Nat):eC g out (m+1)=if iN g out m=true then eC g out m++[m] else eC g out m:=by
 rw[eC,List.range_succ,List.filter_append]
 by_cases h:iN g out m=true
 ·rw[if_pos h];simp[eC,h]
 ·rw[if_neg h];simp[eC,h]
theorem nQ {g:bo} {out:List Bool} {m:Nat} (hh:dR out g 0<g.nodes.length) (hm:m≤g.nodes.length):∀x∈eC g out m,x<g.nodes.length:=by
 intro x hx
 rcases List.mem_cons.1 hx with rfl|hx
 ·exact hh
 ·have:=List.mem_range.1 (List.mem_filter.1 hx).1;omega
theorem iU (g:bo) (out:List Bool) (m:Nat):(eC g out m).Nodup:=by
 rw[eC,List.nodup_cons]
 refine⟨fun h=> ?_,List.nodup_range.filter _⟩
 have:=(List.mem_filter.1 h).2
 unfold iN at this
 simp at this
theorem jv {g:bo} {out:List Bool} {m:Nat} (hh:dR out g 0<g.nodes.length) (hm:m≤g.nodes.length):(eC g out m).length≤g.nodes.length:=by
 have:=iQ (m:=List.range g.nodes.length) (iU g out m) fun x hx=>List.mem_range.2 (nQ hh hm x hx)
 simpa using this
def pX (o:List Nat) (k:Nat):List (Int×Int):=(List.range k).foldl (fun E j=>gE E ((o.getD j 0:Nat):Int) (j:Int)) []
theorem rQ (o:List Nat) (k:Nat):pX o (k+1)=gE (pX o k) ((o.getD k 0:Nat):Int) (k:Int):=by
 rw[pX,List.range_succ,List.foldl_append];rfl
theorem rP {o:List Nat} (hn:o.Nodup) (i:Nat):∀k,k≤o.length→c8 (pX o k) (i:Int)=((o.take k).findIdx? (fun j=>decide (j=i))).map fun j=>(j:Int)
 |0,_=>by simp[pX,c8]
 |k+1,hk=>by
  have hkl:k<o.length:=by omega
  rw[rQ,gT,rP hn i k (by omega),List.take_succ_eq_append_getElem hkl,List.findIdx?_append,gd hkl]
  have hni:o[k]∉o.take k:=by
   have h1:=hn
   rw[←List.take_append_drop k o,List.nodup_append] at h1
   intro hm
   refine h1.2.2 _ hm (o[k]) ?_ rfl
   rw[List.drop_eq_getElem_cons hkl];exact List.mem_cons_self
  by_cases e:i=o[k]
  ·have hnone:(o.take k).findIdx? (fun j=>decide (j=i))=none:=by
    rw[List.findIdx?_eq_none_iff]
    intro x hx
    rw[decide_eq_false_iff_not]
    intro h;rw[h,e] at hx;exact hni hx
   rw[if_pos (by rw[e]),hnone]
   simp[List.findIdx?_cons,e,List.length_take,Nat.min_eq_left (Nat.le_of_lt hkl)]
  ·rw[if_neg (by omega)]
   have:[o[k]].findIdx? (fun j=>decide (j=i))=none:=by simp[List.findIdx?_cons,Ne.symm e]
   rw[this]
   simp
theorem AU {o:List Nat} (hn:o.Nodup) (i:Nat):(c8 (pX o o.length) (i:Int)).getD 0=(du o i:Int):=by
 rw[rP hn i _ (Nat.le_refl _),List.take_length,du]
 cases o.findIdx? (fun j=>decide (j=i))<;>rfl
end Go.Proofs.YtmonponfppdgfaaGreatDoor
end
section
/- What is left of a right thread is right, in plain data. -/
namespace Go.Proofs.YtmonponfppdgfaaGreatDoor
open Go Go.ck Go.Proofs
set_option linter.unusedSimpArgs false
set_option linter.unusedVariables false
theorem qD {g:bo} (hw:Whole g) {i:Int} (h:fY g (-1) i):0≤i∧i.toNat<g.nodes.length:=by
 induction h with
 |zero=>exact⟨by omega,by have:=hw.1;simp;omega⟩
 |@step i k _ _ hk ih=>exact(hw.2.2 i.toNat ih.2).2.2 k hk
theorem ni {g:bo} {i:Nat} (hi:i<g.nodes.length):gh (ca g (-1)) (i:Int)=true↔fY g (-1) (i:Int):=by
 unfold gh;rw[Int.toNat_natCast];exact nS g (-1) hi
structure mU (u:bq) (g:bo) (out:List Bool):Prop where
 ok:dK u g
 len:out.length=g.nodes.length
 ends:Ends out g
 u5:∀i,tf out i=true→i<g.nodes.length∧fY g (-1) (i:Int)∧((g.nd i).kind=1∨(g.nd i).kind=2∨(g.nd i).kind=3∨((g.nd i).kind=8∧(g.nd i).next=(g.nd i).jS))
theorem uJ {u:bq} {g:bo} (h:dK u g) (cls:List cB) (t:Nat):mU u g (eD g cls t):=by
 refine⟨h,kW _ _ _,o8 _ _,fun i hi=> ?_⟩
 have h1:=(ff.1 hi).1
 have hl:i<g.nodes.length:=by have:=rl h1;rw[kb] at this;exact this
 have hs:dC g cls t i=true:=by simpa[tf,jz,dW,List.getD,hl] using h1
 unfold dC at hs
 dsimp only at hs
 rw[Bool.and_eq_true] at hs
 refine⟨hl,(ni hl).1 hs.1, ?_⟩
 have hs:=hs.2
 split at hs
 ·exact .inl (by assumption)
 ·split at hs
  ·exact .inr (.inl (by assumption))
  ·split at hs
   ·exact .inr (.inr (.inl (by assumption)))
   ·split at hs
    ·exact .inr (.inr (.inr ⟨by assumption,of_decide_eq_true hs⟩))
    ·cases hs
section
variable {u:bq} {g:bo} {out:List Bool}
theorem mU.dJ (h:mU u g out) {i:Nat} (hi:tf out i=true):(g.nd i).next∈(g.nd i).dJ∧∀k∈(g.nd i).dJ,k=(g.nd i).next:=by
 obtain⟨_,_,hk⟩:=h.u5 i hi
 unfold Node.dJ
 rw[if_neg (by omega)]
 split
 ·have:(g.nd i).next=(g.nd i).jS:=by omega
  rw[←this]
  exact⟨by simp,fun k hk=>by simpa using hk⟩
 ·exact⟨by simp,fun k hk=>by simpa using hk⟩
theorem mU.next (h:mU u g out) {i:Nat} (hi:tf out i=true):0≤(g.nd i).next∧hZ g i<g.nodes.length:=by
 obtain⟨hl,_,_⟩:=h.u5 i hi
 have:=CD (h.ok.node hl) (h.dJ hi).1
 exact⟨this.1,by show(g.nd i).next.toNat<_;omega⟩
theorem mU.FQ (h:mU u g out) {i:Nat} (hi:tf out i=true):fY g (-1) (hZ g i:Int):=by
 have h1:=h.next hi
 have:(hZ g i:Int)=(g.nd i).next:=by show((g.nd i).next.toNat:Int)=_;omega
 rw[this]
 exact fY.step (h.u5 i hi).2.1 (by omega) (by rw[Int.toNat_natCast];exact(h.dJ hi).1)
theorem mU.vc (h:mU u g out) {i:Nat} (hi:fY g (-1) (i:Int)):fY g (-1) (dR out g i:Int):=
 nt h.ends (P:=fun(i:Nat)=>fY g (-1) (i:Int)) (fun _ hj _=>h.FQ hj) hi
theorem mU.mem (h:mU u g out) {i:Nat}:i∈cX g out↔fY g (-1) (i:Int)∧tf out i=false:=by
 have h0:fY g (-1) (dR out g 0:Int):=h.vc (i:=0) .zero
 unfold cX
 rw[List.mem_cons,List.mem_filter,List.mem_range]
 constructor
 ·rintro(rfl|⟨h1,h2⟩)
  ·exact⟨h0,ve h.ends 0⟩
  ·simp only[Bool.and_eq_true,Bool.not_eq_true',decide_eq_true_eq] at h2
   exact⟨(ni h1).1 h2.1.1,h2.1.2⟩
 ·rintro⟨h1,h2⟩
  by_cases e:i=dR out g 0
  ·exact .inl e
  ·have hl:=(qD h.ok.whole h1).2
   rw[Int.toNat_natCast] at hl
   refine .inr ⟨hl, ?_⟩
   simp only[Bool.and_eq_true,Bool.not_eq_true',decide_eq_true_eq]
   exact⟨⟨(ni hl).2 h1,h2⟩,e⟩
theorem mU.HJ (h:mU u g out) {i:Nat} (hi:fY g (-1) (i:Int)):dR out g i∈cX g out:=h.mem.2 ⟨h.vc hi,ve h.ends i⟩
theorem qj:∀(o:List Nat) (i:Nat),i∈o→∃k,o.findIdx? (fun j=>decide (j=i))=some k∧k<o.length∧o.getD k 0=i
 |[],_,h=>by simp at h
 |a::o,i,h=>by
  rw[List.findIdx?_cons]
  by_cases e:a=i
  ·exact⟨0,by simp[e],by simp,by simp[e]⟩
  ·obtain⟨k,h1,h2,h3⟩:=qj o i ((List.mem_cons.1 h).resolve_left fun x=>e x.symm)
   exact⟨k+1,by simp[e,h1],by simpa using h2,by simpa using h3⟩
theorem rU {o:List Nat} {i:Nat} (h:i∈o):du o i<o.length∧o.getD (du o i) 0=i:=by
 obtain⟨k,h1,h2,h3⟩:=qj o i h
 have:du o i=k:=by unfold du;rw[h1];rfl
 rw[this];exact⟨h2,h3⟩
theorem tR {l:List Nat} (hn:l.Nodup) {a b:Nat} (ha:a<l.length) (hb:b<l.length) (h:l.getD a 0=l.getD b 0):a=b:=by
 rw[gd ha,gd hb] at h
 have hp:=List.pairwise_iff_getElem.1 hn
 rcases Nat.lt_trichotomy a b with hab|hab|hab
 ·exact absurd h (hp a b ha hb hab)
 ·exact hab
 ·exact absurd h.symm (hp b a hb ha hab)
theorem AZ {o:List Nat} (hn:o.Nodup) {k:Nat} (hk:k<o.length):du o (o.getD k 0)=k:=by
 have hm:o.getD k 0∈o:=by rw[gd hk];exact List.getElem_mem hk
 obtain⟨h1,h2⟩:=rU hm
 exact tR hn h1 hk h2
noncomputable def nP (g:bo) (out:List Bool):bo:={ g with nodes:=(cX g out).map fun i=>cz g out (cX g out) (g.nd i) }
theorem j9:(nP g out).nodes.length=(cX g out).length:=by simp[nP]
theorem uT {k:Nat} (hk:k<(cX g out).length):(nP g out).nd k=cz g out (cX g out) (g.nd ((cX g out).getD k 0)):=by
 show((cX g out).map fun i=>cz g out (cX g out) (g.nd i)).getD k default=_
 rw[gd hk]
 simp[List.getD,hk]
theorem yN (n:Node):(cz g out (cX g out) n).dJ=n.dJ.map fun x=>(du (cX g out) (dR out g x.toNat):Int):=by
 unfold cz Node.dJ
 dsimp only
 by_cases h9:n.kind=9
 ·rw[if_pos h9,if_pos h9];rfl
 ·rw[if_neg h9,if_neg h9,if_pos h9]
  by_cases h8:n.kind=8
  ·rw[if_pos h8,if_pos h8,if_pos h8];rfl
  ·rw[if_neg h8,if_neg h8];rfl
theorem lz (g:bo) (out:List Bool):(cX g out).Nodup:=iU g out g.nodes.length
theorem mU.lt (h:mU u g out) {i:Nat} (hi:i∈cX g out):i<g.nodes.length:=by
 have:=(qD h.ok.whole (h.mem.1 hi).1).2
 rwa[Int.toNat_natCast] at this
theorem mU.J2 (h:mU u g out):1≤(cX g out).length∧(cX g out).length≤g.nodes.length:=by
 refine⟨by simp[cX], ?_⟩
 have:=iQ (m:=List.range g.nodes.length) (lz g out) fun x hx=>List.mem_range.2 (h.lt hx)
 simpa using this
theorem mU.to (h:mU u g out) {i:Nat} (hi:fY g (-1) (i:Int)) {x:Int} (hx:x∈(g.nd i).dJ):du (cX g out) (dR out g x.toNat)<(cX g out).length∧(cX g out).getD (du (cX g out) (dR out g x.toNat)) 0=dR out g x.toNat∧fY g (-1) (x.toNat:Int):=by
 have hc:fY g (-1) x:=fY.step hi (by omega) (by rw[Int.toNat_natCast];exact hx)
 have h0:=(qD h.ok.whole hc).1
 have hc2:fY g (-1) (x.toNat:Int):=by rw[Int.toNat_of_nonneg h0];exact hc
 have:=rU (h.HJ hc2)
 exact⟨this.1,this.2,hc2⟩
theorem mU.node (h:mU u g out) {u2:bq} (h1:u2.shared.length=u.shared.length) (h2:u2.bx.length=u.bx.length):∀n∈(nP g out).nodes,mq u2 (nP g out) n:=by
 intro n hn
 obtain⟨i,hi,rfl⟩:=List.mem_map.1 hn
 have hc:=(h.mem.1 hi).1
 have ho:=h.ok.node (h.lt hi)
 have hfol:∀x∈(g.nd i).dJ,(0:Int)≤(du (cX g out) (dR out g x.toNat):Int)∧(du (cX g out) (dR out g x.toNat):Int)<((nP g out).nodes.length:Int):=fun x hx=>by
  have:=(h.to hc hx).1
  rw[j9];omega
 refine⟨ho.kind,ho.origin,ho.op,ho.slot, ?_,ho.a,ho.b, ?_, ?_⟩
 ·have:=ho.cP
  rw[←h1,←h2] at this
  exact this
 ·refine⟨fun hu=> ?_,fun hu=> ?_⟩
  ·have h9:(g.nd i).kind≠9:=by
    have:eG (g.nd i).kind=true:=hu
    unfold eG at this
    have:=of_decide_eq_true this
    omega
   have:(cz g out (cX g out) (g.nd i)).next=(du (cX g out) (dR out g (g.nd i).next.toNat):Int):=by unfold cz;dsimp only;rw[if_pos h9]
   rw[this]
   refine hfol _ ?_
   unfold Node.dJ;rw[if_neg h9];split<;>simp
  ·have hk:=ho.kind
   have h9:(g.nd i).kind=9:=by
    have:eG (g.nd i).kind=false:=hu
    unfold eG at this
    have:=of_decide_eq_false this
    omega
   have:(cz g out (cX g out) (g.nd i)).next=(g.nd i).next:=by unfold cz;dsimp only;rw[if_neg (fun x=>x h9)]
   rw[this]
   exact ho.next.2 hu
 ·refine⟨fun hu=> ?_,fun hu=> ?_⟩
  ·have h8:(g.nd i).kind=8:=hu
   have:(cz g out (cX g out) (g.nd i)).jS=(du (cX g out) (dR out g (g.nd i).jS.toNat):Int):=by unfold cz;dsimp only;rw[if_pos h8]
   rw[this]
   refine hfol _ ?_
   unfold Node.dJ;rw[if_neg (by omega),if_pos h8];simp
  ·have h8:(g.nd i).kind≠8:=hu
   have:(cz g out (cX g out) (g.nd i)).jS=(g.nd i).jS:=by unfold cz;dsimp only;rw[if_neg h8]
   rw[this]
   exact ho.jS.2 h8
theorem mU.whole (h:mU u g out):Whole (nP g out):=oS (u:=u) (by rw[j9];have:=h.J2;have:=h.ok.len;omega) (h.node rfl rfl)
theorem mU.held (h:mU u g out) {lk:Nat→List Int} (hlk:xJ g lk):xJ (nP g out) fun k=>lk ((cX g out).getD k 0):=by
 have hone:∀i:Nat,tf out i=true→lk (hZ g i)=lk i:=fun i hi=>by
  obtain⟨_,hc,hk⟩:=h.u5 i hi
  obtain⟨now,h1,h2⟩:=hlk.on i hc
  rw[Int.toNat_natCast] at h1 h2
  have:now=lk i:=by
   unfold cr at h1
   rw[if_neg (by omega),if_neg (by omega),if_neg (by omega)] at h1
   cases h1;rfl
  rw[←this]
  exact h2 _ (h.dJ hi).1
 have hheir:∀i:Nat,lk (dR out g i)=lk i:=fun i=>
  nt h.ends (P:=fun j=>lk j=lk i) (fun j hj hp=>(hone j hj).trans hp) rfl
 refine⟨?_,fun k hk=> ?_⟩
 ·show lk (dR out g 0)=[]
  rw[hheir,hlk.zero]
 ·obtain⟨h0,hkl⟩:=qD h.whole hk
  rw[j9] at hkl
  have hm:(cX g out).getD k.toNat 0∈cX g out:=by rw[gd hkl];exact List.getElem_mem hkl
  have hc:=(h.mem.1 hm).1
  obtain⟨now,h1,h2⟩:=hlk.on _ hc
  rw[Int.toNat_natCast] at h1 h2
  refine⟨now, ?_,fun x hx=> ?_⟩
  ·rw[uT hkl];exact h1
  ·rw[uT hkl,yN] at hx
   obtain⟨y,hy,rfl⟩:=List.mem_map.1 hx
   rw[Int.toNat_natCast,(h.to hc hy).2.1,hheir]
   exact h2 y hy
theorem mU.graph (h:mU u g out) {u2:bq} (h1:u2.shared.length=u.shared.length) (h2:u2.bx.length=u.bx.length):dK u2 (nP g out):=by
 obtain⟨_,_,hlk,_⟩:=kV h.ok.whole h.ok.held
 refine⟨h.ok.locals,h.ok.cd, ?_,h.node h1 h2, ?_⟩
 ·rw[j9];have:=h.J2;have:=h.ok.len;omega
 ·rw[CZ h.whole (h.held hlk)];omega
theorem mU.full (h:mU u g out) (hl:(cX g out).length=g.nodes.length):∀i,i<g.nodes.length→i∈cX g out:=by
 intro i hi
 apply Classical.byContradiction
 intro hn
 have:=iQ (l:=i::cX g out) (m:=List.range g.nodes.length) (List.nodup_cons.2 ⟨hn,lz g out⟩) fun x hx=>by
  rcases List.mem_cons.1 hx with rfl|hx
  ·exact List.mem_range.2 hi
  ·exact List.mem_range.2 (h.lt hx)
 simp at this
 omega
theorem mU.range (h:mU u g out) (hl:(cX g out).length=g.nodes.length):cX g out=List.range g.nodes.length:=by
 have hf:=h.full hl
 have hw:=h.ok.len
 have h0:dR out g 0=0:=oi (h.mem.1 (hf 0 (by omega))).2
 unfold cX
 rw[h0,show(List.range g.nodes.length).filter (fun(i:Nat)=>gh (ca g (-1)) (i:Int)&& !tf out i&&decide (i≠0))=(List.range g.nodes.length).filter (fun(i:Nat)=>decide (i≠0)) from List.filter_congr fun i hi=>by
  have hi:=List.mem_range.1 hi
  have:=h.mem.1 (hf i hi)
  rw[(ni hi).2 this.1,this.2];rfl]
 obtain⟨m,hm⟩:∃m,g.nodes.length=m+1:=⟨g.nodes.length - 1,by omega⟩
 rw[hm,List.range_succ_eq_map,List.filter_cons_of_neg (by simp)]
 congr 1
 rw[List.filter_eq_self]
 intro a ha
 obtain⟨b,_,rfl⟩:=List.mem_map.1 ha
 simp
theorem mU.same (h:mU u g out) (hl:(cX g out).length=g.nodes.length):nP g out=g:=by
 have hr:=h.range hl
 have hf:=h.full hl
 have hp:∀j,j<g.nodes.length→du (cX g out) (dR out g j)=j:=fun j hj=>by
  rw[oi (h.mem.1 (hf j hj)).2]
  have:=AZ (lz g out) (k:=j) (by omega)
  rw[hr] at this ⊢
  rw[gd (by simpa using hj)] at this
  simpa using this
 have hn:(nP g out).nodes=g.nodes:=by
  apply List.ext_getElem (by rw[j9,hl])
  intro i h1 h2
  have hi:i<(cX g out).length:=by omega
  have e1:(nP g out).nodes[i]=(nP g out).nd i:=by simp[bo.nd,List.getD,h1]
  have e2:g.nodes[i]=g.nd i:=by simp[bo.nd,List.getD,h2]
  rw[e1,e2,uT hi]
  have:(cX g out).getD i 0=i:=by rw[hr,gd (by simpa using h2)];simp
  rw[this]
  have ho:=h.ok.node h2
  have hk:=ho.kind
  unfold cz
  have a1:(if(g.nd i).kind≠9 then(du (cX g out) (dR out g (g.nd i).next.toNat):Int) else(g.nd i).next)=(g.nd i).next:=by
   split
   ·have:=ho.next.1 (by unfold eG;exact decide_eq_true (by omega))
    rw[hp _ (by omega)];omega
   ·rfl
  have a2:(if(g.nd i).kind=8 then(du (cX g out) (dR out g (g.nd i).jS.toNat):Int) else(g.nd i).jS)=(g.nd i).jS:=by
   split
   ·rename_i h8
    have:=ho.jS.1 h8
    rw[hp _ (by omega)];omega
   ·rfl
  rw[a1,a2]
 show({ g with nodes:=(nP g out).nodes }:bo)=g
 rw[hn]
end
end Go.Proofs.YtmonponfppdgfaaGreatDoor
end
section
/- Units without what can be left out: once, and till nothing changes, in plain data. -/
namespace Go.Proofs.YtmonponfppdgfaaGreatDoor
open Go Go.ck Go.Proofs
set_option linter.unusedSimpArgs false
set_option linter.unusedVariables false
theorem wW (g:bo) (cls:List cB) (t:Nat):gD g cls t=nP g (eD g cls t):=rfl
theorem gZ (u:bq):(dP u).bp.length=u.bp.length:=by simp[dP]
theorem k8 {u:bq} {t:Nat} (ht:t<u.bp.length):(dP u).gr t=gD (u.gr t) (cq u) t:=by
 show((List.range u.bp.length).map fun t=>gD (u.gr t) (cq u) t).getD t default=_
 simp[List.getD,ht]
theorem CW {u:bq} {g:bo} (h:g∈u.bp):∃t,t<u.bp.length∧u.gr t=g:=by
 obtain⟨t,ht,rfl⟩:=List.getElem_of_mem h
 exact⟨t,ht,by simp[bq.gr,List.getD,ht]⟩
theorem yD (u:bq):cU (dP u)=cU u:=by
 unfold cU
 have:(dP u).bp.map bo.name=u.bp.map bo.name:=by
  apply List.ext_getElem (by simp[dP])
  intro i h1 h2
  have hi:i<u.bp.length:=by simpa using h2
  simp[dP,gD,bq.gr,List.getD,hi]
 rw[this];rfl
theorem j6 {u:bq} (h:cp u):cp (dP u):=by
 refine⟨?_,fun g hg=> ?_⟩
 ·have:=h.named
  unfold eK at this ⊢
  rw[yD,gZ]
  exact this
 ·obtain⟨t,ht,rfl⟩:=CW hg
  rw[gZ] at ht
  rw[k8 ht]
  exact(uJ (h.gr ht) (cq u) t).graph rfl rfl
theorem qJ {u:bq} (hu:u.Wf) (hr:cp u):(dP u).Wf:=by
 refine⟨hu.shared,hu.gM,hu.bx,hu.gv,fun g hg=> ?_,by rw[gZ];exact hu.gL⟩
 obtain⟨t,ht,rfl⟩:=CW hg
 rw[gZ] at ht
 have hgw:=hu.bp _ (cC default ht)
 have hi:=uJ (hr.gr ht) (cq u) t
 have hg2:dK u ((dP u).gr t):=by rw[k8 ht];exact hi.graph rfl rfl
 have hl:=hg2.len
 have hsame:((dP u).gr t).name=(u.gr t).name∧((dP u).gr t).locals=(u.gr t).locals∧((dP u).gr t).cd=(u.gr t).cd:=by rw[k8 ht];exact⟨rfl,rfl,rfl⟩
 refine⟨by rw[hsame.1];exact hgw.name,by rw[hsame.2.1];exact hgw.locals,by rw[hsame.2.2];exact hgw.cd,fun n hn=> ?_,by omega⟩
 have ho:=hg2.nodes n hn
 rw[k8 ht] at hn
 obtain⟨i,hi2,rfl⟩:=List.mem_map.1 hn
 have hnw:=hgw.nodes _ (cC default (hi.lt hi2))
 have hin:∀x:Int,0≤x∧x<((dP u).gr t).nodes.length→iq x:=fun x hx=>by unfold iq;omega
 refine⟨hnw.kind,hnw.op,hnw.slot,hnw.cP,hnw.a,hnw.b, ?_, ?_,hnw.origin⟩
 ·cases hun:eG (cz (u.gr t) (eD (u.gr t) (cq u) t) (cX (u.gr t) (eD (u.gr t) (cq u) t)) ((u.gr t).nd i)).kind with
  |true=>exact hin _ (ho.next.1 hun)
  |false=>rw[ho.next.2 hun];unfold iq;omega
 ·by_cases h8:(cz (u.gr t) (eD (u.gr t) (cq u) t) (cX (u.gr t) (eD (u.gr t) (cq u) t)) ((u.gr t).nd i)).kind=8
  ·exact hin _ (ho.jS.1 h8)
  ·rw[ho.jS.2 h8];unfold iq;omega
theorem GJ {α:Type} (f h:α→Nat):∀(l:List α),(∀a∈l,f a≤h a)→(l.map f).sum≤(l.map h).sum∧((l.map f).sum=(l.map h).sum→∀a∈l,f a=h a)
 |[],_=>by simp
 |a::l,hl=>by
  obtain⟨h1,h2⟩:=GJ f h l fun x hx=>hl x (List.mem_cons_of_mem _ hx)
  have h3:=hl a (by simp)
  simp only[List.map_cons,List.sum_cons]
  refine⟨by omega,fun e x hx=> ?_⟩
  rcases List.mem_cons.1 hx with rfl|hx
  ·omega
  ·exact h2 (by omega) x hx
theorem size_range (u:bq):fm u=((List.range u.bp.length).map fun t=>(u.gr t).nodes.length).sum:=by
 unfold fm
 congr 1
 apply List.ext_getElem (by simp)
 intro i h1 h2
 have hi:i<u.bp.length:=by simpa using h1
 simp[bq.gr,List.getD,hi]
theorem AX {u:bq} (h:cp u):∀t,t<u.bp.length→((dP u).gr t).nodes.length≤(u.gr t).nodes.length:=fun t ht=>by
 rw[k8 ht,wW,j9];exact(uJ (h.gr ht) (cq u) t).J2.2
theorem BC {u v:bq} (h1:u.shared=v.shared) (h2:u.bx=v.bx) (h3:u.bp.length=v.bp.length) (h4:∀t,t<u.bp.length→u.gr t=v.gr t):u=v:=by
 obtain⟨a,b,c⟩:=u
 obtain⟨a',b',c'⟩:=v
 simp only at h1 h2 h3
 subst h1;subst h2
 have:c=c':=by
  apply List.ext_getElem h3
  intro i hi1 hi2
  have:=h4 i hi1
  simpa[bq.gr,List.getD,hi1,hi2] using this
 rw[this]
theorem k9 {u:bq} (h:cp u):fm (dP u)≤fm u∧(fm (dP u)=fm u→dP u=u):=by
 rw[size_range,size_range u,gZ]
 obtain⟨h1,h2⟩:=GJ (fun t=>((dP u).gr t).nodes.length) (fun t=>(u.gr t).nodes.length) (List.range u.bp.length) fun t ht=>AX h t (List.mem_range.1 ht)
 refine⟨h1,fun e=>BC rfl rfl (gZ u) fun t ht=> ?_⟩
 rw[gZ] at ht
 have:=h2 e t (List.mem_range.2 ht)
 rw[k8 ht,wW] at this ⊢
 rw[j9] at this
 exact(uJ (h.gr ht) (cq u) t).same this
theorem rj {v:bq} (h:cp v) (hs:fm v=0):dP v=v:=(k9 h).2 (by have:=(k9 h).1;omega)
theorem mF:∀(f f2:Nat) (v:bq),cp v→fm v≤f→fm v≤f2→gH f v=gH f2 v
 |0,0,v,_,_,_=>rfl
 |0,f2+1,v,h,h1,_=>by rw[gH,gH,if_pos (rj h (by omega))]
 |f+1,0,v,h,_,h2=>by rw[gH,gH,if_pos (rj h (by omega))]
 |f+1,f2+1,v,h,h1,h2=>by
  rw[gH,gH]
  by_cases e:dP v=v
  ·rw[if_pos e,if_pos e]
  ·rw[if_neg e,if_neg e]
   have h3:=k9 h
   have:fm (dP v)<fm v:=Nat.lt_of_le_of_ne h3.1 fun x=>e (h3.2 x)
   exact mF f f2 _ (j6 h) (by omega) (by omega)
theorem rk {v:bq} (h:cp v) (e:dP v=v):gH (fm v) v=v:=by
 cases hf:fm v with
 |zero=>rfl
 |succ f=>rw[gH,if_pos e]
theorem GL {v:bq} (h:cp v) (e:dP v≠v):gH (fm v) v=gH (fm (dP v)) (dP v)∧fm (dP v)<fm v:=by
 have h3:=k9 h
 have hlt:fm (dP v)<fm v:=Nat.lt_of_le_of_ne h3.1 fun x=>e (h3.2 x)
 refine⟨?_,hlt⟩
 obtain⟨f,hf⟩:∃f,fm v=f+1:=⟨fm v - 1,by omega⟩
 rw[hf,gH,if_neg e]
 exact mF _ _ _ (j6 h) (by omega) (Nat.le_refl _)
theorem tX {u:bq} (h:cp u):u6 u=gH (fm (dP u)) (dP u):=mF _ _ _ (j6 h) (k9 h).1 (Nat.le_refl _)
end Go.Proofs.YtmonponfppdgfaaGreatDoor
end
