import Derived.Test.YtmonponfppdgfaaGreatDoorM36
import Derived.Test.YtmonponfppdgfaaGreatDoorM34
section
/- Idle: the walk. -/
namespace Go.Proofs.YtmonponfppdgfaaGreatDoor
open Go Go.ch Go.Proofs
set_option linter.unusedSimpArgs false
set_option linter.unusedVariables false
noncomputable def xu (u:bp) (t:Int) (l:List Bool):AV:=if lD u=true then(if t<0∨(u.bq.length:Int)≤t then .dI [.im 1 .any [],i64 2] else .dI [fp l,i64 0]) else .dI [.im 1 .any [],i64 60]
theorem jK (u:bp):(cu u).length=u.shared.length:=by simp[cu]
theorem zP (u:bp) (hu:u.Wf) (t:Int):Pure Tryz.prog 7 [u.av,i64 t] (fun r=>r=xu u t (eG (u.gr t.toNat) (cu u) t.toNat)):=by
 unfold xu
 by_cases hr:c8 u
 ·rw[if_pos (cV.2 hr)]
  by_cases ht:t<0∨(u.bq.length:Int)≤t
  ·rw[if_pos ht]
   have ha:=pM u hu hr t ht
   refine qN ?_
   refine aJ JZ rfl ?_
   repeat' (first|((with_reducible refine aE ?_);conv=>whnf)|refine aG ?_|exact cN|with_reducible refine aD ?_ ?_|((with_reducible refine Ask.mk ?_);first|exact bw|exact br|(intro h;simp_all[bp.cells]<;>fail)|(simp_all[bp.cells]<;>fail))|(apply aA;(·exact bm))|refine aK (ha) ?_|refine aH ?_|((with_reducible refine aB ?_ ?_)<;>intro hc<;>(try simp only[List.length_map,ne_eq,cD] at hc)<;>try(exfalso;omega)))
   exact rfl
  ·rw[if_neg ht]
   obtain⟨k,rfl⟩:∃k:Nat,t=k:=⟨t.toNat,by omega⟩
   rw[Int.toNat_natCast]
   have hk:k<u.bq.length:=by omega
   have ha:=qa u hu hr k hk
   have hgo:=hr.gr hk
   have hfew:=hr.CD
   have hcl:=jK u
   refine cT ?_ (by rw[cG,cL,cL,cL];exact⟨by simp[fp,cG,cJ],by simp[cG],trivial⟩)
   refine aL JZ rfl ?_
   repeat' (first|((with_reducible refine aE ?_);conv=>whnf)|refine aG ?_|exact cN|with_reducible refine aD ?_ ?_|((with_reducible refine Ask.mk ?_);first|exact bw|exact br|(intro h;simp_all[bp.cells]<;>fail)|(simp_all[bp.cells]<;>fail))|(apply aA;(·exact bm))|refine aK (ha) ?_|refine aH ?_|((with_reducible refine aB ?_ ?_)<;>intro hc<;>(try simp only[List.length_map,ne_eq,cD] at hc)<;>try(exfalso;omega)))
   refine aN (tR u (u.gr k) (hu.bq _ (cC default hk)) hgo k (cu u) hcl (by omega) _ _) ?_
   rintro _ H2 n2 ⟨b,d,rfl,hb1,hb2,hb,_⟩
   repeat' (first|((with_reducible refine aE ?_);conv=>whnf)|refine aG ?_|exact aC|with_reducible refine aD ?_ ?_|(apply aA;(·exact bm))|refine aH ?_|((with_reducible refine aB ?_ ?_)<;>intro hc<;>(try simp only[List.length_map,ne_eq,cD] at hc)<;>try(exfalso;omega)))
   refine⟨lb.trans ?_⟩
   rw[oe 5 (by simp[cG])]
   refine congrArg (fun z=>AV.dI [z,i64 0]) ((dH (e:=4) (sz:=1) (d:=d) (es:=(eG (u.gr k) (cu u) k).map bl) bk (by rw[List.length_map,mP])).trans ?_)
   rw[ca _ (jU _ _)]
   rfl
 ·rw[if_neg (mt cV.1 hr)]
  have ha:=sm u hu hr t
  refine qN ?_
  refine aJ JZ rfl ?_
  repeat' (first|((with_reducible refine aE ?_);conv=>whnf)|refine aG ?_|exact cN|with_reducible refine aD ?_ ?_|((with_reducible refine Ask.mk ?_);first|exact bw|exact br|(intro h;simp_all[bp.cells]<;>fail)|(simp_all[bp.cells]<;>fail))|(apply aA;(·exact bm))|refine aK (ha) ?_|refine aH ?_|((with_reducible refine aB ?_ ?_)<;>intro hc<;>(try simp only[List.length_map,ne_eq,cD] at hc)<;>try(exfalso;omega)))
  exact rfl
abbrev oF (E:List (Int×Int)):List AV:=lX (fun n:Int=>Value.int .i64 n) i64 E
theorem HG (E:List (Int×Int)) (t:Int):pz false (.int .i64 t) (oF E) (i64 0)=some (i64 ((c9 E t).getD 0),(c9 E t).isSome):=(uT nH i64 t E (i64 0)).trans (by cases c9 E t<;>rfl)
theorem J6 (E:List (Int×Int)) (t v:Int):sP false (.int .i64 t) (oF E) (i64 v)=some (oF (gE E t v)):=uU nH i64 t v E
theorem K4 (E:List (Int×Bool)) (t:Int):FQ false (.int .i64 t) (lY E)=some (lY (kO E t)):=J0 nH bl t E
structure mb (out:List Bool) (g:bo) (E:List (Int×Bool)) (F:List (Int×Int)):Prop where
 nodup:(E.map Prod.fst).Nodup
 keys:∀k∈E.map Prod.fst,0≤k∧k<out.length
 yes:∀k,c9 E k≠some false
 is:∀(i:Nat),i<out.length→c9 E i=none→c9 F i=some (dR out g i:Int)
 no:∀(i:Nat),i<out.length→c9 E i≠none→c9 F i=none
 zA:∀k,c9 F k≠none→0≤k∧k<out.length
theorem w5 {κ β:Type} [DecidableEq κ]:∀(E:List (κ×β)) (k:κ) (v:β),k∉E.map Prod.fst→gE E k v=E++[(k,v)]
 |[],k,v,_=>rfl
 |(a,b)::E,k,v,h=>by
  simp only[List.map_cons,List.mem_cons,not_or] at h
  rw[gE,if_neg h.1,w5 E k v h.2];rfl
def j5 (i:Nat):List (Int×Bool):=(List.range i).map fun(j:Nat)=>((j:Int),true)
theorem p7 (i:Nat):(j5 i).map Prod.fst=(List.range i).map fun(j:Nat)=>(j:Int):=by simp[j5,Function.comp_def]
theorem nN (i:Nat) (k:Int):k∈(j5 i).map Prod.fst↔0≤k∧k<i:=by
 rw[p7,List.mem_map]
 constructor
 ·rintro⟨j,hj,rfl⟩;have:=List.mem_range.1 hj;omega
 ·intro h;exact⟨k.toNat,List.mem_range.2 (by omega),by omega⟩
theorem w3 (i:Nat):gE (j5 i) (i:Int) true=j5 (i+1):=by
 rw[w5 _ _ _ (fun h=>by have:=(nN i i).1 h;omega),j5,j5,List.range_succ,List.map_append];rfl
theorem wN {κ β:Type} [DecidableEq κ]:∀{E:List (κ×β)} {k:κ} {v:β},c9 E k=some v→(k,v)∈E
 |(a,b)::E,k,v,h=>by
  rw[c9] at h
  split at h
  ·rename_i e;cases h;rw[e];simp
  ·exact List.mem_cons_of_mem _ (wN h)
theorem mb.start (out:List Bool) (g:bo):mb out g (j5 out.length) []:=by
 refine⟨?_,fun k hk=>(nN _ _).1 hk,fun k h=> ?_,fun i hi h=> ?_,fun i hi h=>rfl,fun k h=>absurd rfl h⟩
 ·rw[p7]
  exact List.pairwise_map.2 ((List.pairwise_lt_range (n:=out.length)).imp fun h e=>by omega)
 ·have:=wN h
  unfold j5 at this
  simp at this
 ·exact absurd ((nN _ _).2 ⟨by omega,by omega⟩) ((kW _ _).1 h)
theorem mb.settle {out:List Bool} {g:bo} {E:List (Int×Bool)} {F:List (Int×Int)} (h:mb out g E F) {i:Nat} (hi:i<out.length) (ho:c9 E (i:Int)≠none):mb out g (kO E (i:Int)) (gE F (i:Int) (dR out g i:Int))∧(kO E (i:Int)).length+1=E.length:=by
 have hd:=vr E (i:Int) h.nodup
 refine⟨⟨hd.2,fun k hk=>h.keys k ((hd.1 k).1 hk).2,fun k hk=> ?_,fun j hj hl=> ?_,fun j hj hl=> ?_,fun k hk=> ?_⟩, ?_⟩
 ·rw[oC _ _ _ h.nodup] at hk
  split at hk
  ·cases hk
  ·exact h.yes k hk
 ·rw[gT]
  by_cases e:(j:Int)=(i:Int)
  ·rw[if_pos e,show j=i by omega]
  ·rw[if_neg e]
   rw[oC _ _ _ h.nodup,if_neg e] at hl
   exact h.is j hj hl
 ·rw[oC _ _ _ h.nodup] at hl
  by_cases e:(j:Int)=(i:Int)
  ·rw[if_pos e] at hl;exact absurd rfl hl
  ·rw[if_neg e] at hl
   rw[gT,if_neg e]
   exact h.no j hj hl
 ·rw[gT] at hk
  split at hk
  ·rename_i e;rw[e];omega
  ·exact h.zA k hk
 ·have:=zF E (i:Int)
  cases hl:c9 E (i:Int) with
  |none=>exact absurd hl ho
  |some v=>rw[hl] at this;simpa using this
theorem mb.turns {out:List Bool} {g:bo} {E:List (Int×Bool)} {F:List (Int×Int)} (h:mb out g E F) (he:Ends out g) (hne:E≠[]):¬∀(j:Nat),j<out.length→c9 E (j:Int)≠none→tf out j=true∧c9 E (iA g j:Int)≠none:=by
 intro hall
 obtain⟨p,hp⟩:=List.exists_mem_of_ne_nil _ hne
 have hpk:p.1∈E.map Prod.fst:=List.mem_map_of_mem hp
 have hk:=h.keys _ hpk
 obtain⟨i,hi⟩:∃i:Nat,p.1=i:=⟨p.1.toNat,by omega⟩
 obtain⟨k,h1,h2,h3⟩:=he i
 have hop:∀q,q≤k→c9 E (iter g i q:Int)≠none∧iter g i q<out.length:=by
  intro q
  induction q with
  |zero=>
   intro _
   refine⟨?_, ?_⟩
   ·show c9 E (i:Int)≠none
    rw[←hi];exact fun e=>(kW _ _).1 e hpk
   ·show i<out.length
    omega
  |succ q ih=>
   intro hq
   obtain⟨a1,a2⟩:=ih (by omega)
   have hx:c9 E (iter g i (q+1):Int)≠none:=(hall _ a2 a1).2
   refine⟨hx, ?_⟩
   have:(iter g i (q+1):Int)∈E.map Prod.fst:=Classical.byContradiction fun e=>hx ((kW _ _).2 e)
   have:=h.keys _ this
   omega
 have:=(hall _ (hop k (Nat.le_refl _)).2 (hop k (Nat.le_refl _)).1).1
 rw[h2] at this;cases this
set_option maxRecDepth 4000 in
set_option maxHeartbeats 8000000 in
theorem xj (g:bo) (hg:g.Wf) (t:Nat) (cls:List cB) (out:List Bool) (hm:out.length=g.nodes.length) (hm4:out.length≤4096) (he:Ends out g) (hnx:∀j,tf out j=true→0≤(g.nd j).next∧(g.nd j).next<out.length) (b:Nat) (H:Hp) (nx:Nat) (d:AV) (hb:bj H b=some (.row 4 1 d (out.map bl))) (hbn:b<nx):
 cM Tryz.prog 54 [eH g t cls, .sl b out.length] H nx (fun r H2 n2=>∃mm d2 em F,r= .mp mm∧nx≤mm∧mm<n2∧bj H2 mm=some (.row em 0 d2 (mapA (oF F)))∧(∀i:Nat,i<out.length→c9 F (i:Int)=some (dR out g i:Int))∧∀y,y<nx→bj H2 y=bj H y):=by
 refine aL ED rfl ?_
 have hml:(out.map bl).length=out.length:=by simp
 have hnl:(g.nodes.map Node.av).length=out.length:=by rw[List.length_map,hm]
 repeat' (first|((with_reducible refine aE ?_);conv=>whnf)|refine aG ?_|exact cN|with_reducible refine aD ?_ ?_|((with_reducible refine Ask.mk ?_);first|exact bw|(exact hml)|exact br)|(apply aA;(·exact bm))|refine aH ?_|((with_reducible refine aB ?_ ?_)<;>intro hc<;>(try simp only[List.length_map,ne_eq,cD] at hc)<;>try(exfalso;omega)))
 refine aI (fun i:Nat=>[(0,eH g t cls),(1, .sl b out.length),(5, .mp (nx+1)),(13,i64 out.length),(14,i64 i)])
  (fun i H' n'=>i≤out.length∧nx+6≤n'∧(∃d,bj H' b=some (.row 4 1 d (out.map bl)))∧(∃d,bj H' (nx+1)=some (.row 3 0 d (mapA (lY (j5 i)))))∧∀y,y<nx→bj H' y=bj H y) (fun i=>out.length - i) 0 bt ⟨Nat.zero_le _,cH,⟨_,bk⟩,⟨_,bk⟩,fun y hy=>bu⟩ ?_
 clear hb
 rintro i H1 n1 ⟨hi,hn1,⟨db,rb⟩,⟨d1,r1⟩,hk1⟩
 by_cases hil:i<out.length
 ·have hnxt:=w3 i
  repeat' (first|((with_reducible refine aE ?_);conv=>whnf)|refine aG ?_|exact cN|with_reducible refine aD ?_ ?_|((with_reducible refine Ask.mk ?_);first|exact bw|(exact hml)|exact br)|(apply aA;(·exact bm))|(apply aF (g:=none);(·exact fun _=>mB _ _ _))|refine aH ?_|((with_reducible refine aB ?_ ?_)<;>intro hc<;>(try simp only[List.length_map,ne_eq,cD] at hc)<;>try(exfalso;omega)))
  exact⟨i+1,by omega,bt,by omega,by omega,⟨_,bk⟩,⟨_,by rw[←hnxt];exact bk⟩,fun y hy=>Eq.trans bu (hk1 y hy)⟩
 ·have:i=out.length:=by omega
  subst this
  repeat' (first|((with_reducible refine aE ?_);conv=>whnf)|refine aG ?_|exact aC|with_reducible refine aD ?_ ?_|(apply aA;(·exact bm))|refine aH ?_|((with_reducible refine aB ?_ ?_)<;>intro hc<;>(try simp only[List.length_map,ne_eq,cD] at hc)<;>try(exfalso;omega)))
  refine aI (fun s:List (Int×Bool)×List (Int×Int)=>[(0,eH g t cls),(1, .sl b out.length),(5, .mp (nx+1)),(7, .mp (n1+1))])
   (fun s H' n'=>n1+3≤n'∧(∃d,bj H' b=some (.row 4 1 d (out.map bl)))∧(∃d,bj H' (nx+1)=some (.row 3 0 d (mapA (lY s.1))))∧(∃d,bj H' (n1+1)=some (.row 3 0 d (mapA (oF s.2))))∧mb out g s.1 s.2∧∀y,y<nx→bj H' y=bj H y) (fun s=>s.1.length) (j5 out.length,[]) bt ⟨cH,⟨_,bk⟩,⟨_,bk⟩,⟨_,bk⟩,mb.start out g,fun y hy=>Eq.trans bu (hk1 y hy)⟩ ?_
  clear rb r1 hk1
  rintro⟨E,F⟩ H2 n2 ⟨hn2,⟨db,rb⟩,⟨d1,r1⟩,⟨d2,r2⟩,hop,hk2⟩
  dsimp only at r1 r2 hop ⊢
  have hEl:(lY E).length=E.length:=by simp[lX]
  by_cases hE:E=[]
  ·subst hE
   repeat' (first|((with_reducible refine aE ?_);conv=>whnf)|refine aG ?_|exact aC|with_reducible refine aD ?_ ?_|(apply aA;(·exact bm))|refine aH ?_|((with_reducible refine aB ?_ ?_)<;>intro hc<;>(try simp only[List.length_map,ne_eq,cD] at hc)<;>try(exfalso;omega)))
   exact⟨⟨n1+1,d2,_,F,rfl,by omega,cH,bk,fun i hi=>hop.is i hi rfl,fun y hy=>Eq.trans bu (hk2 y hy)⟩⟩
  ·have hE0:0<E.length:=List.length_pos_iff.2 hE
   repeat' (first|((with_reducible refine aE ?_);conv=>whnf)|refine aG ?_|exact cN|with_reducible refine aD ?_ ?_|((with_reducible refine Ask.mk ?_);first|exact bw|(exact hml)|(rw[hEl];omega)|exact br)|(apply aA;(·exact bm))|(simp only[hEl])|refine aH ?_|((with_reducible refine aB ?_ ?_)<;>intro hc<;>(try simp only[List.length_map,ne_eq,cD] at hc)<;>try(exfalso;omega)))
   refine aI (fun s:(List (Int×Bool)×List (Int×Int))×Nat=>[(0,eH g t cls),(1, .sl b out.length),(5, .mp (nx+1)),(7, .mp (n1+1)),(25,i64 out.length),(26,i64 s.2)])
    (fun s H' n'=>s.2≤out.length∧n2≤n'∧(∃d,bj H' b=some (.row 4 1 d (out.map bl)))∧(∃d,bj H' (nx+1)=some (.row 3 0 d (mapA (lY s.1.1))))∧(∃d,bj H' (n1+1)=some (.row 3 0 d (mapA (oF s.1.2))))∧mb out g s.1.1 s.1.2∧s.1.1.length≤E.length∧(s.1.1.length=E.length→s.1=(E,F)∧∀(j:Nat),j<s.2→c9 E (j:Int)≠none→tf out j=true∧c9 E (iA g j:Int)≠none)∧∀y,y<nx→bj H' y=bj H y) (fun s=>out.length - s.2) ((E,F),0) bt ⟨Nat.zero_le _,cH,⟨_,bk⟩,⟨_,bk⟩,⟨_,bk⟩,hop,Nat.le_refl _,fun _=>⟨rfl,fun j hj=>absurd hj (Nat.not_lt_zero _)⟩,fun y hy=>Eq.trans bu (hk2 y hy)⟩ ?_
   clear rb r1 r2 hk2
   rintro⟨⟨E2,F2⟩,i⟩ H3 n3 ⟨hi,hn3,⟨db,rb⟩,⟨d1,r1⟩,⟨d2,r2⟩,hop2,hle,hsame,hk3⟩
   dsimp only at hi r1 r2 hop2 hle hsame ⊢
   by_cases hil:i<out.length
   ·have eg:=mX E2 (i:Int)
    have el:=fun d=>gR (l:=out) (k:=i) hil d
    cases hlk:c9 E2 (i:Int) with
    |none=>
     rw[hlk] at eg
     repeat' (first|((with_reducible refine aE ?_);conv=>whnf)|refine aG ?_|exact cN|with_reducible refine aD ?_ ?_|((with_reducible refine Ask.mk ?_);first|exact bw|(exact hml)|exact br)|(apply aA;(·exact bm))|(apply aF (g:=none);(·exact fun _=>eg))|refine aH ?_|((with_reducible refine aB ?_ ?_)<;>intro hc<;>(try simp only[List.length_map,ne_eq,cD] at hc)<;>try(exfalso;omega)))
     refine⟨((E2,F2),i+1),by dsimp only;omega,bt,by dsimp only;omega,by omega,⟨_,bk⟩,⟨_,bk⟩,⟨_,bk⟩,hop2,hle,fun h=>⟨(hsame h).1,fun j hj ho=> ?_⟩,fun y hy=>Eq.trans bu (hk3 y hy)⟩
     by_cases e:j=i
     ·subst e
      have:=(hsame h).1
      cases this
      exact absurd hlk ho
     ·exact(hsame h).2 j (by dsimp only at hj;omega) ho
    |some v=>
     have hv:v=true:=by
      cases v with
      |true=>rfl
      |false=>exact absurd hlk (hop2.yes _)
     subst hv
     have hon:c9 E2 (i:Int)≠none:=by rw[hlk];exact fun e=>by cases e
     obtain⟨hst,hsl⟩:=hop2.settle hil hon
     rw[hlk] at eg
     cases hto:tf out i with
     |false=>
      rw[show out.getD i false=false from hto] at el
      have hh:dR out g i=i:=oj hto
      rw[hh] at hst
      repeat' (first|((with_reducible refine aE ?_);conv=>whnf)|refine aG ?_|exact cN|with_reducible refine aD ?_ ?_|((with_reducible refine Ask.mk ?_);first|exact bw|(exact hml)|exact br)|(apply aA;(·(first|exact el _|exact bm)))|(apply aF (g:=none);(·exact fun _=>eg))|(apply aF (g:=none);(·exact fun _=>J6 _ _ _))|(apply aF (g:=none);(·exact fun _=>K4 _ _))|refine aH ?_|((with_reducible refine aB ?_ ?_)<;>intro hc<;>(try simp only[List.length_map,ne_eq,cD] at hc)<;>try(exfalso;omega)))
      exact⟨((kO E2 (i:Int),gE F2 (i:Int) (i:Int)),i+1),by dsimp only;omega,bt,by dsimp only;omega,by omega,⟨_,bk⟩,⟨_,bk⟩,⟨_,bk⟩,hst,by dsimp only;omega,fun h=>by dsimp only at h;omega,fun y hy=>Eq.trans bu (hk3 y hy)⟩
     |true=>
      rw[show out.getD i false=true from hto] at el
      obtain⟨x0,x1⟩:=hnx i hto
      have hxn:(g.nd i).next=(iA g i:Int):=(Int.toNat_of_nonneg x0).symm
      have hxl:iA g i<out.length:=by show(g.nd i).next.toNat<out.length;omega
      have en:=fun d=>dy (l:=g.nodes) (i:=i) (by rw[←hm];exact hil) d
      have eg2:=HG F2 (g.nd i).next
      rw[hxn] at eg2
      have hho:=HN he hto
      cases hlf:c9 F2 (iA g i:Int) with
      |none=>
       rw[hlf] at eg2
       rw[←hxn] at eg2
       repeat' (first|((with_reducible refine aE ?_);conv=>whnf)|refine aG ?_|exact cN|with_reducible refine aD ?_ ?_|((with_reducible refine Ask.mk ?_);first|exact bw|(exact hml)|(rw[hnl];omega)|exact br|(intro h;simp_all[bz,Node.cells]<;>fail)|(simp_all[bz,Node.cells]<;>fail))|(apply aA;(·(first|exact el _|exact en _|exact bm)))|(apply aF (g:=none);(·exact fun _=>eg))|(apply aF (g:=none);(·exact fun _=>eg2))|refine aH ?_|((with_reducible refine aB ?_ ?_)<;>intro hc<;>(try simp only[List.length_map,ne_eq,cD] at hc)<;>try(exfalso;omega)))
       refine⟨((E2,F2),i+1),by dsimp only;omega,bt,by dsimp only;omega,by omega,⟨_,bk⟩,⟨_,bk⟩,⟨_,bk⟩,hop2,hle,fun h=>⟨(hsame h).1,fun j hj ho=> ?_⟩,fun y hy=>Eq.trans bu (hk3 y hy)⟩
       by_cases e:j=i
       ·subst e
        have:=(hsame h).1
        cases this
        refine⟨hto,fun h2=> ?_⟩
        rw[hop2.is _ hxl h2] at hlf
        cases hlf
       ·exact(hsame h).2 j (by dsimp only at hj;omega) ho
      |some hv=>
       have hhv:hv=(dR out g (iA g i):Int):=by
        cases h2:c9 E2 (iA g i:Int) with
        |none=>rw[hop2.is _ hxl h2] at hlf;cases hlf;rfl
        |some w=>rw[hop2.no _ hxl (by rw[h2];exact fun e=>by cases e)] at hlf;cases hlf
       rw[hlf] at eg2
       rw[←hxn] at eg2
       subst hhv
       rw[←hho] at eg2
       repeat' (first|((with_reducible refine aE ?_);conv=>whnf)|refine aG ?_|exact cN|with_reducible refine aD ?_ ?_|((with_reducible refine Ask.mk ?_);first|exact bw|(exact hml)|(rw[hnl];omega)|exact br|(intro h;simp_all[bz,Node.cells]<;>fail)|(simp_all[bz,Node.cells]<;>fail))|(apply aA;(·(first|exact el _|exact en _|exact bm)))|(apply aF (g:=none);(·exact fun _=>eg))|(apply aF (g:=none);(·exact fun _=>eg2))|(apply aF (g:=none);(·exact fun _=>J6 _ _ _))|(apply aF (g:=none);(·exact fun _=>K4 _ _))|refine aH ?_|((with_reducible refine aB ?_ ?_)<;>intro hc<;>(try simp only[List.length_map,ne_eq,cD] at hc)<;>try(exfalso;omega)))
       exact⟨((kO E2 (i:Int),gE F2 (i:Int) (dR out g i:Int)),i+1),by dsimp only;omega,bt,by dsimp only;omega,by omega,⟨_,bk⟩,⟨_,bk⟩,⟨_,bk⟩,hst,by dsimp only;omega,fun h=>by dsimp only at h;omega,fun y hy=>Eq.trans bu (hk3 y hy)⟩
   ·have:i=out.length:=by omega
    subst this
    have hlt:E2.length<E.length:=by
     apply Nat.lt_of_le_of_ne hle
     intro h
     obtain⟨e,hall⟩:=hsame h
     exact hop.turns he hE hall
    repeat' (first|((with_reducible refine aE ?_);conv=>whnf)|refine aG ?_|exact aC|with_reducible refine aD ?_ ?_|(apply aA;(·exact bm))|refine aH ?_|((with_reducible refine aB ?_ ?_)<;>intro hc<;>(try simp only[List.length_map,ne_eq,cD] at hc)<;>try(exfalso;omega)))
    exact⟨(E2,F2),hlt,bt,by omega,⟨_,bk⟩,⟨_,bk⟩,⟨_,bk⟩,hop2,fun y hy=>Eq.trans bu (hk3 y hy)⟩
end Go.Proofs.YtmonponfppdgfaaGreatDoor
end
section
/- The order of what is left, in plain data. -/
namespace Go.Proofs.YtmonponfppdgfaaGreatDoor
open Go Go.ch Go.Proofs
set_option linter.unusedSimpArgs false
set_option linter.unusedVariables false
noncomputable def iO (g:bo) (out:List Bool) (i:Nat):Bool:=gl (cd g (-1)) (i:Int)&& !tf out i&&decide (i≠dR out g 0)
noncomputable def eB (g:bo) (out:List Bool) (m:Nat):List Nat:=dR out g 0::(List.range m).filter (iO g out)
theorem p9 (g:bo) (out:List Bool):eB g out g.nodes.length=cX g out:=rfl
theorem oJ (g:bo) (out:List Bool) (m:Nat):eB g out (m+1)=if iO g out m=true then eB g out m++[m] else eB g out m:=by
 rw[eB,List.range_succ,List.filter_append]
 by_cases h:iO g out m=true
 ·rw[if_pos h];simp[eB,h]
 ·rw[if_neg h];simp[eB,h]
theorem nP {g:bo} {out:List Bool} {m:Nat} (hh:dR out g 0<g.nodes.length) (hm:m≤g.nodes.length):∀x∈eB g out m,x<g.nodes.length:=by
 intro x hx
 rcases List.mem_cons.1 hx with rfl|hx
 ·exact hh
 ·have:=List.mem_range.1 (List.mem_filter.1 hx).1;omega
theorem iV (g:bo) (out:List Bool) (m:Nat):(eB g out m).Nodup:=by
 rw[eB,List.nodup_cons]
 refine⟨fun h=> ?_,List.nodup_range.filter _⟩
 have:=(List.mem_filter.1 h).2
 unfold iO at this
 simp at this
theorem jv {g:bo} {out:List Bool} {m:Nat} (hh:dR out g 0<g.nodes.length) (hm:m≤g.nodes.length):(eB g out m).length≤g.nodes.length:=by
 have:=iR (m:=List.range g.nodes.length) (iV g out m) fun x hx=>List.mem_range.2 (nP hh hm x hx)
 simpa using this
def pZ (o:List Nat) (k:Nat):List (Int×Int):=(List.range k).foldl (fun E j=>gE E ((o.getD j 0:Nat):Int) (j:Int)) []
theorem rU (o:List Nat) (k:Nat):pZ o (k+1)=gE (pZ o k) ((o.getD k 0:Nat):Int) (k:Int):=by
 rw[pZ,List.range_succ,List.foldl_append];rfl
theorem rT {o:List Nat} (hn:o.Nodup) (i:Nat):∀k,k≤o.length→c9 (pZ o k) (i:Int)=((o.take k).findIdx? (fun j=>decide (j=i))).map fun j=>(j:Int)
 |0,_=>by simp[pZ,c9]
 |k+1,hk=>by
  have hkl:k<o.length:=by omega
  rw[rU,gT,rT hn i k (by omega),List.take_succ_eq_append_getElem hkl,List.findIdx?_append,gd hkl]
  have hni:o[k]∉o.take k:=by
   have h1:=hn
   rw[←List.take_append_drop k o,List.nodup_append] at h1
   intro hm
   refine h1.2.2 _ hm (o[k]) ?_ rfl
   rw[List.drop_eq_getElem_cons hkl];exact List.mem_cons_self
  by_cases e:i=o[k]
  ·have hnone:(o.take k).findIdx? (fun j=>decide (j=i))=none:=by
    rw[List.findIdx?_eq_none_iff]
    intro x hx
    rw[decide_eq_false_iff_not]
    intro h;rw[h,e] at hx;exact hni hx
   rw[if_pos (by rw[e]),hnone]
   simp[List.findIdx?_cons,e,List.length_take,Nat.min_eq_left (Nat.le_of_lt hkl)]
  ·rw[if_neg (by omega)]
   have:[o[k]].findIdx? (fun j=>decide (j=i))=none:=by simp[List.findIdx?_cons,Ne.symm e]
   rw[this]
   simp
theorem A1 {o:List Nat} (hn:o.Nodup) (i:Nat):(c9 (pZ o o.length) (i:Int)).getD 0=(dv o i:Int):=by
 rw[rT hn i _ (Nat.le_refl _),List.take_length,dv]
 cases o.findIdx? (fun j=>decide (j=i))<;>rfl
end Go.Proofs.YtmonponfppdgfaaGreatDoor
end
section
/- What is left of a right thread is right, in plain data. -/
namespace Go.Proofs.YtmonponfppdgfaaGreatDoor
open Go Go.ch Go.Proofs
set_option linter.unusedSimpArgs false
set_option linter.unusedVariables false
theorem qH {g:bo} (hw:Whole g) {i:Int} (h:fc g (-1) i):0≤i∧i.toNat<g.nodes.length:=by
 induction h with
 |zero=>exact⟨by omega,by have:=hw.1;simp;omega⟩
 |@step i k _ _ hk ih=>exact(hw.2.2 i.toNat ih.2).2.2 k hk
theorem nk {g:bo} {i:Nat} (hi:i<g.nodes.length):gl (cd g (-1)) (i:Int)=true↔fc g (-1) (i:Int):=by
 unfold gl;rw[Int.toNat_natCast];exact nR g (-1) hi
structure mW (u:bp) (g:bo) (out:List Bool):Prop where
 ok:dL u g
 len:out.length=g.nodes.length
 ends:Ends out g
 ub:∀i,tf out i=true→i<g.nodes.length∧fc g (-1) (i:Int)∧((g.nd i).kind=1∨(g.nd i).kind=2∨(g.nd i).kind=3∨((g.nd i).kind=8∧(g.nd i).next=(g.nd i).jT))
theorem uP {u:bp} {g:bo} (h:dL u g) (cls:List cB) (t:Nat):mW u g (eG g cls t):=by
 refine⟨h,mP _ _ _,o9 _ _,fun i hi=> ?_⟩
 have h1:=(fi.1 hi).1
 have hl:i<g.nodes.length:=by have:=ry h1;rw[k9] at this;exact this
 have hs:dC g cls t i=true:=by simpa[tf,jy,dW,List.getD,hl] using h1
 unfold dC at hs
 dsimp only at hs
 rw[Bool.and_eq_true] at hs
 refine⟨hl,(nk hl).1 hs.1, ?_⟩
 have hs:=hs.2
 split at hs
 ·exact .inl (by assumption)
 ·split at hs
  ·exact .inr (.inl (by assumption))
  ·split at hs
   ·exact .inr (.inr (.inl (by assumption)))
   ·split at hs
    ·exact .inr (.inr (.inr ⟨by assumption,of_decide_eq_true hs⟩))
    ·cases hs
section
variable {u:bp} {g:bo} {out:List Bool}
theorem mW.dK (h:mW u g out) {i:Nat} (hi:tf out i=true):(g.nd i).next∈(g.nd i).dK∧∀k∈(g.nd i).dK,k=(g.nd i).next:=by
 obtain⟨_,_,hk⟩:=h.ub i hi
 unfold Node.dK
 rw[if_neg (by omega)]
 split
 ·have:(g.nd i).next=(g.nd i).jT:=by omega
  rw[←this]
  exact⟨by simp,fun k hk=>by simpa using hk⟩
 ·exact⟨by simp,fun k hk=>by simpa using hk⟩
theorem mW.next (h:mW u g out) {i:Nat} (hi:tf out i=true):0≤(g.nd i).next∧iA g i<g.nodes.length:=by
 obtain⟨hl,_,_⟩:=h.ub i hi
 have:=CJ (h.ok.node hl) (h.dK hi).1
 exact⟨this.1,by show(g.nd i).next.toNat<_;omega⟩
theorem mW.FW (h:mW u g out) {i:Nat} (hi:tf out i=true):fc g (-1) (iA g i:Int):=by
 have h1:=h.next hi
 have:(iA g i:Int)=(g.nd i).next:=by show((g.nd i).next.toNat:Int)=_;omega
 rw[this]
 exact fc.step (h.ub i hi).2.1 (by omega) (by rw[Int.toNat_natCast];exact(h.dK hi).1)
theorem mW.vh (h:mW u g out) {i:Nat} (hi:fc g (-1) (i:Int)):fc g (-1) (dR out g i:Int):=
 ny h.ends (P:=fun(i:Nat)=>fc g (-1) (i:Int)) (fun _ hj _=>h.FW hj) hi
theorem mW.mem (h:mW u g out) {i:Nat}:i∈cX g out↔fc g (-1) (i:Int)∧tf out i=false:=by
 have h0:fc g (-1) (dR out g 0:Int):=h.vh (i:=0) .zero
 unfold cX
 rw[List.mem_cons,List.mem_filter,List.mem_range]
 constructor
 ·rintro(rfl|⟨h1,h2⟩)
  ·exact⟨h0,vj h.ends 0⟩
  ·simp only[Bool.and_eq_true,Bool.not_eq_true',decide_eq_true_eq] at h2
   exact⟨(nk h1).1 h2.1.1,h2.1.2⟩
 ·rintro⟨h1,h2⟩
  by_cases e:i=dR out g 0
  ·exact .inl e
  ·have hl:=(qH h.ok.whole h1).2
   rw[Int.toNat_natCast] at hl
   refine .inr ⟨hl, ?_⟩
   simp only[Bool.and_eq_true,Bool.not_eq_true',decide_eq_true_eq]
   exact⟨⟨(nk hl).2 h1,h2⟩,e⟩
theorem mW.HM (h:mW u g out) {i:Nat} (hi:fc g (-1) (i:Int)):dR out g i∈cX g out:=h.mem.2 ⟨h.vh hi,vj h.ends i⟩
theorem qm:∀(o:List Nat) (i:Nat),i∈o→∃k,o.findIdx? (fun j=>decide (j=i))=some k∧k<o.length∧o.getD k 0=i
 |[],_,h=>by simp at h
 |a::o,i,h=>by
  rw[List.findIdx?_cons]
  by_cases e:a=i
  ·exact⟨0,by simp[e],by simp,by simp[e]⟩
  ·obtain⟨k,h1,h2,h3⟩:=qm o i ((List.mem_cons.1 h).resolve_left fun x=>e x.symm)
   exact⟨k+1,by simp[e,h1],by simpa using h2,by simpa using h3⟩
theorem rZ {o:List Nat} {i:Nat} (h:i∈o):dv o i<o.length∧o.getD (dv o i) 0=i:=by
 obtain⟨k,h1,h2,h3⟩:=qm o i h
 have:dv o i=k:=by unfold dv;rw[h1];rfl
 rw[this];exact⟨h2,h3⟩
theorem tY {l:List Nat} (hn:l.Nodup) {a b:Nat} (ha:a<l.length) (hb:b<l.length) (h:l.getD a 0=l.getD b 0):a=b:=by
 rw[gd ha,gd hb] at h
 have hp:=List.pairwise_iff_getElem.1 hn
 rcases Nat.lt_trichotomy a b with hab|hab|hab
 ·exact absurd h (hp a b ha hb hab)
 ·exact hab
 ·exact absurd h.symm (hp b a hb ha hab)
theorem A5 {o:List Nat} (hn:o.Nodup) {k:Nat} (hk:k<o.length):dv o (o.getD k 0)=k:=by
 have hm:o.getD k 0∈o:=by rw[gd hk];exact List.getElem_mem hk
 obtain⟨h1,h2⟩:=rZ hm
 exact tY hn h1 hk h2
noncomputable def nO (g:bo) (out:List Bool):bo:={ g with nodes:=(cX g out).map fun i=>cz g out (cX g out) (g.nd i) }
theorem j7:(nO g out).nodes.length=(cX g out).length:=by simp[nO]
theorem uZ {k:Nat} (hk:k<(cX g out).length):(nO g out).nd k=cz g out (cX g out) (g.nd ((cX g out).getD k 0)):=by
 show((cX g out).map fun i=>cz g out (cX g out) (g.nd i)).getD k default=_
 rw[gd hk]
 simp[List.getD,hk]
theorem yP (n:Node):(cz g out (cX g out) n).dK=n.dK.map fun x=>(dv (cX g out) (dR out g x.toNat):Int):=by
 unfold cz Node.dK
 dsimp only
 by_cases h9:n.kind=9
 ·rw[if_pos h9,if_pos h9];rfl
 ·rw[if_neg h9,if_neg h9,if_pos h9]
  by_cases h8:n.kind=8
  ·rw[if_pos h8,if_pos h8,if_pos h8];rfl
  ·rw[if_neg h8,if_neg h8];rfl
theorem mA (g:bo) (out:List Bool):(cX g out).Nodup:=iV g out g.nodes.length
theorem mW.lt (h:mW u g out) {i:Nat} (hi:i∈cX g out):i<g.nodes.length:=by
 have:=(qH h.ok.whole (h.mem.1 hi).1).2
 rwa[Int.toNat_natCast] at this
theorem mW.J4 (h:mW u g out):1≤(cX g out).length∧(cX g out).length≤g.nodes.length:=by
 refine⟨by simp[cX], ?_⟩
 have:=iR (m:=List.range g.nodes.length) (mA g out) fun x hx=>List.mem_range.2 (h.lt hx)
 simpa using this
theorem mW.to (h:mW u g out) {i:Nat} (hi:fc g (-1) (i:Int)) {x:Int} (hx:x∈(g.nd i).dK):dv (cX g out) (dR out g x.toNat)<(cX g out).length∧(cX g out).getD (dv (cX g out) (dR out g x.toNat)) 0=dR out g x.toNat∧fc g (-1) (x.toNat:Int):=by
 have hc:fc g (-1) x:=fc.step hi (by omega) (by rw[Int.toNat_natCast];exact hx)
 have h0:=(qH h.ok.whole hc).1
 have hc2:fc g (-1) (x.toNat:Int):=by rw[Int.toNat_of_nonneg h0];exact hc
 have:=rZ (h.HM hc2)
 exact⟨this.1,this.2,hc2⟩
theorem mW.node (h:mW u g out) {u2:bp} (h1:u2.shared.length=u.shared.length) (h2:u2.bx.length=u.bx.length):∀n∈(nO g out).nodes,mq u2 (nO g out) n:=by
 intro n hn
 obtain⟨i,hi,rfl⟩:=List.mem_map.1 hn
 have hc:=(h.mem.1 hi).1
 have ho:=h.ok.node (h.lt hi)
 have hfol:∀x∈(g.nd i).dK,(0:Int)≤(dv (cX g out) (dR out g x.toNat):Int)∧(dv (cX g out) (dR out g x.toNat):Int)<((nO g out).nodes.length:Int):=fun x hx=>by
  have:=(h.to hc hx).1
  rw[j7];omega
 refine⟨ho.kind,ho.origin,ho.op,ho.slot, ?_,ho.a,ho.b, ?_, ?_⟩
 ·have:=ho.cP
  rw[←h1,←h2] at this
  exact this
 ·refine⟨fun hu=> ?_,fun hu=> ?_⟩
  ·have h9:(g.nd i).kind≠9:=by
    have:eF (g.nd i).kind=true:=hu
    unfold eF at this
    have:=of_decide_eq_true this
    omega
   have:(cz g out (cX g out) (g.nd i)).next=(dv (cX g out) (dR out g (g.nd i).next.toNat):Int):=by unfold cz;dsimp only;rw[if_pos h9]
   rw[this]
   refine hfol _ ?_
   unfold Node.dK;rw[if_neg h9];split<;>simp
  ·have hk:=ho.kind
   have h9:(g.nd i).kind=9:=by
    have:eF (g.nd i).kind=false:=hu
    unfold eF at this
    have:=of_decide_eq_false this
    omega
   have:(cz g out (cX g out) (g.nd i)).next=(g.nd i).next:=by unfold cz;dsimp only;rw[if_neg (fun x=>x h9)]
   rw[this]
   exact ho.next.2 hu
 ·refine⟨fun hu=> ?_,fun hu=> ?_⟩
  ·have h8:(g.nd i).kind=8:=hu
   have:(cz g out (cX g out) (g.nd i)).jT=(dv (cX g out) (dR out g (g.nd i).jT.toNat):Int):=by unfold cz;dsimp only;rw[if_pos h8]
   rw[this]
   refine hfol _ ?_
   unfold Node.dK;rw[if_neg (by omega),if_pos h8];simp
  ·have h8:(g.nd i).kind≠8:=hu
   have:(cz g out (cX g out) (g.nd i)).jT=(g.nd i).jT:=by unfold cz;dsimp only;rw[if_neg h8]
   rw[this]
   exact ho.jT.2 h8
theorem mW.whole (h:mW u g out):Whole (nO g out):=oU (u:=u) (by rw[j7];have:=h.J4;have:=h.ok.len;omega) (h.node rfl rfl)
theorem mW.held (h:mW u g out) {lk:Nat→List Int} (hlk:xL g lk):xL (nO g out) fun k=>lk ((cX g out).getD k 0):=by
 have hone:∀i:Nat,tf out i=true→lk (iA g i)=lk i:=fun i hi=>by
  obtain⟨_,hc,hk⟩:=h.ub i hi
  obtain⟨now,h1,h2⟩:=hlk.on i hc
  rw[Int.toNat_natCast] at h1 h2
  have:now=lk i:=by
   unfold cq at h1
   rw[if_neg (by omega),if_neg (by omega),if_neg (by omega)] at h1
   cases h1;rfl
  rw[←this]
  exact h2 _ (h.dK hi).1
 have hheir:∀i:Nat,lk (dR out g i)=lk i:=fun i=>
  ny h.ends (P:=fun j=>lk j=lk i) (fun j hj hp=>(hone j hj).trans hp) rfl
 refine⟨?_,fun k hk=> ?_⟩
 ·show lk (dR out g 0)=[]
  rw[hheir,hlk.zero]
 ·obtain⟨h0,hkl⟩:=qH h.whole hk
  rw[j7] at hkl
  have hm:(cX g out).getD k.toNat 0∈cX g out:=by rw[gd hkl];exact List.getElem_mem hkl
  have hc:=(h.mem.1 hm).1
  obtain⟨now,h1,h2⟩:=hlk.on _ hc
  rw[Int.toNat_natCast] at h1 h2
  refine⟨now, ?_,fun x hx=> ?_⟩
  ·rw[uZ hkl];exact h1
  ·rw[uZ hkl,yP] at hx
   obtain⟨y,hy,rfl⟩:=List.mem_map.1 hx
   rw[Int.toNat_natCast,(h.to hc hy).2.1,hheir]
   exact h2 y hy
theorem mW.graph (h:mW u g out) {u2:bp} (h1:u2.shared.length=u.shared.length) (h2:u2.bx.length=u.bx.length):dL u2 (nO g out):=by
 obtain⟨_,_,hlk,_⟩:=kU h.ok.whole h.ok.held
 refine⟨h.ok.locals,h.ok.cf, ?_,h.node h1 h2, ?_⟩
 ·rw[j7];have:=h.J4;have:=h.ok.len;omega
 ·rw[C4 h.whole (h.held hlk)];omega
theorem mW.full (h:mW u g out) (hl:(cX g out).length=g.nodes.length):∀i,i<g.nodes.length→i∈cX g out:=by
 intro i hi
 apply Classical.byContradiction
 intro hn
 have:=iR (l:=i::cX g out) (m:=List.range g.nodes.length) (List.nodup_cons.2 ⟨hn,mA g out⟩) fun x hx=>by
  rcases List.mem_cons.1 hx with rfl|hx
  ·exact List.mem_range.2 hi
  ·exact List.mem_range.2 (h.lt hx)
 simp at this
 omega
theorem mW.range (h:mW u g out) (hl:(cX g out).length=g.nodes.length):cX g out=List.range g.nodes.length:=by
 have hf:=h.full hl
 have hw:=h.ok.len
 have h0:dR out g 0=0:=oj (h.mem.1 (hf 0 (by omega))).2
 unfold cX
 rw[h0,show(List.range g.nodes.length).filter (fun(i:Nat)=>gl (cd g (-1)) (i:Int)&& !tf out i&&decide (i≠0))=(List.range g.nodes.length).filter (fun(i:Nat)=>decide (i≠0)) from List.filter_congr fun i hi=>by
  have hi:=List.mem_range.1 hi
  have:=h.mem.1 (hf i hi)
  rw[(nk hi).2 this.1,this.2];rfl]
 obtain⟨m,hm⟩:∃m,g.nodes.length=m+1:=⟨g.nodes.length - 1,by omega⟩
 rw[hm,List.range_succ_eq_map,List.filter_cons_of_neg (by simp)]
 congr 1
 rw[List.filter_eq_self]
 intro a ha
 obtain⟨b,_,rfl⟩:=List.mem_map.1 ha
 simp
theorem mW.same (h:mW u g out) (hl:(cX g out).length=g.nodes.length):nO g out=g:=by
 have hr:=h.range hl
 have hf:=h.full hl
 have hp:∀j,j<g.nodes.length→dv (cX g out) (dR out g j)=j:=fun j hj=>by
  rw[oj (h.mem.1 (hf j hj)).2]
  have:=A5 (mA g out) (k:=j) (by omega)
  rw[hr] at this ⊢
  rw[gd (by simpa using hj)] at this
  simpa using this
 have hn:(nO g out).nodes=g.nodes:=by
  apply List.ext_getElem (by rw[j7,hl])
  intro i h1 h2
  have hi:i<(cX g out).length:=by omega
  have e1:(nO g out).nodes[i]=(nO g out).nd i:=by simp[bo.nd,List.getD,h1]
  have e2:g.nodes[i]=g.nd i:=by simp[bo.nd,List.getD,h2]
  rw[e1,e2,uZ hi]
  have:(cX g out).getD i 0=i:=by rw[hr,gd (by simpa using h2)];simp
  rw[this]
  have ho:=h.ok.node h2
  have hk:=ho.kind
  unfold cz
  have a1:(if(g.nd i).kind≠9 then(dv (cX g out) (dR out g (g.nd i).next.toNat):Int) else(g.nd i).next)=(g.nd i).next:=by
   split
   ·have:=ho.next.1 (by unfold eF;exact decide_eq_true (by omega))
    rw[hp _ (by omega)];omega
   ·rfl
  have a2:(if(g.nd i).kind=8 then(dv (cX g out) (dR out g (g.nd i).jT.toNat):Int) else(g.nd i).jT)=(g.nd i).jT:=by
   split
   ·rename_i h8
    have:=ho.jT.1 h8
    rw[hp _ (by omega)];omega
   ·rfl
  rw[a1,a2]
 show({ g with nodes:=(nO g out).nodes }:bo)=g
 rw[hn]
end
end Go.Proofs.YtmonponfppdgfaaGreatDoor
end
section
/- Units without what can be left out: once, and till nothing changes, in plain data. -/
namespace Go.Proofs.YtmonponfppdgfaaGreatDoor
open Go Go.ch Go.Proofs
set_option linter.unusedSimpArgs false
set_option linter.unusedVariables false
theorem wZ (g:bo) (cls:List cB) (t:Nat):gD g cls t=nO g (eG g cls t):=rfl
theorem gh (u:bp):(dF u).bq.length=u.bq.length:=by simp[dF]
theorem kZ {u:bp} {t:Nat} (ht:t<u.bq.length):(dF u).gr t=gD (u.gr t) (cu u) t:=by
 show((List.range u.bq.length).map fun t=>gD (u.gr t) (cu u) t).getD t default=_
 simp[List.getD,ht]
theorem C1 {u:bp} {g:bo} (h:g∈u.bq):∃t,t<u.bq.length∧u.gr t=g:=by
 obtain⟨t,ht,rfl⟩:=List.getElem_of_mem h
 exact⟨t,ht,by simp[bp.gr,List.getD,ht]⟩
theorem yH (u:bp):cU (dF u)=cU u:=by
 unfold cU
 have:(dF u).bq.map bo.name=u.bq.map bo.name:=by
  apply List.ext_getElem (by simp[dF])
  intro i h1 h2
  have hi:i<u.bq.length:=by simpa using h2
  simp[dF,gD,bp.gr,List.getD,hi]
 rw[this];rfl
theorem fj {u:bp} (h:c8 u):c8 (dF u):=by
 refine⟨?_,fun g hg=> ?_⟩
 ·have:=h.named
  unfold eK at this ⊢
  rw[yH,gh]
  exact this
 ·obtain⟨t,ht,rfl⟩:=C1 hg
  rw[gh] at ht
  rw[kZ ht]
  exact(uP (h.gr ht) (cu u) t).graph rfl rfl
theorem lB {u:bp} (hu:u.Wf) (hr:c8 u):(dF u).Wf:=by
 refine⟨hu.shared,hu.gL,hu.bx,hu.gw,fun g hg=> ?_,by rw[gh];exact hu.gb⟩
 obtain⟨t,ht,rfl⟩:=C1 hg
 rw[gh] at ht
 have hgw:=hu.bq _ (cC default ht)
 have hi:=uP (hr.gr ht) (cu u) t
 have hg2:dL u ((dF u).gr t):=by rw[kZ ht];exact hi.graph rfl rfl
 have hl:=hg2.len
 have hsame:((dF u).gr t).name=(u.gr t).name∧((dF u).gr t).locals=(u.gr t).locals∧((dF u).gr t).cf=(u.gr t).cf:=by rw[kZ ht];exact⟨rfl,rfl,rfl⟩
 refine⟨by rw[hsame.1];exact hgw.name,by rw[hsame.2.1];exact hgw.locals,by rw[hsame.2.2];exact hgw.cf,fun n hn=> ?_,by omega⟩
 have ho:=hg2.nodes n hn
 rw[kZ ht] at hn
 obtain⟨i,hi2,rfl⟩:=List.mem_map.1 hn
 have hnw:=hgw.nodes _ (cC default (hi.lt hi2))
 have hin:∀x:Int,0≤x∧x<((dF u).gr t).nodes.length→jE x:=fun x hx=>by unfold jE;omega
 refine⟨hnw.kind,hnw.op,hnw.slot,hnw.cP,hnw.a,hnw.b, ?_, ?_,hnw.origin⟩
 ·cases hun:eF (cz (u.gr t) (eG (u.gr t) (cu u) t) (cX (u.gr t) (eG (u.gr t) (cu u) t)) ((u.gr t).nd i)).kind with
  |true=>exact hin _ (ho.next.1 hun)
  |false=>rw[ho.next.2 hun];unfold jE;omega
 ·by_cases h8:(cz (u.gr t) (eG (u.gr t) (cu u) t) (cX (u.gr t) (eG (u.gr t) (cu u) t)) ((u.gr t).nd i)).kind=8
  ·exact hin _ (ho.jT.1 h8)
  ·rw[ho.jT.2 h8];unfold jE;omega
theorem GN {α:Type} (f h:α→Nat):∀(l:List α),(∀a∈l,f a≤h a)→(l.map f).sum≤(l.map h).sum∧((l.map f).sum=(l.map h).sum→∀a∈l,f a=h a)
 |[],_=>by simp
 |a::l,hl=>by
  obtain⟨h1,h2⟩:=GN f h l fun x hx=>hl x (List.mem_cons_of_mem _ hx)
  have h3:=hl a (by simp)
  simp only[List.map_cons,List.sum_cons]
  refine⟨by omega,fun e x hx=> ?_⟩
  rcases List.mem_cons.1 hx with rfl|hx
  ·omega
  ·exact h2 (by omega) x hx
theorem size_range (u:bp):fW u=((List.range u.bq.length).map fun t=>(u.gr t).nodes.length).sum:=by
 unfold fW
 congr 1
 apply List.ext_getElem (by simp)
 intro i h1 h2
 have hi:i<u.bq.length:=by simpa using h1
 simp[bp.gr,List.getD,hi]
theorem A3 {u:bp} (h:c8 u):∀t,t<u.bq.length→((dF u).gr t).nodes.length≤(u.gr t).nodes.length:=fun t ht=>by
 rw[kZ ht,wZ,j7];exact(uP (h.gr ht) (cu u) t).J4.2
theorem BJ {u v:bp} (h1:u.shared=v.shared) (h2:u.bx=v.bx) (h3:u.bq.length=v.bq.length) (h4:∀t,t<u.bq.length→u.gr t=v.gr t):u=v:=by
 obtain⟨a,b,c⟩:=u
 obtain⟨a',b',c'⟩:=v
 simp only at h1 h2 h3
 subst h1;subst h2
 have:c=c':=by
  apply List.ext_getElem h3
  intro i hi1 hi2
  have:=h4 i hi1
  simpa[bp.gr,List.getD,hi1,hi2] using this
 rw[this]
theorem k7 {u:bp} (h:c8 u):fW (dF u)≤fW u∧(fW (dF u)=fW u→dF u=u):=by
 rw[size_range,size_range u,gh]
 obtain⟨h1,h2⟩:=GN (fun t=>((dF u).gr t).nodes.length) (fun t=>(u.gr t).nodes.length) (List.range u.bq.length) fun t ht=>A3 h t (List.mem_range.1 ht)
 refine⟨h1,fun e=>BJ rfl rfl (gh u) fun t ht=> ?_⟩
 rw[gh] at ht
 have:=h2 e t (List.mem_range.2 ht)
 rw[kZ ht,wZ] at this ⊢
 rw[j7] at this
 exact(uP (h.gr ht) (cu u) t).same this
theorem rv {v:bp} (h:c8 v) (hs:fW v=0):dF v=v:=(k7 h).2 (by have:=(k7 h).1;omega)
theorem mH:∀(f f2:Nat) (v:bp),c8 v→fW v≤f→fW v≤f2→fO f v=fO f2 v
 |0,0,v,_,_,_=>rfl
 |0,f2+1,v,h,h1,_=>by rw[fO,fO,if_pos (rv h (by omega))]
 |f+1,0,v,h,_,h2=>by rw[fO,fO,if_pos (rv h (by omega))]
 |f+1,f2+1,v,h,h1,h2=>by
  rw[fO,fO]
  by_cases e:dF v=v
  ·rw[if_pos e,if_pos e]
  ·rw[if_neg e,if_neg e]
   have h3:=k7 h
   have:fW (dF v)<fW v:=Nat.lt_of_le_of_ne h3.1 fun x=>e (h3.2 x)
   exact mH f f2 _ (fj h) (by omega) (by omega)
theorem nU {v:bp} (h:c8 v) (e:dF v=v):fO (fW v) v=v:=by
 cases hf:fW v with
 |zero=>rfl
 |succ f=>rw[fO,if_pos e]
theorem wz {v:bp} (h:c8 v) (e:dF v≠v):fO (fW v) v=fO (fW (dF v)) (dF v)∧fW (dF v)<fW v:=by
 have h3:=k7 h
 have hlt:fW (dF v)<fW v:=Nat.lt_of_le_of_ne h3.1 fun x=>e (h3.2 x)
 refine⟨?_,hlt⟩
 obtain⟨f,hf⟩:∃f,fW v=f+1:=⟨fW v - 1,by omega⟩
 rw[hf,fO,if_neg e]
 exact mH _ _ _ (fj h) (by omega) (Nat.le_refl _)
theorem ru {P:bp→Prop} (hs:∀v,c8 v→P v→P (dF v)):∀(f:Nat) (v:bp),c8 v→P v→c8 (fO f v)∧P (fO f v)
 |0,v,h,hp=>⟨h,hp⟩
 |f+1,v,h,hp=>by
  rw[fO]
  split
  ·exact⟨h,hp⟩
  ·exact ru hs f _ (fj h) (hs v h hp)
theorem BE {P:bp→Prop} {u:bp} (h:c8 u) (h0:P u) (hs:∀v,c8 v→P v→P (dF v)):c8 (kK u)∧P (kK u):=ru hs _ _ (fj h) (hs u h h0)
theorem pD {u:bp} (h:c8 u):kK u=fO (fW (dF u)) (dF u):=mH _ _ _ (fj h) (k7 h).1 (Nat.le_refl _)
end Go.Proofs.YtmonponfppdgfaaGreatDoor
end
