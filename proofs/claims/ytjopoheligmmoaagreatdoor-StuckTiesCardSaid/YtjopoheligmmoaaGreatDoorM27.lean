import Derived.Test.YtjopoheligmmoaaGreatDoorM26
import Derived.Test.YtjopoheligmmoaaGreatDoorM24
import Derived.Lib.TrailingZeros
section
/- The locks held: the walk. -/
namespace Go.Proofs.YtjopoheligmmoaaGreatDoor
open Go Go.cY Go.Proofs
set_option linter.unusedSimpArgs false
set_option linter.unusedVariables false
abbrev qo (E:List (Int×Bool)):List AV:=qG (fun n:Int=>Value.int .i64 n) bl E
theorem ng (E:List (Int×Bool)) (t:Int):mD false (.int .i64 t) (qo E) (bl false)=some (bl ((ej E t).getD false),(ej E t).isSome):=(CM NL bl t E (bl false)).trans (by cases ej E t<;>rfl)
theorem nE (E:List (Int×Bool)) (t:Int) (v:Bool):oy false (.int .i64 t) (qo E) (bl v)=some (qo (ij E t v)):=CN NL bl t v E
def sI (E:List (Int×Bool)) (s:HS):Prop:=∀k:Int,0≤k→(ej E k).getD false=s.f k
theorem py {l:List (List Int)} {i:Int} (h:i.toNat<l.length) (d:AV):(l.map fV).getD i.toNat d=fV (l.getD i.toNat []):=dA fV l _ d h
theorem qz {l:List (List Int)} {i:Nat} (v:List Int):(l.map fV).set i (fV v)=(l.set i v).map fV:=by rw[List.map_set]
theorem vy {g:cD} {f k:Nat} {s:HS} (hk:k<s.todo.length):fZ g (f+1) s k=(match df (g.nd (s.todo.getD k 0).toNat) (s.l (s.todo.getD k 0)) with
 |none=>([],s.todo.getD k 0)
 |some now=>match db now (g.nd (s.todo.getD k 0).toNat).oG s with
  | .inl s'=>fZ g f s' (k+1)
  | .inr at_=>([],at_)):=by rw[fZ,if_pos hk];rfl
def pq (r:List (List Int)×Int):AV:= .dP [.im 1 .any (r.1.map fV),i64 r.2]
theorem NK {l:List Int} {k:Nat} (h:k<l.length) (d:AV):(l.map i64).getD ((k:Int)).toNat d=i64 (l.getD k 0):=lC h d
theorem NJ (l:List Int) {H:Hp}:[AV.im 1 .any (l.map i64)].map (cY.dX H 6)=[AV.im 1 .any (l.map i64)]:=by
 rw[List.map_cons,List.map_nil,dv 6 (by simp[cK,cC])]
theorem j3 (now l:List Int) (s:HS) {j:Nat} (h:j<l.length):db now (l.drop j) s=if s.f (l.getD j 0)=false then db now (l.drop (j+1)) ⟨s.cE.set (l.getD j 0).toNat now,s.found.set (l.getD j 0).toNat true,s.todo++[l.getD j 0]⟩ else if s.l (l.getD j 0)=now then db now (l.drop (j+1)) s else .inr (l.getD j 0):=by
 rw[List.drop_eq_getElem_cons h,db,gd h]
theorem vz (now:List Int) (a:Int) (s:HS) (h:a.toNat<s.found.length) (hl:s.cE.length=s.found.length):db now [a,a] s=db now [a] s:=by
 simp only[db]
 by_cases h1:s.f a=false
 ·rw[if_pos h1,if_pos h1,if_neg (by rw[HS.uT h];simp),if_pos (by rw[HS.UF (by rw[hl];exact h)];simp)]
 ·simp only[if_neg h1]
  by_cases h2:s.l a=now
  ·simp only[if_pos h2]
  ·simp only[if_neg h2]
theorem H9 {g:cD} (hw:Whole g) {i:Nat} (hi:i<g.nodes.length) {now:List Int} {s:HS} (hl:s.cE.length=g.nodes.length) (hf:s.found.length=g.nodes.length):db now (g.nd i).oG s=db now (g.nd i).fold s:=
 (sH (fun l=>db now l s) (g.nd i) fun h8=>vz now _ s (by
  rw[hf]
  refine((hw.2.2 i hi).2.2 _ ?_).2
  unfold Node.oG
  rw[if_neg (by omega),if_pos h8];simp) (by rw[hl,hf])).symm
def l6 (nv:AV) (l:List Int) (H:Hp) (nx:Nat):Prop:=Told nv l H nx∧∀b m,nv= .sl b m→12<b
theorem Told.cQ {nv:AV} {l:List Int} {H H2:Hp} {nx nx2:Nat} (h:Told nv l H nx) (hn:nx≤nx2) (hb:∀b m,nv= .sl b m→12<b) (hk:∀b,12<b→b<nx→bt H2 b=bt H b):Told nv l H2 nx2:=by
 rcases h with h|⟨b,d,h1,h2,h3⟩
 ·exact .inl h
 ·exact .inr ⟨b,d,h1,by omega,(hk b (hb _ _ h1) h2).trans h3⟩
theorem l6.cQ {nv:AV} {l:List Int} {H H2:Hp} {nx nx2:Nat} (h:l6 nv l H nx) (hn:nx≤nx2) (hk:∀b,12<b→b<nx→bt H2 b=bt H b):l6 nv l H2 nx2:=⟨h.1.cQ hn h.2 hk,h.2⟩
set_option maxRecDepth 8000 in
set_option maxHeartbeats 8000000 in
theorem IS (g:cD) (hg:g.Wf) (hw:Whole g):cJ Tryz.prog 73 [g.av] [] 0 (fun r H n=>(∃a,r= .dP [.sc (.slice none 0 0),i64 a]∧eN g=([],a))∨∃b d L,r= .dP [.sl b L.length,i64 (-1)]∧eN g=(L,-1)∧bt H b=some (.row 31 1 d (L.map fV))):=by
 have hl:=hg.len
 have hl0:=hw.1
 have hl1:=hw.2.1
 refine aL OF rfl ?_
 repeat' (first|((with_reducible refine aF ?_);conv=>whnf)|refine aG ?_|exact gF|with_reducible refine aD ?_ ?_|((with_reducible refine Ask.mk ?_);first|exact dw|exact dE|(intro h;simp_all[cD.cells]<;>fail)|(simp_all[cD.cells]<;>fail))|(apply aB;(·exact cR))|(apply aR (g:=none);(·exact fun _=>nE [] _ _))|refine aH ?_|((with_reducible refine aA ?_ ?_)<;>intro hc<;>(try simp only[List.length_map,ne_eq,da] at hc)<;>try(exfalso;omega)))
 simp only[List.length_map,Int.toNat_natCast]
 refine bG (fun s:HS×Nat=>[(1, .pt 0 1 0 0),(4, .sl 6 g.nodes.length),(5, .mp 8),(6, .sl 12 s.1.todo.length),(7,i64 s.2)])
  (fun s H n=>15≤n∧(∃d,bt H 0=some (.row 60 4 d [g.av]))∧(∃d,bt H 6=some (.row 31 1 d (s.1.cE.map fV)))∧(∃d E,bt H 8=some (.row 3 0 d (mapA (qo E)))∧sI E s.1)∧(∃d,bt H 12=some (.row 3 1 d (s.1.todo.map i64)))∧HI g s.1 s.2∧s.2≤g.nodes.length∧(∀i,(s.1.cE.getD i []).length≤s.2)∧fZ g (g.nodes.length+1 - s.2) s.1 s.2=eN g)
  (fun s=>g.nodes.length+1 - s.2) (wA g,0) cH ⟨_,_,Wk.YT (b:=6) (e:=31) (sz:=1) (es:=List.replicate g.nodes.length (.sc (.slice none 0 0))) (d:= .sc (.slice none 0 0)) .any bx (es2:=(wA g).cE.map fV) (by simp[wA]) (fun c c2 _ _=> ?_),c8,⟨_,bx⟩,⟨_,bx⟩,⟨_,ij [] 0 true,bx, ?_⟩,⟨_,bx⟩,HI.start hw,Nat.zero_le _, ?_,rfl⟩ ?_
 ·simp only[wA,List.map_replicate]
  exact dK.rep (dO.lW c c2 1 .any) _
 ·intro y hy
  have:=lA (l:=List.replicate g.nodes.length false) (i:=0) (by simp;omega) y
  show _=mf ((List.replicate g.nodes.length false).set 0 true) y
  rw[this]
  by_cases e:y=0
  ·subst e;rfl
  ·rw[if_neg (by omega)]
   show(ej [(0,true)] y).getD false=_
   simp only[ej,if_neg e,Option.getD_none,mf,List.getD,List.getElem?_replicate]
   split<;>rfl
 ·intro i
  simp only[wA,List.getD,List.getElem?_replicate];split<;>exact Nat.zero_le _
 rintro⟨s,k⟩ H n ⟨hn,⟨d0,r0⟩,⟨d6,r6⟩,⟨d8,E,r8,hE⟩,⟨d12,r12⟩,hI,hkl,hlen,hrun⟩
 dsimp only at r6 r12 hI hkl hlen hrun hE ⊢
 have hct:=hI.count
 by_cases hk:k<s.todo.length
 ·obtain⟨x0,x1,x2⟩:=hI.inr _ (cS (0:Int) hk)
  have hll:=hI.ot
  have hcnt:=hI.count
  have hlm:(s.cE.map fV).length=g.nodes.length:=by simp[hll]
  have e1:=fun d=>NK hk d
  have e2:=fun d=>py (l:=s.cE) (i:=s.todo.getD k 0) (by rw[hll];exact x1) d
  have hlk:=hlen (s.todo.getD k 0).toNat
  rw[show g.nodes.length+1 - k=(g.nodes.length - k)+1 by omega,vy hk] at hrun
  have hnx:=fun now s'=>hI.next hw hk (now:=now) (s':=s')
  unfold HS.l at hrun hnx
  generalize hx:s.todo.getD k 0=x at *
  have hf:=lB (g.nd x.toNat)
  unfold fV at hf
  generalize hl0:s.cE.getD x.toNat []=l at *
  have hfl:=sG (g.nd x.toNat)
  have hfh:=fun now=>H9 hw x1 (now:=now) (s:=s) hI.ot hI.qn
  by_cases h5:(g.nd x.toNat).kind=5
  ·have hnow:df (g.nd x.toNat) l=some (l++[(g.nd x.toNat).cM]):=by unfold df;rw[if_pos h5]
   have hnl:(l++[(g.nd x.toNat).cM]).length≤k+1:=by rw[List.length_append];exact Nat.succ_le_succ hlk
   rw[hnow] at hrun
   dsimp only at hrun
   repeat' (first|((with_reducible refine aF ?_);conv=>whnf)|refine aG ?_|exact gF|with_reducible refine aD ?_ ?_|((with_reducible refine Ask.mk ?_);first|exact dw|(exact hlm)|(refine LA (m:=1) rfl ?_;simp only[List.length_map];omega)|exact dE|(intro h;simp_all[cD.cells,Node.cells]<;>fail)|(simp_all[cD.cells,Node.cells]<;>fail))|(apply aB;(·(first|exact ja x1 _|exact e1 _|exact e2 _|exact cR)))|refine aK (hf) ?_|(simp only[h5])|((refine au [] .any (nK (es:=l.map i64) (by rw[List.length_map];omega)) (fun i hi=>by rw[dA i64 _ _ _ (by simpa using hi)];trivial) (fun _ _=>NJ l) (by simp[cZ,cK,cC]) ?_))|(apply aR (g:=none);(·exact fun _=>ng _ _))|(apply aR (g:=none);(·exact fun _=>nE _ _ _))|refine aH ?_|((with_reducible refine aA ?_ ?_)<;>intro hc<;>(try simp only[List.length_map,ne_eq,da] at hc)<;>try(exfalso;omega)))
   clear hf
   simp only[List.length_map]
   refine aM (fun q:HS×Nat=>[(1, .pt 0 1 0 0),(4, .sl 6 g.nodes.length),(5, .mp 8),(6, .sl 12 q.1.todo.length),(7,i64 k),(10, .sl (n+26) (l++[(g.nd x.toNat).cM]).length),(78, .im 1 .any ((g.nd x.toNat).fold.map i64)),(79,i64 (g.nd x.toNat).fold.length),(80,i64 q.2)])
    (fun q H2 n2=>q.2≤(g.nd x.toNat).fold.length∧n+15≤n2∧(∃d,bt H2 0=some (.row 60 4 d [g.av]))∧(∃d,bt H2 6=some (.row 31 1 d (q.1.cE.map fV)))∧(∃d E,bt H2 8=some (.row 3 0 d (mapA (qo E)))∧sI E q.1)∧(∃d,bt H2 12=some (.row 3 1 d (q.1.todo.map i64)))∧l6 (.sl (n+26) (l++[(g.nd x.toNat).cM]).length) (l++[(g.nd x.toNat).cM]) H2 n2∧q.1.cE.length=g.nodes.length∧q.1.found.length=g.nodes.length∧q.1.todo.length+q.1.found.count false=g.nodes.length∧(∀i,(q.1.cE.getD i []).length≤k+1)∧db (l++[(g.nd x.toNat).cM]) ((g.nd x.toNat).fold.drop q.2) q.1=db (l++[(g.nd x.toNat).cM]) (g.nd x.toNat).fold s)
    (fun q=>(g.nd x.toNat).fold.length - q.2) (s,0) cH ⟨Nat.zero_le _,c8,⟨_,bx⟩,⟨_,bx⟩,⟨_,E,bx,hE⟩,⟨_,bx⟩,⟨.inr ⟨n+26,_,rfl,c8,by rw[←jJ];exact bx⟩,fun b m h=>by cases h;omega⟩,hI.ot,hI.qn,hI.count,fun i=>Nat.le_succ_of_le (hlen i),rfl⟩ ?_
   clear r0 r6 r8 r12
   rintro⟨⟨lks,fnds,tds⟩,j⟩ H2 n2 ⟨hj,hn2,⟨d02,r0⟩,⟨d62,r6⟩,⟨d82,E2,r8,hE2⟩,⟨d122,r12⟩,hT,hll2,hfl2,hct2,hlen2,hto⟩
   dsimp only at hj hn2 r6 hE2 r12 hT hll2 hfl2 hct2 hlen2 hto ⊢
   by_cases hjl:j<(g.nd x.toNat).fold.length
   ·have hm:=jP.1 (cS 0 hjl)
    obtain⟨k0,k1⟩:=(hw.2.2 x.toNat x1).2.2 _ hm
    have e3:=fun d=>lC (l:=(g.nd x.toNat).fold) hjl d
    rw[j3 _ _ _ hjl] at hto
    generalize hy:(g.nd x.toNat).fold.getD j 0=y at *
    have hl2m:(lks.map fV).length=g.nodes.length:=by simp[hll2]
    have e4:=fun d=>py (l:=lks) (i:=y) (by rw[hll2];exact k1) d
    have hE3:=hE2 y k0
    have hyc:((y.toNat:Nat):Int)=y:=by omega
    cases hfd:HS.f ⟨lks,fnds,tds⟩ y with
    |true=>
     rw[if_neg (by rw[hfd];decide)] at hto
     rw[hfd] at hE3
     repeat' (first|((with_reducible refine aF ?_);conv=>whnf)|refine aG ?_|exact gF|with_reducible refine aD ?_ ?_|((with_reducible refine Ask.mk ?_);first|exact dw|(exact hl2m)|exact dE)|(apply aB;(·(first|exact e3 _|exact e4 _|exact cR)))|(simp only[hE3])|(apply aR (g:=none);(·exact fun _=>ng _ _))|(apply aR (g:=none);(·exact fun _=>nE _ _ _))|refine aH ?_|((with_reducible refine aA ?_ ?_)<;>intro hc<;>(try simp only[List.length_map,ne_eq,da] at hc)<;>try(exfalso;omega)))
     refine aJ (rD (l:=l++[(g.nd x.toNat).cM]) ?_ (lks.getD y.toNat []) (by omega) (by have:=hlen2 y.toNat;omega)) ?_
     ·exact(hT.cQ c8 (fun b h1 h2=>cA)).1
     rintro r1 H3 n3 ⟨hr,rfl,rfl⟩
     by_cases hq:lks.getD y.toNat []=(l++[(g.nd x.toNat).cM])
     ·have hq2:HS.l ⟨lks,fnds,tds⟩ y=(l++[(g.nd x.toNat).cM]):=hq
      rw[if_pos hq2] at hto
      have hr1:r1=bl true:=hr.trans (congrArg _ (decide_eq_true hq))
      subst hr1
      repeat' (first|((with_reducible refine aF ?_);conv=>whnf)|refine aG ?_|exact aC|with_reducible refine aD ?_ ?_|(apply aB;(·exact cR))|refine aH ?_|((with_reducible refine aA ?_ ?_)<;>intro hc<;>(try simp only[List.length_map,ne_eq,da] at hc)<;>try(exfalso;omega)))
      exact⟨(⟨lks,fnds,tds⟩,j+1),by dsimp only;omega,cH,by dsimp only;omega,c8,⟨_,bx⟩,⟨_,bx⟩,⟨_,E2,bx,hE2⟩,⟨_,bx⟩,hT.cQ c8 (fun b h1 h2=>cA),hll2,hfl2,hct2,hlen2,hto⟩
     ·have hq2:¬HS.l ⟨lks,fnds,tds⟩ y=(l++[(g.nd x.toNat).cM]):=hq
      rw[if_neg hq2] at hto
      have hr1:r1=bl false:=hr.trans (congrArg _ (decide_eq_false hq))
      subst hr1
      repeat' (first|((with_reducible refine aF ?_);conv=>whnf)|refine aG ?_|exact aC|with_reducible refine aD ?_ ?_|(apply aB;(·exact cR))|refine aH ?_|((with_reducible refine aA ?_ ?_)<;>intro hc<;>(try simp only[List.length_map,ne_eq,da] at hc)<;>try(exfalso;omega)))
      exact⟨.inl ⟨y,rfl,by rw[←hrun,hfh,←hto]⟩⟩
    |false=>
     rw[if_pos hfd] at hto
     rw[hfd] at hE3
     have hcts:=count_set (l:=fnds) (i:=y.toNat) (by rw[hfl2];exact k1) hfd
     repeat' (first|((with_reducible refine aF ?_);conv=>whnf)|refine aG ?_|exact gF|with_reducible refine aD ?_ ?_|((with_reducible refine Ask.mk ?_);first|exact dw|(exact hl2m)|exact dE)|(apply aB;(·(first|exact e3 _|exact e4 _|exact cR)))|(simp only[hE3])|(apply aR (g:=none);(·exact fun _=>ng _ _))|(apply aR (g:=none);(·exact fun _=>nE _ _ _))|refine aH ?_|((with_reducible refine aA ?_ ?_)<;>intro hc<;>(try simp only[List.length_map,ne_eq,da] at hc)<;>try(exfalso;omega)))
     refine aJ (lK (l:=l++[(g.nd x.toNat).cM]) ?_ (by omega)) ?_
     ·exact(hT.cQ c8 (fun b h1 h2=>cA)).1
     rintro _ H3 n3 ⟨rfl,hn3,hkp⟩
     have hb:∀{p:Prop},p→p:=fun h=>h
     have r03:bt H3 0=some (.row 60 4 d02 [g.av]):=(hkp 0 c8).trans bx
     have r63:bt H3 6=some (.row 31 1 d62 (lks.map fV)):=(hkp 6 c8).trans bx
     have r83:bt H3 8=some (.row 3 0 d82 (mapA (qo (ij E2 y true)))):=(hkp 8 c8).trans bx
     have r123:bt H3 12=some (.row 3 1 d122 (tds.map i64)):=(hkp 12 c8).trans bx
     have hn23:n2<n3:=Nat.lt_of_lt_of_le c8 hn3
     have hT3:l6 (.sl (n+26) (l++[(g.nd x.toNat).cM]).length) (l++[(g.nd x.toNat).cM]) H3 n3:=hT.cQ (Nat.le_of_lt hn23) (fun b h1 h2=>(hkp b (Nat.lt_of_lt_of_le h2 c8)).trans cA)
     clear hkp hT
     repeat' (first|((with_reducible refine aF ?_);conv=>whnf)|refine aG ?_|exact gF|with_reducible refine aD ?_ ?_|((with_reducible refine Ask.mk ?_);first|exact dw|(exact hl2m)|exact dE)|(apply aB;(·(first|exact e3 _|exact e4 _|exact cR)))|refine aH ?_|((with_reducible refine aA ?_ ?_)<;>intro hc<;>(try simp only[List.length_map,ne_eq,da] at hc)<;>try(exfalso;omega)))
     refine⟨(⟨lks.set y.toNat (l++[(g.nd x.toNat).cM]),fnds.set y.toNat true,tds++[y]⟩,j+1),by dsimp only;omega,cH,by dsimp only;omega,c8,⟨_,bx⟩,⟨_,by dsimp only;rw[←qz];exact bx⟩,⟨_,ij E2 y true,bx, ?_⟩,⟨_,by dsimp only;rw[←jJ];exact bx⟩,hT3.cQ c8 (fun b h1 h2=>cA),by simp[hll2],by simp[hfl2], ?_, ?_,hto⟩
     ·intro z hz
      rw[mB,HS.uT (s:=⟨lks,fnds,tds⟩) (by rw[hfl2];exact k1)]
      by_cases hzy:z=y
      ·rw[if_pos hzy,if_pos (by rw[hzy])];rfl
      ·rw[if_neg hzy,if_neg (by omega)];exact hE2 z hz
     ·simp only[List.length_append,List.length_cons,List.length_nil];omega
     ·intro i
      rw[fB]
      split
      ·exact hnl
      ·exact hlen2 i
   ·have:j=(g.nd x.toNat).fold.length:=by omega
    subst this
    rw[List.drop_eq_nil_of_le (Nat.le_refl _),db] at hto
    have hnx2:=hnx _ _ hnow (by rw[hfh];exact hto.symm)
    repeat' (first|((with_reducible refine aF ?_);conv=>whnf)|refine aG ?_|exact aC|with_reducible refine aD ?_ ?_|(apply aB;(·exact cR))|refine aH ?_|((with_reducible refine aA ?_ ?_)<;>intro hc<;>(try simp only[List.length_map,ne_eq,da] at hc)<;>try(exfalso;omega)))
    refine⟨(⟨lks,fnds,tds⟩,k+1),by dsimp only;omega,cH,⟨_,_,Wk.refl _ _ _,c8,⟨_,bx⟩,⟨_,bx⟩,⟨_,E2,bx,hE2⟩,⟨_,bx⟩,hnx2,by dsimp only;omega,hlen2, ?_⟩⟩
    rw[←hrun,hfh,←hto]
    dsimp only
    congr 1
    omega
  ·by_cases h6:(g.nd x.toNat).kind=6
   ·rcases List.eq_nil_or_concat l with rfl|⟨a,y,rfl⟩
    ·have hnow:df (g.nd x.toNat) []=none:=by unfold df;rw[if_neg h5,if_pos h6,if_neg (fun h=>h.1 rfl)]
     rw[hnow] at hrun
     dsimp only at hrun
     repeat' (first|((with_reducible refine aF ?_);conv=>whnf)|refine aG ?_|exact gF|with_reducible refine aD ?_ ?_|((with_reducible refine Ask.mk ?_);first|exact dw|(exact hlm)|exact dE|(intro h;simp_all[cD.cells,Node.cells]<;>fail)|(simp_all[cD.cells,Node.cells]<;>fail))|(apply aB;(·(first|exact ja x1 _|exact e1 _|exact e2 _|exact cR)))|refine aK (hf) ?_|(simp only[h6])|(apply aR (g:=none);(·exact fun _=>ng _ _))|(apply aR (g:=none);(·exact fun _=>nE _ _ _))|refine aH ?_|((with_reducible refine aA ?_ ?_)<;>intro hc<;>(try simp only[List.length_map,ne_eq,da] at hc)<;>try(exfalso;omega)))
     exact⟨.inl ⟨x,rfl,hrun.symm⟩⟩
    ·rw[List.concat_eq_append] at *
     have hla:(a++[y]).length=a.length+1:=by simp
     have hml:((a++[y]).map i64).length=a.length+1:=by simp
     have e5:∀d,((a++[y]).map i64).getD (((((a++[y]).map i64).length:Nat):Int) - 1).toNat d=i64 y:=fun d=>by
      rw[hml,show(((a.length+1:Nat):Int) - 1).toNat=a.length by omega,List.map_append]
      simp[List.getD]
     by_cases hy6:y=(g.nd x.toNat).cM
     ·subst hy6
      have hnow:df (g.nd x.toNat) (a++[(g.nd x.toNat).cM])=some a:=by unfold df;rw[if_neg h5,if_pos h6,if_pos ⟨by simp,by simp⟩,List.dropLast_concat]
      have hnl:a.length≤k+1:=by omega
      have htk:(((a++[(g.nd x.toNat).cM]).map i64).drop 0).take a.length=a.map i64:=by simp
      rw[hnow] at hrun
      dsimp only at hrun
      repeat' (first|((with_reducible refine aF ?_);conv=>whnf)|refine aG ?_|exact gF|with_reducible refine aD ?_ ?_|((with_reducible refine Ask.mk ?_);first|exact dw|(exact hlm)|exact dE|(intro h;simp_all[cD.cells,Node.cells]<;>fail)|(simp_all[cD.cells,Node.cells]<;>fail))|(apply aB;(·(first|exact ja x1 _|exact e1 _|exact e2 _|exact e5 _|exact cR)))|refine aK (hf) ?_|(simp only[h6])|(simp only[htk])|(apply aR (g:=none);(·exact fun _=>ng _ _))|(apply aR (g:=none);(·exact fun _=>nE _ _ _))|refine aH ?_|((with_reducible refine aA ?_ ?_)<;>intro hc<;>(try simp only[List.length_map,ne_eq,da] at hc)<;>try(exfalso;omega)))
      ·exact absurd hc (by simp;omega)
      clear hf
      try simp only[List.length_map]
      refine aM (fun q:HS×Nat=>[(1, .pt 0 1 0 0),(4, .sl 6 g.nodes.length),(5, .mp 8),(6, .sl 12 q.1.todo.length),(7,i64 k),(10, .im 1 .any (a.map i64)),(78, .im 1 .any ((g.nd x.toNat).fold.map i64)),(79,i64 (g.nd x.toNat).fold.length),(80,i64 q.2)])
       (fun q H2 n2=>q.2≤(g.nd x.toNat).fold.length∧n+15≤n2∧(∃d,bt H2 0=some (.row 60 4 d [g.av]))∧(∃d,bt H2 6=some (.row 31 1 d (q.1.cE.map fV)))∧(∃d E,bt H2 8=some (.row 3 0 d (mapA (qo E)))∧sI E q.1)∧(∃d,bt H2 12=some (.row 3 1 d (q.1.todo.map i64)))∧l6 (.im 1 .any (a.map i64)) (a) H2 n2∧q.1.cE.length=g.nodes.length∧q.1.found.length=g.nodes.length∧q.1.todo.length+q.1.found.count false=g.nodes.length∧(∀i,(q.1.cE.getD i []).length≤k+1)∧db (a) ((g.nd x.toNat).fold.drop q.2) q.1=db (a) (g.nd x.toNat).fold s)
       (fun q=>(g.nd x.toNat).fold.length - q.2) (s,0) cH ⟨Nat.zero_le _,c8,⟨_,bx⟩,⟨_,bx⟩,⟨_,E,bx,hE⟩,⟨_,bx⟩,⟨.inl rfl,fun b m h=>by cases h⟩,hI.ot,hI.qn,hI.count,fun i=>Nat.le_succ_of_le (hlen i),rfl⟩ ?_
      clear r0 r6 r8 r12
      rintro⟨⟨lks,fnds,tds⟩,j⟩ H2 n2 ⟨hj,hn2,⟨d02,r0⟩,⟨d62,r6⟩,⟨d82,E2,r8,hE2⟩,⟨d122,r12⟩,hT,hll2,hfl2,hct2,hlen2,hto⟩
      dsimp only at hj hn2 r6 hE2 r12 hT hll2 hfl2 hct2 hlen2 hto ⊢
      by_cases hjl:j<(g.nd x.toNat).fold.length
      ·have hm:=jP.1 (cS 0 hjl)
       obtain⟨k0,k1⟩:=(hw.2.2 x.toNat x1).2.2 _ hm
       have e3:=fun d=>lC (l:=(g.nd x.toNat).fold) hjl d
       rw[j3 _ _ _ hjl] at hto
       generalize hy:(g.nd x.toNat).fold.getD j 0=y at *
       have hl2m:(lks.map fV).length=g.nodes.length:=by simp[hll2]
       have e4:=fun d=>py (l:=lks) (i:=y) (by rw[hll2];exact k1) d
       have hE3:=hE2 y k0
       have hyc:((y.toNat:Nat):Int)=y:=by omega
       cases hfd:HS.f ⟨lks,fnds,tds⟩ y with
       |true=>
        rw[if_neg (by rw[hfd];decide)] at hto
        rw[hfd] at hE3
        repeat' (first|((with_reducible refine aF ?_);conv=>whnf)|refine aG ?_|exact gF|with_reducible refine aD ?_ ?_|((with_reducible refine Ask.mk ?_);first|exact dw|(exact hl2m)|exact dE)|(apply aB;(·(first|exact e3 _|exact e4 _|exact cR)))|(simp only[hE3])|(apply aR (g:=none);(·exact fun _=>ng _ _))|(apply aR (g:=none);(·exact fun _=>nE _ _ _))|refine aH ?_|((with_reducible refine aA ?_ ?_)<;>intro hc<;>(try simp only[List.length_map,ne_eq,da] at hc)<;>try(exfalso;omega)))
        refine aJ (rD (l:=a) ?_ (lks.getD y.toNat []) (by omega) (by have:=hlen2 y.toNat;omega)) ?_
        ·exact(hT.cQ c8 (fun b h1 h2=>cA)).1
        rintro r1 H3 n3 ⟨hr,rfl,rfl⟩
        by_cases hq:lks.getD y.toNat []=(a)
        ·have hq2:HS.l ⟨lks,fnds,tds⟩ y=(a):=hq
         rw[if_pos hq2] at hto
         have hr1:r1=bl true:=hr.trans (congrArg _ (decide_eq_true hq))
         subst hr1
         repeat' (first|((with_reducible refine aF ?_);conv=>whnf)|refine aG ?_|exact aC|with_reducible refine aD ?_ ?_|(apply aB;(·exact cR))|refine aH ?_|((with_reducible refine aA ?_ ?_)<;>intro hc<;>(try simp only[List.length_map,ne_eq,da] at hc)<;>try(exfalso;omega)))
         exact⟨(⟨lks,fnds,tds⟩,j+1),by dsimp only;omega,cH,by dsimp only;omega,c8,⟨_,bx⟩,⟨_,bx⟩,⟨_,E2,bx,hE2⟩,⟨_,bx⟩,hT.cQ c8 (fun b h1 h2=>cA),hll2,hfl2,hct2,hlen2,hto⟩
        ·have hq2:¬HS.l ⟨lks,fnds,tds⟩ y=(a):=hq
         rw[if_neg hq2] at hto
         have hr1:r1=bl false:=hr.trans (congrArg _ (decide_eq_false hq))
         subst hr1
         repeat' (first|((with_reducible refine aF ?_);conv=>whnf)|refine aG ?_|exact aC|with_reducible refine aD ?_ ?_|(apply aB;(·exact cR))|refine aH ?_|((with_reducible refine aA ?_ ?_)<;>intro hc<;>(try simp only[List.length_map,ne_eq,da] at hc)<;>try(exfalso;omega)))
         exact⟨.inl ⟨y,rfl,by rw[←hrun,hfh,←hto]⟩⟩
       |false=>
        rw[if_pos hfd] at hto
        rw[hfd] at hE3
        have hcts:=count_set (l:=fnds) (i:=y.toNat) (by rw[hfl2];exact k1) hfd
        repeat' (first|((with_reducible refine aF ?_);conv=>whnf)|refine aG ?_|exact gF|with_reducible refine aD ?_ ?_|((with_reducible refine Ask.mk ?_);first|exact dw|(exact hl2m)|exact dE)|(apply aB;(·(first|exact e3 _|exact e4 _|exact cR)))|(simp only[hE3])|(apply aR (g:=none);(·exact fun _=>ng _ _))|(apply aR (g:=none);(·exact fun _=>nE _ _ _))|refine aH ?_|((with_reducible refine aA ?_ ?_)<;>intro hc<;>(try simp only[List.length_map,ne_eq,da] at hc)<;>try(exfalso;omega)))
        refine aJ (lK (l:=a) ?_ (by omega)) ?_
        ·exact(hT.cQ c8 (fun b h1 h2=>cA)).1
        rintro _ H3 n3 ⟨rfl,hn3,hkp⟩
        have hb:∀{p:Prop},p→p:=fun h=>h
        have r03:bt H3 0=some (.row 60 4 d02 [g.av]):=(hkp 0 c8).trans bx
        have r63:bt H3 6=some (.row 31 1 d62 (lks.map fV)):=(hkp 6 c8).trans bx
        have r83:bt H3 8=some (.row 3 0 d82 (mapA (qo (ij E2 y true)))):=(hkp 8 c8).trans bx
        have r123:bt H3 12=some (.row 3 1 d122 (tds.map i64)):=(hkp 12 c8).trans bx
        have hn23:n2<n3:=Nat.lt_of_lt_of_le c8 hn3
        have hT3:l6 (.im 1 .any (a.map i64)) (a) H3 n3:=hT.cQ (Nat.le_of_lt hn23) (fun b h1 h2=>(hkp b (Nat.lt_of_lt_of_le h2 c8)).trans cA)
        clear hkp hT
        repeat' (first|((with_reducible refine aF ?_);conv=>whnf)|refine aG ?_|exact gF|with_reducible refine aD ?_ ?_|((with_reducible refine Ask.mk ?_);first|exact dw|(exact hl2m)|exact dE)|(apply aB;(·(first|exact e3 _|exact e4 _|exact cR)))|refine aH ?_|((with_reducible refine aA ?_ ?_)<;>intro hc<;>(try simp only[List.length_map,ne_eq,da] at hc)<;>try(exfalso;omega)))
        refine⟨(⟨lks.set y.toNat (a),fnds.set y.toNat true,tds++[y]⟩,j+1),by dsimp only;omega,cH,by dsimp only;omega,c8,⟨_,bx⟩,⟨_,by dsimp only;rw[←qz];exact bx⟩,⟨_,ij E2 y true,bx, ?_⟩,⟨_,by dsimp only;rw[←jJ];exact bx⟩,hT3.cQ c8 (fun b h1 h2=>cA),by simp[hll2],by simp[hfl2], ?_, ?_,hto⟩
        ·intro z hz
         rw[mB,HS.uT (s:=⟨lks,fnds,tds⟩) (by rw[hfl2];exact k1)]
         by_cases hzy:z=y
         ·rw[if_pos hzy,if_pos (by rw[hzy])];rfl
         ·rw[if_neg hzy,if_neg (by omega)];exact hE2 z hz
        ·simp only[List.length_append,List.length_cons,List.length_nil];omega
        ·intro i
         rw[fB]
         split
         ·exact hnl
         ·exact hlen2 i
      ·have:j=(g.nd x.toNat).fold.length:=by omega
       subst this
       rw[List.drop_eq_nil_of_le (Nat.le_refl _),db] at hto
       have hnx2:=hnx _ _ hnow (by rw[hfh];exact hto.symm)
       repeat' (first|((with_reducible refine aF ?_);conv=>whnf)|refine aG ?_|exact aC|with_reducible refine aD ?_ ?_|(apply aB;(·exact cR))|refine aH ?_|((with_reducible refine aA ?_ ?_)<;>intro hc<;>(try simp only[List.length_map,ne_eq,da] at hc)<;>try(exfalso;omega)))
       refine⟨(⟨lks,fnds,tds⟩,k+1),by dsimp only;omega,cH,⟨_,_,Wk.refl _ _ _,c8,⟨_,bx⟩,⟨_,bx⟩,⟨_,E2,bx,hE2⟩,⟨_,bx⟩,hnx2,by dsimp only;omega,hlen2, ?_⟩⟩
       rw[←hrun,hfh,←hto]
       dsimp only
       congr 1
       omega
     ·have hnow:df (g.nd x.toNat) (a++[y])=none:=by unfold df;rw[if_neg h5,if_pos h6,if_neg (fun h=>hy6 (by simpa using h.2))]
      rw[hnow] at hrun
      dsimp only at hrun
      repeat' (first|((with_reducible refine aF ?_);conv=>whnf)|refine aG ?_|exact gF|with_reducible refine aD ?_ ?_|((with_reducible refine Ask.mk ?_);first|exact dw|(exact hlm)|exact dE|(intro h;simp_all[cD.cells,Node.cells]<;>fail)|(simp_all[cD.cells,Node.cells]<;>fail))|(apply aB;(·(first|exact ja x1 _|exact e1 _|exact e2 _|exact e5 _|exact cR)))|refine aK (hf) ?_|(simp only[h6])|(apply aR (g:=none);(·exact fun _=>ng _ _))|(apply aR (g:=none);(·exact fun _=>nE _ _ _))|refine aH ?_|((with_reducible refine aA ?_ ?_)<;>intro hc<;>(try simp only[List.length_map,ne_eq,da] at hc)<;>try(exfalso;omega)))
      all_goals first|exact absurd hc.2 hy6|exact⟨.inl ⟨x,rfl,hrun.symm⟩⟩
   ·by_cases h9:(g.nd x.toNat).kind=9∧l≠[]
    ·have hnow:df (g.nd x.toNat) l=none:=by unfold df;rw[if_neg h5,if_neg h6,if_pos h9.1,if_neg h9.2]
     have hlp:0<l.length:=List.length_pos_iff.2 h9.2
     have h91:=h9.1
     rw[hnow] at hrun
     dsimp only at hrun
     repeat' (first|((with_reducible refine aF ?_);conv=>whnf)|refine aG ?_|exact gF|with_reducible refine aD ?_ ?_|((with_reducible refine Ask.mk ?_);first|exact dw|(exact hlm)|exact dE|(intro h;simp_all[cD.cells,Node.cells]<;>fail)|(simp_all[cD.cells,Node.cells]<;>fail))|(apply aB;(·(first|exact ja x1 _|exact e1 _|exact e2 _|exact cR)))|refine aK (hf) ?_|(simp only[h91])|(apply aR (g:=none);(·exact fun _=>ng _ _))|(apply aR (g:=none);(·exact fun _=>nE _ _ _))|refine aH ?_|((with_reducible refine aA ?_ ?_)<;>intro hc<;>(try simp only[List.length_map,ne_eq,da] at hc)<;>try(exfalso;omega)))
     exact⟨.inl ⟨x,rfl,hrun.symm⟩⟩
    ·by_cases h91:(g.nd x.toNat).kind=9
     ·have hl0:l=[]:=Classical.byContradiction fun h=>h9 ⟨h91,h⟩
      subst hl0
      have hnow:df (g.nd x.toNat) []=some []:=by unfold df;rw[if_neg h5,if_neg h6,if_pos h91,if_pos rfl]
      have hnl:([]:List Int).length≤k+1:=Nat.zero_le _
      rw[hnow] at hrun
      dsimp only at hrun
      repeat' (first|((with_reducible refine aF ?_);conv=>whnf)|refine aG ?_|exact gF|with_reducible refine aD ?_ ?_|((with_reducible refine Ask.mk ?_);first|exact dw|(exact hlm)|exact dE|(intro h;simp_all[cD.cells,Node.cells]<;>fail)|(simp_all[cD.cells,Node.cells]<;>fail))|(apply aB;(·(first|exact ja x1 _|exact e1 _|exact e2 _|exact cR)))|refine aK (hf) ?_|(simp only[h91])|(apply aR (g:=none);(·exact fun _=>ng _ _))|(apply aR (g:=none);(·exact fun _=>nE _ _ _))|refine aH ?_|((with_reducible refine aA ?_ ?_)<;>intro hc<;>(try simp only[List.length_map,ne_eq,da] at hc)<;>try(exfalso;omega)))
      clear hf
      try simp only[List.length_map]
      refine aM (fun q:HS×Nat=>[(1, .pt 0 1 0 0),(4, .sl 6 g.nodes.length),(5, .mp 8),(6, .sl 12 q.1.todo.length),(7,i64 k),(10, .im 1 .any (([]:List Int).map i64)),(78, .im 1 .any ((g.nd x.toNat).fold.map i64)),(79,i64 (g.nd x.toNat).fold.length),(80,i64 q.2)])
       (fun q H2 n2=>q.2≤(g.nd x.toNat).fold.length∧n+15≤n2∧(∃d,bt H2 0=some (.row 60 4 d [g.av]))∧(∃d,bt H2 6=some (.row 31 1 d (q.1.cE.map fV)))∧(∃d E,bt H2 8=some (.row 3 0 d (mapA (qo E)))∧sI E q.1)∧(∃d,bt H2 12=some (.row 3 1 d (q.1.todo.map i64)))∧l6 (.im 1 .any (([]:List Int).map i64)) ([]) H2 n2∧q.1.cE.length=g.nodes.length∧q.1.found.length=g.nodes.length∧q.1.todo.length+q.1.found.count false=g.nodes.length∧(∀i,(q.1.cE.getD i []).length≤k+1)∧db ([]) ((g.nd x.toNat).fold.drop q.2) q.1=db ([]) (g.nd x.toNat).fold s)
       (fun q=>(g.nd x.toNat).fold.length - q.2) (s,0) cH ⟨Nat.zero_le _,c8,⟨_,bx⟩,⟨_,bx⟩,⟨_,E,bx,hE⟩,⟨_,bx⟩,⟨.inl rfl,fun b m h=>by cases h⟩,hI.ot,hI.qn,hI.count,fun i=>Nat.le_succ_of_le (hlen i),rfl⟩ ?_
      clear r0 r6 r8 r12
      rintro⟨⟨lks,fnds,tds⟩,j⟩ H2 n2 ⟨hj,hn2,⟨d02,r0⟩,⟨d62,r6⟩,⟨d82,E2,r8,hE2⟩,⟨d122,r12⟩,hT,hll2,hfl2,hct2,hlen2,hto⟩
      dsimp only at hj hn2 r6 hE2 r12 hT hll2 hfl2 hct2 hlen2 hto ⊢
      by_cases hjl:j<(g.nd x.toNat).fold.length
      ·have hm:=jP.1 (cS 0 hjl)
       obtain⟨k0,k1⟩:=(hw.2.2 x.toNat x1).2.2 _ hm
       have e3:=fun d=>lC (l:=(g.nd x.toNat).fold) hjl d
       rw[j3 _ _ _ hjl] at hto
       generalize hy:(g.nd x.toNat).fold.getD j 0=y at *
       have hl2m:(lks.map fV).length=g.nodes.length:=by simp[hll2]
       have e4:=fun d=>py (l:=lks) (i:=y) (by rw[hll2];exact k1) d
       have hE3:=hE2 y k0
       have hyc:((y.toNat:Nat):Int)=y:=by omega
       cases hfd:HS.f ⟨lks,fnds,tds⟩ y with
       |true=>
        rw[if_neg (by rw[hfd];decide)] at hto
        rw[hfd] at hE3
        repeat' (first|((with_reducible refine aF ?_);conv=>whnf)|refine aG ?_|exact gF|with_reducible refine aD ?_ ?_|((with_reducible refine Ask.mk ?_);first|exact dw|(exact hl2m)|exact dE)|(apply aB;(·(first|exact e3 _|exact e4 _|exact cR)))|(simp only[hE3])|(apply aR (g:=none);(·exact fun _=>ng _ _))|(apply aR (g:=none);(·exact fun _=>nE _ _ _))|refine aH ?_|((with_reducible refine aA ?_ ?_)<;>intro hc<;>(try simp only[List.length_map,ne_eq,da] at hc)<;>try(exfalso;omega)))
        refine aJ (rD (l:=[]) ?_ (lks.getD y.toNat []) (by omega) (by have:=hlen2 y.toNat;omega)) ?_
        ·exact(hT.cQ c8 (fun b h1 h2=>cA)).1
        rintro r1 H3 n3 ⟨hr,rfl,rfl⟩
        by_cases hq:lks.getD y.toNat []=([])
        ·have hq2:HS.l ⟨lks,fnds,tds⟩ y=([]):=hq
         rw[if_pos hq2] at hto
         have hr1:r1=bl true:=hr.trans (congrArg _ (decide_eq_true hq))
         subst hr1
         repeat' (first|((with_reducible refine aF ?_);conv=>whnf)|refine aG ?_|exact aC|with_reducible refine aD ?_ ?_|(apply aB;(·exact cR))|refine aH ?_|((with_reducible refine aA ?_ ?_)<;>intro hc<;>(try simp only[List.length_map,ne_eq,da] at hc)<;>try(exfalso;omega)))
         exact⟨(⟨lks,fnds,tds⟩,j+1),by dsimp only;omega,cH,by dsimp only;omega,c8,⟨_,bx⟩,⟨_,bx⟩,⟨_,E2,bx,hE2⟩,⟨_,bx⟩,hT.cQ c8 (fun b h1 h2=>cA),hll2,hfl2,hct2,hlen2,hto⟩
        ·have hq2:¬HS.l ⟨lks,fnds,tds⟩ y=([]):=hq
         rw[if_neg hq2] at hto
         have hr1:r1=bl false:=hr.trans (congrArg _ (decide_eq_false hq))
         subst hr1
         repeat' (first|((with_reducible refine aF ?_);conv=>whnf)|refine aG ?_|exact aC|with_reducible refine aD ?_ ?_|(apply aB;(·exact cR))|refine aH ?_|((with_reducible refine aA ?_ ?_)<;>intro hc<;>(try simp only[List.length_map,ne_eq,da] at hc)<;>try(exfalso;omega)))
         exact⟨.inl ⟨y,rfl,by rw[←hrun,hfh,←hto]⟩⟩
       |false=>
        rw[if_pos hfd] at hto
        rw[hfd] at hE3
        have hcts:=count_set (l:=fnds) (i:=y.toNat) (by rw[hfl2];exact k1) hfd
        repeat' (first|((with_reducible refine aF ?_);conv=>whnf)|refine aG ?_|exact gF|with_reducible refine aD ?_ ?_|((with_reducible refine Ask.mk ?_);first|exact dw|(exact hl2m)|exact dE)|(apply aB;(·(first|exact e3 _|exact e4 _|exact cR)))|(simp only[hE3])|(apply aR (g:=none);(·exact fun _=>ng _ _))|(apply aR (g:=none);(·exact fun _=>nE _ _ _))|refine aH ?_|((with_reducible refine aA ?_ ?_)<;>intro hc<;>(try simp only[List.length_map,ne_eq,da] at hc)<;>try(exfalso;omega)))
        refine aJ (lK (l:=[]) ?_ (by omega)) ?_
        ·exact(hT.cQ c8 (fun b h1 h2=>cA)).1
        rintro _ H3 n3 ⟨rfl,hn3,hkp⟩
        have hb:∀{p:Prop},p→p:=fun h=>h
        have r03:bt H3 0=some (.row 60 4 d02 [g.av]):=(hkp 0 c8).trans bx
        have r63:bt H3 6=some (.row 31 1 d62 (lks.map fV)):=(hkp 6 c8).trans bx
        have r83:bt H3 8=some (.row 3 0 d82 (mapA (qo (ij E2 y true)))):=(hkp 8 c8).trans bx
        have r123:bt H3 12=some (.row 3 1 d122 (tds.map i64)):=(hkp 12 c8).trans bx
        have hn23:n2<n3:=Nat.lt_of_lt_of_le c8 hn3
        have hT3:l6 (.im 1 .any (([]:List Int).map i64)) ([]) H3 n3:=hT.cQ (Nat.le_of_lt hn23) (fun b h1 h2=>(hkp b (Nat.lt_of_lt_of_le h2 c8)).trans cA)
        clear hkp hT
        repeat' (first|((with_reducible refine aF ?_);conv=>whnf)|refine aG ?_|exact gF|with_reducible refine aD ?_ ?_|((with_reducible refine Ask.mk ?_);first|exact dw|(exact hl2m)|exact dE)|(apply aB;(·(first|exact e3 _|exact e4 _|exact cR)))|refine aH ?_|((with_reducible refine aA ?_ ?_)<;>intro hc<;>(try simp only[List.length_map,ne_eq,da] at hc)<;>try(exfalso;omega)))
        refine⟨(⟨lks.set y.toNat ([]),fnds.set y.toNat true,tds++[y]⟩,j+1),by dsimp only;omega,cH,by dsimp only;omega,c8,⟨_,bx⟩,⟨_,by dsimp only;rw[←qz];exact bx⟩,⟨_,ij E2 y true,bx, ?_⟩,⟨_,by dsimp only;rw[←jJ];exact bx⟩,hT3.cQ c8 (fun b h1 h2=>cA),by simp[hll2],by simp[hfl2], ?_, ?_,hto⟩
        ·intro z hz
         rw[mB,HS.uT (s:=⟨lks,fnds,tds⟩) (by rw[hfl2];exact k1)]
         by_cases hzy:z=y
         ·rw[if_pos hzy,if_pos (by rw[hzy])];rfl
         ·rw[if_neg hzy,if_neg (by omega)];exact hE2 z hz
        ·simp only[List.length_append,List.length_cons,List.length_nil];omega
        ·intro i
         rw[fB]
         split
         ·exact hnl
         ·exact hlen2 i
      ·have:j=(g.nd x.toNat).fold.length:=by omega
       subst this
       rw[List.drop_eq_nil_of_le (Nat.le_refl _),db] at hto
       have hnx2:=hnx _ _ hnow (by rw[hfh];exact hto.symm)
       repeat' (first|((with_reducible refine aF ?_);conv=>whnf)|refine aG ?_|exact aC|with_reducible refine aD ?_ ?_|(apply aB;(·exact cR))|refine aH ?_|((with_reducible refine aA ?_ ?_)<;>intro hc<;>(try simp only[List.length_map,ne_eq,da] at hc)<;>try(exfalso;omega)))
       refine⟨(⟨lks,fnds,tds⟩,k+1),by dsimp only;omega,cH,⟨_,_,Wk.refl _ _ _,c8,⟨_,bx⟩,⟨_,bx⟩,⟨_,E2,bx,hE2⟩,⟨_,bx⟩,hnx2,by dsimp only;omega,hlen2, ?_⟩⟩
       rw[←hrun,hfh,←hto]
       dsimp only
       congr 1
       omega
     ·have hnow:df (g.nd x.toNat) l=some l:=by unfold df;rw[if_neg h5,if_neg h6,if_neg h91]
      have hnl:l.length≤k+1:=by omega
      rw[hnow] at hrun
      dsimp only at hrun
      repeat' (first|((with_reducible refine aF ?_);conv=>whnf)|refine aG ?_|exact gF|with_reducible refine aD ?_ ?_|((with_reducible refine Ask.mk ?_);first|exact dw|(exact hlm)|exact dE|(intro h;simp_all[cD.cells,Node.cells]<;>fail)|(simp_all[cD.cells,Node.cells]<;>fail))|(apply aB;(·(first|exact ja x1 _|exact e1 _|exact e2 _|exact cR)))|refine aK (hf) ?_|(simp only[h5])|(simp only[h6])|(simp only[h91])|(apply aR (g:=none);(·exact fun _=>ng _ _))|(apply aR (g:=none);(·exact fun _=>nE _ _ _))|refine aH ?_|((with_reducible refine aA ?_ ?_)<;>intro hc<;>(try simp only[List.length_map,ne_eq,da] at hc)<;>try(exfalso;omega)))
      clear hf
      try simp only[List.length_map]
      refine aM (fun q:HS×Nat=>[(1, .pt 0 1 0 0),(4, .sl 6 g.nodes.length),(5, .mp 8),(6, .sl 12 q.1.todo.length),(7,i64 k),(10, .im 1 .any (l.map i64)),(78, .im 1 .any ((g.nd x.toNat).fold.map i64)),(79,i64 (g.nd x.toNat).fold.length),(80,i64 q.2)])
       (fun q H2 n2=>q.2≤(g.nd x.toNat).fold.length∧n+15≤n2∧(∃d,bt H2 0=some (.row 60 4 d [g.av]))∧(∃d,bt H2 6=some (.row 31 1 d (q.1.cE.map fV)))∧(∃d E,bt H2 8=some (.row 3 0 d (mapA (qo E)))∧sI E q.1)∧(∃d,bt H2 12=some (.row 3 1 d (q.1.todo.map i64)))∧l6 (.im 1 .any (l.map i64)) (l) H2 n2∧q.1.cE.length=g.nodes.length∧q.1.found.length=g.nodes.length∧q.1.todo.length+q.1.found.count false=g.nodes.length∧(∀i,(q.1.cE.getD i []).length≤k+1)∧db (l) ((g.nd x.toNat).fold.drop q.2) q.1=db (l) (g.nd x.toNat).fold s)
       (fun q=>(g.nd x.toNat).fold.length - q.2) (s,0) cH ⟨Nat.zero_le _,c8,⟨_,bx⟩,⟨_,bx⟩,⟨_,E,bx,hE⟩,⟨_,bx⟩,⟨.inl rfl,fun b m h=>by cases h⟩,hI.ot,hI.qn,hI.count,fun i=>Nat.le_succ_of_le (hlen i),rfl⟩ ?_
      clear r0 r6 r8 r12
      rintro⟨⟨lks,fnds,tds⟩,j⟩ H2 n2 ⟨hj,hn2,⟨d02,r0⟩,⟨d62,r6⟩,⟨d82,E2,r8,hE2⟩,⟨d122,r12⟩,hT,hll2,hfl2,hct2,hlen2,hto⟩
      dsimp only at hj hn2 r6 hE2 r12 hT hll2 hfl2 hct2 hlen2 hto ⊢
      by_cases hjl:j<(g.nd x.toNat).fold.length
      ·have hm:=jP.1 (cS 0 hjl)
       obtain⟨k0,k1⟩:=(hw.2.2 x.toNat x1).2.2 _ hm
       have e3:=fun d=>lC (l:=(g.nd x.toNat).fold) hjl d
       rw[j3 _ _ _ hjl] at hto
       generalize hy:(g.nd x.toNat).fold.getD j 0=y at *
       have hl2m:(lks.map fV).length=g.nodes.length:=by simp[hll2]
       have e4:=fun d=>py (l:=lks) (i:=y) (by rw[hll2];exact k1) d
       have hE3:=hE2 y k0
       have hyc:((y.toNat:Nat):Int)=y:=by omega
       cases hfd:HS.f ⟨lks,fnds,tds⟩ y with
       |true=>
        rw[if_neg (by rw[hfd];decide)] at hto
        rw[hfd] at hE3
        repeat' (first|((with_reducible refine aF ?_);conv=>whnf)|refine aG ?_|exact gF|with_reducible refine aD ?_ ?_|((with_reducible refine Ask.mk ?_);first|exact dw|(exact hl2m)|exact dE)|(apply aB;(·(first|exact e3 _|exact e4 _|exact cR)))|(simp only[hE3])|(apply aR (g:=none);(·exact fun _=>ng _ _))|(apply aR (g:=none);(·exact fun _=>nE _ _ _))|refine aH ?_|((with_reducible refine aA ?_ ?_)<;>intro hc<;>(try simp only[List.length_map,ne_eq,da] at hc)<;>try(exfalso;omega)))
        refine aJ (rD (l:=l) ?_ (lks.getD y.toNat []) (by omega) (by have:=hlen2 y.toNat;omega)) ?_
        ·exact(hT.cQ c8 (fun b h1 h2=>cA)).1
        rintro r1 H3 n3 ⟨hr,rfl,rfl⟩
        by_cases hq:lks.getD y.toNat []=(l)
        ·have hq2:HS.l ⟨lks,fnds,tds⟩ y=(l):=hq
         rw[if_pos hq2] at hto
         have hr1:r1=bl true:=hr.trans (congrArg _ (decide_eq_true hq))
         subst hr1
         repeat' (first|((with_reducible refine aF ?_);conv=>whnf)|refine aG ?_|exact aC|with_reducible refine aD ?_ ?_|(apply aB;(·exact cR))|refine aH ?_|((with_reducible refine aA ?_ ?_)<;>intro hc<;>(try simp only[List.length_map,ne_eq,da] at hc)<;>try(exfalso;omega)))
         exact⟨(⟨lks,fnds,tds⟩,j+1),by dsimp only;omega,cH,by dsimp only;omega,c8,⟨_,bx⟩,⟨_,bx⟩,⟨_,E2,bx,hE2⟩,⟨_,bx⟩,hT.cQ c8 (fun b h1 h2=>cA),hll2,hfl2,hct2,hlen2,hto⟩
        ·have hq2:¬HS.l ⟨lks,fnds,tds⟩ y=(l):=hq
         rw[if_neg hq2] at hto
         have hr1:r1=bl false:=hr.trans (congrArg _ (decide_eq_false hq))
         subst hr1
         repeat' (first|((with_reducible refine aF ?_);conv=>whnf)|refine aG ?_|exact aC|with_reducible refine aD ?_ ?_|(apply aB;(·exact cR))|refine aH ?_|((with_reducible refine aA ?_ ?_)<;>intro hc<;>(try simp only[List.length_map,ne_eq,da] at hc)<;>try(exfalso;omega)))
         exact⟨.inl ⟨y,rfl,by rw[←hrun,hfh,←hto]⟩⟩
       |false=>
        rw[if_pos hfd] at hto
        rw[hfd] at hE3
        have hcts:=count_set (l:=fnds) (i:=y.toNat) (by rw[hfl2];exact k1) hfd
        repeat' (first|((with_reducible refine aF ?_);conv=>whnf)|refine aG ?_|exact gF|with_reducible refine aD ?_ ?_|((with_reducible refine Ask.mk ?_);first|exact dw|(exact hl2m)|exact dE)|(apply aB;(·(first|exact e3 _|exact e4 _|exact cR)))|(simp only[hE3])|(apply aR (g:=none);(·exact fun _=>ng _ _))|(apply aR (g:=none);(·exact fun _=>nE _ _ _))|refine aH ?_|((with_reducible refine aA ?_ ?_)<;>intro hc<;>(try simp only[List.length_map,ne_eq,da] at hc)<;>try(exfalso;omega)))
        refine aJ (lK (l:=l) ?_ (by omega)) ?_
        ·exact(hT.cQ c8 (fun b h1 h2=>cA)).1
        rintro _ H3 n3 ⟨rfl,hn3,hkp⟩
        have hb:∀{p:Prop},p→p:=fun h=>h
        have r03:bt H3 0=some (.row 60 4 d02 [g.av]):=(hkp 0 c8).trans bx
        have r63:bt H3 6=some (.row 31 1 d62 (lks.map fV)):=(hkp 6 c8).trans bx
        have r83:bt H3 8=some (.row 3 0 d82 (mapA (qo (ij E2 y true)))):=(hkp 8 c8).trans bx
        have r123:bt H3 12=some (.row 3 1 d122 (tds.map i64)):=(hkp 12 c8).trans bx
        have hn23:n2<n3:=Nat.lt_of_lt_of_le c8 hn3
        have hT3:l6 (.im 1 .any (l.map i64)) (l) H3 n3:=hT.cQ (Nat.le_of_lt hn23) (fun b h1 h2=>(hkp b (Nat.lt_of_lt_of_le h2 c8)).trans cA)
        clear hkp hT
        repeat' (first|((with_reducible refine aF ?_);conv=>whnf)|refine aG ?_|exact gF|with_reducible refine aD ?_ ?_|((with_reducible refine Ask.mk ?_);first|exact dw|(exact hl2m)|exact dE)|(apply aB;(·(first|exact e3 _|exact e4 _|exact cR)))|refine aH ?_|((with_reducible refine aA ?_ ?_)<;>intro hc<;>(try simp only[List.length_map,ne_eq,da] at hc)<;>try(exfalso;omega)))
        refine⟨(⟨lks.set y.toNat (l),fnds.set y.toNat true,tds++[y]⟩,j+1),by dsimp only;omega,cH,by dsimp only;omega,c8,⟨_,bx⟩,⟨_,by dsimp only;rw[←qz];exact bx⟩,⟨_,ij E2 y true,bx, ?_⟩,⟨_,by dsimp only;rw[←jJ];exact bx⟩,hT3.cQ c8 (fun b h1 h2=>cA),by simp[hll2],by simp[hfl2], ?_, ?_,hto⟩
        ·intro z hz
         rw[mB,HS.uT (s:=⟨lks,fnds,tds⟩) (by rw[hfl2];exact k1)]
         by_cases hzy:z=y
         ·rw[if_pos hzy,if_pos (by rw[hzy])];rfl
         ·rw[if_neg hzy,if_neg (by omega)];exact hE2 z hz
        ·simp only[List.length_append,List.length_cons,List.length_nil];omega
        ·intro i
         rw[fB]
         split
         ·exact hnl
         ·exact hlen2 i
      ·have:j=(g.nd x.toNat).fold.length:=by omega
       subst this
       rw[List.drop_eq_nil_of_le (Nat.le_refl _),db] at hto
       have hnx2:=hnx _ _ hnow (by rw[hfh];exact hto.symm)
       repeat' (first|((with_reducible refine aF ?_);conv=>whnf)|refine aG ?_|exact aC|with_reducible refine aD ?_ ?_|(apply aB;(·exact cR))|refine aH ?_|((with_reducible refine aA ?_ ?_)<;>intro hc<;>(try simp only[List.length_map,ne_eq,da] at hc)<;>try(exfalso;omega)))
       refine⟨(⟨lks,fnds,tds⟩,k+1),by dsimp only;omega,cH,⟨_,_,Wk.refl _ _ _,c8,⟨_,bx⟩,⟨_,bx⟩,⟨_,E2,bx,hE2⟩,⟨_,bx⟩,hnx2,by dsimp only;omega,hlen2, ?_⟩⟩
       rw[←hrun,hfh,←hto]
       dsimp only
       congr 1
       omega
 ·have hkt:s.todo.length≤k:=by omega
  have hrun2:eN g=(s.cE,-1):=by
   rw[←hrun,show g.nodes.length+1 - k=(g.nodes.length - k)+1 by omega,fZ,if_neg hk]
  repeat' (first|((with_reducible refine aF ?_);conv=>whnf)|refine aG ?_|exact aC|with_reducible refine aD ?_ ?_|(apply aB;(·exact cR))|refine aH ?_|((with_reducible refine aA ?_ ?_)<;>intro hc<;>(try simp only[List.length_map,ne_eq,da] at hc)<;>try(exfalso;omega)))
  exact⟨.inr ⟨6,d6,s.cE,by rw[hI.ot],hrun2,bx⟩⟩
theorem ud (g:cD) (hg:g.Wf) (hw:Whole g):Pure Tryz.prog 73 [g.av] (fun r=>r=pq (eN g)):=by
 have h:=IS g hg hw
 have fL:∀L:List (List Int),cZ 0 (L.map fV):=fun L=>(cC _ _).2 fun _ _=>by simp[fV,cK,cC]
 have fh:∀r,cK 0 (pq r):=fun r=>by simp only[pq,cK,cZ];exact⟨fL _,trivial,trivial⟩
 by_cases hc:(eN g).1=[]
 ·refine GX (u:= .dP [.sc (.slice none 0 0),i64 (eN g).2]) (pure_or (h.mono ?_) (by simp[cK,cZ]) (fh _)) (fh _) fun c=> ?_
  ·rintro r H n (⟨a,rfl,e⟩|⟨b,d,L,rfl,e,hb⟩)
   ·left;rw[e];exact dv _ (by simp[cK,cZ])
   ·right
    rw[e]
    have e1:cY.dX H 6 (.dP [.sl b L.length,i64 (-1)])= .dP [cY.dX H 5 (.sl b L.length),i64 (-1)]:=by
     simp only[dX,List.map_cons,List.map_nil]
    rw[e1,dh hb (by simp),cy _ (fL L)]
    rfl
  ·unfold pq
   rw[hc]
   intro v hv
   rw[VR] at hv ⊢
   obtain⟨vs,rfl,hv⟩:=hv
   refine⟨vs,rfl, ?_⟩
   rw[cd] at hv ⊢
   obtain⟨v1,vs1,e1,h1,h2⟩:=hv
   exact⟨v1,vs1,e1,cY.dO.lW c c 1 .any _ h1,h2⟩
 ·refine dD (h.mono ?_) (fh _)
  rintro r H n (⟨a,rfl,e⟩|⟨b,d,L,rfl,e,hb⟩)
  ·rw[e] at hc;exact absurd rfl hc
  ·rw[e]
   have e1:cY.dX H 6 (.dP [.sl b L.length,i64 (-1)])= .dP [cY.dX H 5 (.sl b L.length),i64 (-1)]:=by
    simp only[dX,List.map_cons,List.map_nil]
   rw[e1,dh hb (by simp),cy _ (fL L)]
   rfl
end Go.Proofs.YtjopoheligmmoaaGreatDoor
end
section
/- How variables are shared, in plain data. -/
namespace Go.Proofs.YtjopoheligmmoaaGreatDoor
open Go Go.cY Go.Proofs
set_option linter.unusedSimpArgs false
set_option linter.unusedVariables false
def hb (l:List Int):Nat:=l.foldl (fun a k=>a|||2^k.toNat) 0
theorem VQ (l:List Int) (k:Int):hb (l++[k])=hb l|||2^k.toNat:=by simp[hb]
theorem ND:∀(l:List Int) (j:Nat),(hb l).testBit j=l.any fun k=>decide (k.toNat=j):=by
 have h:∀(l:List Int) (a j:Nat),(l.foldl (fun a k=>a|||2^k.toNat) a).testBit j=(a.testBit j||l.any fun k=>decide (k.toNat=j)):=by
  intro l
  induction l with
  |nil=>simp
  |cons k l ih=>
   intro a j
   rw[List.foldl_cons,ih,Nat.testBit_or,Nat.testBit_two_pow,List.any_cons,Bool.or_assoc]
 intro l j
 rw[hb,h];simp
theorem SP {n m:Nat} (h:∀j,n.testBit j=true→j<m):n<2^m:=by
 apply Nat.lt_of_not_le
 intro hle
 obtain⟨j,hj,ht⟩:=Nat.exists_ge_and_testBit_of_ge_two_pow hle
 exact absurd (h j ht) (by omega)
theorem UC {l:List Int} {m:Nat} (h:∀k∈l,k.toNat<m):hb l<2^m:=SP fun j hj=>by
 rw[ND,List.any_eq_true] at hj
 obtain⟨k,hk,e⟩:=hj
 rw[←of_decide_eq_true e];exact h k hk
theorem zP {α:Type} {p:List α→Prop} (h0:p []) (h1:∀l x,p l→p (l++[x])) (l:List α):p l:=by
 have:∀r:List α,p r.reverse:=by
  intro r
  induction r with
  |nil=>exact h0
  |cons a r ih=>rw[List.reverse_cons];exact h1 _ _ ih
 rw[←List.reverse_reverse l];exact this _
abbrev ctz (x:Nat):Nat:=Lib.ctz 32 x
theorem QZ {x:Nat} (h0:x≠0) (h:x<4294967296):x.testBit (ctz x)=true∧(∀j,j<ctz x→x.testBit j=false)∧ctz x<32:=by
 unfold ctz Lib.ctz
 rw[if_neg h0]
 obtain⟨m,hm,hk⟩:=Lib.ctzFrom_spec 32 x (Nat.pos_of_ne_zero h0) h
 generalize Lib.ctzFrom 32 x=k at *
 refine⟨?_,fun j hj=> ?_,hk⟩
 ·rw[hm,Nat.mul_comm,Nat.testBit_mul_two_pow];simp
 ·rw[hm,Nat.mul_comm,Nat.testBit_mul_two_pow];simp;omega
theorem zk {x:Nat} (h0:x≠0) (h:x<4294967296) (j:Nat):(x&&& (x - 1)).testBit j=(x.testBit j&&decide (j≠ctz x)):=by
 unfold ctz Lib.ctz
 rw[if_neg h0]
 obtain⟨m,hm,hk⟩:=Lib.ctzFrom_spec 32 x (Nat.pos_of_ne_zero h0) h
 generalize Lib.ctzFrom 32 x=k at *
 have e1:x - 1=2^k * (2 * m)+(2^k - 1):=by
  rw[hm,Nat.mul_add,Nat.mul_one]
  have:=Nat.one_le_two_pow (n:=k)
  omega
 have hlt:2^k - 1<2^k:=by have:=Nat.one_le_two_pow (n:=k);omega
 rw[Nat.testBit_and,e1,Nat.testBit_two_pow_mul_add _ hlt]
 by_cases hj:j<k
 ·rw[if_pos hj,Nat.testBit_two_pow_sub_one,decide_eq_true hj,Bool.and_true,decide_eq_true (by omega),Bool.and_true]
 ·rw[if_neg hj]
  have e2:x.testBit j=(2 * m+1).testBit (j - k):=by
   rw[hm,Nat.mul_comm,Nat.testBit_mul_two_pow,decide_eq_true (by omega)];simp
  rw[e2]
  by_cases e:j=k
  ·subst e;simp
  ·obtain⟨i,hi⟩:∃i,j - k=i+1:=⟨j - k - 1,by omega⟩
   rw[hi,Nat.testBit_succ,Nat.testBit_succ,show(2 * m+1) /2=m by omega,show(2 * m) /2=m by omega,decide_eq_true e]
   simp
theorem pred_lt {x:Nat} (h0:x≠0):x&&& (x - 1)<x:=by
 have:x&&& (x - 1)≤x - 1:=Nat.and_le_right
 omega
def uF:Nat→Nat→List Int
 |0,_=>[]
 |f+1,x=>if x=0 then[] else(ctz x:Int)::uF f (x&&& (x - 1))
def bits (x:Nat):List Int:=uF x x
theorem nU:∀(f x:Nat),x≤f→uF f x=bits x
 |0,x,h=>by have:x=0:=by omega
            subst this;rfl
 |f+1,x,h=>by
  by_cases h0:x=0
  ·subst h0;rfl
  ·obtain⟨y,rfl⟩:∃y,x=y+1:=⟨x - 1,by omega⟩
   have:=pred_lt h0
   rw[uF,if_neg h0,bits,uF,if_neg h0,nU f _ (by omega),nU y _ (by omega)]
theorem pe {x:Nat} (h0:x≠0):bits x=(ctz x:Int)::bits (x&&& (x - 1)):=by
 obtain⟨y,rfl⟩:∃y,x=y+1:=⟨x - 1,by omega⟩
 have:=pred_lt h0
 rw[bits,uF,if_neg h0,nU y _ (by omega)]
end Go.Proofs.YtjopoheligmmoaaGreatDoor
end
