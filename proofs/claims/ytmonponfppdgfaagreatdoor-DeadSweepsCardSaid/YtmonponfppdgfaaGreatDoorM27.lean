import Derived.Test.YtmonponfppdgfaaGreatDoorM26
section
/- The locks held: the walk. -/
namespace Go.Proofs.YtmonponfppdgfaaGreatDoor
open Go Go.ch Go.Proofs
set_option linter.unusedSimpArgs false
set_option linter.unusedVariables false
abbrev lY (E:List (Int×Bool)):List AV:=lX (fun n:Int=>Value.int .i64 n) bl E
theorem mX (E:List (Int×Bool)) (t:Int):pz false (.int .i64 t) (lY E) (bl false)=some (bl ((c9 E t).getD false),(c9 E t).isSome):=(uT nH bl t E (bl false)).trans (by cases c9 E t<;>rfl)
theorem mB (E:List (Int×Bool)) (t:Int) (v:Bool):sP false (.int .i64 t) (lY E) (bl v)=some (lY (gE E t v)):=uU nH bl t v E
def qt (E:List (Int×Bool)) (s:HS):Prop:=∀k:Int,0≤k→(c9 E k).getD false=s.f k
theorem iN {l:List (List Int)} {i:Int} (h:i.toNat<l.length) (d:AV):(l.map dO).getD i.toNat d=dO (l.getD i.toNat []):=dJ dO l _ d h
theorem jq {l:List (List Int)} {i:Nat} (v:List Int):(l.map dO).set i (dO v)=(l.set i v).map dO:=by rw[List.map_set]
theorem nz {g:bo} {f k:Nat} {s:HS} (hk:k<s.todo.length):fA g (f+1) s k=(match cq (g.nd (s.todo.getD k 0).toNat) (s.l (s.todo.getD k 0)) with
 |none=>([],s.todo.getD k 0)
 |some now=>match cm now (g.nd (s.todo.getD k 0).toNat).dK s with
  | .inl s'=>fA g f s' (k+1)
  | .inr at_=>([],at_)):=by rw[fA,if_pos hk];rfl
def jC (r:List (List Int)×Int):AV:= .dI [.im 1 .any (r.1.map dO),i64 r.2]
theorem vq {l:List Int} {k:Nat} (h:k<l.length) (d:AV):(l.map i64).getD ((k:Int)).toNat d=i64 (l.getD k 0):=eS h d
theorem DC (l:List Int) {H:Hp}:[AV.im 1 .any (l.map i64)].map (ch.dk H 6)=[AV.im 1 .any (l.map i64)]:=by
 rw[List.map_cons,List.map_nil,dB 6 (by simp[cG,cJ])]
theorem fZ (now l:List Int) (s:HS) {j:Nat} (h:j<l.length):cm now (l.drop j) s=if s.f (l.getD j 0)=false then cm now (l.drop (j+1)) ⟨s.bx.set (l.getD j 0).toNat now,s.found.set (l.getD j 0).toNat true,s.todo++[l.getD j 0]⟩ else if s.l (l.getD j 0)=now then cm now (l.drop (j+1)) s else .inr (l.getD j 0):=by
 rw[List.drop_eq_getElem_cons h,cm,gd h]
theorem uN (now:List Int) (a:Int) (s:HS) (h:a.toNat<s.found.length) (hl:s.bx.length=s.found.length):cm now [a,a] s=cm now [a] s:=by
 simp only[cm]
 by_cases h1:s.f a=false
 ·rw[if_pos h1,if_pos h1,if_neg (by rw[HS.qk h];simp),if_pos (by rw[HS.DF (by rw[hl];exact h)];simp)]
 ·simp only[if_neg h1]
  by_cases h2:s.l a=now
  ·simp only[if_pos h2]
  ·simp only[if_neg h2]
theorem zo {g:bo} (hw:Whole g) {i:Nat} (hi:i<g.nodes.length) {now:List Int} {s:HS} (hl:s.bx.length=g.nodes.length) (hf:s.found.length=g.nodes.length):cm now (g.nd i).dK s=cm now (g.nd i).fold s:=
 (qq (fun l=>cm now l s) (g.nd i) fun h8=>uN now _ s (by
  rw[hf]
  refine((hw.2.2 i hi).2.2 _ ?_).2
  unfold Node.dK
  rw[if_neg (by omega),if_pos h8];simp) (by rw[hl,hf])).symm
def l3 (nv:AV) (l:List Int) (H:Hp) (nx:Nat):Prop:=Told nv l H nx∧∀b m,nv= .sl b m→12<b
theorem Told.cE {nv:AV} {l:List Int} {H H2:Hp} {nx nx2:Nat} (h:Told nv l H nx) (hn:nx≤nx2) (hb:∀b m,nv= .sl b m→12<b) (hk:∀b,12<b→b<nx→bj H2 b=bj H b):Told nv l H2 nx2:=by
 rcases h with h|⟨b,d,h1,h2,h3⟩
 ·exact .inl h
 ·exact .inr ⟨b,d,h1,by omega,(hk b (hb _ _ h1) h2).trans h3⟩
theorem l3.cE {nv:AV} {l:List Int} {H H2:Hp} {nx nx2:Nat} (h:l3 nv l H nx) (hn:nx≤nx2) (hk:∀b,12<b→b<nx→bj H2 b=bj H b):l3 nv l H2 nx2:=⟨h.1.cE hn h.2 hk,h.2⟩
set_option maxRecDepth 8000 in
set_option maxHeartbeats 8000000 in
theorem AE (g:bo) (hg:g.Wf) (hw:Whole g):cM Tryz.prog 53 [g.av] [] 0 (fun r H n=>(∃a,r= .dI [.sc (.slice none 0 0),i64 a]∧cr g=([],a))∨∃b d L,r= .dI [.sl b L.length,i64 (-1)]∧cr g=(L,-1)∧bj H b=some (.row 89 1 d (L.map dO))):=by
 have hl:=hg.len
 have hl0:=hw.1
 have hl1:=hw.2.1
 refine aL EC rfl ?_
 repeat' (first|((with_reducible refine aE ?_);conv=>whnf)|refine aG ?_|exact cN|with_reducible refine aD ?_ ?_|((with_reducible refine Ask.mk ?_);first|exact bw|exact br|(intro h;simp_all[bo.cells]<;>fail)|(simp_all[bo.cells]<;>fail))|(apply aA;(·exact bm))|(apply aF (g:=none);(·exact fun _=>mB [] _ _))|refine aH ?_|((with_reducible refine aB ?_ ?_)<;>intro hc<;>(try simp only[List.length_map,ne_eq,cD] at hc)<;>try(exfalso;omega)))
 simp only[List.length_map,Int.toNat_natCast]
 refine aY (fun s:HS×Nat=>[(1, .pt 0 1 0 0),(4, .sl 6 g.nodes.length),(5, .mp 8),(6, .sl 12 s.1.todo.length),(7,i64 s.2)])
  (fun s H n=>15≤n∧(∃d,bj H 0=some (.row 40 4 d [g.av]))∧(∃d,bj H 6=some (.row 89 1 d (s.1.bx.map dO)))∧(∃d E,bj H 8=some (.row 3 0 d (mapA (lY E)))∧qt E s.1)∧(∃d,bj H 12=some (.row 3 1 d (s.1.todo.map i64)))∧HI g s.1 s.2∧s.2≤g.nodes.length∧(∀i,(s.1.bx.getD i []).length≤s.2)∧fA g (g.nodes.length+1 - s.2) s.1 s.2=cr g)
  (fun s=>g.nodes.length+1 - s.2) (oo g,0) bt ⟨_,_,Wk.KI (b:=6) (e:=89) (sz:=1) (es:=List.replicate g.nodes.length (.sc (.slice none 0 0))) (d:= .sc (.slice none 0 0)) .any bk (es2:=(oo g).bx.map dO) (by simp[oo]) (fun c c2 _ _=> ?_),cH,⟨_,bk⟩,⟨_,bk⟩,⟨_,gE [] 0 true,bk, ?_⟩,⟨_,bk⟩,HI.start hw,Nat.zero_le _, ?_,rfl⟩ ?_
 ·simp only[oo,List.map_replicate]
  exact dA.rep (dZ.lx c c2 1 .any) _
 ·intro y hy
  have:=jn (l:=List.replicate g.nodes.length false) (i:=0) (by simp;omega) y
  show _=gl ((List.replicate g.nodes.length false).set 0 true) y
  rw[this]
  by_cases e:y=0
  ·subst e;rfl
  ·rw[if_neg (by omega)]
   show(c9 [(0,true)] y).getD false=_
   simp only[c9,if_neg e,Option.getD_none,gl,List.getD,List.getElem?_replicate]
   split<;>rfl
 ·intro i
  simp only[oo,List.getD,List.getElem?_replicate];split<;>exact Nat.zero_le _
 rintro⟨s,k⟩ H n ⟨hn,⟨d0,r0⟩,⟨d6,r6⟩,⟨d8,E,r8,hE⟩,⟨d12,r12⟩,hI,hkl,hlen,hrun⟩
 dsimp only at r6 r12 hI hkl hlen hrun hE ⊢
 have hct:=hI.count
 by_cases hk:k<s.todo.length
 ·obtain⟨x0,x1,x2⟩:=hI.inr _ (cC (0:Int) hk)
  have hll:=hI.kH
  have hcnt:=hI.count
  have hlm:(s.bx.map dO).length=g.nodes.length:=by simp[hll]
  have e1:=fun d=>vq hk d
  have e2:=fun d=>iN (l:=s.bx) (i:=s.todo.getD k 0) (by rw[hll];exact x1) d
  have hlk:=hlen (s.todo.getD k 0).toNat
  rw[show g.nodes.length+1 - k=(g.nodes.length - k)+1 by omega,nz hk] at hrun
  have hnx:=fun now s'=>hI.next hw hk (now:=now) (s':=s')
  unfold HS.l at hrun hnx
  generalize hx:s.todo.getD k 0=x at *
  have hf:=kr (g.nd x.toNat)
  unfold dO at hf
  generalize hl0:s.bx.getD x.toNat []=l at *
  have hfl:=la (g.nd x.toNat)
  have hfh:=fun now=>zo hw x1 (now:=now) (s:=s) hI.kH hI.lW
  by_cases h5:(g.nd x.toNat).kind=5
  ·have hnow:cq (g.nd x.toNat) l=some (l++[(g.nd x.toNat).cP]):=by unfold cq;rw[if_pos h5]
   have hnl:(l++[(g.nd x.toNat).cP]).length≤k+1:=by rw[List.length_append];exact Nat.succ_le_succ hlk
   rw[hnow] at hrun
   dsimp only at hrun
   repeat' (first|((with_reducible refine aE ?_);conv=>whnf)|refine aG ?_|exact cN|with_reducible refine aD ?_ ?_|((with_reducible refine Ask.mk ?_);first|exact bw|(exact hlm)|(refine jA (m:=1) rfl ?_;simp only[List.length_map];omega)|exact br|(intro h;simp_all[bo.cells,Node.cells]<;>fail)|(simp_all[bo.cells,Node.cells]<;>fail))|(apply aA;(·(first|exact dy x1 _|exact e1 _|exact e2 _|exact bm)))|refine aK (hf) ?_|(simp only[h5])|((refine ae [] .any (me (es:=l.map i64) (by rw[List.length_map];omega)) (fun i hi=>by rw[dJ i64 _ _ _ (by simpa using hi)];trivial) (fun _ _=>DC l) (by simp[cL,cG,cJ]) ?_))|(apply aF (g:=none);(·exact fun _=>mX _ _))|(apply aF (g:=none);(·exact fun _=>mB _ _ _))|refine aH ?_|((with_reducible refine aB ?_ ?_)<;>intro hc<;>(try simp only[List.length_map,ne_eq,cD] at hc)<;>try(exfalso;omega)))
   clear hf
   simp only[List.length_map]
   refine aI (fun q:HS×Nat=>[(1, .pt 0 1 0 0),(4, .sl 6 g.nodes.length),(5, .mp 8),(6, .sl 12 q.1.todo.length),(7,i64 k),(10, .sl (n+26) (l++[(g.nd x.toNat).cP]).length),(78, .im 1 .any ((g.nd x.toNat).fold.map i64)),(79,i64 (g.nd x.toNat).fold.length),(80,i64 q.2)])
    (fun q H2 n2=>q.2≤(g.nd x.toNat).fold.length∧n+15≤n2∧(∃d,bj H2 0=some (.row 40 4 d [g.av]))∧(∃d,bj H2 6=some (.row 89 1 d (q.1.bx.map dO)))∧(∃d E,bj H2 8=some (.row 3 0 d (mapA (lY E)))∧qt E q.1)∧(∃d,bj H2 12=some (.row 3 1 d (q.1.todo.map i64)))∧l3 (.sl (n+26) (l++[(g.nd x.toNat).cP]).length) (l++[(g.nd x.toNat).cP]) H2 n2∧q.1.bx.length=g.nodes.length∧q.1.found.length=g.nodes.length∧q.1.todo.length+q.1.found.count false=g.nodes.length∧(∀i,(q.1.bx.getD i []).length≤k+1)∧cm (l++[(g.nd x.toNat).cP]) ((g.nd x.toNat).fold.drop q.2) q.1=cm (l++[(g.nd x.toNat).cP]) (g.nd x.toNat).fold s)
    (fun q=>(g.nd x.toNat).fold.length - q.2) (s,0) bt ⟨Nat.zero_le _,cH,⟨_,bk⟩,⟨_,bk⟩,⟨_,E,bk,hE⟩,⟨_,bk⟩,⟨.inr ⟨n+26,_,rfl,cH,by rw[←fV];exact bk⟩,fun b m h=>by cases h;omega⟩,hI.kH,hI.lW,hI.count,fun i=>Nat.le_succ_of_le (hlen i),rfl⟩ ?_
   clear r0 r6 r8 r12
   rintro⟨⟨lks,fnds,tds⟩,j⟩ H2 n2 ⟨hj,hn2,⟨d02,r0⟩,⟨d62,r6⟩,⟨d82,E2,r8,hE2⟩,⟨d122,r12⟩,hT,hll2,hfl2,hct2,hlen2,hto⟩
   dsimp only at hj hn2 r6 hE2 r12 hT hll2 hfl2 hct2 hlen2 hto ⊢
   by_cases hjl:j<(g.nd x.toNat).fold.length
   ·have hm:=gz.1 (cC 0 hjl)
    obtain⟨k0,k1⟩:=(hw.2.2 x.toNat x1).2.2 _ hm
    have e3:=fun d=>eS (l:=(g.nd x.toNat).fold) hjl d
    rw[fZ _ _ _ hjl] at hto
    generalize hy:(g.nd x.toNat).fold.getD j 0=y at *
    have hl2m:(lks.map dO).length=g.nodes.length:=by simp[hll2]
    have e4:=fun d=>iN (l:=lks) (i:=y) (by rw[hll2];exact k1) d
    have hE3:=hE2 y k0
    have hyc:((y.toNat:Nat):Int)=y:=by omega
    cases hfd:HS.f ⟨lks,fnds,tds⟩ y with
    |true=>
     rw[if_neg (by rw[hfd];decide)] at hto
     rw[hfd] at hE3
     repeat' (first|((with_reducible refine aE ?_);conv=>whnf)|refine aG ?_|exact cN|with_reducible refine aD ?_ ?_|((with_reducible refine Ask.mk ?_);first|exact bw|(exact hl2m)|exact br)|(apply aA;(·(first|exact e3 _|exact e4 _|exact bm)))|(simp only[hE3])|(apply aF (g:=none);(·exact fun _=>mX _ _))|(apply aF (g:=none);(·exact fun _=>mB _ _ _))|refine aH ?_|((with_reducible refine aB ?_ ?_)<;>intro hc<;>(try simp only[List.length_map,ne_eq,cD] at hc)<;>try(exfalso;omega)))
     refine aN (qR (l:=l++[(g.nd x.toNat).cP]) ?_ (lks.getD y.toNat []) (by omega) (by have:=hlen2 y.toNat;omega)) ?_
     ·exact(hT.cE cH (fun b h1 h2=>bu)).1
     rintro r1 H3 n3 ⟨hr,rfl,rfl⟩
     by_cases hq:lks.getD y.toNat []=(l++[(g.nd x.toNat).cP])
     ·have hq2:HS.l ⟨lks,fnds,tds⟩ y=(l++[(g.nd x.toNat).cP]):=hq
      rw[if_pos hq2] at hto
      have hr1:r1=bl true:=hr.trans (congrArg _ (decide_eq_true hq))
      subst hr1
      repeat' (first|((with_reducible refine aE ?_);conv=>whnf)|refine aG ?_|exact aC|with_reducible refine aD ?_ ?_|(apply aA;(·exact bm))|refine aH ?_|((with_reducible refine aB ?_ ?_)<;>intro hc<;>(try simp only[List.length_map,ne_eq,cD] at hc)<;>try(exfalso;omega)))
      exact⟨(⟨lks,fnds,tds⟩,j+1),by dsimp only;omega,bt,by dsimp only;omega,cH,⟨_,bk⟩,⟨_,bk⟩,⟨_,E2,bk,hE2⟩,⟨_,bk⟩,hT.cE cH (fun b h1 h2=>bu),hll2,hfl2,hct2,hlen2,hto⟩
     ·have hq2:¬HS.l ⟨lks,fnds,tds⟩ y=(l++[(g.nd x.toNat).cP]):=hq
      rw[if_neg hq2] at hto
      have hr1:r1=bl false:=hr.trans (congrArg _ (decide_eq_false hq))
      subst hr1
      repeat' (first|((with_reducible refine aE ?_);conv=>whnf)|refine aG ?_|exact aC|with_reducible refine aD ?_ ?_|(apply aA;(·exact bm))|refine aH ?_|((with_reducible refine aB ?_ ?_)<;>intro hc<;>(try simp only[List.length_map,ne_eq,cD] at hc)<;>try(exfalso;omega)))
      exact⟨.inl ⟨y,rfl,by rw[←hrun,hfh,←hto]⟩⟩
    |false=>
     rw[if_pos hfd] at hto
     rw[hfd] at hE3
     have hcts:=count_set (l:=fnds) (i:=y.toNat) (by rw[hfl2];exact k1) hfd
     repeat' (first|((with_reducible refine aE ?_);conv=>whnf)|refine aG ?_|exact cN|with_reducible refine aD ?_ ?_|((with_reducible refine Ask.mk ?_);first|exact bw|(exact hl2m)|exact br)|(apply aA;(·(first|exact e3 _|exact e4 _|exact bm)))|(simp only[hE3])|(apply aF (g:=none);(·exact fun _=>mX _ _))|(apply aF (g:=none);(·exact fun _=>mB _ _ _))|refine aH ?_|((with_reducible refine aB ?_ ?_)<;>intro hc<;>(try simp only[List.length_map,ne_eq,cD] at hc)<;>try(exfalso;omega)))
     refine aN (lG (l:=l++[(g.nd x.toNat).cP]) ?_ (by omega)) ?_
     ·exact(hT.cE cH (fun b h1 h2=>bu)).1
     rintro _ H3 n3 ⟨rfl,hn3,hkp⟩
     have hb:∀{p:Prop},p→p:=fun h=>h
     have r03:bj H3 0=some (.row 40 4 d02 [g.av]):=(hkp 0 cH).trans bk
     have r63:bj H3 6=some (.row 89 1 d62 (lks.map dO)):=(hkp 6 cH).trans bk
     have r83:bj H3 8=some (.row 3 0 d82 (mapA (lY (gE E2 y true)))):=(hkp 8 cH).trans bk
     have r123:bj H3 12=some (.row 3 1 d122 (tds.map i64)):=(hkp 12 cH).trans bk
     have hn23:n2<n3:=Nat.lt_of_lt_of_le cH hn3
     have hT3:l3 (.sl (n+26) (l++[(g.nd x.toNat).cP]).length) (l++[(g.nd x.toNat).cP]) H3 n3:=hT.cE (Nat.le_of_lt hn23) (fun b h1 h2=>(hkp b (Nat.lt_of_lt_of_le h2 cH)).trans bu)
     clear hkp hT
     repeat' (first|((with_reducible refine aE ?_);conv=>whnf)|refine aG ?_|exact cN|with_reducible refine aD ?_ ?_|((with_reducible refine Ask.mk ?_);first|exact bw|(exact hl2m)|exact br)|(apply aA;(·(first|exact e3 _|exact e4 _|exact bm)))|refine aH ?_|((with_reducible refine aB ?_ ?_)<;>intro hc<;>(try simp only[List.length_map,ne_eq,cD] at hc)<;>try(exfalso;omega)))
     refine⟨(⟨lks.set y.toNat (l++[(g.nd x.toNat).cP]),fnds.set y.toNat true,tds++[y]⟩,j+1),by dsimp only;omega,bt,by dsimp only;omega,cH,⟨_,bk⟩,⟨_,by dsimp only;rw[←jq];exact bk⟩,⟨_,gE E2 y true,bk, ?_⟩,⟨_,by dsimp only;rw[←fV];exact bk⟩,hT3.cE cH (fun b h1 h2=>bu),by simp[hll2],by simp[hfl2], ?_, ?_,hto⟩
     ·intro z hz
      rw[gT,HS.qk (s:=⟨lks,fnds,tds⟩) (by rw[hfl2];exact k1)]
      by_cases hzy:z=y
      ·rw[if_pos hzy,if_pos (by rw[hzy])];rfl
      ·rw[if_neg hzy,if_neg (by omega)];exact hE2 z hz
     ·simp only[List.length_append,List.length_cons,List.length_nil];omega
     ·intro i
      rw[dE]
      split
      ·exact hnl
      ·exact hlen2 i
   ·have:j=(g.nd x.toNat).fold.length:=by omega
    subst this
    rw[List.drop_eq_nil_of_le (Nat.le_refl _),cm] at hto
    have hnx2:=hnx _ _ hnow (by rw[hfh];exact hto.symm)
    repeat' (first|((with_reducible refine aE ?_);conv=>whnf)|refine aG ?_|exact aC|with_reducible refine aD ?_ ?_|(apply aA;(·exact bm))|refine aH ?_|((with_reducible refine aB ?_ ?_)<;>intro hc<;>(try simp only[List.length_map,ne_eq,cD] at hc)<;>try(exfalso;omega)))
    refine⟨(⟨lks,fnds,tds⟩,k+1),by dsimp only;omega,bt,⟨_,_,Wk.refl _ _ _,cH,⟨_,bk⟩,⟨_,bk⟩,⟨_,E2,bk,hE2⟩,⟨_,bk⟩,hnx2,by dsimp only;omega,hlen2, ?_⟩⟩
    rw[←hrun,hfh,←hto]
    dsimp only
    congr 1
    omega
  ·by_cases h6:(g.nd x.toNat).kind=6
   ·rcases List.eq_nil_or_concat l with rfl|⟨a,y,rfl⟩
    ·have hnow:cq (g.nd x.toNat) []=none:=by unfold cq;rw[if_neg h5,if_pos h6,if_neg (fun h=>h.1 rfl)]
     rw[hnow] at hrun
     dsimp only at hrun
     repeat' (first|((with_reducible refine aE ?_);conv=>whnf)|refine aG ?_|exact cN|with_reducible refine aD ?_ ?_|((with_reducible refine Ask.mk ?_);first|exact bw|(exact hlm)|exact br|(intro h;simp_all[bo.cells,Node.cells]<;>fail)|(simp_all[bo.cells,Node.cells]<;>fail))|(apply aA;(·(first|exact dy x1 _|exact e1 _|exact e2 _|exact bm)))|refine aK (hf) ?_|(simp only[h6])|(apply aF (g:=none);(·exact fun _=>mX _ _))|(apply aF (g:=none);(·exact fun _=>mB _ _ _))|refine aH ?_|((with_reducible refine aB ?_ ?_)<;>intro hc<;>(try simp only[List.length_map,ne_eq,cD] at hc)<;>try(exfalso;omega)))
     exact⟨.inl ⟨x,rfl,hrun.symm⟩⟩
    ·rw[List.concat_eq_append] at *
     have hla:(a++[y]).length=a.length+1:=by simp
     have hml:((a++[y]).map i64).length=a.length+1:=by simp
     have e5:∀d,((a++[y]).map i64).getD (((((a++[y]).map i64).length:Nat):Int) - 1).toNat d=i64 y:=fun d=>by
      rw[hml,show(((a.length+1:Nat):Int) - 1).toNat=a.length by omega,List.map_append]
      simp[List.getD]
     by_cases hy6:y=(g.nd x.toNat).cP
     ·subst hy6
      have hnow:cq (g.nd x.toNat) (a++[(g.nd x.toNat).cP])=some a:=by unfold cq;rw[if_neg h5,if_pos h6,if_pos ⟨by simp,by simp⟩,List.dropLast_concat]
      have hnl:a.length≤k+1:=by omega
      have htk:(((a++[(g.nd x.toNat).cP]).map i64).drop 0).take a.length=a.map i64:=by simp
      rw[hnow] at hrun
      dsimp only at hrun
      repeat' (first|((with_reducible refine aE ?_);conv=>whnf)|refine aG ?_|exact cN|with_reducible refine aD ?_ ?_|((with_reducible refine Ask.mk ?_);first|exact bw|(exact hlm)|exact br|(intro h;simp_all[bo.cells,Node.cells]<;>fail)|(simp_all[bo.cells,Node.cells]<;>fail))|(apply aA;(·(first|exact dy x1 _|exact e1 _|exact e2 _|exact e5 _|exact bm)))|refine aK (hf) ?_|(simp only[h6])|(simp only[htk])|(apply aF (g:=none);(·exact fun _=>mX _ _))|(apply aF (g:=none);(·exact fun _=>mB _ _ _))|refine aH ?_|((with_reducible refine aB ?_ ?_)<;>intro hc<;>(try simp only[List.length_map,ne_eq,cD] at hc)<;>try(exfalso;omega)))
      ·exact absurd hc (by simp;omega)
      clear hf
      try simp only[List.length_map]
      refine aI (fun q:HS×Nat=>[(1, .pt 0 1 0 0),(4, .sl 6 g.nodes.length),(5, .mp 8),(6, .sl 12 q.1.todo.length),(7,i64 k),(10, .im 1 .any (a.map i64)),(78, .im 1 .any ((g.nd x.toNat).fold.map i64)),(79,i64 (g.nd x.toNat).fold.length),(80,i64 q.2)])
       (fun q H2 n2=>q.2≤(g.nd x.toNat).fold.length∧n+15≤n2∧(∃d,bj H2 0=some (.row 40 4 d [g.av]))∧(∃d,bj H2 6=some (.row 89 1 d (q.1.bx.map dO)))∧(∃d E,bj H2 8=some (.row 3 0 d (mapA (lY E)))∧qt E q.1)∧(∃d,bj H2 12=some (.row 3 1 d (q.1.todo.map i64)))∧l3 (.im 1 .any (a.map i64)) (a) H2 n2∧q.1.bx.length=g.nodes.length∧q.1.found.length=g.nodes.length∧q.1.todo.length+q.1.found.count false=g.nodes.length∧(∀i,(q.1.bx.getD i []).length≤k+1)∧cm (a) ((g.nd x.toNat).fold.drop q.2) q.1=cm (a) (g.nd x.toNat).fold s)
       (fun q=>(g.nd x.toNat).fold.length - q.2) (s,0) bt ⟨Nat.zero_le _,cH,⟨_,bk⟩,⟨_,bk⟩,⟨_,E,bk,hE⟩,⟨_,bk⟩,⟨.inl rfl,fun b m h=>by cases h⟩,hI.kH,hI.lW,hI.count,fun i=>Nat.le_succ_of_le (hlen i),rfl⟩ ?_
      clear r0 r6 r8 r12
      rintro⟨⟨lks,fnds,tds⟩,j⟩ H2 n2 ⟨hj,hn2,⟨d02,r0⟩,⟨d62,r6⟩,⟨d82,E2,r8,hE2⟩,⟨d122,r12⟩,hT,hll2,hfl2,hct2,hlen2,hto⟩
      dsimp only at hj hn2 r6 hE2 r12 hT hll2 hfl2 hct2 hlen2 hto ⊢
      by_cases hjl:j<(g.nd x.toNat).fold.length
      ·have hm:=gz.1 (cC 0 hjl)
       obtain⟨k0,k1⟩:=(hw.2.2 x.toNat x1).2.2 _ hm
       have e3:=fun d=>eS (l:=(g.nd x.toNat).fold) hjl d
       rw[fZ _ _ _ hjl] at hto
       generalize hy:(g.nd x.toNat).fold.getD j 0=y at *
       have hl2m:(lks.map dO).length=g.nodes.length:=by simp[hll2]
       have e4:=fun d=>iN (l:=lks) (i:=y) (by rw[hll2];exact k1) d
       have hE3:=hE2 y k0
       have hyc:((y.toNat:Nat):Int)=y:=by omega
       cases hfd:HS.f ⟨lks,fnds,tds⟩ y with
       |true=>
        rw[if_neg (by rw[hfd];decide)] at hto
        rw[hfd] at hE3
        repeat' (first|((with_reducible refine aE ?_);conv=>whnf)|refine aG ?_|exact cN|with_reducible refine aD ?_ ?_|((with_reducible refine Ask.mk ?_);first|exact bw|(exact hl2m)|exact br)|(apply aA;(·(first|exact e3 _|exact e4 _|exact bm)))|(simp only[hE3])|(apply aF (g:=none);(·exact fun _=>mX _ _))|(apply aF (g:=none);(·exact fun _=>mB _ _ _))|refine aH ?_|((with_reducible refine aB ?_ ?_)<;>intro hc<;>(try simp only[List.length_map,ne_eq,cD] at hc)<;>try(exfalso;omega)))
        refine aN (qR (l:=a) ?_ (lks.getD y.toNat []) (by omega) (by have:=hlen2 y.toNat;omega)) ?_
        ·exact(hT.cE cH (fun b h1 h2=>bu)).1
        rintro r1 H3 n3 ⟨hr,rfl,rfl⟩
        by_cases hq:lks.getD y.toNat []=(a)
        ·have hq2:HS.l ⟨lks,fnds,tds⟩ y=(a):=hq
         rw[if_pos hq2] at hto
         have hr1:r1=bl true:=hr.trans (congrArg _ (decide_eq_true hq))
         subst hr1
         repeat' (first|((with_reducible refine aE ?_);conv=>whnf)|refine aG ?_|exact aC|with_reducible refine aD ?_ ?_|(apply aA;(·exact bm))|refine aH ?_|((with_reducible refine aB ?_ ?_)<;>intro hc<;>(try simp only[List.length_map,ne_eq,cD] at hc)<;>try(exfalso;omega)))
         exact⟨(⟨lks,fnds,tds⟩,j+1),by dsimp only;omega,bt,by dsimp only;omega,cH,⟨_,bk⟩,⟨_,bk⟩,⟨_,E2,bk,hE2⟩,⟨_,bk⟩,hT.cE cH (fun b h1 h2=>bu),hll2,hfl2,hct2,hlen2,hto⟩
        ·have hq2:¬HS.l ⟨lks,fnds,tds⟩ y=(a):=hq
         rw[if_neg hq2] at hto
         have hr1:r1=bl false:=hr.trans (congrArg _ (decide_eq_false hq))
         subst hr1
         repeat' (first|((with_reducible refine aE ?_);conv=>whnf)|refine aG ?_|exact aC|with_reducible refine aD ?_ ?_|(apply aA;(·exact bm))|refine aH ?_|((with_reducible refine aB ?_ ?_)<;>intro hc<;>(try simp only[List.length_map,ne_eq,cD] at hc)<;>try(exfalso;omega)))
         exact⟨.inl ⟨y,rfl,by rw[←hrun,hfh,←hto]⟩⟩
       |false=>
        rw[if_pos hfd] at hto
        rw[hfd] at hE3
        have hcts:=count_set (l:=fnds) (i:=y.toNat) (by rw[hfl2];exact k1) hfd
        repeat' (first|((with_reducible refine aE ?_);conv=>whnf)|refine aG ?_|exact cN|with_reducible refine aD ?_ ?_|((with_reducible refine Ask.mk ?_);first|exact bw|(exact hl2m)|exact br)|(apply aA;(·(first|exact e3 _|exact e4 _|exact bm)))|(simp only[hE3])|(apply aF (g:=none);(·exact fun _=>mX _ _))|(apply aF (g:=none);(·exact fun _=>mB _ _ _))|refine aH ?_|((with_reducible refine aB ?_ ?_)<;>intro hc<;>(try simp only[List.length_map,ne_eq,cD] at hc)<;>try(exfalso;omega)))
        refine aN (lG (l:=a) ?_ (by omega)) ?_
        ·exact(hT.cE cH (fun b h1 h2=>bu)).1
        rintro _ H3 n3 ⟨rfl,hn3,hkp⟩
        have hb:∀{p:Prop},p→p:=fun h=>h
        have r03:bj H3 0=some (.row 40 4 d02 [g.av]):=(hkp 0 cH).trans bk
        have r63:bj H3 6=some (.row 89 1 d62 (lks.map dO)):=(hkp 6 cH).trans bk
        have r83:bj H3 8=some (.row 3 0 d82 (mapA (lY (gE E2 y true)))):=(hkp 8 cH).trans bk
        have r123:bj H3 12=some (.row 3 1 d122 (tds.map i64)):=(hkp 12 cH).trans bk
        have hn23:n2<n3:=Nat.lt_of_lt_of_le cH hn3
        have hT3:l3 (.im 1 .any (a.map i64)) (a) H3 n3:=hT.cE (Nat.le_of_lt hn23) (fun b h1 h2=>(hkp b (Nat.lt_of_lt_of_le h2 cH)).trans bu)
        clear hkp hT
        repeat' (first|((with_reducible refine aE ?_);conv=>whnf)|refine aG ?_|exact cN|with_reducible refine aD ?_ ?_|((with_reducible refine Ask.mk ?_);first|exact bw|(exact hl2m)|exact br)|(apply aA;(·(first|exact e3 _|exact e4 _|exact bm)))|refine aH ?_|((with_reducible refine aB ?_ ?_)<;>intro hc<;>(try simp only[List.length_map,ne_eq,cD] at hc)<;>try(exfalso;omega)))
        refine⟨(⟨lks.set y.toNat (a),fnds.set y.toNat true,tds++[y]⟩,j+1),by dsimp only;omega,bt,by dsimp only;omega,cH,⟨_,bk⟩,⟨_,by dsimp only;rw[←jq];exact bk⟩,⟨_,gE E2 y true,bk, ?_⟩,⟨_,by dsimp only;rw[←fV];exact bk⟩,hT3.cE cH (fun b h1 h2=>bu),by simp[hll2],by simp[hfl2], ?_, ?_,hto⟩
        ·intro z hz
         rw[gT,HS.qk (s:=⟨lks,fnds,tds⟩) (by rw[hfl2];exact k1)]
         by_cases hzy:z=y
         ·rw[if_pos hzy,if_pos (by rw[hzy])];rfl
         ·rw[if_neg hzy,if_neg (by omega)];exact hE2 z hz
        ·simp only[List.length_append,List.length_cons,List.length_nil];omega
        ·intro i
         rw[dE]
         split
         ·exact hnl
         ·exact hlen2 i
      ·have:j=(g.nd x.toNat).fold.length:=by omega
       subst this
       rw[List.drop_eq_nil_of_le (Nat.le_refl _),cm] at hto
       have hnx2:=hnx _ _ hnow (by rw[hfh];exact hto.symm)
       repeat' (first|((with_reducible refine aE ?_);conv=>whnf)|refine aG ?_|exact aC|with_reducible refine aD ?_ ?_|(apply aA;(·exact bm))|refine aH ?_|((with_reducible refine aB ?_ ?_)<;>intro hc<;>(try simp only[List.length_map,ne_eq,cD] at hc)<;>try(exfalso;omega)))
       refine⟨(⟨lks,fnds,tds⟩,k+1),by dsimp only;omega,bt,⟨_,_,Wk.refl _ _ _,cH,⟨_,bk⟩,⟨_,bk⟩,⟨_,E2,bk,hE2⟩,⟨_,bk⟩,hnx2,by dsimp only;omega,hlen2, ?_⟩⟩
       rw[←hrun,hfh,←hto]
       dsimp only
       congr 1
       omega
     ·have hnow:cq (g.nd x.toNat) (a++[y])=none:=by unfold cq;rw[if_neg h5,if_pos h6,if_neg (fun h=>hy6 (by simpa using h.2))]
      rw[hnow] at hrun
      dsimp only at hrun
      repeat' (first|((with_reducible refine aE ?_);conv=>whnf)|refine aG ?_|exact cN|with_reducible refine aD ?_ ?_|((with_reducible refine Ask.mk ?_);first|exact bw|(exact hlm)|exact br|(intro h;simp_all[bo.cells,Node.cells]<;>fail)|(simp_all[bo.cells,Node.cells]<;>fail))|(apply aA;(·(first|exact dy x1 _|exact e1 _|exact e2 _|exact e5 _|exact bm)))|refine aK (hf) ?_|(simp only[h6])|(apply aF (g:=none);(·exact fun _=>mX _ _))|(apply aF (g:=none);(·exact fun _=>mB _ _ _))|refine aH ?_|((with_reducible refine aB ?_ ?_)<;>intro hc<;>(try simp only[List.length_map,ne_eq,cD] at hc)<;>try(exfalso;omega)))
      all_goals first|exact absurd hc.2 hy6|exact⟨.inl ⟨x,rfl,hrun.symm⟩⟩
   ·by_cases h9:(g.nd x.toNat).kind=9∧l≠[]
    ·have hnow:cq (g.nd x.toNat) l=none:=by unfold cq;rw[if_neg h5,if_neg h6,if_pos h9.1,if_neg h9.2]
     have hlp:0<l.length:=List.length_pos_iff.2 h9.2
     have h91:=h9.1
     rw[hnow] at hrun
     dsimp only at hrun
     repeat' (first|((with_reducible refine aE ?_);conv=>whnf)|refine aG ?_|exact cN|with_reducible refine aD ?_ ?_|((with_reducible refine Ask.mk ?_);first|exact bw|(exact hlm)|exact br|(intro h;simp_all[bo.cells,Node.cells]<;>fail)|(simp_all[bo.cells,Node.cells]<;>fail))|(apply aA;(·(first|exact dy x1 _|exact e1 _|exact e2 _|exact bm)))|refine aK (hf) ?_|(simp only[h91])|(apply aF (g:=none);(·exact fun _=>mX _ _))|(apply aF (g:=none);(·exact fun _=>mB _ _ _))|refine aH ?_|((with_reducible refine aB ?_ ?_)<;>intro hc<;>(try simp only[List.length_map,ne_eq,cD] at hc)<;>try(exfalso;omega)))
     exact⟨.inl ⟨x,rfl,hrun.symm⟩⟩
    ·by_cases h91:(g.nd x.toNat).kind=9
     ·have hl0:l=[]:=Classical.byContradiction fun h=>h9 ⟨h91,h⟩
      subst hl0
      have hnow:cq (g.nd x.toNat) []=some []:=by unfold cq;rw[if_neg h5,if_neg h6,if_pos h91,if_pos rfl]
      have hnl:([]:List Int).length≤k+1:=Nat.zero_le _
      rw[hnow] at hrun
      dsimp only at hrun
      repeat' (first|((with_reducible refine aE ?_);conv=>whnf)|refine aG ?_|exact cN|with_reducible refine aD ?_ ?_|((with_reducible refine Ask.mk ?_);first|exact bw|(exact hlm)|exact br|(intro h;simp_all[bo.cells,Node.cells]<;>fail)|(simp_all[bo.cells,Node.cells]<;>fail))|(apply aA;(·(first|exact dy x1 _|exact e1 _|exact e2 _|exact bm)))|refine aK (hf) ?_|(simp only[h91])|(apply aF (g:=none);(·exact fun _=>mX _ _))|(apply aF (g:=none);(·exact fun _=>mB _ _ _))|refine aH ?_|((with_reducible refine aB ?_ ?_)<;>intro hc<;>(try simp only[List.length_map,ne_eq,cD] at hc)<;>try(exfalso;omega)))
      clear hf
      try simp only[List.length_map]
      refine aI (fun q:HS×Nat=>[(1, .pt 0 1 0 0),(4, .sl 6 g.nodes.length),(5, .mp 8),(6, .sl 12 q.1.todo.length),(7,i64 k),(10, .im 1 .any (([]:List Int).map i64)),(78, .im 1 .any ((g.nd x.toNat).fold.map i64)),(79,i64 (g.nd x.toNat).fold.length),(80,i64 q.2)])
       (fun q H2 n2=>q.2≤(g.nd x.toNat).fold.length∧n+15≤n2∧(∃d,bj H2 0=some (.row 40 4 d [g.av]))∧(∃d,bj H2 6=some (.row 89 1 d (q.1.bx.map dO)))∧(∃d E,bj H2 8=some (.row 3 0 d (mapA (lY E)))∧qt E q.1)∧(∃d,bj H2 12=some (.row 3 1 d (q.1.todo.map i64)))∧l3 (.im 1 .any (([]:List Int).map i64)) ([]) H2 n2∧q.1.bx.length=g.nodes.length∧q.1.found.length=g.nodes.length∧q.1.todo.length+q.1.found.count false=g.nodes.length∧(∀i,(q.1.bx.getD i []).length≤k+1)∧cm ([]) ((g.nd x.toNat).fold.drop q.2) q.1=cm ([]) (g.nd x.toNat).fold s)
       (fun q=>(g.nd x.toNat).fold.length - q.2) (s,0) bt ⟨Nat.zero_le _,cH,⟨_,bk⟩,⟨_,bk⟩,⟨_,E,bk,hE⟩,⟨_,bk⟩,⟨.inl rfl,fun b m h=>by cases h⟩,hI.kH,hI.lW,hI.count,fun i=>Nat.le_succ_of_le (hlen i),rfl⟩ ?_
      clear r0 r6 r8 r12
      rintro⟨⟨lks,fnds,tds⟩,j⟩ H2 n2 ⟨hj,hn2,⟨d02,r0⟩,⟨d62,r6⟩,⟨d82,E2,r8,hE2⟩,⟨d122,r12⟩,hT,hll2,hfl2,hct2,hlen2,hto⟩
      dsimp only at hj hn2 r6 hE2 r12 hT hll2 hfl2 hct2 hlen2 hto ⊢
      by_cases hjl:j<(g.nd x.toNat).fold.length
      ·have hm:=gz.1 (cC 0 hjl)
       obtain⟨k0,k1⟩:=(hw.2.2 x.toNat x1).2.2 _ hm
       have e3:=fun d=>eS (l:=(g.nd x.toNat).fold) hjl d
       rw[fZ _ _ _ hjl] at hto
       generalize hy:(g.nd x.toNat).fold.getD j 0=y at *
       have hl2m:(lks.map dO).length=g.nodes.length:=by simp[hll2]
       have e4:=fun d=>iN (l:=lks) (i:=y) (by rw[hll2];exact k1) d
       have hE3:=hE2 y k0
       have hyc:((y.toNat:Nat):Int)=y:=by omega
       cases hfd:HS.f ⟨lks,fnds,tds⟩ y with
       |true=>
        rw[if_neg (by rw[hfd];decide)] at hto
        rw[hfd] at hE3
        repeat' (first|((with_reducible refine aE ?_);conv=>whnf)|refine aG ?_|exact cN|with_reducible refine aD ?_ ?_|((with_reducible refine Ask.mk ?_);first|exact bw|(exact hl2m)|exact br)|(apply aA;(·(first|exact e3 _|exact e4 _|exact bm)))|(simp only[hE3])|(apply aF (g:=none);(·exact fun _=>mX _ _))|(apply aF (g:=none);(·exact fun _=>mB _ _ _))|refine aH ?_|((with_reducible refine aB ?_ ?_)<;>intro hc<;>(try simp only[List.length_map,ne_eq,cD] at hc)<;>try(exfalso;omega)))
        refine aN (qR (l:=[]) ?_ (lks.getD y.toNat []) (by omega) (by have:=hlen2 y.toNat;omega)) ?_
        ·exact(hT.cE cH (fun b h1 h2=>bu)).1
        rintro r1 H3 n3 ⟨hr,rfl,rfl⟩
        by_cases hq:lks.getD y.toNat []=([])
        ·have hq2:HS.l ⟨lks,fnds,tds⟩ y=([]):=hq
         rw[if_pos hq2] at hto
         have hr1:r1=bl true:=hr.trans (congrArg _ (decide_eq_true hq))
         subst hr1
         repeat' (first|((with_reducible refine aE ?_);conv=>whnf)|refine aG ?_|exact aC|with_reducible refine aD ?_ ?_|(apply aA;(·exact bm))|refine aH ?_|((with_reducible refine aB ?_ ?_)<;>intro hc<;>(try simp only[List.length_map,ne_eq,cD] at hc)<;>try(exfalso;omega)))
         exact⟨(⟨lks,fnds,tds⟩,j+1),by dsimp only;omega,bt,by dsimp only;omega,cH,⟨_,bk⟩,⟨_,bk⟩,⟨_,E2,bk,hE2⟩,⟨_,bk⟩,hT.cE cH (fun b h1 h2=>bu),hll2,hfl2,hct2,hlen2,hto⟩
        ·have hq2:¬HS.l ⟨lks,fnds,tds⟩ y=([]):=hq
         rw[if_neg hq2] at hto
         have hr1:r1=bl false:=hr.trans (congrArg _ (decide_eq_false hq))
         subst hr1
         repeat' (first|((with_reducible refine aE ?_);conv=>whnf)|refine aG ?_|exact aC|with_reducible refine aD ?_ ?_|(apply aA;(·exact bm))|refine aH ?_|((with_reducible refine aB ?_ ?_)<;>intro hc<;>(try simp only[List.length_map,ne_eq,cD] at hc)<;>try(exfalso;omega)))
         exact⟨.inl ⟨y,rfl,by rw[←hrun,hfh,←hto]⟩⟩
       |false=>
        rw[if_pos hfd] at hto
        rw[hfd] at hE3
        have hcts:=count_set (l:=fnds) (i:=y.toNat) (by rw[hfl2];exact k1) hfd
        repeat' (first|((with_reducible refine aE ?_);conv=>whnf)|refine aG ?_|exact cN|with_reducible refine aD ?_ ?_|((with_reducible refine Ask.mk ?_);first|exact bw|(exact hl2m)|exact br)|(apply aA;(·(first|exact e3 _|exact e4 _|exact bm)))|(simp only[hE3])|(apply aF (g:=none);(·exact fun _=>mX _ _))|(apply aF (g:=none);(·exact fun _=>mB _ _ _))|refine aH ?_|((with_reducible refine aB ?_ ?_)<;>intro hc<;>(try simp only[List.length_map,ne_eq,cD] at hc)<;>try(exfalso;omega)))
        refine aN (lG (l:=[]) ?_ (by omega)) ?_
        ·exact(hT.cE cH (fun b h1 h2=>bu)).1
        rintro _ H3 n3 ⟨rfl,hn3,hkp⟩
        have hb:∀{p:Prop},p→p:=fun h=>h
        have r03:bj H3 0=some (.row 40 4 d02 [g.av]):=(hkp 0 cH).trans bk
        have r63:bj H3 6=some (.row 89 1 d62 (lks.map dO)):=(hkp 6 cH).trans bk
        have r83:bj H3 8=some (.row 3 0 d82 (mapA (lY (gE E2 y true)))):=(hkp 8 cH).trans bk
        have r123:bj H3 12=some (.row 3 1 d122 (tds.map i64)):=(hkp 12 cH).trans bk
        have hn23:n2<n3:=Nat.lt_of_lt_of_le cH hn3
        have hT3:l3 (.im 1 .any (([]:List Int).map i64)) ([]) H3 n3:=hT.cE (Nat.le_of_lt hn23) (fun b h1 h2=>(hkp b (Nat.lt_of_lt_of_le h2 cH)).trans bu)
        clear hkp hT
        repeat' (first|((with_reducible refine aE ?_);conv=>whnf)|refine aG ?_|exact cN|with_reducible refine aD ?_ ?_|((with_reducible refine Ask.mk ?_);first|exact bw|(exact hl2m)|exact br)|(apply aA;(·(first|exact e3 _|exact e4 _|exact bm)))|refine aH ?_|((with_reducible refine aB ?_ ?_)<;>intro hc<;>(try simp only[List.length_map,ne_eq,cD] at hc)<;>try(exfalso;omega)))
        refine⟨(⟨lks.set y.toNat ([]),fnds.set y.toNat true,tds++[y]⟩,j+1),by dsimp only;omega,bt,by dsimp only;omega,cH,⟨_,bk⟩,⟨_,by dsimp only;rw[←jq];exact bk⟩,⟨_,gE E2 y true,bk, ?_⟩,⟨_,by dsimp only;rw[←fV];exact bk⟩,hT3.cE cH (fun b h1 h2=>bu),by simp[hll2],by simp[hfl2], ?_, ?_,hto⟩
        ·intro z hz
         rw[gT,HS.qk (s:=⟨lks,fnds,tds⟩) (by rw[hfl2];exact k1)]
         by_cases hzy:z=y
         ·rw[if_pos hzy,if_pos (by rw[hzy])];rfl
         ·rw[if_neg hzy,if_neg (by omega)];exact hE2 z hz
        ·simp only[List.length_append,List.length_cons,List.length_nil];omega
        ·intro i
         rw[dE]
         split
         ·exact hnl
         ·exact hlen2 i
      ·have:j=(g.nd x.toNat).fold.length:=by omega
       subst this
       rw[List.drop_eq_nil_of_le (Nat.le_refl _),cm] at hto
       have hnx2:=hnx _ _ hnow (by rw[hfh];exact hto.symm)
       repeat' (first|((with_reducible refine aE ?_);conv=>whnf)|refine aG ?_|exact aC|with_reducible refine aD ?_ ?_|(apply aA;(·exact bm))|refine aH ?_|((with_reducible refine aB ?_ ?_)<;>intro hc<;>(try simp only[List.length_map,ne_eq,cD] at hc)<;>try(exfalso;omega)))
       refine⟨(⟨lks,fnds,tds⟩,k+1),by dsimp only;omega,bt,⟨_,_,Wk.refl _ _ _,cH,⟨_,bk⟩,⟨_,bk⟩,⟨_,E2,bk,hE2⟩,⟨_,bk⟩,hnx2,by dsimp only;omega,hlen2, ?_⟩⟩
       rw[←hrun,hfh,←hto]
       dsimp only
       congr 1
       omega
     ·have hnow:cq (g.nd x.toNat) l=some l:=by unfold cq;rw[if_neg h5,if_neg h6,if_neg h91]
      have hnl:l.length≤k+1:=by omega
      rw[hnow] at hrun
      dsimp only at hrun
      repeat' (first|((with_reducible refine aE ?_);conv=>whnf)|refine aG ?_|exact cN|with_reducible refine aD ?_ ?_|((with_reducible refine Ask.mk ?_);first|exact bw|(exact hlm)|exact br|(intro h;simp_all[bo.cells,Node.cells]<;>fail)|(simp_all[bo.cells,Node.cells]<;>fail))|(apply aA;(·(first|exact dy x1 _|exact e1 _|exact e2 _|exact bm)))|refine aK (hf) ?_|(simp only[h5])|(simp only[h6])|(simp only[h91])|(apply aF (g:=none);(·exact fun _=>mX _ _))|(apply aF (g:=none);(·exact fun _=>mB _ _ _))|refine aH ?_|((with_reducible refine aB ?_ ?_)<;>intro hc<;>(try simp only[List.length_map,ne_eq,cD] at hc)<;>try(exfalso;omega)))
      clear hf
      try simp only[List.length_map]
      refine aI (fun q:HS×Nat=>[(1, .pt 0 1 0 0),(4, .sl 6 g.nodes.length),(5, .mp 8),(6, .sl 12 q.1.todo.length),(7,i64 k),(10, .im 1 .any (l.map i64)),(78, .im 1 .any ((g.nd x.toNat).fold.map i64)),(79,i64 (g.nd x.toNat).fold.length),(80,i64 q.2)])
       (fun q H2 n2=>q.2≤(g.nd x.toNat).fold.length∧n+15≤n2∧(∃d,bj H2 0=some (.row 40 4 d [g.av]))∧(∃d,bj H2 6=some (.row 89 1 d (q.1.bx.map dO)))∧(∃d E,bj H2 8=some (.row 3 0 d (mapA (lY E)))∧qt E q.1)∧(∃d,bj H2 12=some (.row 3 1 d (q.1.todo.map i64)))∧l3 (.im 1 .any (l.map i64)) (l) H2 n2∧q.1.bx.length=g.nodes.length∧q.1.found.length=g.nodes.length∧q.1.todo.length+q.1.found.count false=g.nodes.length∧(∀i,(q.1.bx.getD i []).length≤k+1)∧cm (l) ((g.nd x.toNat).fold.drop q.2) q.1=cm (l) (g.nd x.toNat).fold s)
       (fun q=>(g.nd x.toNat).fold.length - q.2) (s,0) bt ⟨Nat.zero_le _,cH,⟨_,bk⟩,⟨_,bk⟩,⟨_,E,bk,hE⟩,⟨_,bk⟩,⟨.inl rfl,fun b m h=>by cases h⟩,hI.kH,hI.lW,hI.count,fun i=>Nat.le_succ_of_le (hlen i),rfl⟩ ?_
      clear r0 r6 r8 r12
      rintro⟨⟨lks,fnds,tds⟩,j⟩ H2 n2 ⟨hj,hn2,⟨d02,r0⟩,⟨d62,r6⟩,⟨d82,E2,r8,hE2⟩,⟨d122,r12⟩,hT,hll2,hfl2,hct2,hlen2,hto⟩
      dsimp only at hj hn2 r6 hE2 r12 hT hll2 hfl2 hct2 hlen2 hto ⊢
      by_cases hjl:j<(g.nd x.toNat).fold.length
      ·have hm:=gz.1 (cC 0 hjl)
       obtain⟨k0,k1⟩:=(hw.2.2 x.toNat x1).2.2 _ hm
       have e3:=fun d=>eS (l:=(g.nd x.toNat).fold) hjl d
       rw[fZ _ _ _ hjl] at hto
       generalize hy:(g.nd x.toNat).fold.getD j 0=y at *
       have hl2m:(lks.map dO).length=g.nodes.length:=by simp[hll2]
       have e4:=fun d=>iN (l:=lks) (i:=y) (by rw[hll2];exact k1) d
       have hE3:=hE2 y k0
       have hyc:((y.toNat:Nat):Int)=y:=by omega
       cases hfd:HS.f ⟨lks,fnds,tds⟩ y with
       |true=>
        rw[if_neg (by rw[hfd];decide)] at hto
        rw[hfd] at hE3
        repeat' (first|((with_reducible refine aE ?_);conv=>whnf)|refine aG ?_|exact cN|with_reducible refine aD ?_ ?_|((with_reducible refine Ask.mk ?_);first|exact bw|(exact hl2m)|exact br)|(apply aA;(·(first|exact e3 _|exact e4 _|exact bm)))|(simp only[hE3])|(apply aF (g:=none);(·exact fun _=>mX _ _))|(apply aF (g:=none);(·exact fun _=>mB _ _ _))|refine aH ?_|((with_reducible refine aB ?_ ?_)<;>intro hc<;>(try simp only[List.length_map,ne_eq,cD] at hc)<;>try(exfalso;omega)))
        refine aN (qR (l:=l) ?_ (lks.getD y.toNat []) (by omega) (by have:=hlen2 y.toNat;omega)) ?_
        ·exact(hT.cE cH (fun b h1 h2=>bu)).1
        rintro r1 H3 n3 ⟨hr,rfl,rfl⟩
        by_cases hq:lks.getD y.toNat []=(l)
        ·have hq2:HS.l ⟨lks,fnds,tds⟩ y=(l):=hq
         rw[if_pos hq2] at hto
         have hr1:r1=bl true:=hr.trans (congrArg _ (decide_eq_true hq))
         subst hr1
         repeat' (first|((with_reducible refine aE ?_);conv=>whnf)|refine aG ?_|exact aC|with_reducible refine aD ?_ ?_|(apply aA;(·exact bm))|refine aH ?_|((with_reducible refine aB ?_ ?_)<;>intro hc<;>(try simp only[List.length_map,ne_eq,cD] at hc)<;>try(exfalso;omega)))
         exact⟨(⟨lks,fnds,tds⟩,j+1),by dsimp only;omega,bt,by dsimp only;omega,cH,⟨_,bk⟩,⟨_,bk⟩,⟨_,E2,bk,hE2⟩,⟨_,bk⟩,hT.cE cH (fun b h1 h2=>bu),hll2,hfl2,hct2,hlen2,hto⟩
        ·have hq2:¬HS.l ⟨lks,fnds,tds⟩ y=(l):=hq
         rw[if_neg hq2] at hto
         have hr1:r1=bl false:=hr.trans (congrArg _ (decide_eq_false hq))
         subst hr1
         repeat' (first|((with_reducible refine aE ?_);conv=>whnf)|refine aG ?_|exact aC|with_reducible refine aD ?_ ?_|(apply aA;(·exact bm))|refine aH ?_|((with_reducible refine aB ?_ ?_)<;>intro hc<;>(try simp only[List.length_map,ne_eq,cD] at hc)<;>try(exfalso;omega)))
         exact⟨.inl ⟨y,rfl,by rw[←hrun,hfh,←hto]⟩⟩
       |false=>
        rw[if_pos hfd] at hto
        rw[hfd] at hE3
        have hcts:=count_set (l:=fnds) (i:=y.toNat) (by rw[hfl2];exact k1) hfd
        repeat' (first|((with_reducible refine aE ?_);conv=>whnf)|refine aG ?_|exact cN|with_reducible refine aD ?_ ?_|((with_reducible refine Ask.mk ?_);first|exact bw|(exact hl2m)|exact br)|(apply aA;(·(first|exact e3 _|exact e4 _|exact bm)))|(simp only[hE3])|(apply aF (g:=none);(·exact fun _=>mX _ _))|(apply aF (g:=none);(·exact fun _=>mB _ _ _))|refine aH ?_|((with_reducible refine aB ?_ ?_)<;>intro hc<;>(try simp only[List.length_map,ne_eq,cD] at hc)<;>try(exfalso;omega)))
        refine aN (lG (l:=l) ?_ (by omega)) ?_
        ·exact(hT.cE cH (fun b h1 h2=>bu)).1
        rintro _ H3 n3 ⟨rfl,hn3,hkp⟩
        have hb:∀{p:Prop},p→p:=fun h=>h
        have r03:bj H3 0=some (.row 40 4 d02 [g.av]):=(hkp 0 cH).trans bk
        have r63:bj H3 6=some (.row 89 1 d62 (lks.map dO)):=(hkp 6 cH).trans bk
        have r83:bj H3 8=some (.row 3 0 d82 (mapA (lY (gE E2 y true)))):=(hkp 8 cH).trans bk
        have r123:bj H3 12=some (.row 3 1 d122 (tds.map i64)):=(hkp 12 cH).trans bk
        have hn23:n2<n3:=Nat.lt_of_lt_of_le cH hn3
        have hT3:l3 (.im 1 .any (l.map i64)) (l) H3 n3:=hT.cE (Nat.le_of_lt hn23) (fun b h1 h2=>(hkp b (Nat.lt_of_lt_of_le h2 cH)).trans bu)
        clear hkp hT
        repeat' (first|((with_reducible refine aE ?_);conv=>whnf)|refine aG ?_|exact cN|with_reducible refine aD ?_ ?_|((with_reducible refine Ask.mk ?_);first|exact bw|(exact hl2m)|exact br)|(apply aA;(·(first|exact e3 _|exact e4 _|exact bm)))|refine aH ?_|((with_reducible refine aB ?_ ?_)<;>intro hc<;>(try simp only[List.length_map,ne_eq,cD] at hc)<;>try(exfalso;omega)))
        refine⟨(⟨lks.set y.toNat (l),fnds.set y.toNat true,tds++[y]⟩,j+1),by dsimp only;omega,bt,by dsimp only;omega,cH,⟨_,bk⟩,⟨_,by dsimp only;rw[←jq];exact bk⟩,⟨_,gE E2 y true,bk, ?_⟩,⟨_,by dsimp only;rw[←fV];exact bk⟩,hT3.cE cH (fun b h1 h2=>bu),by simp[hll2],by simp[hfl2], ?_, ?_,hto⟩
        ·intro z hz
         rw[gT,HS.qk (s:=⟨lks,fnds,tds⟩) (by rw[hfl2];exact k1)]
         by_cases hzy:z=y
         ·rw[if_pos hzy,if_pos (by rw[hzy])];rfl
         ·rw[if_neg hzy,if_neg (by omega)];exact hE2 z hz
        ·simp only[List.length_append,List.length_cons,List.length_nil];omega
        ·intro i
         rw[dE]
         split
         ·exact hnl
         ·exact hlen2 i
      ·have:j=(g.nd x.toNat).fold.length:=by omega
       subst this
       rw[List.drop_eq_nil_of_le (Nat.le_refl _),cm] at hto
       have hnx2:=hnx _ _ hnow (by rw[hfh];exact hto.symm)
       repeat' (first|((with_reducible refine aE ?_);conv=>whnf)|refine aG ?_|exact aC|with_reducible refine aD ?_ ?_|(apply aA;(·exact bm))|refine aH ?_|((with_reducible refine aB ?_ ?_)<;>intro hc<;>(try simp only[List.length_map,ne_eq,cD] at hc)<;>try(exfalso;omega)))
       refine⟨(⟨lks,fnds,tds⟩,k+1),by dsimp only;omega,bt,⟨_,_,Wk.refl _ _ _,cH,⟨_,bk⟩,⟨_,bk⟩,⟨_,E2,bk,hE2⟩,⟨_,bk⟩,hnx2,by dsimp only;omega,hlen2, ?_⟩⟩
       rw[←hrun,hfh,←hto]
       dsimp only
       congr 1
       omega
 ·have hkt:s.todo.length≤k:=by omega
  have hrun2:cr g=(s.bx,-1):=by
   rw[←hrun,show g.nodes.length+1 - k=(g.nodes.length - k)+1 by omega,fA,if_neg hk]
  repeat' (first|((with_reducible refine aE ?_);conv=>whnf)|refine aG ?_|exact aC|with_reducible refine aD ?_ ?_|(apply aA;(·exact bm))|refine aH ?_|((with_reducible refine aB ?_ ?_)<;>intro hc<;>(try simp only[List.length_map,ne_eq,cD] at hc)<;>try(exfalso;omega)))
  exact⟨.inr ⟨6,d6,s.bx,by rw[hI.kH],hrun2,bk⟩⟩
theorem tP (g:bo) (hg:g.Wf) (hw:Whole g):Pure Tryz.prog 53 [g.av] (fun r=>r=jC (cr g)):=by
 have h:=AE g hg hw
 have fL:∀L:List (List Int),cL 0 (L.map dO):=fun L=>(cJ _ _).2 fun _ _=>by simp[dO,cG,cJ]
 have fh:∀r,cG 0 (jC r):=fun r=>by simp only[jC,cG,cL];exact⟨fL _,trivial,trivial⟩
 by_cases hc:(cr g).1=[]
 ·refine mT (u:= .dI [.sc (.slice none 0 0),i64 (cr g).2]) (pure_or (h.mono ?_) (by simp[cG,cL]) (fh _)) (fh _) fun c=> ?_
  ·rintro r H n (⟨a,rfl,e⟩|⟨b,d,L,rfl,e,hb⟩)
   ·left;rw[e];exact dB _ (by simp[cG,cL])
   ·right
    rw[e]
    have e1:ch.dk H 6 (.dI [.sl b L.length,i64 (-1)])= .dI [ch.dk H 5 (.sl b L.length),i64 (-1)]:=by
     simp only[dk,List.map_cons,List.map_nil]
    rw[e1,dH hb (by simp),ca _ (fL L)]
    rfl
  ·unfold jC
   rw[hc]
   intro v hv
   rw[VR] at hv ⊢
   obtain⟨vs,rfl,hv⟩:=hv
   refine⟨vs,rfl, ?_⟩
   rw[cY] at hv ⊢
   obtain⟨v1,vs1,e1,h1,h2⟩:=hv
   exact⟨v1,vs1,e1,ch.dZ.lx c c 1 .any _ h1,h2⟩
 ·refine cT (h.mono ?_) (fh _)
  rintro r H n (⟨a,rfl,e⟩|⟨b,d,L,rfl,e,hb⟩)
  ·rw[e] at hc;exact absurd rfl hc
  ·rw[e]
   have e1:ch.dk H 6 (.dI [.sl b L.length,i64 (-1)])= .dI [ch.dk H 5 (.sl b L.length),i64 (-1)]:=by
    simp only[dk,List.map_cons,List.map_nil]
   rw[e1,dH hb (by simp),ca _ (fL L)]
   rfl
end Go.Proofs.YtmonponfppdgfaaGreatDoor
end
