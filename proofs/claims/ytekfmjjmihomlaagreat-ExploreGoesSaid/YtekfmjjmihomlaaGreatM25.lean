import Derived.Test.YtekfmjjmihomlaaGreatM23
import Derived.Test.YtekfmjjmihomlaaGreatM24
import Derived.Lib.TrailingZeros
section
/- What is reached: the walk. -/
namespace Go.Proofs.YtekfmjjmihomlaaGreat
open Go Go.cO Go.Proofs
set_option linter.unusedSimpArgs false
set_option linter.unusedVariables false
theorem wB {α:Type} (F:List Int→α) (n:Node) (h:n.kind=8→F [n.next,n.next]=F [n.next]):F n.fold=F n.oq:=by
 unfold Node.fold Node.oq
 by_cases h9:n.kind=9
 ·rw[if_pos h9,if_pos h9]
 ·rw[if_neg h9,if_neg h9]
  by_cases h8:n.kind=8
  ·rw[if_pos h8]
   by_cases he:n.og=n.next
   ·rw[if_neg (fun h=>h.2 he),he,h h8]
   ·rw[if_pos ⟨h8,he⟩]
  ·rw[if_neg h8,if_neg (fun h=>h8 h.1)]
theorem jv (l:List Int) (k:Int):l.map i64++[i64 k]=(l++[k]).map i64:=by simp
end Go.Proofs.YtekfmjjmihomlaaGreat
end
section
/- The locks held: the walk. -/
namespace Go.Proofs.YtekfmjjmihomlaaGreat
open Go Go.cO Go.Proofs
set_option linter.unusedSimpArgs false
set_option linter.unusedVariables false
abbrev np (E:List (Int×Bool)):List AV:=nF (fun n:Int=>Value.int .i64 n) bl E
theorem lG (E:List (Int×Bool)) (t:Int):sH false (.int .i64 t) (np E) (bl false)=some (bl ((eA E t).getD false),(eA E t).isSome):=(wT CD bl t E (bl false)).trans (by cases eA E t<;>rfl)
theorem kb (E:List (Int×Bool)) (t:Int) (v:Bool):ui false (.int .i64 t) (np E) (bl v)=some (np (gT E t v)):=wU CD bl t v E
def ot (E:List (Int×Bool)) (s:HS):Prop:=∀k:Int,0≤k→(eA E k).getD false=s.f k
theorem pD {l:List (List Int)} {i:Int} (h:i.toNat<l.length) (d:AV):(l.map iC).getD i.toNat d=iC (l.getD i.toNat []):=dJ iC l _ d h
theorem oE {l:List (List Int)} {i:Nat} (v:List Int):(l.map iC).set i (iC v)=(l.set i v).map iC:=by rw[List.map_set]
theorem rv {g:cC} {f k:Nat} {s:HS} (hk:k<s.todo.length):jT g (f+1) s k=(match du (g.nd (s.todo.getD k 0).toNat) (s.l (s.todo.getD k 0)) with
 |none=>([],s.todo.getD k 0)
 |some now=>match dS now (g.nd (s.todo.getD k 0).toNat).oq s with
  | .inl s'=>jT g f s' (k+1)
  | .inr at_=>([],at_)):=by rw[jT,if_pos hk];rfl
def pB (r:List (List Int)×Int):AV:= .dc [.im 1 .any (r.1.map iC),i64 r.2]
theorem CC {l:List Int} {k:Nat} (h:k<l.length) (d:AV):(l.map i64).getD ((k:Int)).toNat d=i64 (l.getD k 0):=pE h d
theorem CB (l:List Int) {H:Hp}:[AV.im 1 .any (l.map i64)].map (cO.dR H 6)=[AV.im 1 .any (l.map i64)]:=by
 rw[List.map_cons,List.map_nil,dB 6 (by simp[bx,bz])]
theorem iK (now l:List Int) (s:HS) {j:Nat} (h:j<l.length):dS now (l.drop j) s=if s.f (l.getD j 0)=false then dS now (l.drop (j+1)) ⟨s.cB.set (l.getD j 0).toNat now,s.found.set (l.getD j 0).toNat true,s.todo++[l.getD j 0]⟩ else if s.l (l.getD j 0)=now then dS now (l.drop (j+1)) s else .inr (l.getD j 0):=by
 rw[List.drop_eq_getElem_cons h,dS,gd h]
theorem ry (now:List Int) (a:Int) (s:HS) (h:a.toNat<s.found.length) (hl:s.cB.length=s.found.length):dS now [a,a] s=dS now [a] s:=by
 simp only[dS]
 by_cases h1:s.f a=false
 ·rw[if_pos h1,if_pos h1,if_neg (by rw[HS.qX h];simp),if_pos (by rw[HS.II (by rw[hl];exact h)];simp)]
 ·simp only[if_neg h1]
  by_cases h2:s.l a=now
  ·simp only[if_pos h2]
  ·simp only[if_neg h2]
theorem zH {g:cC} (hw:Whole g) {i:Nat} (hi:i<g.nodes.length) {now:List Int} {s:HS} (hl:s.cB.length=g.nodes.length) (hf:s.found.length=g.nodes.length):dS now (g.nd i).oq s=dS now (g.nd i).fold s:=
 (wB (fun l=>dS now l s) (g.nd i) fun h8=>ry now _ s (by
  rw[hf]
  refine((hw.2.2 i hi).2.2 _ ?_).2
  unfold Node.oq
  rw[if_neg (by omega),if_pos h8];simp) (by rw[hl,hf])).symm
def jg (nv:AV) (l:List Int) (H:Hp) (nx:Nat):Prop:=Told nv l H nx∧∀b m,nv= .sl b m→12<b
theorem Told.cE {nv:AV} {l:List Int} {H H2:Hp} {nx nx2:Nat} (h:Told nv l H nx) (hn:nx≤nx2) (hb:∀b m,nv= .sl b m→12<b) (hk:∀b,12<b→b<nx→bd H2 b=bd H b):Told nv l H2 nx2:=by
 rcases h with h|⟨b,d,h1,h2,h3⟩
 ·exact .inl h
 ·exact .inr ⟨b,d,h1,by omega,(hk b (hb _ _ h1) h2).trans h3⟩
theorem jg.cE {nv:AV} {l:List Int} {H H2:Hp} {nx nx2:Nat} (h:jg nv l H nx) (hn:nx≤nx2) (hk:∀b,12<b→b<nx→bd H2 b=bd H b):jg nv l H2 nx2:=⟨h.1.cE hn h.2 hk,h.2⟩
set_option maxRecDepth 8000 in
set_option maxHeartbeats 8000000 in
theorem zY (g:cC) (hg:g.Wf) (hw:Whole g):cD Tryz.prog 80 [g.av] [] 0 (fun r H n=>(∃a,r= .dc [.sc (.slice none 0 0),i64 a]∧jt g=([],a))∨∃b d L,r= .dc [.sl b L.length,i64 (-1)]∧jt g=(L,-1)∧bd H b=some (.row 53 1 d (L.map iC))):=by
 have hl:=hg.len
 have hl0:=hw.1
 have hl1:=hw.2.1
 refine aQ DE rfl ?_
 repeat' (first|((with_reducible refine aF ?_);conv=>whnf)|refine aG ?_|exact gJ|with_reducible refine aD ?_ ?_|((with_reducible refine Ask.mk ?_);first|exact dj|exact cy|(intro h;simp_all[cC.cells]<;>fail)|(simp_all[cC.cells]<;>fail))|(apply aA;(·exact cI))|(apply aP (g:=none);(·exact fun _=>kb [] _ _))|refine aH ?_|((with_reducible refine aB ?_ ?_)<;>intro hc<;>(try simp only[List.length_map,ne_eq,db] at hc)<;>try(exfalso;omega)))
 simp only[List.length_map,Int.toNat_natCast]
 refine bB (fun s:HS×Nat=>[(1, .pt 0 1 0 0),(4, .sl 6 g.nodes.length),(5, .mp 8),(6, .sl 12 s.1.todo.length),(7,i64 s.2)])
  (fun s H n=>15≤n∧(∃d,bd H 0=some (.row 64 4 d [g.av]))∧(∃d,bd H 6=some (.row 53 1 d (s.1.cB.map iC)))∧(∃d E,bd H 8=some (.row 3 0 d (mapA (np E)))∧ot E s.1)∧(∃d,bd H 12=some (.row 3 1 d (s.1.todo.map i64)))∧HI g s.1 s.2∧s.2≤g.nodes.length∧(∀i,(s.1.cB.getD i []).length≤s.2)∧jT g (g.nodes.length+1 - s.2) s.1 s.2=jt g)
  (fun s=>g.nodes.length+1 - s.2) (tc g,0) cJ ⟨_,_,Wk.LY (b:=6) (e:=53) (sz:=1) (es:=List.replicate g.nodes.length (.sc (.slice none 0 0))) (d:= .sc (.slice none 0 0)) .any bg (es2:=(tc g).cB.map iC) (by simp[tc]) (fun c c2 _ _=> ?_),cW,⟨_,bg⟩,⟨_,bg⟩,⟨_,gT [] 0 true,bg, ?_⟩,⟨_,bg⟩,HI.start hw,Nat.zero_le _, ?_,rfl⟩ ?_
 ·simp only[tc,List.map_replicate]
  exact cm.rep (dA.ql c c2 1 .any) _
 ·intro y hy
  have:=jS (l:=List.replicate g.nodes.length false) (i:=0) (by simp;omega) y
  show _=mY ((List.replicate g.nodes.length false).set 0 true) y
  rw[this]
  by_cases e:y=0
  ·subst e;rfl
  ·rw[if_neg (by omega)]
   show(eA [(0,true)] y).getD false=_
   simp only[eA,if_neg e,Option.getD_none,mY,List.getD,List.getElem?_replicate]
   split<;>rfl
 ·intro i
  simp only[tc,List.getD,List.getElem?_replicate];split<;>exact Nat.zero_le _
 rintro⟨s,k⟩ H n ⟨hn,⟨d0,r0⟩,⟨d6,r6⟩,⟨d8,E,r8,hE⟩,⟨d12,r12⟩,hI,hkl,hlen,hrun⟩
 dsimp only at r6 r12 hI hkl hlen hrun hE ⊢
 have hct:=hI.count
 by_cases hk:k<s.todo.length
 ·obtain⟨x0,x1,x2⟩:=hI.inr _ (cU (0:Int) hk)
  have hll:=hI.nB
  have hcnt:=hI.count
  have hlm:(s.cB.map iC).length=g.nodes.length:=by simp[hll]
  have e1:=fun d=>CC hk d
  have e2:=fun d=>pD (l:=s.cB) (i:=s.todo.getD k 0) (by rw[hll];exact x1) d
  have hlk:=hlen (s.todo.getD k 0).toNat
  rw[show g.nodes.length+1 - k=(g.nodes.length - k)+1 by omega,rv hk] at hrun
  have hnx:=fun now s'=>hI.next hw hk (now:=now) (s':=s')
  unfold HS.l at hrun hnx
  generalize hx:s.todo.getD k 0=x at *
  have hf:=rn (g.nd x.toNat)
  unfold iC at hf
  generalize hl0:s.cB.getD x.toNat []=l at *
  have hfl:=BQ (g.nd x.toNat)
  have hfh:=fun now=>zH hw x1 (now:=now) (s:=s) hI.nB hI.nn
  by_cases h5:(g.nd x.toNat).kind=5
  ·have hnow:du (g.nd x.toNat) l=some (l++[(g.nd x.toNat).cH]):=by unfold du;rw[if_pos h5]
   have hnl:(l++[(g.nd x.toNat).cH]).length≤k+1:=by rw[List.length_append];exact Nat.succ_le_succ hlk
   rw[hnow] at hrun
   dsimp only at hrun
   repeat' (first|((with_reducible refine aF ?_);conv=>whnf)|refine aG ?_|exact gJ|with_reducible refine aD ?_ ?_|((with_reducible refine Ask.mk ?_);first|exact dj|(exact hlm)|(refine A5 (m:=1) rfl ?_;simp only[List.length_map];omega)|exact cy|(intro h;simp_all[cC.cells,Node.cells]<;>fail)|(simp_all[cC.cells,Node.cells]<;>fail))|(apply aA;(·(first|exact kr x1 _|exact e1 _|exact e2 _|exact cI)))|refine aK (hf) ?_|(simp only[h5])|((refine ak [] .any (ko (es:=l.map i64) (by rw[List.length_map];omega)) (fun i hi=>by rw[dJ i64 _ _ _ (by simpa using hi)];trivial) (fun _ _=>CB l) (by simp[cN,bx,bz]) ?_))|(apply aP (g:=none);(·exact fun _=>lG _ _))|(apply aP (g:=none);(·exact fun _=>kb _ _ _))|refine aH ?_|((with_reducible refine aB ?_ ?_)<;>intro hc<;>(try simp only[List.length_map,ne_eq,db] at hc)<;>try(exfalso;omega)))
   clear hf
   simp only[List.length_map]
   refine aR (fun q:HS×Nat=>[(1, .pt 0 1 0 0),(4, .sl 6 g.nodes.length),(5, .mp 8),(6, .sl 12 q.1.todo.length),(7,i64 k),(10, .sl (n+26) (l++[(g.nd x.toNat).cH]).length),(78, .im 1 .any ((g.nd x.toNat).fold.map i64)),(79,i64 (g.nd x.toNat).fold.length),(80,i64 q.2)])
    (fun q H2 n2=>q.2≤(g.nd x.toNat).fold.length∧n+15≤n2∧(∃d,bd H2 0=some (.row 64 4 d [g.av]))∧(∃d,bd H2 6=some (.row 53 1 d (q.1.cB.map iC)))∧(∃d E,bd H2 8=some (.row 3 0 d (mapA (np E)))∧ot E q.1)∧(∃d,bd H2 12=some (.row 3 1 d (q.1.todo.map i64)))∧jg (.sl (n+26) (l++[(g.nd x.toNat).cH]).length) (l++[(g.nd x.toNat).cH]) H2 n2∧q.1.cB.length=g.nodes.length∧q.1.found.length=g.nodes.length∧q.1.todo.length+q.1.found.count false=g.nodes.length∧(∀i,(q.1.cB.getD i []).length≤k+1)∧dS (l++[(g.nd x.toNat).cH]) ((g.nd x.toNat).fold.drop q.2) q.1=dS (l++[(g.nd x.toNat).cH]) (g.nd x.toNat).fold s)
    (fun q=>(g.nd x.toNat).fold.length - q.2) (s,0) cJ ⟨Nat.zero_le _,cW,⟨_,bg⟩,⟨_,bg⟩,⟨_,E,bg,hE⟩,⟨_,bg⟩,⟨.inr ⟨n+26,_,rfl,cW,by rw[←jv];exact bg⟩,fun b m h=>by cases h;omega⟩,hI.nB,hI.nn,hI.count,fun i=>Nat.le_succ_of_le (hlen i),rfl⟩ ?_
   clear r0 r6 r8 r12
   rintro⟨⟨lks,fnds,tds⟩,j⟩ H2 n2 ⟨hj,hn2,⟨d02,r0⟩,⟨d62,r6⟩,⟨d82,E2,r8,hE2⟩,⟨d122,r12⟩,hT,hll2,hfl2,hct2,hlen2,hto⟩
   dsimp only at hj hn2 r6 hE2 r12 hT hll2 hfl2 hct2 hlen2 hto ⊢
   by_cases hjl:j<(g.nd x.toNat).fold.length
   ·have hm:=mB.1 (cU 0 hjl)
    obtain⟨k0,k1⟩:=(hw.2.2 x.toNat x1).2.2 _ hm
    have e3:=fun d=>pE (l:=(g.nd x.toNat).fold) hjl d
    rw[iK _ _ _ hjl] at hto
    generalize hy:(g.nd x.toNat).fold.getD j 0=y at *
    have hl2m:(lks.map iC).length=g.nodes.length:=by simp[hll2]
    have e4:=fun d=>pD (l:=lks) (i:=y) (by rw[hll2];exact k1) d
    have hE3:=hE2 y k0
    have hyc:((y.toNat:Nat):Int)=y:=by omega
    cases hfd:HS.f ⟨lks,fnds,tds⟩ y with
    |true=>
     rw[if_neg (by rw[hfd];decide)] at hto
     rw[hfd] at hE3
     repeat' (first|((with_reducible refine aF ?_);conv=>whnf)|refine aG ?_|exact gJ|with_reducible refine aD ?_ ?_|((with_reducible refine Ask.mk ?_);first|exact dj|(exact hl2m)|exact cy)|(apply aA;(·(first|exact e3 _|exact e4 _|exact cI)))|(simp only[hE3])|(apply aP (g:=none);(·exact fun _=>lG _ _))|(apply aP (g:=none);(·exact fun _=>kb _ _ _))|refine aH ?_|((with_reducible refine aB ?_ ?_)<;>intro hc<;>(try simp only[List.length_map,ne_eq,db] at hc)<;>try(exfalso;omega)))
     refine aJ (oI (l:=l++[(g.nd x.toNat).cH]) ?_ (lks.getD y.toNat []) (by omega) (by have:=hlen2 y.toNat;omega)) ?_
     ·exact(hT.cE cW (fun b h1 h2=>bq)).1
     rintro r1 H3 n3 ⟨hr,rfl,rfl⟩
     by_cases hq:lks.getD y.toNat []=(l++[(g.nd x.toNat).cH])
     ·have hq2:HS.l ⟨lks,fnds,tds⟩ y=(l++[(g.nd x.toNat).cH]):=hq
      rw[if_pos hq2] at hto
      have hr1:r1=bl true:=hr.trans (congrArg _ (decide_eq_true hq))
      subst hr1
      repeat' (first|((with_reducible refine aF ?_);conv=>whnf)|refine aG ?_|exact aC|with_reducible refine aD ?_ ?_|(apply aA;(·exact cI))|refine aH ?_|((with_reducible refine aB ?_ ?_)<;>intro hc<;>(try simp only[List.length_map,ne_eq,db] at hc)<;>try(exfalso;omega)))
      exact⟨(⟨lks,fnds,tds⟩,j+1),by dsimp only;omega,cJ,by dsimp only;omega,cW,⟨_,bg⟩,⟨_,bg⟩,⟨_,E2,bg,hE2⟩,⟨_,bg⟩,hT.cE cW (fun b h1 h2=>bq),hll2,hfl2,hct2,hlen2,hto⟩
     ·have hq2:¬HS.l ⟨lks,fnds,tds⟩ y=(l++[(g.nd x.toNat).cH]):=hq
      rw[if_neg hq2] at hto
      have hr1:r1=bl false:=hr.trans (congrArg _ (decide_eq_false hq))
      subst hr1
      repeat' (first|((with_reducible refine aF ?_);conv=>whnf)|refine aG ?_|exact aC|with_reducible refine aD ?_ ?_|(apply aA;(·exact cI))|refine aH ?_|((with_reducible refine aB ?_ ?_)<;>intro hc<;>(try simp only[List.length_map,ne_eq,db] at hc)<;>try(exfalso;omega)))
      exact⟨.inl ⟨y,rfl,by rw[←hrun,hfh,←hto]⟩⟩
    |false=>
     rw[if_pos hfd] at hto
     rw[hfd] at hE3
     have hcts:=count_set (l:=fnds) (i:=y.toNat) (by rw[hfl2];exact k1) hfd
     repeat' (first|((with_reducible refine aF ?_);conv=>whnf)|refine aG ?_|exact gJ|with_reducible refine aD ?_ ?_|((with_reducible refine Ask.mk ?_);first|exact dj|(exact hl2m)|exact cy)|(apply aA;(·(first|exact e3 _|exact e4 _|exact cI)))|(simp only[hE3])|(apply aP (g:=none);(·exact fun _=>lG _ _))|(apply aP (g:=none);(·exact fun _=>kb _ _ _))|refine aH ?_|((with_reducible refine aB ?_ ?_)<;>intro hc<;>(try simp only[List.length_map,ne_eq,db] at hc)<;>try(exfalso;omega)))
     refine aJ (j3 (l:=l++[(g.nd x.toNat).cH]) ?_ (by omega)) ?_
     ·exact(hT.cE cW (fun b h1 h2=>bq)).1
     rintro _ H3 n3 ⟨rfl,hn3,hkp⟩
     have hb:∀{p:Prop},p→p:=fun h=>h
     have r03:bd H3 0=some (.row 64 4 d02 [g.av]):=(hkp 0 cW).trans bg
     have r63:bd H3 6=some (.row 53 1 d62 (lks.map iC)):=(hkp 6 cW).trans bg
     have r83:bd H3 8=some (.row 3 0 d82 (mapA (np (gT E2 y true)))):=(hkp 8 cW).trans bg
     have r123:bd H3 12=some (.row 3 1 d122 (tds.map i64)):=(hkp 12 cW).trans bg
     have hn23:n2<n3:=Nat.lt_of_lt_of_le cW hn3
     have hT3:jg (.sl (n+26) (l++[(g.nd x.toNat).cH]).length) (l++[(g.nd x.toNat).cH]) H3 n3:=hT.cE (Nat.le_of_lt hn23) (fun b h1 h2=>(hkp b (Nat.lt_of_lt_of_le h2 cW)).trans bq)
     clear hkp hT
     repeat' (first|((with_reducible refine aF ?_);conv=>whnf)|refine aG ?_|exact gJ|with_reducible refine aD ?_ ?_|((with_reducible refine Ask.mk ?_);first|exact dj|(exact hl2m)|exact cy)|(apply aA;(·(first|exact e3 _|exact e4 _|exact cI)))|refine aH ?_|((with_reducible refine aB ?_ ?_)<;>intro hc<;>(try simp only[List.length_map,ne_eq,db] at hc)<;>try(exfalso;omega)))
     refine⟨(⟨lks.set y.toNat (l++[(g.nd x.toNat).cH]),fnds.set y.toNat true,tds++[y]⟩,j+1),by dsimp only;omega,cJ,by dsimp only;omega,cW,⟨_,bg⟩,⟨_,by dsimp only;rw[←oE];exact bg⟩,⟨_,gT E2 y true,bg, ?_⟩,⟨_,by dsimp only;rw[←jv];exact bg⟩,hT3.cE cW (fun b h1 h2=>bq),by simp[hll2],by simp[hfl2], ?_, ?_,hto⟩
     ·intro z hz
      rw[jw,HS.qX (s:=⟨lks,fnds,tds⟩) (by rw[hfl2];exact k1)]
      by_cases hzy:z=y
      ·rw[if_pos hzy,if_pos (by rw[hzy])];rfl
      ·rw[if_neg hzy,if_neg (by omega)];exact hE2 z hz
     ·simp only[List.length_append,List.length_cons,List.length_nil];omega
     ·intro i
      rw[eR]
      split
      ·exact hnl
      ·exact hlen2 i
   ·have:j=(g.nd x.toNat).fold.length:=by omega
    subst this
    rw[List.drop_eq_nil_of_le (Nat.le_refl _),dS] at hto
    have hnx2:=hnx _ _ hnow (by rw[hfh];exact hto.symm)
    repeat' (first|((with_reducible refine aF ?_);conv=>whnf)|refine aG ?_|exact aC|with_reducible refine aD ?_ ?_|(apply aA;(·exact cI))|refine aH ?_|((with_reducible refine aB ?_ ?_)<;>intro hc<;>(try simp only[List.length_map,ne_eq,db] at hc)<;>try(exfalso;omega)))
    refine⟨(⟨lks,fnds,tds⟩,k+1),by dsimp only;omega,cJ,⟨_,_,Wk.refl _ _ _,cW,⟨_,bg⟩,⟨_,bg⟩,⟨_,E2,bg,hE2⟩,⟨_,bg⟩,hnx2,by dsimp only;omega,hlen2, ?_⟩⟩
    rw[←hrun,hfh,←hto]
    dsimp only
    congr 1
    omega
  ·by_cases h6:(g.nd x.toNat).kind=6
   ·rcases List.eq_nil_or_concat l with rfl|⟨a,y,rfl⟩
    ·have hnow:du (g.nd x.toNat) []=none:=by unfold du;rw[if_neg h5,if_pos h6,if_neg (fun h=>h.1 rfl)]
     rw[hnow] at hrun
     dsimp only at hrun
     repeat' (first|((with_reducible refine aF ?_);conv=>whnf)|refine aG ?_|exact gJ|with_reducible refine aD ?_ ?_|((with_reducible refine Ask.mk ?_);first|exact dj|(exact hlm)|exact cy|(intro h;simp_all[cC.cells,Node.cells]<;>fail)|(simp_all[cC.cells,Node.cells]<;>fail))|(apply aA;(·(first|exact kr x1 _|exact e1 _|exact e2 _|exact cI)))|refine aK (hf) ?_|(simp only[h6])|(apply aP (g:=none);(·exact fun _=>lG _ _))|(apply aP (g:=none);(·exact fun _=>kb _ _ _))|refine aH ?_|((with_reducible refine aB ?_ ?_)<;>intro hc<;>(try simp only[List.length_map,ne_eq,db] at hc)<;>try(exfalso;omega)))
     exact⟨.inl ⟨x,rfl,hrun.symm⟩⟩
    ·rw[List.concat_eq_append] at *
     have hla:(a++[y]).length=a.length+1:=by simp
     have hml:((a++[y]).map i64).length=a.length+1:=by simp
     have e5:∀d,((a++[y]).map i64).getD (((((a++[y]).map i64).length:Nat):Int) - 1).toNat d=i64 y:=fun d=>by
      rw[hml,show(((a.length+1:Nat):Int) - 1).toNat=a.length by omega,List.map_append]
      simp[List.getD]
     by_cases hy6:y=(g.nd x.toNat).cH
     ·subst hy6
      have hnow:du (g.nd x.toNat) (a++[(g.nd x.toNat).cH])=some a:=by unfold du;rw[if_neg h5,if_pos h6,if_pos ⟨by simp,by simp⟩,List.dropLast_concat]
      have hnl:a.length≤k+1:=by omega
      have htk:(((a++[(g.nd x.toNat).cH]).map i64).drop 0).take a.length=a.map i64:=by simp
      rw[hnow] at hrun
      dsimp only at hrun
      repeat' (first|((with_reducible refine aF ?_);conv=>whnf)|refine aG ?_|exact gJ|with_reducible refine aD ?_ ?_|((with_reducible refine Ask.mk ?_);first|exact dj|(exact hlm)|exact cy|(intro h;simp_all[cC.cells,Node.cells]<;>fail)|(simp_all[cC.cells,Node.cells]<;>fail))|(apply aA;(·(first|exact kr x1 _|exact e1 _|exact e2 _|exact e5 _|exact cI)))|refine aK (hf) ?_|(simp only[h6])|(simp only[htk])|(apply aP (g:=none);(·exact fun _=>lG _ _))|(apply aP (g:=none);(·exact fun _=>kb _ _ _))|refine aH ?_|((with_reducible refine aB ?_ ?_)<;>intro hc<;>(try simp only[List.length_map,ne_eq,db] at hc)<;>try(exfalso;omega)))
      ·exact absurd hc (by simp;omega)
      clear hf
      try simp only[List.length_map]
      refine aR (fun q:HS×Nat=>[(1, .pt 0 1 0 0),(4, .sl 6 g.nodes.length),(5, .mp 8),(6, .sl 12 q.1.todo.length),(7,i64 k),(10, .im 1 .any (a.map i64)),(78, .im 1 .any ((g.nd x.toNat).fold.map i64)),(79,i64 (g.nd x.toNat).fold.length),(80,i64 q.2)])
       (fun q H2 n2=>q.2≤(g.nd x.toNat).fold.length∧n+15≤n2∧(∃d,bd H2 0=some (.row 64 4 d [g.av]))∧(∃d,bd H2 6=some (.row 53 1 d (q.1.cB.map iC)))∧(∃d E,bd H2 8=some (.row 3 0 d (mapA (np E)))∧ot E q.1)∧(∃d,bd H2 12=some (.row 3 1 d (q.1.todo.map i64)))∧jg (.im 1 .any (a.map i64)) (a) H2 n2∧q.1.cB.length=g.nodes.length∧q.1.found.length=g.nodes.length∧q.1.todo.length+q.1.found.count false=g.nodes.length∧(∀i,(q.1.cB.getD i []).length≤k+1)∧dS (a) ((g.nd x.toNat).fold.drop q.2) q.1=dS (a) (g.nd x.toNat).fold s)
       (fun q=>(g.nd x.toNat).fold.length - q.2) (s,0) cJ ⟨Nat.zero_le _,cW,⟨_,bg⟩,⟨_,bg⟩,⟨_,E,bg,hE⟩,⟨_,bg⟩,⟨.inl rfl,fun b m h=>by cases h⟩,hI.nB,hI.nn,hI.count,fun i=>Nat.le_succ_of_le (hlen i),rfl⟩ ?_
      clear r0 r6 r8 r12
      rintro⟨⟨lks,fnds,tds⟩,j⟩ H2 n2 ⟨hj,hn2,⟨d02,r0⟩,⟨d62,r6⟩,⟨d82,E2,r8,hE2⟩,⟨d122,r12⟩,hT,hll2,hfl2,hct2,hlen2,hto⟩
      dsimp only at hj hn2 r6 hE2 r12 hT hll2 hfl2 hct2 hlen2 hto ⊢
      by_cases hjl:j<(g.nd x.toNat).fold.length
      ·have hm:=mB.1 (cU 0 hjl)
       obtain⟨k0,k1⟩:=(hw.2.2 x.toNat x1).2.2 _ hm
       have e3:=fun d=>pE (l:=(g.nd x.toNat).fold) hjl d
       rw[iK _ _ _ hjl] at hto
       generalize hy:(g.nd x.toNat).fold.getD j 0=y at *
       have hl2m:(lks.map iC).length=g.nodes.length:=by simp[hll2]
       have e4:=fun d=>pD (l:=lks) (i:=y) (by rw[hll2];exact k1) d
       have hE3:=hE2 y k0
       have hyc:((y.toNat:Nat):Int)=y:=by omega
       cases hfd:HS.f ⟨lks,fnds,tds⟩ y with
       |true=>
        rw[if_neg (by rw[hfd];decide)] at hto
        rw[hfd] at hE3
        repeat' (first|((with_reducible refine aF ?_);conv=>whnf)|refine aG ?_|exact gJ|with_reducible refine aD ?_ ?_|((with_reducible refine Ask.mk ?_);first|exact dj|(exact hl2m)|exact cy)|(apply aA;(·(first|exact e3 _|exact e4 _|exact cI)))|(simp only[hE3])|(apply aP (g:=none);(·exact fun _=>lG _ _))|(apply aP (g:=none);(·exact fun _=>kb _ _ _))|refine aH ?_|((with_reducible refine aB ?_ ?_)<;>intro hc<;>(try simp only[List.length_map,ne_eq,db] at hc)<;>try(exfalso;omega)))
        refine aJ (oI (l:=a) ?_ (lks.getD y.toNat []) (by omega) (by have:=hlen2 y.toNat;omega)) ?_
        ·exact(hT.cE cW (fun b h1 h2=>bq)).1
        rintro r1 H3 n3 ⟨hr,rfl,rfl⟩
        by_cases hq:lks.getD y.toNat []=(a)
        ·have hq2:HS.l ⟨lks,fnds,tds⟩ y=(a):=hq
         rw[if_pos hq2] at hto
         have hr1:r1=bl true:=hr.trans (congrArg _ (decide_eq_true hq))
         subst hr1
         repeat' (first|((with_reducible refine aF ?_);conv=>whnf)|refine aG ?_|exact aC|with_reducible refine aD ?_ ?_|(apply aA;(·exact cI))|refine aH ?_|((with_reducible refine aB ?_ ?_)<;>intro hc<;>(try simp only[List.length_map,ne_eq,db] at hc)<;>try(exfalso;omega)))
         exact⟨(⟨lks,fnds,tds⟩,j+1),by dsimp only;omega,cJ,by dsimp only;omega,cW,⟨_,bg⟩,⟨_,bg⟩,⟨_,E2,bg,hE2⟩,⟨_,bg⟩,hT.cE cW (fun b h1 h2=>bq),hll2,hfl2,hct2,hlen2,hto⟩
        ·have hq2:¬HS.l ⟨lks,fnds,tds⟩ y=(a):=hq
         rw[if_neg hq2] at hto
         have hr1:r1=bl false:=hr.trans (congrArg _ (decide_eq_false hq))
         subst hr1
         repeat' (first|((with_reducible refine aF ?_);conv=>whnf)|refine aG ?_|exact aC|with_reducible refine aD ?_ ?_|(apply aA;(·exact cI))|refine aH ?_|((with_reducible refine aB ?_ ?_)<;>intro hc<;>(try simp only[List.length_map,ne_eq,db] at hc)<;>try(exfalso;omega)))
         exact⟨.inl ⟨y,rfl,by rw[←hrun,hfh,←hto]⟩⟩
       |false=>
        rw[if_pos hfd] at hto
        rw[hfd] at hE3
        have hcts:=count_set (l:=fnds) (i:=y.toNat) (by rw[hfl2];exact k1) hfd
        repeat' (first|((with_reducible refine aF ?_);conv=>whnf)|refine aG ?_|exact gJ|with_reducible refine aD ?_ ?_|((with_reducible refine Ask.mk ?_);first|exact dj|(exact hl2m)|exact cy)|(apply aA;(·(first|exact e3 _|exact e4 _|exact cI)))|(simp only[hE3])|(apply aP (g:=none);(·exact fun _=>lG _ _))|(apply aP (g:=none);(·exact fun _=>kb _ _ _))|refine aH ?_|((with_reducible refine aB ?_ ?_)<;>intro hc<;>(try simp only[List.length_map,ne_eq,db] at hc)<;>try(exfalso;omega)))
        refine aJ (j3 (l:=a) ?_ (by omega)) ?_
        ·exact(hT.cE cW (fun b h1 h2=>bq)).1
        rintro _ H3 n3 ⟨rfl,hn3,hkp⟩
        have hb:∀{p:Prop},p→p:=fun h=>h
        have r03:bd H3 0=some (.row 64 4 d02 [g.av]):=(hkp 0 cW).trans bg
        have r63:bd H3 6=some (.row 53 1 d62 (lks.map iC)):=(hkp 6 cW).trans bg
        have r83:bd H3 8=some (.row 3 0 d82 (mapA (np (gT E2 y true)))):=(hkp 8 cW).trans bg
        have r123:bd H3 12=some (.row 3 1 d122 (tds.map i64)):=(hkp 12 cW).trans bg
        have hn23:n2<n3:=Nat.lt_of_lt_of_le cW hn3
        have hT3:jg (.im 1 .any (a.map i64)) (a) H3 n3:=hT.cE (Nat.le_of_lt hn23) (fun b h1 h2=>(hkp b (Nat.lt_of_lt_of_le h2 cW)).trans bq)
        clear hkp hT
        repeat' (first|((with_reducible refine aF ?_);conv=>whnf)|refine aG ?_|exact gJ|with_reducible refine aD ?_ ?_|((with_reducible refine Ask.mk ?_);first|exact dj|(exact hl2m)|exact cy)|(apply aA;(·(first|exact e3 _|exact e4 _|exact cI)))|refine aH ?_|((with_reducible refine aB ?_ ?_)<;>intro hc<;>(try simp only[List.length_map,ne_eq,db] at hc)<;>try(exfalso;omega)))
        refine⟨(⟨lks.set y.toNat (a),fnds.set y.toNat true,tds++[y]⟩,j+1),by dsimp only;omega,cJ,by dsimp only;omega,cW,⟨_,bg⟩,⟨_,by dsimp only;rw[←oE];exact bg⟩,⟨_,gT E2 y true,bg, ?_⟩,⟨_,by dsimp only;rw[←jv];exact bg⟩,hT3.cE cW (fun b h1 h2=>bq),by simp[hll2],by simp[hfl2], ?_, ?_,hto⟩
        ·intro z hz
         rw[jw,HS.qX (s:=⟨lks,fnds,tds⟩) (by rw[hfl2];exact k1)]
         by_cases hzy:z=y
         ·rw[if_pos hzy,if_pos (by rw[hzy])];rfl
         ·rw[if_neg hzy,if_neg (by omega)];exact hE2 z hz
        ·simp only[List.length_append,List.length_cons,List.length_nil];omega
        ·intro i
         rw[eR]
         split
         ·exact hnl
         ·exact hlen2 i
      ·have:j=(g.nd x.toNat).fold.length:=by omega
       subst this
       rw[List.drop_eq_nil_of_le (Nat.le_refl _),dS] at hto
       have hnx2:=hnx _ _ hnow (by rw[hfh];exact hto.symm)
       repeat' (first|((with_reducible refine aF ?_);conv=>whnf)|refine aG ?_|exact aC|with_reducible refine aD ?_ ?_|(apply aA;(·exact cI))|refine aH ?_|((with_reducible refine aB ?_ ?_)<;>intro hc<;>(try simp only[List.length_map,ne_eq,db] at hc)<;>try(exfalso;omega)))
       refine⟨(⟨lks,fnds,tds⟩,k+1),by dsimp only;omega,cJ,⟨_,_,Wk.refl _ _ _,cW,⟨_,bg⟩,⟨_,bg⟩,⟨_,E2,bg,hE2⟩,⟨_,bg⟩,hnx2,by dsimp only;omega,hlen2, ?_⟩⟩
       rw[←hrun,hfh,←hto]
       dsimp only
       congr 1
       omega
     ·have hnow:du (g.nd x.toNat) (a++[y])=none:=by unfold du;rw[if_neg h5,if_pos h6,if_neg (fun h=>hy6 (by simpa using h.2))]
      rw[hnow] at hrun
      dsimp only at hrun
      repeat' (first|((with_reducible refine aF ?_);conv=>whnf)|refine aG ?_|exact gJ|with_reducible refine aD ?_ ?_|((with_reducible refine Ask.mk ?_);first|exact dj|(exact hlm)|exact cy|(intro h;simp_all[cC.cells,Node.cells]<;>fail)|(simp_all[cC.cells,Node.cells]<;>fail))|(apply aA;(·(first|exact kr x1 _|exact e1 _|exact e2 _|exact e5 _|exact cI)))|refine aK (hf) ?_|(simp only[h6])|(apply aP (g:=none);(·exact fun _=>lG _ _))|(apply aP (g:=none);(·exact fun _=>kb _ _ _))|refine aH ?_|((with_reducible refine aB ?_ ?_)<;>intro hc<;>(try simp only[List.length_map,ne_eq,db] at hc)<;>try(exfalso;omega)))
      all_goals first|exact absurd hc.2 hy6|exact⟨.inl ⟨x,rfl,hrun.symm⟩⟩
   ·by_cases h9:(g.nd x.toNat).kind=9∧l≠[]
    ·have hnow:du (g.nd x.toNat) l=none:=by unfold du;rw[if_neg h5,if_neg h6,if_pos h9.1,if_neg h9.2]
     have hlp:0<l.length:=List.length_pos_iff.2 h9.2
     have h91:=h9.1
     rw[hnow] at hrun
     dsimp only at hrun
     repeat' (first|((with_reducible refine aF ?_);conv=>whnf)|refine aG ?_|exact gJ|with_reducible refine aD ?_ ?_|((with_reducible refine Ask.mk ?_);first|exact dj|(exact hlm)|exact cy|(intro h;simp_all[cC.cells,Node.cells]<;>fail)|(simp_all[cC.cells,Node.cells]<;>fail))|(apply aA;(·(first|exact kr x1 _|exact e1 _|exact e2 _|exact cI)))|refine aK (hf) ?_|(simp only[h91])|(apply aP (g:=none);(·exact fun _=>lG _ _))|(apply aP (g:=none);(·exact fun _=>kb _ _ _))|refine aH ?_|((with_reducible refine aB ?_ ?_)<;>intro hc<;>(try simp only[List.length_map,ne_eq,db] at hc)<;>try(exfalso;omega)))
     exact⟨.inl ⟨x,rfl,hrun.symm⟩⟩
    ·by_cases h91:(g.nd x.toNat).kind=9
     ·have hl0:l=[]:=Classical.byContradiction fun h=>h9 ⟨h91,h⟩
      subst hl0
      have hnow:du (g.nd x.toNat) []=some []:=by unfold du;rw[if_neg h5,if_neg h6,if_pos h91,if_pos rfl]
      have hnl:([]:List Int).length≤k+1:=Nat.zero_le _
      rw[hnow] at hrun
      dsimp only at hrun
      repeat' (first|((with_reducible refine aF ?_);conv=>whnf)|refine aG ?_|exact gJ|with_reducible refine aD ?_ ?_|((with_reducible refine Ask.mk ?_);first|exact dj|(exact hlm)|exact cy|(intro h;simp_all[cC.cells,Node.cells]<;>fail)|(simp_all[cC.cells,Node.cells]<;>fail))|(apply aA;(·(first|exact kr x1 _|exact e1 _|exact e2 _|exact cI)))|refine aK (hf) ?_|(simp only[h91])|(apply aP (g:=none);(·exact fun _=>lG _ _))|(apply aP (g:=none);(·exact fun _=>kb _ _ _))|refine aH ?_|((with_reducible refine aB ?_ ?_)<;>intro hc<;>(try simp only[List.length_map,ne_eq,db] at hc)<;>try(exfalso;omega)))
      clear hf
      try simp only[List.length_map]
      refine aR (fun q:HS×Nat=>[(1, .pt 0 1 0 0),(4, .sl 6 g.nodes.length),(5, .mp 8),(6, .sl 12 q.1.todo.length),(7,i64 k),(10, .im 1 .any (([]:List Int).map i64)),(78, .im 1 .any ((g.nd x.toNat).fold.map i64)),(79,i64 (g.nd x.toNat).fold.length),(80,i64 q.2)])
       (fun q H2 n2=>q.2≤(g.nd x.toNat).fold.length∧n+15≤n2∧(∃d,bd H2 0=some (.row 64 4 d [g.av]))∧(∃d,bd H2 6=some (.row 53 1 d (q.1.cB.map iC)))∧(∃d E,bd H2 8=some (.row 3 0 d (mapA (np E)))∧ot E q.1)∧(∃d,bd H2 12=some (.row 3 1 d (q.1.todo.map i64)))∧jg (.im 1 .any (([]:List Int).map i64)) ([]) H2 n2∧q.1.cB.length=g.nodes.length∧q.1.found.length=g.nodes.length∧q.1.todo.length+q.1.found.count false=g.nodes.length∧(∀i,(q.1.cB.getD i []).length≤k+1)∧dS ([]) ((g.nd x.toNat).fold.drop q.2) q.1=dS ([]) (g.nd x.toNat).fold s)
       (fun q=>(g.nd x.toNat).fold.length - q.2) (s,0) cJ ⟨Nat.zero_le _,cW,⟨_,bg⟩,⟨_,bg⟩,⟨_,E,bg,hE⟩,⟨_,bg⟩,⟨.inl rfl,fun b m h=>by cases h⟩,hI.nB,hI.nn,hI.count,fun i=>Nat.le_succ_of_le (hlen i),rfl⟩ ?_
      clear r0 r6 r8 r12
      rintro⟨⟨lks,fnds,tds⟩,j⟩ H2 n2 ⟨hj,hn2,⟨d02,r0⟩,⟨d62,r6⟩,⟨d82,E2,r8,hE2⟩,⟨d122,r12⟩,hT,hll2,hfl2,hct2,hlen2,hto⟩
      dsimp only at hj hn2 r6 hE2 r12 hT hll2 hfl2 hct2 hlen2 hto ⊢
      by_cases hjl:j<(g.nd x.toNat).fold.length
      ·have hm:=mB.1 (cU 0 hjl)
       obtain⟨k0,k1⟩:=(hw.2.2 x.toNat x1).2.2 _ hm
       have e3:=fun d=>pE (l:=(g.nd x.toNat).fold) hjl d
       rw[iK _ _ _ hjl] at hto
       generalize hy:(g.nd x.toNat).fold.getD j 0=y at *
       have hl2m:(lks.map iC).length=g.nodes.length:=by simp[hll2]
       have e4:=fun d=>pD (l:=lks) (i:=y) (by rw[hll2];exact k1) d
       have hE3:=hE2 y k0
       have hyc:((y.toNat:Nat):Int)=y:=by omega
       cases hfd:HS.f ⟨lks,fnds,tds⟩ y with
       |true=>
        rw[if_neg (by rw[hfd];decide)] at hto
        rw[hfd] at hE3
        repeat' (first|((with_reducible refine aF ?_);conv=>whnf)|refine aG ?_|exact gJ|with_reducible refine aD ?_ ?_|((with_reducible refine Ask.mk ?_);first|exact dj|(exact hl2m)|exact cy)|(apply aA;(·(first|exact e3 _|exact e4 _|exact cI)))|(simp only[hE3])|(apply aP (g:=none);(·exact fun _=>lG _ _))|(apply aP (g:=none);(·exact fun _=>kb _ _ _))|refine aH ?_|((with_reducible refine aB ?_ ?_)<;>intro hc<;>(try simp only[List.length_map,ne_eq,db] at hc)<;>try(exfalso;omega)))
        refine aJ (oI (l:=[]) ?_ (lks.getD y.toNat []) (by omega) (by have:=hlen2 y.toNat;omega)) ?_
        ·exact(hT.cE cW (fun b h1 h2=>bq)).1
        rintro r1 H3 n3 ⟨hr,rfl,rfl⟩
        by_cases hq:lks.getD y.toNat []=([])
        ·have hq2:HS.l ⟨lks,fnds,tds⟩ y=([]):=hq
         rw[if_pos hq2] at hto
         have hr1:r1=bl true:=hr.trans (congrArg _ (decide_eq_true hq))
         subst hr1
         repeat' (first|((with_reducible refine aF ?_);conv=>whnf)|refine aG ?_|exact aC|with_reducible refine aD ?_ ?_|(apply aA;(·exact cI))|refine aH ?_|((with_reducible refine aB ?_ ?_)<;>intro hc<;>(try simp only[List.length_map,ne_eq,db] at hc)<;>try(exfalso;omega)))
         exact⟨(⟨lks,fnds,tds⟩,j+1),by dsimp only;omega,cJ,by dsimp only;omega,cW,⟨_,bg⟩,⟨_,bg⟩,⟨_,E2,bg,hE2⟩,⟨_,bg⟩,hT.cE cW (fun b h1 h2=>bq),hll2,hfl2,hct2,hlen2,hto⟩
        ·have hq2:¬HS.l ⟨lks,fnds,tds⟩ y=([]):=hq
         rw[if_neg hq2] at hto
         have hr1:r1=bl false:=hr.trans (congrArg _ (decide_eq_false hq))
         subst hr1
         repeat' (first|((with_reducible refine aF ?_);conv=>whnf)|refine aG ?_|exact aC|with_reducible refine aD ?_ ?_|(apply aA;(·exact cI))|refine aH ?_|((with_reducible refine aB ?_ ?_)<;>intro hc<;>(try simp only[List.length_map,ne_eq,db] at hc)<;>try(exfalso;omega)))
         exact⟨.inl ⟨y,rfl,by rw[←hrun,hfh,←hto]⟩⟩
       |false=>
        rw[if_pos hfd] at hto
        rw[hfd] at hE3
        have hcts:=count_set (l:=fnds) (i:=y.toNat) (by rw[hfl2];exact k1) hfd
        repeat' (first|((with_reducible refine aF ?_);conv=>whnf)|refine aG ?_|exact gJ|with_reducible refine aD ?_ ?_|((with_reducible refine Ask.mk ?_);first|exact dj|(exact hl2m)|exact cy)|(apply aA;(·(first|exact e3 _|exact e4 _|exact cI)))|(simp only[hE3])|(apply aP (g:=none);(·exact fun _=>lG _ _))|(apply aP (g:=none);(·exact fun _=>kb _ _ _))|refine aH ?_|((with_reducible refine aB ?_ ?_)<;>intro hc<;>(try simp only[List.length_map,ne_eq,db] at hc)<;>try(exfalso;omega)))
        refine aJ (j3 (l:=[]) ?_ (by omega)) ?_
        ·exact(hT.cE cW (fun b h1 h2=>bq)).1
        rintro _ H3 n3 ⟨rfl,hn3,hkp⟩
        have hb:∀{p:Prop},p→p:=fun h=>h
        have r03:bd H3 0=some (.row 64 4 d02 [g.av]):=(hkp 0 cW).trans bg
        have r63:bd H3 6=some (.row 53 1 d62 (lks.map iC)):=(hkp 6 cW).trans bg
        have r83:bd H3 8=some (.row 3 0 d82 (mapA (np (gT E2 y true)))):=(hkp 8 cW).trans bg
        have r123:bd H3 12=some (.row 3 1 d122 (tds.map i64)):=(hkp 12 cW).trans bg
        have hn23:n2<n3:=Nat.lt_of_lt_of_le cW hn3
        have hT3:jg (.im 1 .any (([]:List Int).map i64)) ([]) H3 n3:=hT.cE (Nat.le_of_lt hn23) (fun b h1 h2=>(hkp b (Nat.lt_of_lt_of_le h2 cW)).trans bq)
        clear hkp hT
        repeat' (first|((with_reducible refine aF ?_);conv=>whnf)|refine aG ?_|exact gJ|with_reducible refine aD ?_ ?_|((with_reducible refine Ask.mk ?_);first|exact dj|(exact hl2m)|exact cy)|(apply aA;(·(first|exact e3 _|exact e4 _|exact cI)))|refine aH ?_|((with_reducible refine aB ?_ ?_)<;>intro hc<;>(try simp only[List.length_map,ne_eq,db] at hc)<;>try(exfalso;omega)))
        refine⟨(⟨lks.set y.toNat ([]),fnds.set y.toNat true,tds++[y]⟩,j+1),by dsimp only;omega,cJ,by dsimp only;omega,cW,⟨_,bg⟩,⟨_,by dsimp only;rw[←oE];exact bg⟩,⟨_,gT E2 y true,bg, ?_⟩,⟨_,by dsimp only;rw[←jv];exact bg⟩,hT3.cE cW (fun b h1 h2=>bq),by simp[hll2],by simp[hfl2], ?_, ?_,hto⟩
        ·intro z hz
         rw[jw,HS.qX (s:=⟨lks,fnds,tds⟩) (by rw[hfl2];exact k1)]
         by_cases hzy:z=y
         ·rw[if_pos hzy,if_pos (by rw[hzy])];rfl
         ·rw[if_neg hzy,if_neg (by omega)];exact hE2 z hz
        ·simp only[List.length_append,List.length_cons,List.length_nil];omega
        ·intro i
         rw[eR]
         split
         ·exact hnl
         ·exact hlen2 i
      ·have:j=(g.nd x.toNat).fold.length:=by omega
       subst this
       rw[List.drop_eq_nil_of_le (Nat.le_refl _),dS] at hto
       have hnx2:=hnx _ _ hnow (by rw[hfh];exact hto.symm)
       repeat' (first|((with_reducible refine aF ?_);conv=>whnf)|refine aG ?_|exact aC|with_reducible refine aD ?_ ?_|(apply aA;(·exact cI))|refine aH ?_|((with_reducible refine aB ?_ ?_)<;>intro hc<;>(try simp only[List.length_map,ne_eq,db] at hc)<;>try(exfalso;omega)))
       refine⟨(⟨lks,fnds,tds⟩,k+1),by dsimp only;omega,cJ,⟨_,_,Wk.refl _ _ _,cW,⟨_,bg⟩,⟨_,bg⟩,⟨_,E2,bg,hE2⟩,⟨_,bg⟩,hnx2,by dsimp only;omega,hlen2, ?_⟩⟩
       rw[←hrun,hfh,←hto]
       dsimp only
       congr 1
       omega
     ·have hnow:du (g.nd x.toNat) l=some l:=by unfold du;rw[if_neg h5,if_neg h6,if_neg h91]
      have hnl:l.length≤k+1:=by omega
      rw[hnow] at hrun
      dsimp only at hrun
      repeat' (first|((with_reducible refine aF ?_);conv=>whnf)|refine aG ?_|exact gJ|with_reducible refine aD ?_ ?_|((with_reducible refine Ask.mk ?_);first|exact dj|(exact hlm)|exact cy|(intro h;simp_all[cC.cells,Node.cells]<;>fail)|(simp_all[cC.cells,Node.cells]<;>fail))|(apply aA;(·(first|exact kr x1 _|exact e1 _|exact e2 _|exact cI)))|refine aK (hf) ?_|(simp only[h5])|(simp only[h6])|(simp only[h91])|(apply aP (g:=none);(·exact fun _=>lG _ _))|(apply aP (g:=none);(·exact fun _=>kb _ _ _))|refine aH ?_|((with_reducible refine aB ?_ ?_)<;>intro hc<;>(try simp only[List.length_map,ne_eq,db] at hc)<;>try(exfalso;omega)))
      clear hf
      try simp only[List.length_map]
      refine aR (fun q:HS×Nat=>[(1, .pt 0 1 0 0),(4, .sl 6 g.nodes.length),(5, .mp 8),(6, .sl 12 q.1.todo.length),(7,i64 k),(10, .im 1 .any (l.map i64)),(78, .im 1 .any ((g.nd x.toNat).fold.map i64)),(79,i64 (g.nd x.toNat).fold.length),(80,i64 q.2)])
       (fun q H2 n2=>q.2≤(g.nd x.toNat).fold.length∧n+15≤n2∧(∃d,bd H2 0=some (.row 64 4 d [g.av]))∧(∃d,bd H2 6=some (.row 53 1 d (q.1.cB.map iC)))∧(∃d E,bd H2 8=some (.row 3 0 d (mapA (np E)))∧ot E q.1)∧(∃d,bd H2 12=some (.row 3 1 d (q.1.todo.map i64)))∧jg (.im 1 .any (l.map i64)) (l) H2 n2∧q.1.cB.length=g.nodes.length∧q.1.found.length=g.nodes.length∧q.1.todo.length+q.1.found.count false=g.nodes.length∧(∀i,(q.1.cB.getD i []).length≤k+1)∧dS (l) ((g.nd x.toNat).fold.drop q.2) q.1=dS (l) (g.nd x.toNat).fold s)
       (fun q=>(g.nd x.toNat).fold.length - q.2) (s,0) cJ ⟨Nat.zero_le _,cW,⟨_,bg⟩,⟨_,bg⟩,⟨_,E,bg,hE⟩,⟨_,bg⟩,⟨.inl rfl,fun b m h=>by cases h⟩,hI.nB,hI.nn,hI.count,fun i=>Nat.le_succ_of_le (hlen i),rfl⟩ ?_
      clear r0 r6 r8 r12
      rintro⟨⟨lks,fnds,tds⟩,j⟩ H2 n2 ⟨hj,hn2,⟨d02,r0⟩,⟨d62,r6⟩,⟨d82,E2,r8,hE2⟩,⟨d122,r12⟩,hT,hll2,hfl2,hct2,hlen2,hto⟩
      dsimp only at hj hn2 r6 hE2 r12 hT hll2 hfl2 hct2 hlen2 hto ⊢
      by_cases hjl:j<(g.nd x.toNat).fold.length
      ·have hm:=mB.1 (cU 0 hjl)
       obtain⟨k0,k1⟩:=(hw.2.2 x.toNat x1).2.2 _ hm
       have e3:=fun d=>pE (l:=(g.nd x.toNat).fold) hjl d
       rw[iK _ _ _ hjl] at hto
       generalize hy:(g.nd x.toNat).fold.getD j 0=y at *
       have hl2m:(lks.map iC).length=g.nodes.length:=by simp[hll2]
       have e4:=fun d=>pD (l:=lks) (i:=y) (by rw[hll2];exact k1) d
       have hE3:=hE2 y k0
       have hyc:((y.toNat:Nat):Int)=y:=by omega
       cases hfd:HS.f ⟨lks,fnds,tds⟩ y with
       |true=>
        rw[if_neg (by rw[hfd];decide)] at hto
        rw[hfd] at hE3
        repeat' (first|((with_reducible refine aF ?_);conv=>whnf)|refine aG ?_|exact gJ|with_reducible refine aD ?_ ?_|((with_reducible refine Ask.mk ?_);first|exact dj|(exact hl2m)|exact cy)|(apply aA;(·(first|exact e3 _|exact e4 _|exact cI)))|(simp only[hE3])|(apply aP (g:=none);(·exact fun _=>lG _ _))|(apply aP (g:=none);(·exact fun _=>kb _ _ _))|refine aH ?_|((with_reducible refine aB ?_ ?_)<;>intro hc<;>(try simp only[List.length_map,ne_eq,db] at hc)<;>try(exfalso;omega)))
        refine aJ (oI (l:=l) ?_ (lks.getD y.toNat []) (by omega) (by have:=hlen2 y.toNat;omega)) ?_
        ·exact(hT.cE cW (fun b h1 h2=>bq)).1
        rintro r1 H3 n3 ⟨hr,rfl,rfl⟩
        by_cases hq:lks.getD y.toNat []=(l)
        ·have hq2:HS.l ⟨lks,fnds,tds⟩ y=(l):=hq
         rw[if_pos hq2] at hto
         have hr1:r1=bl true:=hr.trans (congrArg _ (decide_eq_true hq))
         subst hr1
         repeat' (first|((with_reducible refine aF ?_);conv=>whnf)|refine aG ?_|exact aC|with_reducible refine aD ?_ ?_|(apply aA;(·exact cI))|refine aH ?_|((with_reducible refine aB ?_ ?_)<;>intro hc<;>(try simp only[List.length_map,ne_eq,db] at hc)<;>try(exfalso;omega)))
         exact⟨(⟨lks,fnds,tds⟩,j+1),by dsimp only;omega,cJ,by dsimp only;omega,cW,⟨_,bg⟩,⟨_,bg⟩,⟨_,E2,bg,hE2⟩,⟨_,bg⟩,hT.cE cW (fun b h1 h2=>bq),hll2,hfl2,hct2,hlen2,hto⟩
        ·have hq2:¬HS.l ⟨lks,fnds,tds⟩ y=(l):=hq
         rw[if_neg hq2] at hto
         have hr1:r1=bl false:=hr.trans (congrArg _ (decide_eq_false hq))
         subst hr1
         repeat' (first|((with_reducible refine aF ?_);conv=>whnf)|refine aG ?_|exact aC|with_reducible refine aD ?_ ?_|(apply aA;(·exact cI))|refine aH ?_|((with_reducible refine aB ?_ ?_)<;>intro hc<;>(try simp only[List.length_map,ne_eq,db] at hc)<;>try(exfalso;omega)))
         exact⟨.inl ⟨y,rfl,by rw[←hrun,hfh,←hto]⟩⟩
       |false=>
        rw[if_pos hfd] at hto
        rw[hfd] at hE3
        have hcts:=count_set (l:=fnds) (i:=y.toNat) (by rw[hfl2];exact k1) hfd
        repeat' (first|((with_reducible refine aF ?_);conv=>whnf)|refine aG ?_|exact gJ|with_reducible refine aD ?_ ?_|((with_reducible refine Ask.mk ?_);first|exact dj|(exact hl2m)|exact cy)|(apply aA;(·(first|exact e3 _|exact e4 _|exact cI)))|(simp only[hE3])|(apply aP (g:=none);(·exact fun _=>lG _ _))|(apply aP (g:=none);(·exact fun _=>kb _ _ _))|refine aH ?_|((with_reducible refine aB ?_ ?_)<;>intro hc<;>(try simp only[List.length_map,ne_eq,db] at hc)<;>try(exfalso;omega)))
        refine aJ (j3 (l:=l) ?_ (by omega)) ?_
        ·exact(hT.cE cW (fun b h1 h2=>bq)).1
        rintro _ H3 n3 ⟨rfl,hn3,hkp⟩
        have hb:∀{p:Prop},p→p:=fun h=>h
        have r03:bd H3 0=some (.row 64 4 d02 [g.av]):=(hkp 0 cW).trans bg
        have r63:bd H3 6=some (.row 53 1 d62 (lks.map iC)):=(hkp 6 cW).trans bg
        have r83:bd H3 8=some (.row 3 0 d82 (mapA (np (gT E2 y true)))):=(hkp 8 cW).trans bg
        have r123:bd H3 12=some (.row 3 1 d122 (tds.map i64)):=(hkp 12 cW).trans bg
        have hn23:n2<n3:=Nat.lt_of_lt_of_le cW hn3
        have hT3:jg (.im 1 .any (l.map i64)) (l) H3 n3:=hT.cE (Nat.le_of_lt hn23) (fun b h1 h2=>(hkp b (Nat.lt_of_lt_of_le h2 cW)).trans bq)
        clear hkp hT
        repeat' (first|((with_reducible refine aF ?_);conv=>whnf)|refine aG ?_|exact gJ|with_reducible refine aD ?_ ?_|((with_reducible refine Ask.mk ?_);first|exact dj|(exact hl2m)|exact cy)|(apply aA;(·(first|exact e3 _|exact e4 _|exact cI)))|refine aH ?_|((with_reducible refine aB ?_ ?_)<;>intro hc<;>(try simp only[List.length_map,ne_eq,db] at hc)<;>try(exfalso;omega)))
        refine⟨(⟨lks.set y.toNat (l),fnds.set y.toNat true,tds++[y]⟩,j+1),by dsimp only;omega,cJ,by dsimp only;omega,cW,⟨_,bg⟩,⟨_,by dsimp only;rw[←oE];exact bg⟩,⟨_,gT E2 y true,bg, ?_⟩,⟨_,by dsimp only;rw[←jv];exact bg⟩,hT3.cE cW (fun b h1 h2=>bq),by simp[hll2],by simp[hfl2], ?_, ?_,hto⟩
        ·intro z hz
         rw[jw,HS.qX (s:=⟨lks,fnds,tds⟩) (by rw[hfl2];exact k1)]
         by_cases hzy:z=y
         ·rw[if_pos hzy,if_pos (by rw[hzy])];rfl
         ·rw[if_neg hzy,if_neg (by omega)];exact hE2 z hz
        ·simp only[List.length_append,List.length_cons,List.length_nil];omega
        ·intro i
         rw[eR]
         split
         ·exact hnl
         ·exact hlen2 i
      ·have:j=(g.nd x.toNat).fold.length:=by omega
       subst this
       rw[List.drop_eq_nil_of_le (Nat.le_refl _),dS] at hto
       have hnx2:=hnx _ _ hnow (by rw[hfh];exact hto.symm)
       repeat' (first|((with_reducible refine aF ?_);conv=>whnf)|refine aG ?_|exact aC|with_reducible refine aD ?_ ?_|(apply aA;(·exact cI))|refine aH ?_|((with_reducible refine aB ?_ ?_)<;>intro hc<;>(try simp only[List.length_map,ne_eq,db] at hc)<;>try(exfalso;omega)))
       refine⟨(⟨lks,fnds,tds⟩,k+1),by dsimp only;omega,cJ,⟨_,_,Wk.refl _ _ _,cW,⟨_,bg⟩,⟨_,bg⟩,⟨_,E2,bg,hE2⟩,⟨_,bg⟩,hnx2,by dsimp only;omega,hlen2, ?_⟩⟩
       rw[←hrun,hfh,←hto]
       dsimp only
       congr 1
       omega
 ·have hkt:s.todo.length≤k:=by omega
  have hrun2:jt g=(s.cB,-1):=by
   rw[←hrun,show g.nodes.length+1 - k=(g.nodes.length - k)+1 by omega,jT,if_neg hk]
  repeat' (first|((with_reducible refine aF ?_);conv=>whnf)|refine aG ?_|exact aC|with_reducible refine aD ?_ ?_|(apply aA;(·exact cI))|refine aH ?_|((with_reducible refine aB ?_ ?_)<;>intro hc<;>(try simp only[List.length_map,ne_eq,db] at hc)<;>try(exfalso;omega)))
  exact⟨.inr ⟨6,d6,s.cB,by rw[hI.nB],hrun2,bg⟩⟩
theorem zZ (g:cC) (hg:g.Wf) (hw:Whole g):Pure Tryz.prog 80 [g.av] (fun r=>r=pB (jt g)):=by
 have h:=zY g hg hw
 have fL:∀L:List (List Int),cN 0 (L.map iC):=fun L=>(bz _ _).2 fun _ _=>by simp[iC,bx,bz]
 have fh:∀r,bx 0 (pB r):=fun r=>by simp only[pB,bx,cN];exact⟨fL _,trivial,trivial⟩
 by_cases hc:(jt g).1=[]
 ·refine sO (u:= .dc [.sc (.slice none 0 0),i64 (jt g).2]) (pure_or (h.mono ?_) (by simp[bx,cN]) (fh _)) (fh _) fun c=> ?_
  ·rintro r H n (⟨a,rfl,e⟩|⟨b,d,L,rfl,e,hb⟩)
   ·left;rw[e];exact dB _ (by simp[bx,cN])
   ·right
    rw[e]
    have e1:cO.dR H 6 (.dc [.sl b L.length,i64 (-1)])= .dc [cO.dR H 5 (.sl b L.length),i64 (-1)]:=by
     simp only[dR,List.map_cons,List.map_nil]
    rw[e1,dz hb (by simp),dG _ (fL L)]
    rfl
  ·unfold pB
   rw[hc]
   intro v hv
   rw[VR] at hv ⊢
   obtain⟨vs,rfl,hv⟩:=hv
   refine⟨vs,rfl, ?_⟩
   rw[cP] at hv ⊢
   obtain⟨v1,vs1,e1,h1,h2⟩:=hv
   exact⟨v1,vs1,e1,cO.dA.ql c c 1 .any _ h1,h2⟩
 ·refine eX (h.mono ?_) (fh _)
  rintro r H n (⟨a,rfl,e⟩|⟨b,d,L,rfl,e,hb⟩)
  ·rw[e] at hc;exact absurd rfl hc
  ·rw[e]
   have e1:cO.dR H 6 (.dc [.sl b L.length,i64 (-1)])= .dc [cO.dR H 5 (.sl b L.length),i64 (-1)]:=by
    simp only[dR,List.map_cons,List.map_nil]
   rw[e1,dz hb (by simp),dG _ (fL L)]
   rfl
end Go.Proofs.YtekfmjjmihomlaaGreat
end
section
/- How variables are shared, in plain data. -/
namespace Go.Proofs.YtekfmjjmihomlaaGreat
open Go Go.cO Go.Proofs
set_option linter.unusedSimpArgs false
set_option linter.unusedVariables false
def hb (l:List Int):Nat:=l.foldl (fun a k=>a|||2^k.toNat) 0
abbrev ctz (x:Nat):Nat:=Lib.ctz 32 x
def H9:Nat→Nat→List Int
 |0,_=>[]
 |f+1,x=>if x=0 then[] else(ctz x:Int)::H9 f (x&&& (x - 1))
def bits (x:Nat):List Int:=H9 x x
end Go.Proofs.YtekfmjjmihomlaaGreat
end
