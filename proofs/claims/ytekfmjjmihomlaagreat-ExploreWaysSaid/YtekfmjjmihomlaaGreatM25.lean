import Derived.Test.YtekfmjjmihomlaaGreatM23
import Derived.Test.YtekfmjjmihomlaaGreatM24
import Derived.Lib.TrailingZeros
section
/- What is reached: the walk. -/
namespace Go.Proofs.YtekfmjjmihomlaaGreat
open Go Go.cV Go.Proofs
set_option linter.unusedSimpArgs false
set_option linter.unusedVariables false
theorem yM {α:Type} (F:List Int→α) (n:Node) (h:n.kind=8→F [n.next,n.next]=F [n.next]):F n.fold=F n.gC:=by
 unfold Node.fold Node.gC
 by_cases h9:n.kind=9
 ·rw[if_pos h9,if_pos h9]
 ·rw[if_neg h9,if_neg h9]
  by_cases h8:n.kind=8
  ·rw[if_pos h8]
   by_cases he:n.oV=n.next
   ·rw[if_neg (fun h=>h.2 he),he,h h8]
   ·rw[if_pos ⟨h8,he⟩]
  ·rw[if_neg h8,if_neg (fun h=>h8 h.1)]
theorem pV {l:List Bool} {k:Int} (d:AV) (h:k.toNat<l.length):(l.map bl).getD k.toNat d=bl (kd l k):=by
 rw[show kd l k=l.getD k.toNat default from rfl];exact cu bl l _ d h
theorem nQ {l:List Bool} {k:Nat} (v:Bool):(l.map bl).set k (bl v)=(l.set k v).map bl:=by rw[List.map_set]
theorem fx (l:List Int) (k:Int):l.map i64++[i64 k]=(l++[k]).map i64:=by simp
end Go.Proofs.YtekfmjjmihomlaaGreat
end
section
/- The locks held: the walk. -/
namespace Go.Proofs.YtekfmjjmihomlaaGreat
open Go Go.cV Go.Proofs
set_option linter.unusedSimpArgs false
set_option linter.unusedVariables false
abbrev pN (E:List (Int×Bool)):List AV:=oc (fun n:Int=>Value.int .i64 n) bl E
theorem mX (E:List (Int×Bool)) (t:Int):uH false (.int .i64 t) (pN E) (bl false)=some (bl ((eX E t).getD false),(eX E t).isSome):=(ye FT bl t E (bl false)).trans (by cases eX E t<;>rfl)
theorem mF (E:List (Int×Bool)) (t:Int) (v:Bool):wu false (.int .i64 t) (pN E) (bl v)=some (pN (iM E t v)):=yf FT bl t v E
def qU (E:List (Int×Bool)) (s:HS):Prop:=∀k:Int,0≤k→(eX E k).getD false=s.f k
theorem jc {l:List (List Int)} {i:Int} (h:i.toNat<l.length) (d:AV):(l.map fX).getD i.toNat d=fX (l.getD i.toNat []):=cu fX l _ d h
theorem jX {l:List (List Int)} {i:Nat} (v:List Int):(l.map fX).set i (fX v)=(l.set i v).map fX:=by rw[List.map_set]
theorem nb {g:cB} {f k:Nat} {s:HS} (hk:k<s.todo.length):iZ g (f+1) s k=(match dM (g.nd (s.todo.getD k 0).toNat) (s.l (s.todo.getD k 0)) with
 |none=>([],s.todo.getD k 0)
 |some now=>match dL now (g.nd (s.todo.getD k 0).toNat).gC s with
  | .inl s'=>iZ g f s' (k+1)
  | .inr at_=>([],at_)):=by rw[iZ,if_pos hk];rfl
def jb (r:List (List Int)×Int):AV:= .dH [.im 1 .any (r.1.map fX),i64 r.2]
theorem vg {l:List Int} {k:Nat} (h:k<l.length) (d:AV):(l.map i64).getD ((k:Int)).toNat d=i64 (l.getD k 0):=kO h d
theorem FQ (l:List Int) {H:Hp}:[AV.im 1 .any (l.map i64)].map (cV.dR H 6)=[AV.im 1 .any (l.map i64)]:=by
 rw[List.map_cons,List.map_nil,cr 6 (by simp[bw,bu])]
theorem fJ (now l:List Int) (s:HS) {j:Nat} (h:j<l.length):dL now (l.drop j) s=if s.f (l.getD j 0)=false then dL now (l.drop (j+1)) ⟨s.bo.set (l.getD j 0).toNat now,s.found.set (l.getD j 0).toNat true,s.todo++[l.getD j 0]⟩ else if s.l (l.getD j 0)=now then dL now (l.drop (j+1)) s else .inr (l.getD j 0):=by
 rw[List.drop_eq_getElem_cons h,dL,gd h]
theorem tx (now:List Int) (a:Int) (s:HS) (h:a.toNat<s.found.length) (hl:s.bo.length=s.found.length):dL now [a,a] s=dL now [a] s:=by
 simp only[dL]
 by_cases h1:s.f a=false
 ·rw[if_pos h1,if_pos h1,if_neg (by rw[HS.sW h];simp),if_pos (by rw[HS.MH (by rw[hl];exact h)];simp)]
 ·simp only[if_neg h1]
  by_cases h2:s.l a=now
  ·simp only[if_pos h2]
  ·simp only[if_neg h2]
theorem B5 {g:cB} (hw:Whole g) {i:Nat} (hi:i<g.nodes.length) {now:List Int} {s:HS} (hl:s.bo.length=g.nodes.length) (hf:s.found.length=g.nodes.length):dL now (g.nd i).gC s=dL now (g.nd i).fold s:=
 (yM (fun l=>dL now l s) (g.nd i) fun h8=>tx now _ s (by
  rw[hf]
  refine((hw.2.2 i hi).2.2 _ ?_).2
  unfold Node.gC
  rw[if_neg (by omega),if_pos h8];simp) (by rw[hl,hf])).symm
def ku (nv:AV) (l:List Int) (H:Hp) (nx:Nat):Prop:=Told nv l H nx∧∀b m,nv= .sl b m→12<b
theorem Told.cO {nv:AV} {l:List Int} {H H2:Hp} {nx nx2:Nat} (h:Told nv l H nx) (hn:nx≤nx2) (hb:∀b m,nv= .sl b m→12<b) (hk:∀b,12<b→b<nx→bd H2 b=bd H b):Told nv l H2 nx2:=by
 rcases h with h|⟨b,d,h1,h2,h3⟩
 ·exact .inl h
 ·exact .inr ⟨b,d,h1,by omega,(hk b (hb _ _ h1) h2).trans h3⟩
theorem ku.cO {nv:AV} {l:List Int} {H H2:Hp} {nx nx2:Nat} (h:ku nv l H nx) (hn:nx≤nx2) (hk:∀b,12<b→b<nx→bd H2 b=bd H b):ku nv l H2 nx2:=⟨h.1.cO hn h.2 hk,h.2⟩
set_option maxRecDepth 8000 in
set_option maxHeartbeats 8000000 in
theorem CH (g:cB) (hg:g.Wf) (hw:Whole g):cJ Tryz.prog 80 [g.av] [] 0 (fun r H n=>(∃a,r= .dH [.sc (.slice none 0 0),i64 a]∧gV g=([],a))∨∃b d L,r= .dH [.sl b L.length,i64 (-1)]∧gV g=(L,-1)∧bd H b=some (.row 53 1 d (L.map fX))):=by
 have hl:=hg.len
 have hl0:=hw.1
 have hl1:=hw.2.1
 refine aQ G6 rfl ?_
 repeat' (first|((with_reducible refine aF ?_);conv=>whnf)|refine aG ?_|exact eO|with_reducible refine aD ?_ ?_|((with_reducible refine Ask.mk ?_);first|exact cw|exact cT|(intro h;simp_all[cB.cells]<;>fail)|(simp_all[cB.cells]<;>fail))|(apply aA;(·exact cA))|(apply aR (g:=none);(·exact fun _=>mF [] _ _))|refine aH ?_|((with_reducible refine aB ?_ ?_)<;>intro hc<;>(try simp only[List.length_map,ne_eq,dC] at hc)<;>try(exfalso;omega)))
 simp only[List.length_map,Int.toNat_natCast]
 refine aa (fun s:HS×Nat=>[(1, .pt 0 1 0 0),(4, .sl 6 g.nodes.length),(5, .mp 8),(6, .sl 12 s.1.todo.length),(7,i64 s.2)])
  (fun s H n=>15≤n∧(∃d,bd H 0=some (.row 64 4 d [g.av]))∧(∃d,bd H 6=some (.row 53 1 d (s.1.bo.map fX)))∧(∃d E,bd H 8=some (.row 3 0 d (mapA (pN E)))∧qU E s.1)∧(∃d,bd H 12=some (.row 3 1 d (s.1.todo.map i64)))∧HI g s.1 s.2∧s.2≤g.nodes.length∧(∀i,(s.1.bo.getD i []).length≤s.2)∧iZ g (g.nodes.length+1 - s.2) s.1 s.2=gV g)
  (fun s=>g.nodes.length+1 - s.2) (p6 g,0) cC ⟨_,_,Wk.OC (b:=6) (e:=53) (sz:=1) (es:=List.replicate g.nodes.length (.sc (.slice none 0 0))) (d:= .sc (.slice none 0 0)) .any bf (es2:=(p6 g).bo.map fX) (by simp[p6]) (fun c c2 _ _=> ?_),cU,⟨_,bf⟩,⟨_,bf⟩,⟨_,iM [] 0 true,bf, ?_⟩,⟨_,bf⟩,HI.start hw,Nat.zero_le _, ?_,rfl⟩ ?_
 ·simp only[p6,List.map_replicate]
  exact dA.rep (dQ.jy c c2 1 .any) _
 ·intro y hy
  have:=kM (l:=List.replicate g.nodes.length false) (i:=0) (by simp;omega) y
  show _=kd ((List.replicate g.nodes.length false).set 0 true) y
  rw[this]
  by_cases e:y=0
  ·subst e;rfl
  ·rw[if_neg (by omega)]
   show(eX [(0,true)] y).getD false=_
   simp only[eX,if_neg e,Option.getD_none,kd,List.getD,List.getElem?_replicate]
   split<;>rfl
 ·intro i
  simp only[p6,List.getD,List.getElem?_replicate];split<;>exact Nat.zero_le _
 rintro⟨s,k⟩ H n ⟨hn,⟨d0,r0⟩,⟨d6,r6⟩,⟨d8,E,r8,hE⟩,⟨d12,r12⟩,hI,hkl,hlen,hrun⟩
 dsimp only at r6 r12 hI hkl hlen hrun hE ⊢
 have hct:=hI.count
 by_cases hk:k<s.todo.length
 ·obtain⟨x0,x1,x2⟩:=hI.inr _ (cX (0:Int) hk)
  have hll:=hI.kS
  have hcnt:=hI.count
  have hlm:(s.bo.map fX).length=g.nodes.length:=by simp[hll]
  have e1:=fun d=>vg hk d
  have e2:=fun d=>jc (l:=s.bo) (i:=s.todo.getD k 0) (by rw[hll];exact x1) d
  have hlk:=hlen (s.todo.getD k 0).toNat
  rw[show g.nodes.length+1 - k=(g.nodes.length - k)+1 by omega,nb hk] at hrun
  have hnx:=fun now s'=>hI.next hw hk (now:=now) (s':=s')
  unfold HS.l at hrun hnx
  generalize hx:s.todo.getD k 0=x at *
  have hf:=tw (g.nd x.toNat)
  unfold fX at hf
  generalize hl0:s.bo.getD x.toNat []=l at *
  have hfl:=E6 (g.nd x.toNat)
  have hfh:=fun now=>B5 hw x1 (now:=now) (s:=s) hI.kS hI.mD
  by_cases h5:(g.nd x.toNat).kind=5
  ·have hnow:dM (g.nd x.toNat) l=some (l++[(g.nd x.toNat).bx]):=by unfold dM;rw[if_pos h5]
   have hnl:(l++[(g.nd x.toNat).bx]).length≤k+1:=by rw[List.length_append];exact Nat.succ_le_succ hlk
   rw[hnow] at hrun
   dsimp only at hrun
   repeat' (first|((with_reducible refine aF ?_);conv=>whnf)|refine aG ?_|exact eO|with_reducible refine aD ?_ ?_|((with_reducible refine Ask.mk ?_);first|exact cw|(exact hlm)|(refine kG (m:=1) rfl ?_;simp only[List.length_map];omega)|exact cT|(intro h;simp_all[cB.cells,Node.cells]<;>fail)|(simp_all[cB.cells,Node.cells]<;>fail))|(apply aA;(·(first|exact gb x1 _|exact e1 _|exact e2 _|exact cA)))|refine aK (hf) ?_|(simp only[h5])|((refine aq [] .any (mJ (es:=l.map i64) (by rw[List.length_map];omega)) (fun i hi=>by rw[cu i64 _ _ _ (by simpa using hi)];trivial) (fun _ _=>FQ l) (by simp[cP,bw,bu]) ?_))|(apply aR (g:=none);(·exact fun _=>mX _ _))|(apply aR (g:=none);(·exact fun _=>mF _ _ _))|refine aH ?_|((with_reducible refine aB ?_ ?_)<;>intro hc<;>(try simp only[List.length_map,ne_eq,dC] at hc)<;>try(exfalso;omega)))
   clear hf
   simp only[List.length_map]
   refine aP (fun q:HS×Nat=>[(1, .pt 0 1 0 0),(4, .sl 6 g.nodes.length),(5, .mp 8),(6, .sl 12 q.1.todo.length),(7,i64 k),(10, .sl (n+26) (l++[(g.nd x.toNat).bx]).length),(78, .im 1 .any ((g.nd x.toNat).fold.map i64)),(79,i64 (g.nd x.toNat).fold.length),(80,i64 q.2)])
    (fun q H2 n2=>q.2≤(g.nd x.toNat).fold.length∧n+15≤n2∧(∃d,bd H2 0=some (.row 64 4 d [g.av]))∧(∃d,bd H2 6=some (.row 53 1 d (q.1.bo.map fX)))∧(∃d E,bd H2 8=some (.row 3 0 d (mapA (pN E)))∧qU E q.1)∧(∃d,bd H2 12=some (.row 3 1 d (q.1.todo.map i64)))∧ku (.sl (n+26) (l++[(g.nd x.toNat).bx]).length) (l++[(g.nd x.toNat).bx]) H2 n2∧q.1.bo.length=g.nodes.length∧q.1.found.length=g.nodes.length∧q.1.todo.length+q.1.found.count false=g.nodes.length∧(∀i,(q.1.bo.getD i []).length≤k+1)∧dL (l++[(g.nd x.toNat).bx]) ((g.nd x.toNat).fold.drop q.2) q.1=dL (l++[(g.nd x.toNat).bx]) (g.nd x.toNat).fold s)
    (fun q=>(g.nd x.toNat).fold.length - q.2) (s,0) cC ⟨Nat.zero_le _,cU,⟨_,bf⟩,⟨_,bf⟩,⟨_,E,bf,hE⟩,⟨_,bf⟩,⟨.inr ⟨n+26,_,rfl,cU,by rw[←fx];exact bf⟩,fun b m h=>by cases h;omega⟩,hI.kS,hI.mD,hI.count,fun i=>Nat.le_succ_of_le (hlen i),rfl⟩ ?_
   clear r0 r6 r8 r12
   rintro⟨⟨lks,fnds,tds⟩,j⟩ H2 n2 ⟨hj,hn2,⟨d02,r0⟩,⟨d62,r6⟩,⟨d82,E2,r8,hE2⟩,⟨d122,r12⟩,hT,hll2,hfl2,hct2,hlen2,hto⟩
   dsimp only at hj hn2 r6 hE2 r12 hT hll2 hfl2 hct2 hlen2 hto ⊢
   by_cases hjl:j<(g.nd x.toNat).fold.length
   ·have hm:=nk.1 (cX 0 hjl)
    obtain⟨k0,k1⟩:=(hw.2.2 x.toNat x1).2.2 _ hm
    have e3:=fun d=>kO (l:=(g.nd x.toNat).fold) hjl d
    rw[fJ _ _ _ hjl] at hto
    generalize hy:(g.nd x.toNat).fold.getD j 0=y at *
    have hl2m:(lks.map fX).length=g.nodes.length:=by simp[hll2]
    have e4:=fun d=>jc (l:=lks) (i:=y) (by rw[hll2];exact k1) d
    have hE3:=hE2 y k0
    have hyc:((y.toNat:Nat):Int)=y:=by omega
    cases hfd:HS.f ⟨lks,fnds,tds⟩ y with
    |true=>
     rw[if_neg (by rw[hfd];decide)] at hto
     rw[hfd] at hE3
     repeat' (first|((with_reducible refine aF ?_);conv=>whnf)|refine aG ?_|exact eO|with_reducible refine aD ?_ ?_|((with_reducible refine Ask.mk ?_);first|exact cw|(exact hl2m)|exact cT)|(apply aA;(·(first|exact e3 _|exact e4 _|exact cA)))|(simp only[hE3])|(apply aR (g:=none);(·exact fun _=>mX _ _))|(apply aR (g:=none);(·exact fun _=>mF _ _ _))|refine aH ?_|((with_reducible refine aB ?_ ?_)<;>intro hc<;>(try simp only[List.length_map,ne_eq,dC] at hc)<;>try(exfalso;omega)))
     refine aL (pf (l:=l++[(g.nd x.toNat).bx]) ?_ (lks.getD y.toNat []) (by omega) (by have:=hlen2 y.toNat;omega)) ?_
     ·exact(hT.cO cU (fun b h1 h2=>br)).1
     rintro r1 H3 n3 ⟨hr,rfl,rfl⟩
     by_cases hq:lks.getD y.toNat []=(l++[(g.nd x.toNat).bx])
     ·have hq2:HS.l ⟨lks,fnds,tds⟩ y=(l++[(g.nd x.toNat).bx]):=hq
      rw[if_pos hq2] at hto
      have hr1:r1=bl true:=hr.trans (congrArg _ (decide_eq_true hq))
      subst hr1
      repeat' (first|((with_reducible refine aF ?_);conv=>whnf)|refine aG ?_|exact aC|with_reducible refine aD ?_ ?_|(apply aA;(·exact cA))|refine aH ?_|((with_reducible refine aB ?_ ?_)<;>intro hc<;>(try simp only[List.length_map,ne_eq,dC] at hc)<;>try(exfalso;omega)))
      exact⟨(⟨lks,fnds,tds⟩,j+1),by dsimp only;omega,cC,by dsimp only;omega,cU,⟨_,bf⟩,⟨_,bf⟩,⟨_,E2,bf,hE2⟩,⟨_,bf⟩,hT.cO cU (fun b h1 h2=>br),hll2,hfl2,hct2,hlen2,hto⟩
     ·have hq2:¬HS.l ⟨lks,fnds,tds⟩ y=(l++[(g.nd x.toNat).bx]):=hq
      rw[if_neg hq2] at hto
      have hr1:r1=bl false:=hr.trans (congrArg _ (decide_eq_false hq))
      subst hr1
      repeat' (first|((with_reducible refine aF ?_);conv=>whnf)|refine aG ?_|exact aC|with_reducible refine aD ?_ ?_|(apply aA;(·exact cA))|refine aH ?_|((with_reducible refine aB ?_ ?_)<;>intro hc<;>(try simp only[List.length_map,ne_eq,dC] at hc)<;>try(exfalso;omega)))
      exact⟨.inl ⟨y,rfl,by rw[←hrun,hfh,←hto]⟩⟩
    |false=>
     rw[if_pos hfd] at hto
     rw[hfd] at hE3
     have hcts:=count_set (l:=fnds) (i:=y.toNat) (by rw[hfl2];exact k1) hfd
     repeat' (first|((with_reducible refine aF ?_);conv=>whnf)|refine aG ?_|exact eO|with_reducible refine aD ?_ ?_|((with_reducible refine Ask.mk ?_);first|exact cw|(exact hl2m)|exact cT)|(apply aA;(·(first|exact e3 _|exact e4 _|exact cA)))|(simp only[hE3])|(apply aR (g:=none);(·exact fun _=>mX _ _))|(apply aR (g:=none);(·exact fun _=>mF _ _ _))|refine aH ?_|((with_reducible refine aB ?_ ?_)<;>intro hc<;>(try simp only[List.length_map,ne_eq,dC] at hc)<;>try(exfalso;omega)))
     refine aL (k7 (l:=l++[(g.nd x.toNat).bx]) ?_ (by omega)) ?_
     ·exact(hT.cO cU (fun b h1 h2=>br)).1
     rintro _ H3 n3 ⟨rfl,hn3,hkp⟩
     have hb:∀{p:Prop},p→p:=fun h=>h
     have r03:bd H3 0=some (.row 64 4 d02 [g.av]):=(hkp 0 cU).trans bf
     have r63:bd H3 6=some (.row 53 1 d62 (lks.map fX)):=(hkp 6 cU).trans bf
     have r83:bd H3 8=some (.row 3 0 d82 (mapA (pN (iM E2 y true)))):=(hkp 8 cU).trans bf
     have r123:bd H3 12=some (.row 3 1 d122 (tds.map i64)):=(hkp 12 cU).trans bf
     have hn23:n2<n3:=Nat.lt_of_lt_of_le cU hn3
     have hT3:ku (.sl (n+26) (l++[(g.nd x.toNat).bx]).length) (l++[(g.nd x.toNat).bx]) H3 n3:=hT.cO (Nat.le_of_lt hn23) (fun b h1 h2=>(hkp b (Nat.lt_of_lt_of_le h2 cU)).trans br)
     clear hkp hT
     repeat' (first|((with_reducible refine aF ?_);conv=>whnf)|refine aG ?_|exact eO|with_reducible refine aD ?_ ?_|((with_reducible refine Ask.mk ?_);first|exact cw|(exact hl2m)|exact cT)|(apply aA;(·(first|exact e3 _|exact e4 _|exact cA)))|refine aH ?_|((with_reducible refine aB ?_ ?_)<;>intro hc<;>(try simp only[List.length_map,ne_eq,dC] at hc)<;>try(exfalso;omega)))
     refine⟨(⟨lks.set y.toNat (l++[(g.nd x.toNat).bx]),fnds.set y.toNat true,tds++[y]⟩,j+1),by dsimp only;omega,cC,by dsimp only;omega,cU,⟨_,bf⟩,⟨_,by dsimp only;rw[←jX];exact bf⟩,⟨_,iM E2 y true,bf, ?_⟩,⟨_,by dsimp only;rw[←fx];exact bf⟩,hT3.cO cU (fun b h1 h2=>br),by simp[hll2],by simp[hfl2], ?_, ?_,hto⟩
     ·intro z hz
      rw[lK,HS.sW (s:=⟨lks,fnds,tds⟩) (by rw[hfl2];exact k1)]
      by_cases hzy:z=y
      ·rw[if_pos hzy,if_pos (by rw[hzy])];rfl
      ·rw[if_neg hzy,if_neg (by omega)];exact hE2 z hz
     ·simp only[List.length_append,List.length_cons,List.length_nil];omega
     ·intro i
      rw[eA]
      split
      ·exact hnl
      ·exact hlen2 i
   ·have:j=(g.nd x.toNat).fold.length:=by omega
    subst this
    rw[List.drop_eq_nil_of_le (Nat.le_refl _),dL] at hto
    have hnx2:=hnx _ _ hnow (by rw[hfh];exact hto.symm)
    repeat' (first|((with_reducible refine aF ?_);conv=>whnf)|refine aG ?_|exact aC|with_reducible refine aD ?_ ?_|(apply aA;(·exact cA))|refine aH ?_|((with_reducible refine aB ?_ ?_)<;>intro hc<;>(try simp only[List.length_map,ne_eq,dC] at hc)<;>try(exfalso;omega)))
    refine⟨(⟨lks,fnds,tds⟩,k+1),by dsimp only;omega,cC,⟨_,_,Wk.refl _ _ _,cU,⟨_,bf⟩,⟨_,bf⟩,⟨_,E2,bf,hE2⟩,⟨_,bf⟩,hnx2,by dsimp only;omega,hlen2, ?_⟩⟩
    rw[←hrun,hfh,←hto]
    dsimp only
    congr 1
    omega
  ·by_cases h6:(g.nd x.toNat).kind=6
   ·rcases List.eq_nil_or_concat l with rfl|⟨a,y,rfl⟩
    ·have hnow:dM (g.nd x.toNat) []=none:=by unfold dM;rw[if_neg h5,if_pos h6,if_neg (fun h=>h.1 rfl)]
     rw[hnow] at hrun
     dsimp only at hrun
     repeat' (first|((with_reducible refine aF ?_);conv=>whnf)|refine aG ?_|exact eO|with_reducible refine aD ?_ ?_|((with_reducible refine Ask.mk ?_);first|exact cw|(exact hlm)|exact cT|(intro h;simp_all[cB.cells,Node.cells]<;>fail)|(simp_all[cB.cells,Node.cells]<;>fail))|(apply aA;(·(first|exact gb x1 _|exact e1 _|exact e2 _|exact cA)))|refine aK (hf) ?_|(simp only[h6])|(apply aR (g:=none);(·exact fun _=>mX _ _))|(apply aR (g:=none);(·exact fun _=>mF _ _ _))|refine aH ?_|((with_reducible refine aB ?_ ?_)<;>intro hc<;>(try simp only[List.length_map,ne_eq,dC] at hc)<;>try(exfalso;omega)))
     exact⟨.inl ⟨x,rfl,hrun.symm⟩⟩
    ·rw[List.concat_eq_append] at *
     have hla:(a++[y]).length=a.length+1:=by simp
     have hml:((a++[y]).map i64).length=a.length+1:=by simp
     have e5:∀d,((a++[y]).map i64).getD (((((a++[y]).map i64).length:Nat):Int) - 1).toNat d=i64 y:=fun d=>by
      rw[hml,show(((a.length+1:Nat):Int) - 1).toNat=a.length by omega,List.map_append]
      simp[List.getD]
     by_cases hy6:y=(g.nd x.toNat).bx
     ·subst hy6
      have hnow:dM (g.nd x.toNat) (a++[(g.nd x.toNat).bx])=some a:=by unfold dM;rw[if_neg h5,if_pos h6,if_pos ⟨by simp,by simp⟩,List.dropLast_concat]
      have hnl:a.length≤k+1:=by omega
      have htk:(((a++[(g.nd x.toNat).bx]).map i64).drop 0).take a.length=a.map i64:=by simp
      rw[hnow] at hrun
      dsimp only at hrun
      repeat' (first|((with_reducible refine aF ?_);conv=>whnf)|refine aG ?_|exact eO|with_reducible refine aD ?_ ?_|((with_reducible refine Ask.mk ?_);first|exact cw|(exact hlm)|exact cT|(intro h;simp_all[cB.cells,Node.cells]<;>fail)|(simp_all[cB.cells,Node.cells]<;>fail))|(apply aA;(·(first|exact gb x1 _|exact e1 _|exact e2 _|exact e5 _|exact cA)))|refine aK (hf) ?_|(simp only[h6])|(simp only[htk])|(apply aR (g:=none);(·exact fun _=>mX _ _))|(apply aR (g:=none);(·exact fun _=>mF _ _ _))|refine aH ?_|((with_reducible refine aB ?_ ?_)<;>intro hc<;>(try simp only[List.length_map,ne_eq,dC] at hc)<;>try(exfalso;omega)))
      ·exact absurd hc (by simp;omega)
      clear hf
      try simp only[List.length_map]
      refine aP (fun q:HS×Nat=>[(1, .pt 0 1 0 0),(4, .sl 6 g.nodes.length),(5, .mp 8),(6, .sl 12 q.1.todo.length),(7,i64 k),(10, .im 1 .any (a.map i64)),(78, .im 1 .any ((g.nd x.toNat).fold.map i64)),(79,i64 (g.nd x.toNat).fold.length),(80,i64 q.2)])
       (fun q H2 n2=>q.2≤(g.nd x.toNat).fold.length∧n+15≤n2∧(∃d,bd H2 0=some (.row 64 4 d [g.av]))∧(∃d,bd H2 6=some (.row 53 1 d (q.1.bo.map fX)))∧(∃d E,bd H2 8=some (.row 3 0 d (mapA (pN E)))∧qU E q.1)∧(∃d,bd H2 12=some (.row 3 1 d (q.1.todo.map i64)))∧ku (.im 1 .any (a.map i64)) (a) H2 n2∧q.1.bo.length=g.nodes.length∧q.1.found.length=g.nodes.length∧q.1.todo.length+q.1.found.count false=g.nodes.length∧(∀i,(q.1.bo.getD i []).length≤k+1)∧dL (a) ((g.nd x.toNat).fold.drop q.2) q.1=dL (a) (g.nd x.toNat).fold s)
       (fun q=>(g.nd x.toNat).fold.length - q.2) (s,0) cC ⟨Nat.zero_le _,cU,⟨_,bf⟩,⟨_,bf⟩,⟨_,E,bf,hE⟩,⟨_,bf⟩,⟨.inl rfl,fun b m h=>by cases h⟩,hI.kS,hI.mD,hI.count,fun i=>Nat.le_succ_of_le (hlen i),rfl⟩ ?_
      clear r0 r6 r8 r12
      rintro⟨⟨lks,fnds,tds⟩,j⟩ H2 n2 ⟨hj,hn2,⟨d02,r0⟩,⟨d62,r6⟩,⟨d82,E2,r8,hE2⟩,⟨d122,r12⟩,hT,hll2,hfl2,hct2,hlen2,hto⟩
      dsimp only at hj hn2 r6 hE2 r12 hT hll2 hfl2 hct2 hlen2 hto ⊢
      by_cases hjl:j<(g.nd x.toNat).fold.length
      ·have hm:=nk.1 (cX 0 hjl)
       obtain⟨k0,k1⟩:=(hw.2.2 x.toNat x1).2.2 _ hm
       have e3:=fun d=>kO (l:=(g.nd x.toNat).fold) hjl d
       rw[fJ _ _ _ hjl] at hto
       generalize hy:(g.nd x.toNat).fold.getD j 0=y at *
       have hl2m:(lks.map fX).length=g.nodes.length:=by simp[hll2]
       have e4:=fun d=>jc (l:=lks) (i:=y) (by rw[hll2];exact k1) d
       have hE3:=hE2 y k0
       have hyc:((y.toNat:Nat):Int)=y:=by omega
       cases hfd:HS.f ⟨lks,fnds,tds⟩ y with
       |true=>
        rw[if_neg (by rw[hfd];decide)] at hto
        rw[hfd] at hE3
        repeat' (first|((with_reducible refine aF ?_);conv=>whnf)|refine aG ?_|exact eO|with_reducible refine aD ?_ ?_|((with_reducible refine Ask.mk ?_);first|exact cw|(exact hl2m)|exact cT)|(apply aA;(·(first|exact e3 _|exact e4 _|exact cA)))|(simp only[hE3])|(apply aR (g:=none);(·exact fun _=>mX _ _))|(apply aR (g:=none);(·exact fun _=>mF _ _ _))|refine aH ?_|((with_reducible refine aB ?_ ?_)<;>intro hc<;>(try simp only[List.length_map,ne_eq,dC] at hc)<;>try(exfalso;omega)))
        refine aL (pf (l:=a) ?_ (lks.getD y.toNat []) (by omega) (by have:=hlen2 y.toNat;omega)) ?_
        ·exact(hT.cO cU (fun b h1 h2=>br)).1
        rintro r1 H3 n3 ⟨hr,rfl,rfl⟩
        by_cases hq:lks.getD y.toNat []=(a)
        ·have hq2:HS.l ⟨lks,fnds,tds⟩ y=(a):=hq
         rw[if_pos hq2] at hto
         have hr1:r1=bl true:=hr.trans (congrArg _ (decide_eq_true hq))
         subst hr1
         repeat' (first|((with_reducible refine aF ?_);conv=>whnf)|refine aG ?_|exact aC|with_reducible refine aD ?_ ?_|(apply aA;(·exact cA))|refine aH ?_|((with_reducible refine aB ?_ ?_)<;>intro hc<;>(try simp only[List.length_map,ne_eq,dC] at hc)<;>try(exfalso;omega)))
         exact⟨(⟨lks,fnds,tds⟩,j+1),by dsimp only;omega,cC,by dsimp only;omega,cU,⟨_,bf⟩,⟨_,bf⟩,⟨_,E2,bf,hE2⟩,⟨_,bf⟩,hT.cO cU (fun b h1 h2=>br),hll2,hfl2,hct2,hlen2,hto⟩
        ·have hq2:¬HS.l ⟨lks,fnds,tds⟩ y=(a):=hq
         rw[if_neg hq2] at hto
         have hr1:r1=bl false:=hr.trans (congrArg _ (decide_eq_false hq))
         subst hr1
         repeat' (first|((with_reducible refine aF ?_);conv=>whnf)|refine aG ?_|exact aC|with_reducible refine aD ?_ ?_|(apply aA;(·exact cA))|refine aH ?_|((with_reducible refine aB ?_ ?_)<;>intro hc<;>(try simp only[List.length_map,ne_eq,dC] at hc)<;>try(exfalso;omega)))
         exact⟨.inl ⟨y,rfl,by rw[←hrun,hfh,←hto]⟩⟩
       |false=>
        rw[if_pos hfd] at hto
        rw[hfd] at hE3
        have hcts:=count_set (l:=fnds) (i:=y.toNat) (by rw[hfl2];exact k1) hfd
        repeat' (first|((with_reducible refine aF ?_);conv=>whnf)|refine aG ?_|exact eO|with_reducible refine aD ?_ ?_|((with_reducible refine Ask.mk ?_);first|exact cw|(exact hl2m)|exact cT)|(apply aA;(·(first|exact e3 _|exact e4 _|exact cA)))|(simp only[hE3])|(apply aR (g:=none);(·exact fun _=>mX _ _))|(apply aR (g:=none);(·exact fun _=>mF _ _ _))|refine aH ?_|((with_reducible refine aB ?_ ?_)<;>intro hc<;>(try simp only[List.length_map,ne_eq,dC] at hc)<;>try(exfalso;omega)))
        refine aL (k7 (l:=a) ?_ (by omega)) ?_
        ·exact(hT.cO cU (fun b h1 h2=>br)).1
        rintro _ H3 n3 ⟨rfl,hn3,hkp⟩
        have hb:∀{p:Prop},p→p:=fun h=>h
        have r03:bd H3 0=some (.row 64 4 d02 [g.av]):=(hkp 0 cU).trans bf
        have r63:bd H3 6=some (.row 53 1 d62 (lks.map fX)):=(hkp 6 cU).trans bf
        have r83:bd H3 8=some (.row 3 0 d82 (mapA (pN (iM E2 y true)))):=(hkp 8 cU).trans bf
        have r123:bd H3 12=some (.row 3 1 d122 (tds.map i64)):=(hkp 12 cU).trans bf
        have hn23:n2<n3:=Nat.lt_of_lt_of_le cU hn3
        have hT3:ku (.im 1 .any (a.map i64)) (a) H3 n3:=hT.cO (Nat.le_of_lt hn23) (fun b h1 h2=>(hkp b (Nat.lt_of_lt_of_le h2 cU)).trans br)
        clear hkp hT
        repeat' (first|((with_reducible refine aF ?_);conv=>whnf)|refine aG ?_|exact eO|with_reducible refine aD ?_ ?_|((with_reducible refine Ask.mk ?_);first|exact cw|(exact hl2m)|exact cT)|(apply aA;(·(first|exact e3 _|exact e4 _|exact cA)))|refine aH ?_|((with_reducible refine aB ?_ ?_)<;>intro hc<;>(try simp only[List.length_map,ne_eq,dC] at hc)<;>try(exfalso;omega)))
        refine⟨(⟨lks.set y.toNat (a),fnds.set y.toNat true,tds++[y]⟩,j+1),by dsimp only;omega,cC,by dsimp only;omega,cU,⟨_,bf⟩,⟨_,by dsimp only;rw[←jX];exact bf⟩,⟨_,iM E2 y true,bf, ?_⟩,⟨_,by dsimp only;rw[←fx];exact bf⟩,hT3.cO cU (fun b h1 h2=>br),by simp[hll2],by simp[hfl2], ?_, ?_,hto⟩
        ·intro z hz
         rw[lK,HS.sW (s:=⟨lks,fnds,tds⟩) (by rw[hfl2];exact k1)]
         by_cases hzy:z=y
         ·rw[if_pos hzy,if_pos (by rw[hzy])];rfl
         ·rw[if_neg hzy,if_neg (by omega)];exact hE2 z hz
        ·simp only[List.length_append,List.length_cons,List.length_nil];omega
        ·intro i
         rw[eA]
         split
         ·exact hnl
         ·exact hlen2 i
      ·have:j=(g.nd x.toNat).fold.length:=by omega
       subst this
       rw[List.drop_eq_nil_of_le (Nat.le_refl _),dL] at hto
       have hnx2:=hnx _ _ hnow (by rw[hfh];exact hto.symm)
       repeat' (first|((with_reducible refine aF ?_);conv=>whnf)|refine aG ?_|exact aC|with_reducible refine aD ?_ ?_|(apply aA;(·exact cA))|refine aH ?_|((with_reducible refine aB ?_ ?_)<;>intro hc<;>(try simp only[List.length_map,ne_eq,dC] at hc)<;>try(exfalso;omega)))
       refine⟨(⟨lks,fnds,tds⟩,k+1),by dsimp only;omega,cC,⟨_,_,Wk.refl _ _ _,cU,⟨_,bf⟩,⟨_,bf⟩,⟨_,E2,bf,hE2⟩,⟨_,bf⟩,hnx2,by dsimp only;omega,hlen2, ?_⟩⟩
       rw[←hrun,hfh,←hto]
       dsimp only
       congr 1
       omega
     ·have hnow:dM (g.nd x.toNat) (a++[y])=none:=by unfold dM;rw[if_neg h5,if_pos h6,if_neg (fun h=>hy6 (by simpa using h.2))]
      rw[hnow] at hrun
      dsimp only at hrun
      repeat' (first|((with_reducible refine aF ?_);conv=>whnf)|refine aG ?_|exact eO|with_reducible refine aD ?_ ?_|((with_reducible refine Ask.mk ?_);first|exact cw|(exact hlm)|exact cT|(intro h;simp_all[cB.cells,Node.cells]<;>fail)|(simp_all[cB.cells,Node.cells]<;>fail))|(apply aA;(·(first|exact gb x1 _|exact e1 _|exact e2 _|exact e5 _|exact cA)))|refine aK (hf) ?_|(simp only[h6])|(apply aR (g:=none);(·exact fun _=>mX _ _))|(apply aR (g:=none);(·exact fun _=>mF _ _ _))|refine aH ?_|((with_reducible refine aB ?_ ?_)<;>intro hc<;>(try simp only[List.length_map,ne_eq,dC] at hc)<;>try(exfalso;omega)))
      all_goals first|exact absurd hc.2 hy6|exact⟨.inl ⟨x,rfl,hrun.symm⟩⟩
   ·by_cases h9:(g.nd x.toNat).kind=9∧l≠[]
    ·have hnow:dM (g.nd x.toNat) l=none:=by unfold dM;rw[if_neg h5,if_neg h6,if_pos h9.1,if_neg h9.2]
     have hlp:0<l.length:=List.length_pos_iff.2 h9.2
     have h91:=h9.1
     rw[hnow] at hrun
     dsimp only at hrun
     repeat' (first|((with_reducible refine aF ?_);conv=>whnf)|refine aG ?_|exact eO|with_reducible refine aD ?_ ?_|((with_reducible refine Ask.mk ?_);first|exact cw|(exact hlm)|exact cT|(intro h;simp_all[cB.cells,Node.cells]<;>fail)|(simp_all[cB.cells,Node.cells]<;>fail))|(apply aA;(·(first|exact gb x1 _|exact e1 _|exact e2 _|exact cA)))|refine aK (hf) ?_|(simp only[h91])|(apply aR (g:=none);(·exact fun _=>mX _ _))|(apply aR (g:=none);(·exact fun _=>mF _ _ _))|refine aH ?_|((with_reducible refine aB ?_ ?_)<;>intro hc<;>(try simp only[List.length_map,ne_eq,dC] at hc)<;>try(exfalso;omega)))
     exact⟨.inl ⟨x,rfl,hrun.symm⟩⟩
    ·by_cases h91:(g.nd x.toNat).kind=9
     ·have hl0:l=[]:=Classical.byContradiction fun h=>h9 ⟨h91,h⟩
      subst hl0
      have hnow:dM (g.nd x.toNat) []=some []:=by unfold dM;rw[if_neg h5,if_neg h6,if_pos h91,if_pos rfl]
      have hnl:([]:List Int).length≤k+1:=Nat.zero_le _
      rw[hnow] at hrun
      dsimp only at hrun
      repeat' (first|((with_reducible refine aF ?_);conv=>whnf)|refine aG ?_|exact eO|with_reducible refine aD ?_ ?_|((with_reducible refine Ask.mk ?_);first|exact cw|(exact hlm)|exact cT|(intro h;simp_all[cB.cells,Node.cells]<;>fail)|(simp_all[cB.cells,Node.cells]<;>fail))|(apply aA;(·(first|exact gb x1 _|exact e1 _|exact e2 _|exact cA)))|refine aK (hf) ?_|(simp only[h91])|(apply aR (g:=none);(·exact fun _=>mX _ _))|(apply aR (g:=none);(·exact fun _=>mF _ _ _))|refine aH ?_|((with_reducible refine aB ?_ ?_)<;>intro hc<;>(try simp only[List.length_map,ne_eq,dC] at hc)<;>try(exfalso;omega)))
      clear hf
      try simp only[List.length_map]
      refine aP (fun q:HS×Nat=>[(1, .pt 0 1 0 0),(4, .sl 6 g.nodes.length),(5, .mp 8),(6, .sl 12 q.1.todo.length),(7,i64 k),(10, .im 1 .any (([]:List Int).map i64)),(78, .im 1 .any ((g.nd x.toNat).fold.map i64)),(79,i64 (g.nd x.toNat).fold.length),(80,i64 q.2)])
       (fun q H2 n2=>q.2≤(g.nd x.toNat).fold.length∧n+15≤n2∧(∃d,bd H2 0=some (.row 64 4 d [g.av]))∧(∃d,bd H2 6=some (.row 53 1 d (q.1.bo.map fX)))∧(∃d E,bd H2 8=some (.row 3 0 d (mapA (pN E)))∧qU E q.1)∧(∃d,bd H2 12=some (.row 3 1 d (q.1.todo.map i64)))∧ku (.im 1 .any (([]:List Int).map i64)) ([]) H2 n2∧q.1.bo.length=g.nodes.length∧q.1.found.length=g.nodes.length∧q.1.todo.length+q.1.found.count false=g.nodes.length∧(∀i,(q.1.bo.getD i []).length≤k+1)∧dL ([]) ((g.nd x.toNat).fold.drop q.2) q.1=dL ([]) (g.nd x.toNat).fold s)
       (fun q=>(g.nd x.toNat).fold.length - q.2) (s,0) cC ⟨Nat.zero_le _,cU,⟨_,bf⟩,⟨_,bf⟩,⟨_,E,bf,hE⟩,⟨_,bf⟩,⟨.inl rfl,fun b m h=>by cases h⟩,hI.kS,hI.mD,hI.count,fun i=>Nat.le_succ_of_le (hlen i),rfl⟩ ?_
      clear r0 r6 r8 r12
      rintro⟨⟨lks,fnds,tds⟩,j⟩ H2 n2 ⟨hj,hn2,⟨d02,r0⟩,⟨d62,r6⟩,⟨d82,E2,r8,hE2⟩,⟨d122,r12⟩,hT,hll2,hfl2,hct2,hlen2,hto⟩
      dsimp only at hj hn2 r6 hE2 r12 hT hll2 hfl2 hct2 hlen2 hto ⊢
      by_cases hjl:j<(g.nd x.toNat).fold.length
      ·have hm:=nk.1 (cX 0 hjl)
       obtain⟨k0,k1⟩:=(hw.2.2 x.toNat x1).2.2 _ hm
       have e3:=fun d=>kO (l:=(g.nd x.toNat).fold) hjl d
       rw[fJ _ _ _ hjl] at hto
       generalize hy:(g.nd x.toNat).fold.getD j 0=y at *
       have hl2m:(lks.map fX).length=g.nodes.length:=by simp[hll2]
       have e4:=fun d=>jc (l:=lks) (i:=y) (by rw[hll2];exact k1) d
       have hE3:=hE2 y k0
       have hyc:((y.toNat:Nat):Int)=y:=by omega
       cases hfd:HS.f ⟨lks,fnds,tds⟩ y with
       |true=>
        rw[if_neg (by rw[hfd];decide)] at hto
        rw[hfd] at hE3
        repeat' (first|((with_reducible refine aF ?_);conv=>whnf)|refine aG ?_|exact eO|with_reducible refine aD ?_ ?_|((with_reducible refine Ask.mk ?_);first|exact cw|(exact hl2m)|exact cT)|(apply aA;(·(first|exact e3 _|exact e4 _|exact cA)))|(simp only[hE3])|(apply aR (g:=none);(·exact fun _=>mX _ _))|(apply aR (g:=none);(·exact fun _=>mF _ _ _))|refine aH ?_|((with_reducible refine aB ?_ ?_)<;>intro hc<;>(try simp only[List.length_map,ne_eq,dC] at hc)<;>try(exfalso;omega)))
        refine aL (pf (l:=[]) ?_ (lks.getD y.toNat []) (by omega) (by have:=hlen2 y.toNat;omega)) ?_
        ·exact(hT.cO cU (fun b h1 h2=>br)).1
        rintro r1 H3 n3 ⟨hr,rfl,rfl⟩
        by_cases hq:lks.getD y.toNat []=([])
        ·have hq2:HS.l ⟨lks,fnds,tds⟩ y=([]):=hq
         rw[if_pos hq2] at hto
         have hr1:r1=bl true:=hr.trans (congrArg _ (decide_eq_true hq))
         subst hr1
         repeat' (first|((with_reducible refine aF ?_);conv=>whnf)|refine aG ?_|exact aC|with_reducible refine aD ?_ ?_|(apply aA;(·exact cA))|refine aH ?_|((with_reducible refine aB ?_ ?_)<;>intro hc<;>(try simp only[List.length_map,ne_eq,dC] at hc)<;>try(exfalso;omega)))
         exact⟨(⟨lks,fnds,tds⟩,j+1),by dsimp only;omega,cC,by dsimp only;omega,cU,⟨_,bf⟩,⟨_,bf⟩,⟨_,E2,bf,hE2⟩,⟨_,bf⟩,hT.cO cU (fun b h1 h2=>br),hll2,hfl2,hct2,hlen2,hto⟩
        ·have hq2:¬HS.l ⟨lks,fnds,tds⟩ y=([]):=hq
         rw[if_neg hq2] at hto
         have hr1:r1=bl false:=hr.trans (congrArg _ (decide_eq_false hq))
         subst hr1
         repeat' (first|((with_reducible refine aF ?_);conv=>whnf)|refine aG ?_|exact aC|with_reducible refine aD ?_ ?_|(apply aA;(·exact cA))|refine aH ?_|((with_reducible refine aB ?_ ?_)<;>intro hc<;>(try simp only[List.length_map,ne_eq,dC] at hc)<;>try(exfalso;omega)))
         exact⟨.inl ⟨y,rfl,by rw[←hrun,hfh,←hto]⟩⟩
       |false=>
        rw[if_pos hfd] at hto
        rw[hfd] at hE3
        have hcts:=count_set (l:=fnds) (i:=y.toNat) (by rw[hfl2];exact k1) hfd
        repeat' (first|((with_reducible refine aF ?_);conv=>whnf)|refine aG ?_|exact eO|with_reducible refine aD ?_ ?_|((with_reducible refine Ask.mk ?_);first|exact cw|(exact hl2m)|exact cT)|(apply aA;(·(first|exact e3 _|exact e4 _|exact cA)))|(simp only[hE3])|(apply aR (g:=none);(·exact fun _=>mX _ _))|(apply aR (g:=none);(·exact fun _=>mF _ _ _))|refine aH ?_|((with_reducible refine aB ?_ ?_)<;>intro hc<;>(try simp only[List.length_map,ne_eq,dC] at hc)<;>try(exfalso;omega)))
        refine aL (k7 (l:=[]) ?_ (by omega)) ?_
        ·exact(hT.cO cU (fun b h1 h2=>br)).1
        rintro _ H3 n3 ⟨rfl,hn3,hkp⟩
        have hb:∀{p:Prop},p→p:=fun h=>h
        have r03:bd H3 0=some (.row 64 4 d02 [g.av]):=(hkp 0 cU).trans bf
        have r63:bd H3 6=some (.row 53 1 d62 (lks.map fX)):=(hkp 6 cU).trans bf
        have r83:bd H3 8=some (.row 3 0 d82 (mapA (pN (iM E2 y true)))):=(hkp 8 cU).trans bf
        have r123:bd H3 12=some (.row 3 1 d122 (tds.map i64)):=(hkp 12 cU).trans bf
        have hn23:n2<n3:=Nat.lt_of_lt_of_le cU hn3
        have hT3:ku (.im 1 .any (([]:List Int).map i64)) ([]) H3 n3:=hT.cO (Nat.le_of_lt hn23) (fun b h1 h2=>(hkp b (Nat.lt_of_lt_of_le h2 cU)).trans br)
        clear hkp hT
        repeat' (first|((with_reducible refine aF ?_);conv=>whnf)|refine aG ?_|exact eO|with_reducible refine aD ?_ ?_|((with_reducible refine Ask.mk ?_);first|exact cw|(exact hl2m)|exact cT)|(apply aA;(·(first|exact e3 _|exact e4 _|exact cA)))|refine aH ?_|((with_reducible refine aB ?_ ?_)<;>intro hc<;>(try simp only[List.length_map,ne_eq,dC] at hc)<;>try(exfalso;omega)))
        refine⟨(⟨lks.set y.toNat ([]),fnds.set y.toNat true,tds++[y]⟩,j+1),by dsimp only;omega,cC,by dsimp only;omega,cU,⟨_,bf⟩,⟨_,by dsimp only;rw[←jX];exact bf⟩,⟨_,iM E2 y true,bf, ?_⟩,⟨_,by dsimp only;rw[←fx];exact bf⟩,hT3.cO cU (fun b h1 h2=>br),by simp[hll2],by simp[hfl2], ?_, ?_,hto⟩
        ·intro z hz
         rw[lK,HS.sW (s:=⟨lks,fnds,tds⟩) (by rw[hfl2];exact k1)]
         by_cases hzy:z=y
         ·rw[if_pos hzy,if_pos (by rw[hzy])];rfl
         ·rw[if_neg hzy,if_neg (by omega)];exact hE2 z hz
        ·simp only[List.length_append,List.length_cons,List.length_nil];omega
        ·intro i
         rw[eA]
         split
         ·exact hnl
         ·exact hlen2 i
      ·have:j=(g.nd x.toNat).fold.length:=by omega
       subst this
       rw[List.drop_eq_nil_of_le (Nat.le_refl _),dL] at hto
       have hnx2:=hnx _ _ hnow (by rw[hfh];exact hto.symm)
       repeat' (first|((with_reducible refine aF ?_);conv=>whnf)|refine aG ?_|exact aC|with_reducible refine aD ?_ ?_|(apply aA;(·exact cA))|refine aH ?_|((with_reducible refine aB ?_ ?_)<;>intro hc<;>(try simp only[List.length_map,ne_eq,dC] at hc)<;>try(exfalso;omega)))
       refine⟨(⟨lks,fnds,tds⟩,k+1),by dsimp only;omega,cC,⟨_,_,Wk.refl _ _ _,cU,⟨_,bf⟩,⟨_,bf⟩,⟨_,E2,bf,hE2⟩,⟨_,bf⟩,hnx2,by dsimp only;omega,hlen2, ?_⟩⟩
       rw[←hrun,hfh,←hto]
       dsimp only
       congr 1
       omega
     ·have hnow:dM (g.nd x.toNat) l=some l:=by unfold dM;rw[if_neg h5,if_neg h6,if_neg h91]
      have hnl:l.length≤k+1:=by omega
      rw[hnow] at hrun
      dsimp only at hrun
      repeat' (first|((with_reducible refine aF ?_);conv=>whnf)|refine aG ?_|exact eO|with_reducible refine aD ?_ ?_|((with_reducible refine Ask.mk ?_);first|exact cw|(exact hlm)|exact cT|(intro h;simp_all[cB.cells,Node.cells]<;>fail)|(simp_all[cB.cells,Node.cells]<;>fail))|(apply aA;(·(first|exact gb x1 _|exact e1 _|exact e2 _|exact cA)))|refine aK (hf) ?_|(simp only[h5])|(simp only[h6])|(simp only[h91])|(apply aR (g:=none);(·exact fun _=>mX _ _))|(apply aR (g:=none);(·exact fun _=>mF _ _ _))|refine aH ?_|((with_reducible refine aB ?_ ?_)<;>intro hc<;>(try simp only[List.length_map,ne_eq,dC] at hc)<;>try(exfalso;omega)))
      clear hf
      try simp only[List.length_map]
      refine aP (fun q:HS×Nat=>[(1, .pt 0 1 0 0),(4, .sl 6 g.nodes.length),(5, .mp 8),(6, .sl 12 q.1.todo.length),(7,i64 k),(10, .im 1 .any (l.map i64)),(78, .im 1 .any ((g.nd x.toNat).fold.map i64)),(79,i64 (g.nd x.toNat).fold.length),(80,i64 q.2)])
       (fun q H2 n2=>q.2≤(g.nd x.toNat).fold.length∧n+15≤n2∧(∃d,bd H2 0=some (.row 64 4 d [g.av]))∧(∃d,bd H2 6=some (.row 53 1 d (q.1.bo.map fX)))∧(∃d E,bd H2 8=some (.row 3 0 d (mapA (pN E)))∧qU E q.1)∧(∃d,bd H2 12=some (.row 3 1 d (q.1.todo.map i64)))∧ku (.im 1 .any (l.map i64)) (l) H2 n2∧q.1.bo.length=g.nodes.length∧q.1.found.length=g.nodes.length∧q.1.todo.length+q.1.found.count false=g.nodes.length∧(∀i,(q.1.bo.getD i []).length≤k+1)∧dL (l) ((g.nd x.toNat).fold.drop q.2) q.1=dL (l) (g.nd x.toNat).fold s)
       (fun q=>(g.nd x.toNat).fold.length - q.2) (s,0) cC ⟨Nat.zero_le _,cU,⟨_,bf⟩,⟨_,bf⟩,⟨_,E,bf,hE⟩,⟨_,bf⟩,⟨.inl rfl,fun b m h=>by cases h⟩,hI.kS,hI.mD,hI.count,fun i=>Nat.le_succ_of_le (hlen i),rfl⟩ ?_
      clear r0 r6 r8 r12
      rintro⟨⟨lks,fnds,tds⟩,j⟩ H2 n2 ⟨hj,hn2,⟨d02,r0⟩,⟨d62,r6⟩,⟨d82,E2,r8,hE2⟩,⟨d122,r12⟩,hT,hll2,hfl2,hct2,hlen2,hto⟩
      dsimp only at hj hn2 r6 hE2 r12 hT hll2 hfl2 hct2 hlen2 hto ⊢
      by_cases hjl:j<(g.nd x.toNat).fold.length
      ·have hm:=nk.1 (cX 0 hjl)
       obtain⟨k0,k1⟩:=(hw.2.2 x.toNat x1).2.2 _ hm
       have e3:=fun d=>kO (l:=(g.nd x.toNat).fold) hjl d
       rw[fJ _ _ _ hjl] at hto
       generalize hy:(g.nd x.toNat).fold.getD j 0=y at *
       have hl2m:(lks.map fX).length=g.nodes.length:=by simp[hll2]
       have e4:=fun d=>jc (l:=lks) (i:=y) (by rw[hll2];exact k1) d
       have hE3:=hE2 y k0
       have hyc:((y.toNat:Nat):Int)=y:=by omega
       cases hfd:HS.f ⟨lks,fnds,tds⟩ y with
       |true=>
        rw[if_neg (by rw[hfd];decide)] at hto
        rw[hfd] at hE3
        repeat' (first|((with_reducible refine aF ?_);conv=>whnf)|refine aG ?_|exact eO|with_reducible refine aD ?_ ?_|((with_reducible refine Ask.mk ?_);first|exact cw|(exact hl2m)|exact cT)|(apply aA;(·(first|exact e3 _|exact e4 _|exact cA)))|(simp only[hE3])|(apply aR (g:=none);(·exact fun _=>mX _ _))|(apply aR (g:=none);(·exact fun _=>mF _ _ _))|refine aH ?_|((with_reducible refine aB ?_ ?_)<;>intro hc<;>(try simp only[List.length_map,ne_eq,dC] at hc)<;>try(exfalso;omega)))
        refine aL (pf (l:=l) ?_ (lks.getD y.toNat []) (by omega) (by have:=hlen2 y.toNat;omega)) ?_
        ·exact(hT.cO cU (fun b h1 h2=>br)).1
        rintro r1 H3 n3 ⟨hr,rfl,rfl⟩
        by_cases hq:lks.getD y.toNat []=(l)
        ·have hq2:HS.l ⟨lks,fnds,tds⟩ y=(l):=hq
         rw[if_pos hq2] at hto
         have hr1:r1=bl true:=hr.trans (congrArg _ (decide_eq_true hq))
         subst hr1
         repeat' (first|((with_reducible refine aF ?_);conv=>whnf)|refine aG ?_|exact aC|with_reducible refine aD ?_ ?_|(apply aA;(·exact cA))|refine aH ?_|((with_reducible refine aB ?_ ?_)<;>intro hc<;>(try simp only[List.length_map,ne_eq,dC] at hc)<;>try(exfalso;omega)))
         exact⟨(⟨lks,fnds,tds⟩,j+1),by dsimp only;omega,cC,by dsimp only;omega,cU,⟨_,bf⟩,⟨_,bf⟩,⟨_,E2,bf,hE2⟩,⟨_,bf⟩,hT.cO cU (fun b h1 h2=>br),hll2,hfl2,hct2,hlen2,hto⟩
        ·have hq2:¬HS.l ⟨lks,fnds,tds⟩ y=(l):=hq
         rw[if_neg hq2] at hto
         have hr1:r1=bl false:=hr.trans (congrArg _ (decide_eq_false hq))
         subst hr1
         repeat' (first|((with_reducible refine aF ?_);conv=>whnf)|refine aG ?_|exact aC|with_reducible refine aD ?_ ?_|(apply aA;(·exact cA))|refine aH ?_|((with_reducible refine aB ?_ ?_)<;>intro hc<;>(try simp only[List.length_map,ne_eq,dC] at hc)<;>try(exfalso;omega)))
         exact⟨.inl ⟨y,rfl,by rw[←hrun,hfh,←hto]⟩⟩
       |false=>
        rw[if_pos hfd] at hto
        rw[hfd] at hE3
        have hcts:=count_set (l:=fnds) (i:=y.toNat) (by rw[hfl2];exact k1) hfd
        repeat' (first|((with_reducible refine aF ?_);conv=>whnf)|refine aG ?_|exact eO|with_reducible refine aD ?_ ?_|((with_reducible refine Ask.mk ?_);first|exact cw|(exact hl2m)|exact cT)|(apply aA;(·(first|exact e3 _|exact e4 _|exact cA)))|(simp only[hE3])|(apply aR (g:=none);(·exact fun _=>mX _ _))|(apply aR (g:=none);(·exact fun _=>mF _ _ _))|refine aH ?_|((with_reducible refine aB ?_ ?_)<;>intro hc<;>(try simp only[List.length_map,ne_eq,dC] at hc)<;>try(exfalso;omega)))
        refine aL (k7 (l:=l) ?_ (by omega)) ?_
        ·exact(hT.cO cU (fun b h1 h2=>br)).1
        rintro _ H3 n3 ⟨rfl,hn3,hkp⟩
        have hb:∀{p:Prop},p→p:=fun h=>h
        have r03:bd H3 0=some (.row 64 4 d02 [g.av]):=(hkp 0 cU).trans bf
        have r63:bd H3 6=some (.row 53 1 d62 (lks.map fX)):=(hkp 6 cU).trans bf
        have r83:bd H3 8=some (.row 3 0 d82 (mapA (pN (iM E2 y true)))):=(hkp 8 cU).trans bf
        have r123:bd H3 12=some (.row 3 1 d122 (tds.map i64)):=(hkp 12 cU).trans bf
        have hn23:n2<n3:=Nat.lt_of_lt_of_le cU hn3
        have hT3:ku (.im 1 .any (l.map i64)) (l) H3 n3:=hT.cO (Nat.le_of_lt hn23) (fun b h1 h2=>(hkp b (Nat.lt_of_lt_of_le h2 cU)).trans br)
        clear hkp hT
        repeat' (first|((with_reducible refine aF ?_);conv=>whnf)|refine aG ?_|exact eO|with_reducible refine aD ?_ ?_|((with_reducible refine Ask.mk ?_);first|exact cw|(exact hl2m)|exact cT)|(apply aA;(·(first|exact e3 _|exact e4 _|exact cA)))|refine aH ?_|((with_reducible refine aB ?_ ?_)<;>intro hc<;>(try simp only[List.length_map,ne_eq,dC] at hc)<;>try(exfalso;omega)))
        refine⟨(⟨lks.set y.toNat (l),fnds.set y.toNat true,tds++[y]⟩,j+1),by dsimp only;omega,cC,by dsimp only;omega,cU,⟨_,bf⟩,⟨_,by dsimp only;rw[←jX];exact bf⟩,⟨_,iM E2 y true,bf, ?_⟩,⟨_,by dsimp only;rw[←fx];exact bf⟩,hT3.cO cU (fun b h1 h2=>br),by simp[hll2],by simp[hfl2], ?_, ?_,hto⟩
        ·intro z hz
         rw[lK,HS.sW (s:=⟨lks,fnds,tds⟩) (by rw[hfl2];exact k1)]
         by_cases hzy:z=y
         ·rw[if_pos hzy,if_pos (by rw[hzy])];rfl
         ·rw[if_neg hzy,if_neg (by omega)];exact hE2 z hz
        ·simp only[List.length_append,List.length_cons,List.length_nil];omega
        ·intro i
         rw[eA]
         split
         ·exact hnl
         ·exact hlen2 i
      ·have:j=(g.nd x.toNat).fold.length:=by omega
       subst this
       rw[List.drop_eq_nil_of_le (Nat.le_refl _),dL] at hto
       have hnx2:=hnx _ _ hnow (by rw[hfh];exact hto.symm)
       repeat' (first|((with_reducible refine aF ?_);conv=>whnf)|refine aG ?_|exact aC|with_reducible refine aD ?_ ?_|(apply aA;(·exact cA))|refine aH ?_|((with_reducible refine aB ?_ ?_)<;>intro hc<;>(try simp only[List.length_map,ne_eq,dC] at hc)<;>try(exfalso;omega)))
       refine⟨(⟨lks,fnds,tds⟩,k+1),by dsimp only;omega,cC,⟨_,_,Wk.refl _ _ _,cU,⟨_,bf⟩,⟨_,bf⟩,⟨_,E2,bf,hE2⟩,⟨_,bf⟩,hnx2,by dsimp only;omega,hlen2, ?_⟩⟩
       rw[←hrun,hfh,←hto]
       dsimp only
       congr 1
       omega
 ·have hkt:s.todo.length≤k:=by omega
  have hrun2:gV g=(s.bo,-1):=by
   rw[←hrun,show g.nodes.length+1 - k=(g.nodes.length - k)+1 by omega,iZ,if_neg hk]
  repeat' (first|((with_reducible refine aF ?_);conv=>whnf)|refine aG ?_|exact aC|with_reducible refine aD ?_ ?_|(apply aA;(·exact cA))|refine aH ?_|((with_reducible refine aB ?_ ?_)<;>intro hc<;>(try simp only[List.length_map,ne_eq,dC] at hc)<;>try(exfalso;omega)))
  exact⟨.inr ⟨6,d6,s.bo,by rw[hI.kS],hrun2,bf⟩⟩
theorem CI (g:cB) (hg:g.Wf) (hw:Whole g):Pure Tryz.prog 80 [g.av] (fun r=>r=jb (gV g)):=by
 have h:=CH g hg hw
 have fL:∀L:List (List Int),cP 0 (L.map fX):=fun L=>(bu _ _).2 fun _ _=>by simp[fX,bw,bu]
 have fh:∀r,bw 0 (jb r):=fun r=>by simp only[jb,bw,cP];exact⟨fL _,trivial,trivial⟩
 by_cases hc:(gV g).1=[]
 ·refine pb (u:= .dH [.sc (.slice none 0 0),i64 (gV g).2]) (pure_or (h.mono ?_) (by simp[bw,cP]) (fh _)) (fh _) fun c=> ?_
  ·rintro r H n (⟨a,rfl,e⟩|⟨b,d,L,rfl,e,hb⟩)
   ·left;rw[e];exact cr _ (by simp[bw,cP])
   ·right
    rw[e]
    have e1:cV.dR H 6 (.dH [.sl b L.length,i64 (-1)])= .dH [cV.dR H 5 (.sl b L.length),i64 (-1)]:=by
     simp only[dR,List.map_cons,List.map_nil]
    rw[e1,dG hb (by simp),cc _ (fL L)]
    rfl
  ·unfold jb
   rw[hc]
   intro v hv
   rw[VR] at hv ⊢
   obtain⟨vs,rfl,hv⟩:=hv
   refine⟨vs,rfl, ?_⟩
   rw[c8] at hv ⊢
   obtain⟨v1,vs1,e1,h1,h2⟩:=hv
   exact⟨v1,vs1,e1,cV.dQ.jy c c 1 .any _ h1,h2⟩
 ·refine dP (h.mono ?_) (fh _)
  rintro r H n (⟨a,rfl,e⟩|⟨b,d,L,rfl,e,hb⟩)
  ·rw[e] at hc;exact absurd rfl hc
  ·rw[e]
   have e1:cV.dR H 6 (.dH [.sl b L.length,i64 (-1)])= .dH [cV.dR H 5 (.sl b L.length),i64 (-1)]:=by
    simp only[dR,List.map_cons,List.map_nil]
   rw[e1,dG hb (by simp),cc _ (fL L)]
   rfl
end Go.Proofs.YtekfmjjmihomlaaGreat
end
section
/- How variables are shared, in plain data. -/
namespace Go.Proofs.YtekfmjjmihomlaaGreat
open Go Go.cV Go.Proofs
set_option linter.unusedSimpArgs false
set_option linter.unusedVariables false
def hb (l:List Int):Nat:=l.foldl (fun a k=>a|||2^k.toNat) 0
abbrev ctz (x:Nat):Nat:=Lib.ctz 32 x
def L8:Nat→Nat→List Int
 |0,_=>[]
 |f+1,x=>if x=0 then[] else(ctz x:Int)::L8 f (x&&& (x - 1))
def bits (x:Nat):List Int:=L8 x x
end Go.Proofs.YtekfmjjmihomlaaGreat
end
