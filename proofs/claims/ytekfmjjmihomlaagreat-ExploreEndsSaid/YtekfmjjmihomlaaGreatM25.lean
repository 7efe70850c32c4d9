import Derived.Test.YtekfmjjmihomlaaGreatM23
import Derived.Test.YtekfmjjmihomlaaGreatM24
import Derived.Lib.TrailingZeros
section
/- What is reached: the walk. -/
namespace Go.Proofs.YtekfmjjmihomlaaGreat
open Go Go.cZ Go.Proofs
set_option linter.unusedSimpArgs false
set_option linter.unusedVariables false
theorem yw {α:Type} (F:List Int→α) (n:Node) (h:n.kind=8→F [n.next,n.next]=F [n.next]):F n.fold=F n.gK:=by
 unfold Node.fold Node.gK
 by_cases h9:n.kind=9
 ·rw[if_pos h9,if_pos h9]
 ·rw[if_neg h9,if_neg h9]
  by_cases h8:n.kind=8
  ·rw[if_pos h8]
   by_cases he:n.nq=n.next
   ·rw[if_neg (fun h=>h.2 he),he,h h8]
   ·rw[if_pos ⟨h8,he⟩]
  ·rw[if_neg h8,if_neg (fun h=>h8 h.1)]
theorem qH {l:List Bool} {k:Int} (d:AV) (h:k.toNat<l.length):(l.map bl).getD k.toNat d=bl (lD l k):=by
 rw[show lD l k=l.getD k.toNat default from rfl];exact dB bl l _ d h
theorem nj {l:List Bool} {k:Nat} (v:Bool):(l.map bl).set k (bl v)=(l.set k v).map bl:=by rw[List.map_set]
theorem gE (l:List Int) (k:Int):l.map i64++[i64 k]=(l++[k]).map i64:=by simp
end Go.Proofs.YtekfmjjmihomlaaGreat
end
section
/- The locks held: the walk. -/
namespace Go.Proofs.YtekfmjjmihomlaaGreat
open Go Go.cZ Go.Proofs
set_option linter.unusedSimpArgs false
set_option linter.unusedVariables false
abbrev py (E:List (Int×Bool)):List AV:=pI (fun n:Int=>Value.int .i64 n) bl E
theorem nC (E:List (Int×Bool)) (t:Int):ur false (.int .i64 t) (py E) (bl false)=some (bl ((ef E t).getD false),(ef E t).isSome):=(zP GW bl t E (bl false)).trans (by cases ef E t<;>rfl)
theorem mT (E:List (Int×Bool)) (t:Int) (v:Bool):xc false (.int .i64 t) (py E) (bl v)=some (py (ej E t v)):=zQ GW bl t v E
def qx (E:List (Int×Bool)) (s:HS):Prop:=∀k:Int,0≤k→(ef E k).getD false=s.f k
theorem jl {l:List (List Int)} {i:Int} (h:i.toNat<l.length) (d:AV):(l.map fc).getD i.toNat d=fc (l.getD i.toNat []):=dB fc l _ d h
theorem j5 {l:List (List Int)} {i:Nat} (v:List Int):(l.map fc).set i (fc v)=(l.set i v).map fc:=by rw[List.map_set]
theorem oE {g:cA} {f k:Nat} {s:HS} (hk:k<s.todo.length):ij g (f+1) s k=(match dU (g.nd (s.todo.getD k 0).toNat) (s.l (s.todo.getD k 0)) with
 |none=>([],s.todo.getD k 0)
 |some now=>match dS now (g.nd (s.todo.getD k 0).toNat).gK s with
  | .inl s'=>ij g f s' (k+1)
  | .inr at_=>([],at_)):=by rw[ij,if_pos hk];rfl
def jk (r:List (List Int)×Int):AV:= .dV [.im 1 .any (r.1.map fc),i64 r.2]
theorem wR {l:List Int} {k:Nat} (h:k<l.length) (d:AV):(l.map i64).getD ((k:Int)).toNat d=i64 (l.getD k 0):=k9 h d
theorem GV (l:List Int) {H:Hp}:[AV.im 1 .any (l.map i64)].map (cZ.dX H 6)=[AV.im 1 .any (l.map i64)]:=by
 rw[List.map_cons,List.map_nil,cx 6 (by simp[cE,cC])]
theorem fR (now l:List Int) (s:HS) {j:Nat} (h:j<l.length):dS now (l.drop j) s=if s.f (l.getD j 0)=false then dS now (l.drop (j+1)) ⟨s.bx.set (l.getD j 0).toNat now,s.found.set (l.getD j 0).toNat true,s.todo++[l.getD j 0]⟩ else if s.l (l.getD j 0)=now then dS now (l.drop (j+1)) s else .inr (l.getD j 0):=by
 rw[List.drop_eq_getElem_cons h,dS,gd h]
theorem ue (now:List Int) (a:Int) (s:HS) (h:a.toNat<s.found.length) (hl:s.bx.length=s.found.length):dS now [a,a] s=dS now [a] s:=by
 simp only[dS]
 by_cases h1:s.f a=false
 ·rw[if_pos h1,if_pos h1,if_neg (by rw[HS.tK h];simp),if_pos (by rw[HS.NR (by rw[hl];exact h)];simp)]
 ·simp only[if_neg h1]
  by_cases h2:s.l a=now
  ·simp only[if_pos h2]
  ·simp only[if_neg h2]
theorem C8 {g:cA} (hw:Whole g) {i:Nat} (hi:i<g.nodes.length) {now:List Int} {s:HS} (hl:s.bx.length=g.nodes.length) (hf:s.found.length=g.nodes.length):dS now (g.nd i).gK s=dS now (g.nd i).fold s:=
 (yw (fun l=>dS now l s) (g.nd i) fun h8=>ue now _ s (by
  rw[hf]
  refine((hw.2.2 i hi).2.2 _ ?_).2
  unfold Node.gK
  rw[if_neg (by omega),if_pos h8];simp) (by rw[hl,hf])).symm
def lJ (nv:AV) (l:List Int) (H:Hp) (nx:Nat):Prop:=Told nv l H nx∧∀b m,nv= .sl b m→12<b
theorem Told.cS {nv:AV} {l:List Int} {H H2:Hp} {nx nx2:Nat} (h:Told nv l H nx) (hn:nx≤nx2) (hb:∀b m,nv= .sl b m→12<b) (hk:∀b,12<b→b<nx→bn H2 b=bn H b):Told nv l H2 nx2:=by
 rcases h with h|⟨b,d,h1,h2,h3⟩
 ·exact .inl h
 ·exact .inr ⟨b,d,h1,by omega,(hk b (hb _ _ h1) h2).trans h3⟩
theorem lJ.cS {nv:AV} {l:List Int} {H H2:Hp} {nx nx2:Nat} (h:lJ nv l H nx) (hn:nx≤nx2) (hk:∀b,12<b→b<nx→bn H2 b=bn H b):lJ nv l H2 nx2:=⟨h.1.cS hn h.2 hk,h.2⟩
set_option maxRecDepth 8000 in
set_option maxHeartbeats 8000000 in
theorem DJ (g:cA) (hg:g.Wf) (hw:Whole g):cP Tryz.prog 80 [g.av] [] 0 (fun r H n=>(∃a,r= .dV [.sc (.slice none 0 0),i64 a]∧gl g=([],a))∨∃b d L,r= .dV [.sl b L.length,i64 (-1)]∧gl g=(L,-1)∧bn H b=some (.row 53 1 d (L.map fc))):=by
 have hl:=hg.len
 have hl0:=hw.1
 have hl1:=hw.2.1
 refine aQ II rfl ?_
 repeat' (first|((with_reducible refine aF ?_);conv=>whnf)|refine aG ?_|exact eK|with_reducible refine aD ?_ ?_|((with_reducible refine Ask.mk ?_);first|exact cz|exact cU|(intro h;simp_all[cA.cells]<;>fail)|(simp_all[cA.cells]<;>fail))|(apply aA;(·exact cF))|(apply aR (g:=none);(·exact fun _=>mT [] _ _))|refine aH ?_|((with_reducible refine aB ?_ ?_)<;>intro hc<;>(try simp only[List.length_map,ne_eq,dE] at hc)<;>try(exfalso;omega)))
 simp only[List.length_map,Int.toNat_natCast]
 refine af (fun s:HS×Nat=>[(1, .pt 0 1 0 0),(4, .sl 6 g.nodes.length),(5, .mp 8),(6, .sl 12 s.1.todo.length),(7,i64 s.2)])
  (fun s H n=>15≤n∧(∃d,bn H 0=some (.row 64 4 d [g.av]))∧(∃d,bn H 6=some (.row 53 1 d (s.1.bx.map fc)))∧(∃d E,bn H 8=some (.row 3 0 d (mapA (py E)))∧qx E s.1)∧(∃d,bn H 12=some (.row 3 1 d (s.1.todo.map i64)))∧HI g s.1 s.2∧s.2≤g.nodes.length∧(∀i,(s.1.bx.getD i []).length≤s.2)∧ij g (g.nodes.length+1 - s.2) s.1 s.2=gl g)
  (fun s=>g.nodes.length+1 - s.2) (qM g,0) cI ⟨_,_,Wk.PM (b:=6) (e:=53) (sz:=1) (es:=List.replicate g.nodes.length (.sc (.slice none 0 0))) (d:= .sc (.slice none 0 0)) .any bq (es2:=(qM g).bx.map fc) (by simp[qM]) (fun c c2 _ _=> ?_),c8,⟨_,bq⟩,⟨_,bq⟩,⟨_,ej [] 0 true,bq, ?_⟩,⟨_,bq⟩,HI.start hw,Nat.zero_le _, ?_,rfl⟩ ?_
 ·simp only[qM,List.map_replicate]
  exact dI.rep (dZ.kJ c c2 1 .any) _
 ·intro y hy
  have:=kY (l:=List.replicate g.nodes.length false) (i:=0) (by simp;omega) y
  show _=lD ((List.replicate g.nodes.length false).set 0 true) y
  rw[this]
  by_cases e:y=0
  ·subst e;rfl
  ·rw[if_neg (by omega)]
   show(ef [(0,true)] y).getD false=_
   simp only[ef,if_neg e,Option.getD_none,lD,List.getD,List.getElem?_replicate]
   split<;>rfl
 ·intro i
  simp only[qM,List.getD,List.getElem?_replicate];split<;>exact Nat.zero_le _
 rintro⟨s,k⟩ H n ⟨hn,⟨d0,r0⟩,⟨d6,r6⟩,⟨d8,E,r8,hE⟩,⟨d12,r12⟩,hI,hkl,hlen,hrun⟩
 dsimp only at r6 r12 hI hkl hlen hrun hE ⊢
 have hct:=hI.count
 by_cases hk:k<s.todo.length
 ·obtain⟨x0,x1,x2⟩:=hI.inr _ (cW (0:Int) hk)
  have hll:=hI.kj
  have hcnt:=hI.count
  have hlm:(s.bx.map fc).length=g.nodes.length:=by simp[hll]
  have e1:=fun d=>wR hk d
  have e2:=fun d=>jl (l:=s.bx) (i:=s.todo.getD k 0) (by rw[hll];exact x1) d
  have hlk:=hlen (s.todo.getD k 0).toNat
  rw[show g.nodes.length+1 - k=(g.nodes.length - k)+1 by omega,oE hk] at hrun
  have hnx:=fun now s'=>hI.next hw hk (now:=now) (s':=s')
  unfold HS.l at hrun hnx
  generalize hx:s.todo.getD k 0=x at *
  have hf:=uc (g.nd x.toNat)
  unfold fc at hf
  generalize hl0:s.bx.getD x.toNat []=l at *
  have hfl:=F7 (g.nd x.toNat)
  have hfh:=fun now=>C8 hw x1 (now:=now) (s:=s) hI.kj hI.mR
  by_cases h5:(g.nd x.toNat).kind=5
  ·have hnow:dU (g.nd x.toNat) l=some (l++[(g.nd x.toNat).cH]):=by unfold dU;rw[if_pos h5]
   have hnl:(l++[(g.nd x.toNat).cH]).length≤k+1:=by rw[List.length_append];exact Nat.succ_le_succ hlk
   rw[hnow] at hrun
   dsimp only at hrun
   repeat' (first|((with_reducible refine aF ?_);conv=>whnf)|refine aG ?_|exact eK|with_reducible refine aD ?_ ?_|((with_reducible refine Ask.mk ?_);first|exact cz|(exact hlm)|(refine iT (m:=1) rfl ?_;simp only[List.length_map];omega)|exact cU|(intro h;simp_all[cA.cells,Node.cells]<;>fail)|(simp_all[cA.cells,Node.cells]<;>fail))|(apply aA;(·(first|exact gG x1 _|exact e1 _|exact e2 _|exact cF)))|refine aK (hf) ?_|(simp only[h5])|((refine au [] .any (mY (es:=l.map i64) (by rw[List.length_map];omega)) (fun i hi=>by rw[dB i64 _ _ _ (by simpa using hi)];trivial) (fun _ _=>GV l) (by simp[cT,cE,cC]) ?_))|(apply aR (g:=none);(·exact fun _=>nC _ _))|(apply aR (g:=none);(·exact fun _=>mT _ _ _))|refine aH ?_|((with_reducible refine aB ?_ ?_)<;>intro hc<;>(try simp only[List.length_map,ne_eq,dE] at hc)<;>try(exfalso;omega)))
   clear hf
   simp only[List.length_map]
   refine aP (fun q:HS×Nat=>[(1, .pt 0 1 0 0),(4, .sl 6 g.nodes.length),(5, .mp 8),(6, .sl 12 q.1.todo.length),(7,i64 k),(10, .sl (n+26) (l++[(g.nd x.toNat).cH]).length),(78, .im 1 .any ((g.nd x.toNat).fold.map i64)),(79,i64 (g.nd x.toNat).fold.length),(80,i64 q.2)])
    (fun q H2 n2=>q.2≤(g.nd x.toNat).fold.length∧n+15≤n2∧(∃d,bn H2 0=some (.row 64 4 d [g.av]))∧(∃d,bn H2 6=some (.row 53 1 d (q.1.bx.map fc)))∧(∃d E,bn H2 8=some (.row 3 0 d (mapA (py E)))∧qx E q.1)∧(∃d,bn H2 12=some (.row 3 1 d (q.1.todo.map i64)))∧lJ (.sl (n+26) (l++[(g.nd x.toNat).cH]).length) (l++[(g.nd x.toNat).cH]) H2 n2∧q.1.bx.length=g.nodes.length∧q.1.found.length=g.nodes.length∧q.1.todo.length+q.1.found.count false=g.nodes.length∧(∀i,(q.1.bx.getD i []).length≤k+1)∧dS (l++[(g.nd x.toNat).cH]) ((g.nd x.toNat).fold.drop q.2) q.1=dS (l++[(g.nd x.toNat).cH]) (g.nd x.toNat).fold s)
    (fun q=>(g.nd x.toNat).fold.length - q.2) (s,0) cI ⟨Nat.zero_le _,c8,⟨_,bq⟩,⟨_,bq⟩,⟨_,E,bq,hE⟩,⟨_,bq⟩,⟨.inr ⟨n+26,_,rfl,c8,by rw[←gE];exact bq⟩,fun b m h=>by cases h;omega⟩,hI.kj,hI.mR,hI.count,fun i=>Nat.le_succ_of_le (hlen i),rfl⟩ ?_
   clear r0 r6 r8 r12
   rintro⟨⟨lks,fnds,tds⟩,j⟩ H2 n2 ⟨hj,hn2,⟨d02,r0⟩,⟨d62,r6⟩,⟨d82,E2,r8,hE2⟩,⟨d122,r12⟩,hT,hll2,hfl2,hct2,hlen2,hto⟩
   dsimp only at hj hn2 r6 hE2 r12 hT hll2 hfl2 hct2 hlen2 hto ⊢
   by_cases hjl:j<(g.nd x.toNat).fold.length
   ·have hm:=oL.1 (cW 0 hjl)
    obtain⟨k0,k1⟩:=(hw.2.2 x.toNat x1).2.2 _ hm
    have e3:=fun d=>k9 (l:=(g.nd x.toNat).fold) hjl d
    rw[fR _ _ _ hjl] at hto
    generalize hy:(g.nd x.toNat).fold.getD j 0=y at *
    have hl2m:(lks.map fc).length=g.nodes.length:=by simp[hll2]
    have e4:=fun d=>jl (l:=lks) (i:=y) (by rw[hll2];exact k1) d
    have hE3:=hE2 y k0
    have hyc:((y.toNat:Nat):Int)=y:=by omega
    cases hfd:HS.f ⟨lks,fnds,tds⟩ y with
    |true=>
     rw[if_neg (by rw[hfd];decide)] at hto
     rw[hfd] at hE3
     repeat' (first|((with_reducible refine aF ?_);conv=>whnf)|refine aG ?_|exact eK|with_reducible refine aD ?_ ?_|((with_reducible refine Ask.mk ?_);first|exact cz|(exact hl2m)|exact cU)|(apply aA;(·(first|exact e3 _|exact e4 _|exact cF)))|(simp only[hE3])|(apply aR (g:=none);(·exact fun _=>nC _ _))|(apply aR (g:=none);(·exact fun _=>mT _ _ _))|refine aH ?_|((with_reducible refine aB ?_ ?_)<;>intro hc<;>(try simp only[List.length_map,ne_eq,dE] at hc)<;>try(exfalso;omega)))
     refine aO (qU (l:=l++[(g.nd x.toNat).cH]) ?_ (lks.getD y.toNat []) (by omega) (by have:=hlen2 y.toNat;omega)) ?_
     ·exact(hT.cS c8 (fun b h1 h2=>cB)).1
     rintro r1 H3 n3 ⟨hr,rfl,rfl⟩
     by_cases hq:lks.getD y.toNat []=(l++[(g.nd x.toNat).cH])
     ·have hq2:HS.l ⟨lks,fnds,tds⟩ y=(l++[(g.nd x.toNat).cH]):=hq
      rw[if_pos hq2] at hto
      have hr1:r1=bl true:=hr.trans (congrArg _ (decide_eq_true hq))
      subst hr1
      repeat' (first|((with_reducible refine aF ?_);conv=>whnf)|refine aG ?_|exact aC|with_reducible refine aD ?_ ?_|(apply aA;(·exact cF))|refine aH ?_|((with_reducible refine aB ?_ ?_)<;>intro hc<;>(try simp only[List.length_map,ne_eq,dE] at hc)<;>try(exfalso;omega)))
      exact⟨(⟨lks,fnds,tds⟩,j+1),by dsimp only;omega,cI,by dsimp only;omega,c8,⟨_,bq⟩,⟨_,bq⟩,⟨_,E2,bq,hE2⟩,⟨_,bq⟩,hT.cS c8 (fun b h1 h2=>cB),hll2,hfl2,hct2,hlen2,hto⟩
     ·have hq2:¬HS.l ⟨lks,fnds,tds⟩ y=(l++[(g.nd x.toNat).cH]):=hq
      rw[if_neg hq2] at hto
      have hr1:r1=bl false:=hr.trans (congrArg _ (decide_eq_false hq))
      subst hr1
      repeat' (first|((with_reducible refine aF ?_);conv=>whnf)|refine aG ?_|exact aC|with_reducible refine aD ?_ ?_|(apply aA;(·exact cF))|refine aH ?_|((with_reducible refine aB ?_ ?_)<;>intro hc<;>(try simp only[List.length_map,ne_eq,dE] at hc)<;>try(exfalso;omega)))
      exact⟨.inl ⟨y,rfl,by rw[←hrun,hfh,←hto]⟩⟩
    |false=>
     rw[if_pos hfd] at hto
     rw[hfd] at hE3
     have hcts:=count_set (l:=fnds) (i:=y.toNat) (by rw[hfl2];exact k1) hfd
     repeat' (first|((with_reducible refine aF ?_);conv=>whnf)|refine aG ?_|exact eK|with_reducible refine aD ?_ ?_|((with_reducible refine Ask.mk ?_);first|exact cz|(exact hl2m)|exact cU)|(apply aA;(·(first|exact e3 _|exact e4 _|exact cF)))|(simp only[hE3])|(apply aR (g:=none);(·exact fun _=>nC _ _))|(apply aR (g:=none);(·exact fun _=>mT _ _ _))|refine aH ?_|((with_reducible refine aB ?_ ?_)<;>intro hc<;>(try simp only[List.length_map,ne_eq,dE] at hc)<;>try(exfalso;omega)))
     refine aO (lA (l:=l++[(g.nd x.toNat).cH]) ?_ (by omega)) ?_
     ·exact(hT.cS c8 (fun b h1 h2=>cB)).1
     rintro _ H3 n3 ⟨rfl,hn3,hkp⟩
     have hb:∀{p:Prop},p→p:=fun h=>h
     have r03:bn H3 0=some (.row 64 4 d02 [g.av]):=(hkp 0 c8).trans bq
     have r63:bn H3 6=some (.row 53 1 d62 (lks.map fc)):=(hkp 6 c8).trans bq
     have r83:bn H3 8=some (.row 3 0 d82 (mapA (py (ej E2 y true)))):=(hkp 8 c8).trans bq
     have r123:bn H3 12=some (.row 3 1 d122 (tds.map i64)):=(hkp 12 c8).trans bq
     have hn23:n2<n3:=Nat.lt_of_lt_of_le c8 hn3
     have hT3:lJ (.sl (n+26) (l++[(g.nd x.toNat).cH]).length) (l++[(g.nd x.toNat).cH]) H3 n3:=hT.cS (Nat.le_of_lt hn23) (fun b h1 h2=>(hkp b (Nat.lt_of_lt_of_le h2 c8)).trans cB)
     clear hkp hT
     repeat' (first|((with_reducible refine aF ?_);conv=>whnf)|refine aG ?_|exact eK|with_reducible refine aD ?_ ?_|((with_reducible refine Ask.mk ?_);first|exact cz|(exact hl2m)|exact cU)|(apply aA;(·(first|exact e3 _|exact e4 _|exact cF)))|refine aH ?_|((with_reducible refine aB ?_ ?_)<;>intro hc<;>(try simp only[List.length_map,ne_eq,dE] at hc)<;>try(exfalso;omega)))
     refine⟨(⟨lks.set y.toNat (l++[(g.nd x.toNat).cH]),fnds.set y.toNat true,tds++[y]⟩,j+1),by dsimp only;omega,cI,by dsimp only;omega,c8,⟨_,bq⟩,⟨_,by dsimp only;rw[←j5];exact bq⟩,⟨_,ej E2 y true,bq, ?_⟩,⟨_,by dsimp only;rw[←gE];exact bq⟩,hT3.cS c8 (fun b h1 h2=>cB),by simp[hll2],by simp[hfl2], ?_, ?_,hto⟩
     ·intro z hz
      rw[lZ,HS.tK (s:=⟨lks,fnds,tds⟩) (by rw[hfl2];exact k1)]
      by_cases hzy:z=y
      ·rw[if_pos hzy,if_pos (by rw[hzy])];rfl
      ·rw[if_neg hzy,if_neg (by omega)];exact hE2 z hz
     ·simp only[List.length_append,List.length_cons,List.length_nil];omega
     ·intro i
      rw[eE]
      split
      ·exact hnl
      ·exact hlen2 i
   ·have:j=(g.nd x.toNat).fold.length:=by omega
    subst this
    rw[List.drop_eq_nil_of_le (Nat.le_refl _),dS] at hto
    have hnx2:=hnx _ _ hnow (by rw[hfh];exact hto.symm)
    repeat' (first|((with_reducible refine aF ?_);conv=>whnf)|refine aG ?_|exact aC|with_reducible refine aD ?_ ?_|(apply aA;(·exact cF))|refine aH ?_|((with_reducible refine aB ?_ ?_)<;>intro hc<;>(try simp only[List.length_map,ne_eq,dE] at hc)<;>try(exfalso;omega)))
    refine⟨(⟨lks,fnds,tds⟩,k+1),by dsimp only;omega,cI,⟨_,_,Wk.refl _ _ _,c8,⟨_,bq⟩,⟨_,bq⟩,⟨_,E2,bq,hE2⟩,⟨_,bq⟩,hnx2,by dsimp only;omega,hlen2, ?_⟩⟩
    rw[←hrun,hfh,←hto]
    dsimp only
    congr 1
    omega
  ·by_cases h6:(g.nd x.toNat).kind=6
   ·rcases List.eq_nil_or_concat l with rfl|⟨a,y,rfl⟩
    ·have hnow:dU (g.nd x.toNat) []=none:=by unfold dU;rw[if_neg h5,if_pos h6,if_neg (fun h=>h.1 rfl)]
     rw[hnow] at hrun
     dsimp only at hrun
     repeat' (first|((with_reducible refine aF ?_);conv=>whnf)|refine aG ?_|exact eK|with_reducible refine aD ?_ ?_|((with_reducible refine Ask.mk ?_);first|exact cz|(exact hlm)|exact cU|(intro h;simp_all[cA.cells,Node.cells]<;>fail)|(simp_all[cA.cells,Node.cells]<;>fail))|(apply aA;(·(first|exact gG x1 _|exact e1 _|exact e2 _|exact cF)))|refine aK (hf) ?_|(simp only[h6])|(apply aR (g:=none);(·exact fun _=>nC _ _))|(apply aR (g:=none);(·exact fun _=>mT _ _ _))|refine aH ?_|((with_reducible refine aB ?_ ?_)<;>intro hc<;>(try simp only[List.length_map,ne_eq,dE] at hc)<;>try(exfalso;omega)))
     exact⟨.inl ⟨x,rfl,hrun.symm⟩⟩
    ·rw[List.concat_eq_append] at *
     have hla:(a++[y]).length=a.length+1:=by simp
     have hml:((a++[y]).map i64).length=a.length+1:=by simp
     have e5:∀d,((a++[y]).map i64).getD (((((a++[y]).map i64).length:Nat):Int) - 1).toNat d=i64 y:=fun d=>by
      rw[hml,show(((a.length+1:Nat):Int) - 1).toNat=a.length by omega,List.map_append]
      simp[List.getD]
     by_cases hy6:y=(g.nd x.toNat).cH
     ·subst hy6
      have hnow:dU (g.nd x.toNat) (a++[(g.nd x.toNat).cH])=some a:=by unfold dU;rw[if_neg h5,if_pos h6,if_pos ⟨by simp,by simp⟩,List.dropLast_concat]
      have hnl:a.length≤k+1:=by omega
      have htk:(((a++[(g.nd x.toNat).cH]).map i64).drop 0).take a.length=a.map i64:=by simp
      rw[hnow] at hrun
      dsimp only at hrun
      repeat' (first|((with_reducible refine aF ?_);conv=>whnf)|refine aG ?_|exact eK|with_reducible refine aD ?_ ?_|((with_reducible refine Ask.mk ?_);first|exact cz|(exact hlm)|exact cU|(intro h;simp_all[cA.cells,Node.cells]<;>fail)|(simp_all[cA.cells,Node.cells]<;>fail))|(apply aA;(·(first|exact gG x1 _|exact e1 _|exact e2 _|exact e5 _|exact cF)))|refine aK (hf) ?_|(simp only[h6])|(simp only[htk])|(apply aR (g:=none);(·exact fun _=>nC _ _))|(apply aR (g:=none);(·exact fun _=>mT _ _ _))|refine aH ?_|((with_reducible refine aB ?_ ?_)<;>intro hc<;>(try simp only[List.length_map,ne_eq,dE] at hc)<;>try(exfalso;omega)))
      ·exact absurd hc (by simp;omega)
      clear hf
      try simp only[List.length_map]
      refine aP (fun q:HS×Nat=>[(1, .pt 0 1 0 0),(4, .sl 6 g.nodes.length),(5, .mp 8),(6, .sl 12 q.1.todo.length),(7,i64 k),(10, .im 1 .any (a.map i64)),(78, .im 1 .any ((g.nd x.toNat).fold.map i64)),(79,i64 (g.nd x.toNat).fold.length),(80,i64 q.2)])
       (fun q H2 n2=>q.2≤(g.nd x.toNat).fold.length∧n+15≤n2∧(∃d,bn H2 0=some (.row 64 4 d [g.av]))∧(∃d,bn H2 6=some (.row 53 1 d (q.1.bx.map fc)))∧(∃d E,bn H2 8=some (.row 3 0 d (mapA (py E)))∧qx E q.1)∧(∃d,bn H2 12=some (.row 3 1 d (q.1.todo.map i64)))∧lJ (.im 1 .any (a.map i64)) (a) H2 n2∧q.1.bx.length=g.nodes.length∧q.1.found.length=g.nodes.length∧q.1.todo.length+q.1.found.count false=g.nodes.length∧(∀i,(q.1.bx.getD i []).length≤k+1)∧dS (a) ((g.nd x.toNat).fold.drop q.2) q.1=dS (a) (g.nd x.toNat).fold s)
       (fun q=>(g.nd x.toNat).fold.length - q.2) (s,0) cI ⟨Nat.zero_le _,c8,⟨_,bq⟩,⟨_,bq⟩,⟨_,E,bq,hE⟩,⟨_,bq⟩,⟨.inl rfl,fun b m h=>by cases h⟩,hI.kj,hI.mR,hI.count,fun i=>Nat.le_succ_of_le (hlen i),rfl⟩ ?_
      clear r0 r6 r8 r12
      rintro⟨⟨lks,fnds,tds⟩,j⟩ H2 n2 ⟨hj,hn2,⟨d02,r0⟩,⟨d62,r6⟩,⟨d82,E2,r8,hE2⟩,⟨d122,r12⟩,hT,hll2,hfl2,hct2,hlen2,hto⟩
      dsimp only at hj hn2 r6 hE2 r12 hT hll2 hfl2 hct2 hlen2 hto ⊢
      by_cases hjl:j<(g.nd x.toNat).fold.length
      ·have hm:=oL.1 (cW 0 hjl)
       obtain⟨k0,k1⟩:=(hw.2.2 x.toNat x1).2.2 _ hm
       have e3:=fun d=>k9 (l:=(g.nd x.toNat).fold) hjl d
       rw[fR _ _ _ hjl] at hto
       generalize hy:(g.nd x.toNat).fold.getD j 0=y at *
       have hl2m:(lks.map fc).length=g.nodes.length:=by simp[hll2]
       have e4:=fun d=>jl (l:=lks) (i:=y) (by rw[hll2];exact k1) d
       have hE3:=hE2 y k0
       have hyc:((y.toNat:Nat):Int)=y:=by omega
       cases hfd:HS.f ⟨lks,fnds,tds⟩ y with
       |true=>
        rw[if_neg (by rw[hfd];decide)] at hto
        rw[hfd] at hE3
        repeat' (first|((with_reducible refine aF ?_);conv=>whnf)|refine aG ?_|exact eK|with_reducible refine aD ?_ ?_|((with_reducible refine Ask.mk ?_);first|exact cz|(exact hl2m)|exact cU)|(apply aA;(·(first|exact e3 _|exact e4 _|exact cF)))|(simp only[hE3])|(apply aR (g:=none);(·exact fun _=>nC _ _))|(apply aR (g:=none);(·exact fun _=>mT _ _ _))|refine aH ?_|((with_reducible refine aB ?_ ?_)<;>intro hc<;>(try simp only[List.length_map,ne_eq,dE] at hc)<;>try(exfalso;omega)))
        refine aO (qU (l:=a) ?_ (lks.getD y.toNat []) (by omega) (by have:=hlen2 y.toNat;omega)) ?_
        ·exact(hT.cS c8 (fun b h1 h2=>cB)).1
        rintro r1 H3 n3 ⟨hr,rfl,rfl⟩
        by_cases hq:lks.getD y.toNat []=(a)
        ·have hq2:HS.l ⟨lks,fnds,tds⟩ y=(a):=hq
         rw[if_pos hq2] at hto
         have hr1:r1=bl true:=hr.trans (congrArg _ (decide_eq_true hq))
         subst hr1
         repeat' (first|((with_reducible refine aF ?_);conv=>whnf)|refine aG ?_|exact aC|with_reducible refine aD ?_ ?_|(apply aA;(·exact cF))|refine aH ?_|((with_reducible refine aB ?_ ?_)<;>intro hc<;>(try simp only[List.length_map,ne_eq,dE] at hc)<;>try(exfalso;omega)))
         exact⟨(⟨lks,fnds,tds⟩,j+1),by dsimp only;omega,cI,by dsimp only;omega,c8,⟨_,bq⟩,⟨_,bq⟩,⟨_,E2,bq,hE2⟩,⟨_,bq⟩,hT.cS c8 (fun b h1 h2=>cB),hll2,hfl2,hct2,hlen2,hto⟩
        ·have hq2:¬HS.l ⟨lks,fnds,tds⟩ y=(a):=hq
         rw[if_neg hq2] at hto
         have hr1:r1=bl false:=hr.trans (congrArg _ (decide_eq_false hq))
         subst hr1
         repeat' (first|((with_reducible refine aF ?_);conv=>whnf)|refine aG ?_|exact aC|with_reducible refine aD ?_ ?_|(apply aA;(·exact cF))|refine aH ?_|((with_reducible refine aB ?_ ?_)<;>intro hc<;>(try simp only[List.length_map,ne_eq,dE] at hc)<;>try(exfalso;omega)))
         exact⟨.inl ⟨y,rfl,by rw[←hrun,hfh,←hto]⟩⟩
       |false=>
        rw[if_pos hfd] at hto
        rw[hfd] at hE3
        have hcts:=count_set (l:=fnds) (i:=y.toNat) (by rw[hfl2];exact k1) hfd
        repeat' (first|((with_reducible refine aF ?_);conv=>whnf)|refine aG ?_|exact eK|with_reducible refine aD ?_ ?_|((with_reducible refine Ask.mk ?_);first|exact cz|(exact hl2m)|exact cU)|(apply aA;(·(first|exact e3 _|exact e4 _|exact cF)))|(simp only[hE3])|(apply aR (g:=none);(·exact fun _=>nC _ _))|(apply aR (g:=none);(·exact fun _=>mT _ _ _))|refine aH ?_|((with_reducible refine aB ?_ ?_)<;>intro hc<;>(try simp only[List.length_map,ne_eq,dE] at hc)<;>try(exfalso;omega)))
        refine aO (lA (l:=a) ?_ (by omega)) ?_
        ·exact(hT.cS c8 (fun b h1 h2=>cB)).1
        rintro _ H3 n3 ⟨rfl,hn3,hkp⟩
        have hb:∀{p:Prop},p→p:=fun h=>h
        have r03:bn H3 0=some (.row 64 4 d02 [g.av]):=(hkp 0 c8).trans bq
        have r63:bn H3 6=some (.row 53 1 d62 (lks.map fc)):=(hkp 6 c8).trans bq
        have r83:bn H3 8=some (.row 3 0 d82 (mapA (py (ej E2 y true)))):=(hkp 8 c8).trans bq
        have r123:bn H3 12=some (.row 3 1 d122 (tds.map i64)):=(hkp 12 c8).trans bq
        have hn23:n2<n3:=Nat.lt_of_lt_of_le c8 hn3
        have hT3:lJ (.im 1 .any (a.map i64)) (a) H3 n3:=hT.cS (Nat.le_of_lt hn23) (fun b h1 h2=>(hkp b (Nat.lt_of_lt_of_le h2 c8)).trans cB)
        clear hkp hT
        repeat' (first|((with_reducible refine aF ?_);conv=>whnf)|refine aG ?_|exact eK|with_reducible refine aD ?_ ?_|((with_reducible refine Ask.mk ?_);first|exact cz|(exact hl2m)|exact cU)|(apply aA;(·(first|exact e3 _|exact e4 _|exact cF)))|refine aH ?_|((with_reducible refine aB ?_ ?_)<;>intro hc<;>(try simp only[List.length_map,ne_eq,dE] at hc)<;>try(exfalso;omega)))
        refine⟨(⟨lks.set y.toNat (a),fnds.set y.toNat true,tds++[y]⟩,j+1),by dsimp only;omega,cI,by dsimp only;omega,c8,⟨_,bq⟩,⟨_,by dsimp only;rw[←j5];exact bq⟩,⟨_,ej E2 y true,bq, ?_⟩,⟨_,by dsimp only;rw[←gE];exact bq⟩,hT3.cS c8 (fun b h1 h2=>cB),by simp[hll2],by simp[hfl2], ?_, ?_,hto⟩
        ·intro z hz
         rw[lZ,HS.tK (s:=⟨lks,fnds,tds⟩) (by rw[hfl2];exact k1)]
         by_cases hzy:z=y
         ·rw[if_pos hzy,if_pos (by rw[hzy])];rfl
         ·rw[if_neg hzy,if_neg (by omega)];exact hE2 z hz
        ·simp only[List.length_append,List.length_cons,List.length_nil];omega
        ·intro i
         rw[eE]
         split
         ·exact hnl
         ·exact hlen2 i
      ·have:j=(g.nd x.toNat).fold.length:=by omega
       subst this
       rw[List.drop_eq_nil_of_le (Nat.le_refl _),dS] at hto
       have hnx2:=hnx _ _ hnow (by rw[hfh];exact hto.symm)
       repeat' (first|((with_reducible refine aF ?_);conv=>whnf)|refine aG ?_|exact aC|with_reducible refine aD ?_ ?_|(apply aA;(·exact cF))|refine aH ?_|((with_reducible refine aB ?_ ?_)<;>intro hc<;>(try simp only[List.length_map,ne_eq,dE] at hc)<;>try(exfalso;omega)))
       refine⟨(⟨lks,fnds,tds⟩,k+1),by dsimp only;omega,cI,⟨_,_,Wk.refl _ _ _,c8,⟨_,bq⟩,⟨_,bq⟩,⟨_,E2,bq,hE2⟩,⟨_,bq⟩,hnx2,by dsimp only;omega,hlen2, ?_⟩⟩
       rw[←hrun,hfh,←hto]
       dsimp only
       congr 1
       omega
     ·have hnow:dU (g.nd x.toNat) (a++[y])=none:=by unfold dU;rw[if_neg h5,if_pos h6,if_neg (fun h=>hy6 (by simpa using h.2))]
      rw[hnow] at hrun
      dsimp only at hrun
      repeat' (first|((with_reducible refine aF ?_);conv=>whnf)|refine aG ?_|exact eK|with_reducible refine aD ?_ ?_|((with_reducible refine Ask.mk ?_);first|exact cz|(exact hlm)|exact cU|(intro h;simp_all[cA.cells,Node.cells]<;>fail)|(simp_all[cA.cells,Node.cells]<;>fail))|(apply aA;(·(first|exact gG x1 _|exact e1 _|exact e2 _|exact e5 _|exact cF)))|refine aK (hf) ?_|(simp only[h6])|(apply aR (g:=none);(·exact fun _=>nC _ _))|(apply aR (g:=none);(·exact fun _=>mT _ _ _))|refine aH ?_|((with_reducible refine aB ?_ ?_)<;>intro hc<;>(try simp only[List.length_map,ne_eq,dE] at hc)<;>try(exfalso;omega)))
      all_goals first|exact absurd hc.2 hy6|exact⟨.inl ⟨x,rfl,hrun.symm⟩⟩
   ·by_cases h9:(g.nd x.toNat).kind=9∧l≠[]
    ·have hnow:dU (g.nd x.toNat) l=none:=by unfold dU;rw[if_neg h5,if_neg h6,if_pos h9.1,if_neg h9.2]
     have hlp:0<l.length:=List.length_pos_iff.2 h9.2
     have h91:=h9.1
     rw[hnow] at hrun
     dsimp only at hrun
     repeat' (first|((with_reducible refine aF ?_);conv=>whnf)|refine aG ?_|exact eK|with_reducible refine aD ?_ ?_|((with_reducible refine Ask.mk ?_);first|exact cz|(exact hlm)|exact cU|(intro h;simp_all[cA.cells,Node.cells]<;>fail)|(simp_all[cA.cells,Node.cells]<;>fail))|(apply aA;(·(first|exact gG x1 _|exact e1 _|exact e2 _|exact cF)))|refine aK (hf) ?_|(simp only[h91])|(apply aR (g:=none);(·exact fun _=>nC _ _))|(apply aR (g:=none);(·exact fun _=>mT _ _ _))|refine aH ?_|((with_reducible refine aB ?_ ?_)<;>intro hc<;>(try simp only[List.length_map,ne_eq,dE] at hc)<;>try(exfalso;omega)))
     exact⟨.inl ⟨x,rfl,hrun.symm⟩⟩
    ·by_cases h91:(g.nd x.toNat).kind=9
     ·have hl0:l=[]:=Classical.byContradiction fun h=>h9 ⟨h91,h⟩
      subst hl0
      have hnow:dU (g.nd x.toNat) []=some []:=by unfold dU;rw[if_neg h5,if_neg h6,if_pos h91,if_pos rfl]
      have hnl:([]:List Int).length≤k+1:=Nat.zero_le _
      rw[hnow] at hrun
      dsimp only at hrun
      repeat' (first|((with_reducible refine aF ?_);conv=>whnf)|refine aG ?_|exact eK|with_reducible refine aD ?_ ?_|((with_reducible refine Ask.mk ?_);first|exact cz|(exact hlm)|exact cU|(intro h;simp_all[cA.cells,Node.cells]<;>fail)|(simp_all[cA.cells,Node.cells]<;>fail))|(apply aA;(·(first|exact gG x1 _|exact e1 _|exact e2 _|exact cF)))|refine aK (hf) ?_|(simp only[h91])|(apply aR (g:=none);(·exact fun _=>nC _ _))|(apply aR (g:=none);(·exact fun _=>mT _ _ _))|refine aH ?_|((with_reducible refine aB ?_ ?_)<;>intro hc<;>(try simp only[List.length_map,ne_eq,dE] at hc)<;>try(exfalso;omega)))
      clear hf
      try simp only[List.length_map]
      refine aP (fun q:HS×Nat=>[(1, .pt 0 1 0 0),(4, .sl 6 g.nodes.length),(5, .mp 8),(6, .sl 12 q.1.todo.length),(7,i64 k),(10, .im 1 .any (([]:List Int).map i64)),(78, .im 1 .any ((g.nd x.toNat).fold.map i64)),(79,i64 (g.nd x.toNat).fold.length),(80,i64 q.2)])
       (fun q H2 n2=>q.2≤(g.nd x.toNat).fold.length∧n+15≤n2∧(∃d,bn H2 0=some (.row 64 4 d [g.av]))∧(∃d,bn H2 6=some (.row 53 1 d (q.1.bx.map fc)))∧(∃d E,bn H2 8=some (.row 3 0 d (mapA (py E)))∧qx E q.1)∧(∃d,bn H2 12=some (.row 3 1 d (q.1.todo.map i64)))∧lJ (.im 1 .any (([]:List Int).map i64)) ([]) H2 n2∧q.1.bx.length=g.nodes.length∧q.1.found.length=g.nodes.length∧q.1.todo.length+q.1.found.count false=g.nodes.length∧(∀i,(q.1.bx.getD i []).length≤k+1)∧dS ([]) ((g.nd x.toNat).fold.drop q.2) q.1=dS ([]) (g.nd x.toNat).fold s)
       (fun q=>(g.nd x.toNat).fold.length - q.2) (s,0) cI ⟨Nat.zero_le _,c8,⟨_,bq⟩,⟨_,bq⟩,⟨_,E,bq,hE⟩,⟨_,bq⟩,⟨.inl rfl,fun b m h=>by cases h⟩,hI.kj,hI.mR,hI.count,fun i=>Nat.le_succ_of_le (hlen i),rfl⟩ ?_
      clear r0 r6 r8 r12
      rintro⟨⟨lks,fnds,tds⟩,j⟩ H2 n2 ⟨hj,hn2,⟨d02,r0⟩,⟨d62,r6⟩,⟨d82,E2,r8,hE2⟩,⟨d122,r12⟩,hT,hll2,hfl2,hct2,hlen2,hto⟩
      dsimp only at hj hn2 r6 hE2 r12 hT hll2 hfl2 hct2 hlen2 hto ⊢
      by_cases hjl:j<(g.nd x.toNat).fold.length
      ·have hm:=oL.1 (cW 0 hjl)
       obtain⟨k0,k1⟩:=(hw.2.2 x.toNat x1).2.2 _ hm
       have e3:=fun d=>k9 (l:=(g.nd x.toNat).fold) hjl d
       rw[fR _ _ _ hjl] at hto
       generalize hy:(g.nd x.toNat).fold.getD j 0=y at *
       have hl2m:(lks.map fc).length=g.nodes.length:=by simp[hll2]
       have e4:=fun d=>jl (l:=lks) (i:=y) (by rw[hll2];exact k1) d
       have hE3:=hE2 y k0
       have hyc:((y.toNat:Nat):Int)=y:=by omega
       cases hfd:HS.f ⟨lks,fnds,tds⟩ y with
       |true=>
        rw[if_neg (by rw[hfd];decide)] at hto
        rw[hfd] at hE3
        repeat' (first|((with_reducible refine aF ?_);conv=>whnf)|refine aG ?_|exact eK|with_reducible refine aD ?_ ?_|((with_reducible refine Ask.mk ?_);first|exact cz|(exact hl2m)|exact cU)|(apply aA;(·(first|exact e3 _|exact e4 _|exact cF)))|(simp only[hE3])|(apply aR (g:=none);(·exact fun _=>nC _ _))|(apply aR (g:=none);(·exact fun _=>mT _ _ _))|refine aH ?_|((with_reducible refine aB ?_ ?_)<;>intro hc<;>(try simp only[List.length_map,ne_eq,dE] at hc)<;>try(exfalso;omega)))
        refine aO (qU (l:=[]) ?_ (lks.getD y.toNat []) (by omega) (by have:=hlen2 y.toNat;omega)) ?_
        ·exact(hT.cS c8 (fun b h1 h2=>cB)).1
        rintro r1 H3 n3 ⟨hr,rfl,rfl⟩
        by_cases hq:lks.getD y.toNat []=([])
        ·have hq2:HS.l ⟨lks,fnds,tds⟩ y=([]):=hq
         rw[if_pos hq2] at hto
         have hr1:r1=bl true:=hr.trans (congrArg _ (decide_eq_true hq))
         subst hr1
         repeat' (first|((with_reducible refine aF ?_);conv=>whnf)|refine aG ?_|exact aC|with_reducible refine aD ?_ ?_|(apply aA;(·exact cF))|refine aH ?_|((with_reducible refine aB ?_ ?_)<;>intro hc<;>(try simp only[List.length_map,ne_eq,dE] at hc)<;>try(exfalso;omega)))
         exact⟨(⟨lks,fnds,tds⟩,j+1),by dsimp only;omega,cI,by dsimp only;omega,c8,⟨_,bq⟩,⟨_,bq⟩,⟨_,E2,bq,hE2⟩,⟨_,bq⟩,hT.cS c8 (fun b h1 h2=>cB),hll2,hfl2,hct2,hlen2,hto⟩
        ·have hq2:¬HS.l ⟨lks,fnds,tds⟩ y=([]):=hq
         rw[if_neg hq2] at hto
         have hr1:r1=bl false:=hr.trans (congrArg _ (decide_eq_false hq))
         subst hr1
         repeat' (first|((with_reducible refine aF ?_);conv=>whnf)|refine aG ?_|exact aC|with_reducible refine aD ?_ ?_|(apply aA;(·exact cF))|refine aH ?_|((with_reducible refine aB ?_ ?_)<;>intro hc<;>(try simp only[List.length_map,ne_eq,dE] at hc)<;>try(exfalso;omega)))
         exact⟨.inl ⟨y,rfl,by rw[←hrun,hfh,←hto]⟩⟩
       |false=>
        rw[if_pos hfd] at hto
        rw[hfd] at hE3
        have hcts:=count_set (l:=fnds) (i:=y.toNat) (by rw[hfl2];exact k1) hfd
        repeat' (first|((with_reducible refine aF ?_);conv=>whnf)|refine aG ?_|exact eK|with_reducible refine aD ?_ ?_|((with_reducible refine Ask.mk ?_);first|exact cz|(exact hl2m)|exact cU)|(apply aA;(·(first|exact e3 _|exact e4 _|exact cF)))|(simp only[hE3])|(apply aR (g:=none);(·exact fun _=>nC _ _))|(apply aR (g:=none);(·exact fun _=>mT _ _ _))|refine aH ?_|((with_reducible refine aB ?_ ?_)<;>intro hc<;>(try simp only[List.length_map,ne_eq,dE] at hc)<;>try(exfalso;omega)))
        refine aO (lA (l:=[]) ?_ (by omega)) ?_
        ·exact(hT.cS c8 (fun b h1 h2=>cB)).1
        rintro _ H3 n3 ⟨rfl,hn3,hkp⟩
        have hb:∀{p:Prop},p→p:=fun h=>h
        have r03:bn H3 0=some (.row 64 4 d02 [g.av]):=(hkp 0 c8).trans bq
        have r63:bn H3 6=some (.row 53 1 d62 (lks.map fc)):=(hkp 6 c8).trans bq
        have r83:bn H3 8=some (.row 3 0 d82 (mapA (py (ej E2 y true)))):=(hkp 8 c8).trans bq
        have r123:bn H3 12=some (.row 3 1 d122 (tds.map i64)):=(hkp 12 c8).trans bq
        have hn23:n2<n3:=Nat.lt_of_lt_of_le c8 hn3
        have hT3:lJ (.im 1 .any (([]:List Int).map i64)) ([]) H3 n3:=hT.cS (Nat.le_of_lt hn23) (fun b h1 h2=>(hkp b (Nat.lt_of_lt_of_le h2 c8)).trans cB)
        clear hkp hT
        repeat' (first|((with_reducible refine aF ?_);conv=>whnf)|refine aG ?_|exact eK|with_reducible refine aD ?_ ?_|((with_reducible refine Ask.mk ?_);first|exact cz|(exact hl2m)|exact cU)|(apply aA;(·(first|exact e3 _|exact e4 _|exact cF)))|refine aH ?_|((with_reducible refine aB ?_ ?_)<;>intro hc<;>(try simp only[List.length_map,ne_eq,dE] at hc)<;>try(exfalso;omega)))
        refine⟨(⟨lks.set y.toNat ([]),fnds.set y.toNat true,tds++[y]⟩,j+1),by dsimp only;omega,cI,by dsimp only;omega,c8,⟨_,bq⟩,⟨_,by dsimp only;rw[←j5];exact bq⟩,⟨_,ej E2 y true,bq, ?_⟩,⟨_,by dsimp only;rw[←gE];exact bq⟩,hT3.cS c8 (fun b h1 h2=>cB),by simp[hll2],by simp[hfl2], ?_, ?_,hto⟩
        ·intro z hz
         rw[lZ,HS.tK (s:=⟨lks,fnds,tds⟩) (by rw[hfl2];exact k1)]
         by_cases hzy:z=y
         ·rw[if_pos hzy,if_pos (by rw[hzy])];rfl
         ·rw[if_neg hzy,if_neg (by omega)];exact hE2 z hz
        ·simp only[List.length_append,List.length_cons,List.length_nil];omega
        ·intro i
         rw[eE]
         split
         ·exact hnl
         ·exact hlen2 i
      ·have:j=(g.nd x.toNat).fold.length:=by omega
       subst this
       rw[List.drop_eq_nil_of_le (Nat.le_refl _),dS] at hto
       have hnx2:=hnx _ _ hnow (by rw[hfh];exact hto.symm)
       repeat' (first|((with_reducible refine aF ?_);conv=>whnf)|refine aG ?_|exact aC|with_reducible refine aD ?_ ?_|(apply aA;(·exact cF))|refine aH ?_|((with_reducible refine aB ?_ ?_)<;>intro hc<;>(try simp only[List.length_map,ne_eq,dE] at hc)<;>try(exfalso;omega)))
       refine⟨(⟨lks,fnds,tds⟩,k+1),by dsimp only;omega,cI,⟨_,_,Wk.refl _ _ _,c8,⟨_,bq⟩,⟨_,bq⟩,⟨_,E2,bq,hE2⟩,⟨_,bq⟩,hnx2,by dsimp only;omega,hlen2, ?_⟩⟩
       rw[←hrun,hfh,←hto]
       dsimp only
       congr 1
       omega
     ·have hnow:dU (g.nd x.toNat) l=some l:=by unfold dU;rw[if_neg h5,if_neg h6,if_neg h91]
      have hnl:l.length≤k+1:=by omega
      rw[hnow] at hrun
      dsimp only at hrun
      repeat' (first|((with_reducible refine aF ?_);conv=>whnf)|refine aG ?_|exact eK|with_reducible refine aD ?_ ?_|((with_reducible refine Ask.mk ?_);first|exact cz|(exact hlm)|exact cU|(intro h;simp_all[cA.cells,Node.cells]<;>fail)|(simp_all[cA.cells,Node.cells]<;>fail))|(apply aA;(·(first|exact gG x1 _|exact e1 _|exact e2 _|exact cF)))|refine aK (hf) ?_|(simp only[h5])|(simp only[h6])|(simp only[h91])|(apply aR (g:=none);(·exact fun _=>nC _ _))|(apply aR (g:=none);(·exact fun _=>mT _ _ _))|refine aH ?_|((with_reducible refine aB ?_ ?_)<;>intro hc<;>(try simp only[List.length_map,ne_eq,dE] at hc)<;>try(exfalso;omega)))
      clear hf
      try simp only[List.length_map]
      refine aP (fun q:HS×Nat=>[(1, .pt 0 1 0 0),(4, .sl 6 g.nodes.length),(5, .mp 8),(6, .sl 12 q.1.todo.length),(7,i64 k),(10, .im 1 .any (l.map i64)),(78, .im 1 .any ((g.nd x.toNat).fold.map i64)),(79,i64 (g.nd x.toNat).fold.length),(80,i64 q.2)])
       (fun q H2 n2=>q.2≤(g.nd x.toNat).fold.length∧n+15≤n2∧(∃d,bn H2 0=some (.row 64 4 d [g.av]))∧(∃d,bn H2 6=some (.row 53 1 d (q.1.bx.map fc)))∧(∃d E,bn H2 8=some (.row 3 0 d (mapA (py E)))∧qx E q.1)∧(∃d,bn H2 12=some (.row 3 1 d (q.1.todo.map i64)))∧lJ (.im 1 .any (l.map i64)) (l) H2 n2∧q.1.bx.length=g.nodes.length∧q.1.found.length=g.nodes.length∧q.1.todo.length+q.1.found.count false=g.nodes.length∧(∀i,(q.1.bx.getD i []).length≤k+1)∧dS (l) ((g.nd x.toNat).fold.drop q.2) q.1=dS (l) (g.nd x.toNat).fold s)
       (fun q=>(g.nd x.toNat).fold.length - q.2) (s,0) cI ⟨Nat.zero_le _,c8,⟨_,bq⟩,⟨_,bq⟩,⟨_,E,bq,hE⟩,⟨_,bq⟩,⟨.inl rfl,fun b m h=>by cases h⟩,hI.kj,hI.mR,hI.count,fun i=>Nat.le_succ_of_le (hlen i),rfl⟩ ?_
      clear r0 r6 r8 r12
      rintro⟨⟨lks,fnds,tds⟩,j⟩ H2 n2 ⟨hj,hn2,⟨d02,r0⟩,⟨d62,r6⟩,⟨d82,E2,r8,hE2⟩,⟨d122,r12⟩,hT,hll2,hfl2,hct2,hlen2,hto⟩
      dsimp only at hj hn2 r6 hE2 r12 hT hll2 hfl2 hct2 hlen2 hto ⊢
      by_cases hjl:j<(g.nd x.toNat).fold.length
      ·have hm:=oL.1 (cW 0 hjl)
       obtain⟨k0,k1⟩:=(hw.2.2 x.toNat x1).2.2 _ hm
       have e3:=fun d=>k9 (l:=(g.nd x.toNat).fold) hjl d
       rw[fR _ _ _ hjl] at hto
       generalize hy:(g.nd x.toNat).fold.getD j 0=y at *
       have hl2m:(lks.map fc).length=g.nodes.length:=by simp[hll2]
       have e4:=fun d=>jl (l:=lks) (i:=y) (by rw[hll2];exact k1) d
       have hE3:=hE2 y k0
       have hyc:((y.toNat:Nat):Int)=y:=by omega
       cases hfd:HS.f ⟨lks,fnds,tds⟩ y with
       |true=>
        rw[if_neg (by rw[hfd];decide)] at hto
        rw[hfd] at hE3
        repeat' (first|((with_reducible refine aF ?_);conv=>whnf)|refine aG ?_|exact eK|with_reducible refine aD ?_ ?_|((with_reducible refine Ask.mk ?_);first|exact cz|(exact hl2m)|exact cU)|(apply aA;(·(first|exact e3 _|exact e4 _|exact cF)))|(simp only[hE3])|(apply aR (g:=none);(·exact fun _=>nC _ _))|(apply aR (g:=none);(·exact fun _=>mT _ _ _))|refine aH ?_|((with_reducible refine aB ?_ ?_)<;>intro hc<;>(try simp only[List.length_map,ne_eq,dE] at hc)<;>try(exfalso;omega)))
        refine aO (qU (l:=l) ?_ (lks.getD y.toNat []) (by omega) (by have:=hlen2 y.toNat;omega)) ?_
        ·exact(hT.cS c8 (fun b h1 h2=>cB)).1
        rintro r1 H3 n3 ⟨hr,rfl,rfl⟩
        by_cases hq:lks.getD y.toNat []=(l)
        ·have hq2:HS.l ⟨lks,fnds,tds⟩ y=(l):=hq
         rw[if_pos hq2] at hto
         have hr1:r1=bl true:=hr.trans (congrArg _ (decide_eq_true hq))
         subst hr1
         repeat' (first|((with_reducible refine aF ?_);conv=>whnf)|refine aG ?_|exact aC|with_reducible refine aD ?_ ?_|(apply aA;(·exact cF))|refine aH ?_|((with_reducible refine aB ?_ ?_)<;>intro hc<;>(try simp only[List.length_map,ne_eq,dE] at hc)<;>try(exfalso;omega)))
         exact⟨(⟨lks,fnds,tds⟩,j+1),by dsimp only;omega,cI,by dsimp only;omega,c8,⟨_,bq⟩,⟨_,bq⟩,⟨_,E2,bq,hE2⟩,⟨_,bq⟩,hT.cS c8 (fun b h1 h2=>cB),hll2,hfl2,hct2,hlen2,hto⟩
        ·have hq2:¬HS.l ⟨lks,fnds,tds⟩ y=(l):=hq
         rw[if_neg hq2] at hto
         have hr1:r1=bl false:=hr.trans (congrArg _ (decide_eq_false hq))
         subst hr1
         repeat' (first|((with_reducible refine aF ?_);conv=>whnf)|refine aG ?_|exact aC|with_reducible refine aD ?_ ?_|(apply aA;(·exact cF))|refine aH ?_|((with_reducible refine aB ?_ ?_)<;>intro hc<;>(try simp only[List.length_map,ne_eq,dE] at hc)<;>try(exfalso;omega)))
         exact⟨.inl ⟨y,rfl,by rw[←hrun,hfh,←hto]⟩⟩
       |false=>
        rw[if_pos hfd] at hto
        rw[hfd] at hE3
        have hcts:=count_set (l:=fnds) (i:=y.toNat) (by rw[hfl2];exact k1) hfd
        repeat' (first|((with_reducible refine aF ?_);conv=>whnf)|refine aG ?_|exact eK|with_reducible refine aD ?_ ?_|((with_reducible refine Ask.mk ?_);first|exact cz|(exact hl2m)|exact cU)|(apply aA;(·(first|exact e3 _|exact e4 _|exact cF)))|(simp only[hE3])|(apply aR (g:=none);(·exact fun _=>nC _ _))|(apply aR (g:=none);(·exact fun _=>mT _ _ _))|refine aH ?_|((with_reducible refine aB ?_ ?_)<;>intro hc<;>(try simp only[List.length_map,ne_eq,dE] at hc)<;>try(exfalso;omega)))
        refine aO (lA (l:=l) ?_ (by omega)) ?_
        ·exact(hT.cS c8 (fun b h1 h2=>cB)).1
        rintro _ H3 n3 ⟨rfl,hn3,hkp⟩
        have hb:∀{p:Prop},p→p:=fun h=>h
        have r03:bn H3 0=some (.row 64 4 d02 [g.av]):=(hkp 0 c8).trans bq
        have r63:bn H3 6=some (.row 53 1 d62 (lks.map fc)):=(hkp 6 c8).trans bq
        have r83:bn H3 8=some (.row 3 0 d82 (mapA (py (ej E2 y true)))):=(hkp 8 c8).trans bq
        have r123:bn H3 12=some (.row 3 1 d122 (tds.map i64)):=(hkp 12 c8).trans bq
        have hn23:n2<n3:=Nat.lt_of_lt_of_le c8 hn3
        have hT3:lJ (.im 1 .any (l.map i64)) (l) H3 n3:=hT.cS (Nat.le_of_lt hn23) (fun b h1 h2=>(hkp b (Nat.lt_of_lt_of_le h2 c8)).trans cB)
        clear hkp hT
        repeat' (first|((with_reducible refine aF ?_);conv=>whnf)|refine aG ?_|exact eK|with_reducible refine aD ?_ ?_|((with_reducible refine Ask.mk ?_);first|exact cz|(exact hl2m)|exact cU)|(apply aA;(·(first|exact e3 _|exact e4 _|exact cF)))|refine aH ?_|((with_reducible refine aB ?_ ?_)<;>intro hc<;>(try simp only[List.length_map,ne_eq,dE] at hc)<;>try(exfalso;omega)))
        refine⟨(⟨lks.set y.toNat (l),fnds.set y.toNat true,tds++[y]⟩,j+1),by dsimp only;omega,cI,by dsimp only;omega,c8,⟨_,bq⟩,⟨_,by dsimp only;rw[←j5];exact bq⟩,⟨_,ej E2 y true,bq, ?_⟩,⟨_,by dsimp only;rw[←gE];exact bq⟩,hT3.cS c8 (fun b h1 h2=>cB),by simp[hll2],by simp[hfl2], ?_, ?_,hto⟩
        ·intro z hz
         rw[lZ,HS.tK (s:=⟨lks,fnds,tds⟩) (by rw[hfl2];exact k1)]
         by_cases hzy:z=y
         ·rw[if_pos hzy,if_pos (by rw[hzy])];rfl
         ·rw[if_neg hzy,if_neg (by omega)];exact hE2 z hz
        ·simp only[List.length_append,List.length_cons,List.length_nil];omega
        ·intro i
         rw[eE]
         split
         ·exact hnl
         ·exact hlen2 i
      ·have:j=(g.nd x.toNat).fold.length:=by omega
       subst this
       rw[List.drop_eq_nil_of_le (Nat.le_refl _),dS] at hto
       have hnx2:=hnx _ _ hnow (by rw[hfh];exact hto.symm)
       repeat' (first|((with_reducible refine aF ?_);conv=>whnf)|refine aG ?_|exact aC|with_reducible refine aD ?_ ?_|(apply aA;(·exact cF))|refine aH ?_|((with_reducible refine aB ?_ ?_)<;>intro hc<;>(try simp only[List.length_map,ne_eq,dE] at hc)<;>try(exfalso;omega)))
       refine⟨(⟨lks,fnds,tds⟩,k+1),by dsimp only;omega,cI,⟨_,_,Wk.refl _ _ _,c8,⟨_,bq⟩,⟨_,bq⟩,⟨_,E2,bq,hE2⟩,⟨_,bq⟩,hnx2,by dsimp only;omega,hlen2, ?_⟩⟩
       rw[←hrun,hfh,←hto]
       dsimp only
       congr 1
       omega
 ·have hkt:s.todo.length≤k:=by omega
  have hrun2:gl g=(s.bx,-1):=by
   rw[←hrun,show g.nodes.length+1 - k=(g.nodes.length - k)+1 by omega,ij,if_neg hk]
  repeat' (first|((with_reducible refine aF ?_);conv=>whnf)|refine aG ?_|exact aC|with_reducible refine aD ?_ ?_|(apply aA;(·exact cF))|refine aH ?_|((with_reducible refine aB ?_ ?_)<;>intro hc<;>(try simp only[List.length_map,ne_eq,dE] at hc)<;>try(exfalso;omega)))
  exact⟨.inr ⟨6,d6,s.bx,by rw[hI.kj],hrun2,bq⟩⟩
theorem DK (g:cA) (hg:g.Wf) (hw:Whole g):Pure Tryz.prog 80 [g.av] (fun r=>r=jk (gl g)):=by
 have h:=DJ g hg hw
 have fL:∀L:List (List Int),cT 0 (L.map fc):=fun L=>(cC _ _).2 fun _ _=>by simp[fc,cE,cC]
 have fh:∀r,cE 0 (jk r):=fun r=>by simp only[jk,cE,cT];exact⟨fL _,trivial,trivial⟩
 by_cases hc:(gl g).1=[]
 ·refine qQ (u:= .dV [.sc (.slice none 0 0),i64 (gl g).2]) (pure_or (h.mono ?_) (by simp[cE,cT]) (fh _)) (fh _) fun c=> ?_
  ·rintro r H n (⟨a,rfl,e⟩|⟨b,d,L,rfl,e,hb⟩)
   ·left;rw[e];exact cx _ (by simp[cE,cT])
   ·right
    rw[e]
    have e1:cZ.dX H 6 (.dV [.sl b L.length,i64 (-1)])= .dV [cZ.dX H 5 (.sl b L.length),i64 (-1)]:=by
     simp only[dX,List.map_cons,List.map_nil]
    rw[e1,dF hb (by simp),cc _ (fL L)]
    rfl
  ·unfold jk
   rw[hc]
   intro v hv
   rw[VR] at hv ⊢
   obtain⟨vs,rfl,hv⟩:=hv
   refine⟨vs,rfl, ?_⟩
   rw[cd] at hv ⊢
   obtain⟨v1,vs1,e1,h1,h2⟩:=hv
   exact⟨v1,vs1,e1,cZ.dZ.kJ c c 1 .any _ h1,h2⟩
 ·refine dY (h.mono ?_) (fh _)
  rintro r H n (⟨a,rfl,e⟩|⟨b,d,L,rfl,e,hb⟩)
  ·rw[e] at hc;exact absurd rfl hc
  ·rw[e]
   have e1:cZ.dX H 6 (.dV [.sl b L.length,i64 (-1)])= .dV [cZ.dX H 5 (.sl b L.length),i64 (-1)]:=by
    simp only[dX,List.map_cons,List.map_nil]
   rw[e1,dF hb (by simp),cc _ (fL L)]
   rfl
end Go.Proofs.YtekfmjjmihomlaaGreat
end
section
/- How variables are shared, in plain data. -/
namespace Go.Proofs.YtekfmjjmihomlaaGreat
open Go Go.cZ Go.Proofs
set_option linter.unusedSimpArgs false
set_option linter.unusedVariables false
def hb (l:List Int):Nat:=l.foldl (fun a k=>a|||2^k.toNat) 0
abbrev ctz (x:Nat):Nat:=Lib.ctz 32 x
def NI:Nat→Nat→List Int
 |0,_=>[]
 |f+1,x=>if x=0 then[] else(ctz x:Int)::NI f (x&&& (x - 1))
def bits (x:Nat):List Int:=NI x x
end Go.Proofs.YtekfmjjmihomlaaGreat
end
