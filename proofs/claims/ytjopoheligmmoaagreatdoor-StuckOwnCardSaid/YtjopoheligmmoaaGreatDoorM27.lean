import Derived.Test.YtjopoheligmmoaaGreatDoorM26
import Derived.Test.YtjopoheligmmoaaGreatDoorM24
import Derived.Lib.TrailingZeros
section
/- The locks held: the walk. -/
namespace Go.Proofs.YtjopoheligmmoaaGreatDoor
open Go Go.cZ Go.Proofs
set_option linter.unusedSimpArgs false
set_option linter.unusedVariables false
abbrev qx (E:List (Int×Bool)):List AV:=qP (fun n:Int=>Value.int .i64 n) bl E
theorem nt (E:List (Int×Bool)) (t:Int):mK false (.int .i64 t) (qx E) (bl false)=some (bl ((eh E t).getD false),(eh E t).isSome):=(C3 NX bl t E (bl false)).trans (by cases eh E t<;>rfl)
theorem nL (E:List (Int×Bool)) (t:Int) (v:Bool):pD false (.int .i64 t) (qx E) (bl v)=some (qx (jA E t v)):=C4 NX bl t v E
def sV (E:List (Int×Bool)) (s:HS):Prop:=∀k:Int,0≤k→(eh E k).getD false=s.f k
theorem qG {l:List (List Int)} {i:Int} (h:i.toNat<l.length) (d:AV):(l.map fX).getD i.toNat d=fX (l.getD i.toNat []):=dQ fX l _ d h
theorem rK {l:List (List Int)} {i:Nat} (v:List Int):(l.map fX).set i (fX v)=(l.set i v).map fX:=by rw[List.map_set]
theorem wP {g:cF} {f k:Nat} {s:HS} (hk:k<s.todo.length):fe g (f+1) s k=(match dj (g.nd (s.todo.getD k 0).toNat) (s.l (s.todo.getD k 0)) with
 |none=>([],s.todo.getD k 0)
 |some now=>match de now (g.nd (s.todo.getD k 0).toNat).oO s with
  | .inl s'=>fe g f s' (k+1)
  | .inr at_=>([],at_)):=by rw[fe,if_pos hk];rfl
def qE (r:List (List Int)×Int):AV:= .dK [.im 1 .any (r.1.map fX),i64 r.2]
theorem NW {l:List Int} {k:Nat} (h:k<l.length) (d:AV):(l.map i64).getD ((k:Int)).toNat d=i64 (l.getD k 0):=lL h d
theorem NV (l:List Int) {H:Hp}:[AV.im 1 .any (l.map i64)].map (cZ.dV H 6)=[AV.im 1 .any (l.map i64)]:=by
 rw[List.map_cons,List.map_nil,du 6 (by simp[cI,cB])]
theorem jc (now l:List Int) (s:HS) {j:Nat} (h:j<l.length):de now (l.drop j) s=if s.f (l.getD j 0)=false then de now (l.drop (j+1)) ⟨s.cE.set (l.getD j 0).toNat now,s.found.set (l.getD j 0).toNat true,s.todo++[l.getD j 0]⟩ else if s.l (l.getD j 0)=now then de now (l.drop (j+1)) s else .inr (l.getD j 0):=by
 rw[List.drop_eq_getElem_cons h,de,gd h]
theorem wQ (now:List Int) (a:Int) (s:HS) (h:a.toNat<s.found.length) (hl:s.cE.length=s.found.length):de now [a,a] s=de now [a] s:=by
 simp only[de]
 by_cases h1:s.f a=false
 ·rw[if_pos h1,if_pos h1,if_neg (by rw[HS.ud h];simp),if_pos (by rw[HS.US (by rw[hl];exact h)];simp)]
 ·simp only[if_neg h1]
  by_cases h2:s.l a=now
  ·simp only[if_pos h2]
  ·simp only[if_neg h2]
theorem IV {g:cF} (hw:Whole g) {i:Nat} (hi:i<g.nodes.length) {now:List Int} {s:HS} (hl:s.cE.length=g.nodes.length) (hf:s.found.length=g.nodes.length):de now (g.nd i).oO s=de now (g.nd i).fold s:=
 (sU (fun l=>de now l s) (g.nd i) fun h8=>wQ now _ s (by
  rw[hf]
  refine((hw.2.2 i hi).2.2 _ ?_).2
  unfold Node.oO
  rw[if_neg (by omega),if_pos h8];simp) (by rw[hl,hf])).symm
def lh (nv:AV) (l:List Int) (H:Hp) (nx:Nat):Prop:=Told nv l H nx∧∀b m,nv= .sl b m→12<b
theorem Told.cU {nv:AV} {l:List Int} {H H2:Hp} {nx nx2:Nat} (h:Told nv l H nx) (hn:nx≤nx2) (hb:∀b m,nv= .sl b m→12<b) (hk:∀b,12<b→b<nx→bu H2 b=bu H b):Told nv l H2 nx2:=by
 rcases h with h|⟨b,d,h1,h2,h3⟩
 ·exact .inl h
 ·exact .inr ⟨b,d,h1,by omega,(hk b (hb _ _ h1) h2).trans h3⟩
theorem lh.cU {nv:AV} {l:List Int} {H H2:Hp} {nx nx2:Nat} (h:lh nv l H nx) (hn:nx≤nx2) (hk:∀b,12<b→b<nx→bu H2 b=bu H b):lh nv l H2 nx2:=⟨h.1.cU hn h.2 hk,h.2⟩
set_option maxRecDepth 8000 in
set_option maxHeartbeats 8000000 in
theorem JC (g:cF) (hg:g.Wf) (hw:Whole g):cG Tryz.prog 73 [g.av] [] 0 (fun r H n=>(∃a,r= .dK [.sc (.slice none 0 0),i64 a]∧eO g=([],a))∨∃b d L,r= .dK [.sl b L.length,i64 (-1)]∧eO g=(L,-1)∧bu H b=some (.row 31 1 d (L.map fX))):=by
 have hl:=hg.len
 have hl0:=hw.1
 have hl1:=hw.2.1
 refine aM OP rfl ?_
 repeat' (first|((with_reducible refine aI ?_);conv=>whnf)|refine aG ?_|exact gG|with_reducible refine aD ?_ ?_|((with_reducible refine Ask.mk ?_);first|exact dz|exact dD|(intro h;simp_all[cF.cells]<;>fail)|(simp_all[cF.cells]<;>fail))|(apply aB;(·exact cS))|(apply aS (g:=none);(·exact fun _=>nL [] _ _))|refine aH ?_|((with_reducible refine aA ?_ ?_)<;>intro hc<;>(try simp only[List.length_map,ne_eq,db] at hc)<;>try(exfalso;omega)))
 simp only[List.length_map,Int.toNat_natCast]
 refine bH (fun s:HS×Nat=>[(1, .pt 0 1 0 0),(4, .sl 6 g.nodes.length),(5, .mp 8),(6, .sl 12 s.1.todo.length),(7,i64 s.2)])
  (fun s H n=>15≤n∧(∃d,bu H 0=some (.row 60 4 d [g.av]))∧(∃d,bu H 6=some (.row 31 1 d (s.1.cE.map fX)))∧(∃d E,bu H 8=some (.row 3 0 d (mapA (qx E)))∧sV E s.1)∧(∃d,bu H 12=some (.row 3 1 d (s.1.todo.map i64)))∧HI g s.1 s.2∧s.2≤g.nodes.length∧(∀i,(s.1.cE.getD i []).length≤s.2)∧fe g (g.nodes.length+1 - s.2) s.1 s.2=eO g)
  (fun s=>g.nodes.length+1 - s.2) (wR g,0) cK ⟨_,_,Wk.ZC (b:=6) (e:=31) (sz:=1) (es:=List.replicate g.nodes.length (.sc (.slice none 0 0))) (d:= .sc (.slice none 0 0)) .any bw (es2:=(wR g).cE.map fX) (by simp[wR]) (fun c c2 _ _=> ?_),ca,⟨_,bw⟩,⟨_,bw⟩,⟨_,jA [] 0 true,bw, ?_⟩,⟨_,bw⟩,HI.start hw,Nat.zero_le _, ?_,rfl⟩ ?_
 ·simp only[wR,List.map_replicate]
  exact dL.rep (dN.kb c c2 1 .any) _
 ·intro y hy
  have:=lJ (l:=List.replicate g.nodes.length false) (i:=0) (by simp;omega) y
  show _=mn ((List.replicate g.nodes.length false).set 0 true) y
  rw[this]
  by_cases e:y=0
  ·subst e;rfl
  ·rw[if_neg (by omega)]
   show(eh [(0,true)] y).getD false=_
   simp only[eh,if_neg e,Option.getD_none,mn,List.getD,List.getElem?_replicate]
   split<;>rfl
 ·intro i
  simp only[wR,List.getD,List.getElem?_replicate];split<;>exact Nat.zero_le _
 rintro⟨s,k⟩ H n ⟨hn,⟨d0,r0⟩,⟨d6,r6⟩,⟨d8,E,r8,hE⟩,⟨d12,r12⟩,hI,hkl,hlen,hrun⟩
 dsimp only at r6 r12 hI hkl hlen hrun hE ⊢
 have hct:=hI.count
 by_cases hk:k<s.todo.length
 ·obtain⟨x0,x1,x2⟩:=hI.inr _ (cR (0:Int) hk)
  have hll:=hI.pA
  have hcnt:=hI.count
  have hlm:(s.cE.map fX).length=g.nodes.length:=by simp[hll]
  have e1:=fun d=>NW hk d
  have e2:=fun d=>qG (l:=s.cE) (i:=s.todo.getD k 0) (by rw[hll];exact x1) d
  have hlk:=hlen (s.todo.getD k 0).toNat
  rw[show g.nodes.length+1 - k=(g.nodes.length - k)+1 by omega,wP hk] at hrun
  have hnx:=fun now s'=>hI.next hw hk (now:=now) (s':=s')
  unfold HS.l at hrun hnx
  generalize hx:s.todo.getD k 0=x at *
  have hf:=lK (g.nd x.toNat)
  unfold fX at hf
  generalize hl0:s.cE.getD x.toNat []=l at *
  have hfl:=sS (g.nd x.toNat)
  have hfh:=fun now=>IV hw x1 (now:=now) (s:=s) hI.pA hI.qw
  by_cases h5:(g.nd x.toNat).kind=5
  ·have hnow:dj (g.nd x.toNat) l=some (l++[(g.nd x.toNat).cQ]):=by unfold dj;rw[if_pos h5]
   have hnl:(l++[(g.nd x.toNat).cQ]).length≤k+1:=by rw[List.length_append];exact Nat.succ_le_succ hlk
   rw[hnow] at hrun
   dsimp only at hrun
   repeat' (first|((with_reducible refine aI ?_);conv=>whnf)|refine aG ?_|exact gG|with_reducible refine aD ?_ ?_|((with_reducible refine Ask.mk ?_);first|exact dz|(exact hlm)|(refine LX (m:=1) rfl ?_;simp only[List.length_map];omega)|exact dD|(intro h;simp_all[cF.cells,Node.cells]<;>fail)|(simp_all[cF.cells,Node.cells]<;>fail))|(apply aB;(·(first|exact jj x1 _|exact e1 _|exact e2 _|exact cS)))|refine aK (hf) ?_|(simp only[h5])|((refine ax [] .any (nR (es:=l.map i64) (by rw[List.length_map];omega)) (fun i hi=>by rw[dQ i64 _ _ _ (by simpa using hi)];trivial) (fun _ _=>NV l) (by simp[cX,cI,cB]) ?_))|(apply aS (g:=none);(·exact fun _=>nt _ _))|(apply aS (g:=none);(·exact fun _=>nL _ _ _))|refine aH ?_|((with_reducible refine aA ?_ ?_)<;>intro hc<;>(try simp only[List.length_map,ne_eq,db] at hc)<;>try(exfalso;omega)))
   clear hf
   simp only[List.length_map]
   refine aN (fun q:HS×Nat=>[(1, .pt 0 1 0 0),(4, .sl 6 g.nodes.length),(5, .mp 8),(6, .sl 12 q.1.todo.length),(7,i64 k),(10, .sl (n+26) (l++[(g.nd x.toNat).cQ]).length),(78, .im 1 .any ((g.nd x.toNat).fold.map i64)),(79,i64 (g.nd x.toNat).fold.length),(80,i64 q.2)])
    (fun q H2 n2=>q.2≤(g.nd x.toNat).fold.length∧n+15≤n2∧(∃d,bu H2 0=some (.row 60 4 d [g.av]))∧(∃d,bu H2 6=some (.row 31 1 d (q.1.cE.map fX)))∧(∃d E,bu H2 8=some (.row 3 0 d (mapA (qx E)))∧sV E q.1)∧(∃d,bu H2 12=some (.row 3 1 d (q.1.todo.map i64)))∧lh (.sl (n+26) (l++[(g.nd x.toNat).cQ]).length) (l++[(g.nd x.toNat).cQ]) H2 n2∧q.1.cE.length=g.nodes.length∧q.1.found.length=g.nodes.length∧q.1.todo.length+q.1.found.count false=g.nodes.length∧(∀i,(q.1.cE.getD i []).length≤k+1)∧de (l++[(g.nd x.toNat).cQ]) ((g.nd x.toNat).fold.drop q.2) q.1=de (l++[(g.nd x.toNat).cQ]) (g.nd x.toNat).fold s)
    (fun q=>(g.nd x.toNat).fold.length - q.2) (s,0) cK ⟨Nat.zero_le _,ca,⟨_,bw⟩,⟨_,bw⟩,⟨_,E,bw,hE⟩,⟨_,bw⟩,⟨.inr ⟨n+26,_,rfl,ca,by rw[←jQ];exact bw⟩,fun b m h=>by cases h;omega⟩,hI.pA,hI.qw,hI.count,fun i=>Nat.le_succ_of_le (hlen i),rfl⟩ ?_
   clear r0 r6 r8 r12
   rintro⟨⟨lks,fnds,tds⟩,j⟩ H2 n2 ⟨hj,hn2,⟨d02,r0⟩,⟨d62,r6⟩,⟨d82,E2,r8,hE2⟩,⟨d122,r12⟩,hT,hll2,hfl2,hct2,hlen2,hto⟩
   dsimp only at hj hn2 r6 hE2 r12 hT hll2 hfl2 hct2 hlen2 hto ⊢
   by_cases hjl:j<(g.nd x.toNat).fold.length
   ·have hm:=jV.1 (cR 0 hjl)
    obtain⟨k0,k1⟩:=(hw.2.2 x.toNat x1).2.2 _ hm
    have e3:=fun d=>lL (l:=(g.nd x.toNat).fold) hjl d
    rw[jc _ _ _ hjl] at hto
    generalize hy:(g.nd x.toNat).fold.getD j 0=y at *
    have hl2m:(lks.map fX).length=g.nodes.length:=by simp[hll2]
    have e4:=fun d=>qG (l:=lks) (i:=y) (by rw[hll2];exact k1) d
    have hE3:=hE2 y k0
    have hyc:((y.toNat:Nat):Int)=y:=by omega
    cases hfd:HS.f ⟨lks,fnds,tds⟩ y with
    |true=>
     rw[if_neg (by rw[hfd];decide)] at hto
     rw[hfd] at hE3
     repeat' (first|((with_reducible refine aI ?_);conv=>whnf)|refine aG ?_|exact gG|with_reducible refine aD ?_ ?_|((with_reducible refine Ask.mk ?_);first|exact dz|(exact hl2m)|exact dD)|(apply aB;(·(first|exact e3 _|exact e4 _|exact cS)))|(simp only[hE3])|(apply aS (g:=none);(·exact fun _=>nt _ _))|(apply aS (g:=none);(·exact fun _=>nL _ _ _))|refine aH ?_|((with_reducible refine aA ?_ ?_)<;>intro hc<;>(try simp only[List.length_map,ne_eq,db] at hc)<;>try(exfalso;omega)))
     refine aL (rQ (l:=l++[(g.nd x.toNat).cQ]) ?_ (lks.getD y.toNat []) (by omega) (by have:=hlen2 y.toNat;omega)) ?_
     ·exact(hT.cU ca (fun b h1 h2=>cD)).1
     rintro r1 H3 n3 ⟨hr,rfl,rfl⟩
     by_cases hq:lks.getD y.toNat []=(l++[(g.nd x.toNat).cQ])
     ·have hq2:HS.l ⟨lks,fnds,tds⟩ y=(l++[(g.nd x.toNat).cQ]):=hq
      rw[if_pos hq2] at hto
      have hr1:r1=bl true:=hr.trans (congrArg _ (decide_eq_true hq))
      subst hr1
      repeat' (first|((with_reducible refine aI ?_);conv=>whnf)|refine aG ?_|exact aC|with_reducible refine aD ?_ ?_|(apply aB;(·exact cS))|refine aH ?_|((with_reducible refine aA ?_ ?_)<;>intro hc<;>(try simp only[List.length_map,ne_eq,db] at hc)<;>try(exfalso;omega)))
      exact⟨(⟨lks,fnds,tds⟩,j+1),by dsimp only;omega,cK,by dsimp only;omega,ca,⟨_,bw⟩,⟨_,bw⟩,⟨_,E2,bw,hE2⟩,⟨_,bw⟩,hT.cU ca (fun b h1 h2=>cD),hll2,hfl2,hct2,hlen2,hto⟩
     ·have hq2:¬HS.l ⟨lks,fnds,tds⟩ y=(l++[(g.nd x.toNat).cQ]):=hq
      rw[if_neg hq2] at hto
      have hr1:r1=bl false:=hr.trans (congrArg _ (decide_eq_false hq))
      subst hr1
      repeat' (first|((with_reducible refine aI ?_);conv=>whnf)|refine aG ?_|exact aC|with_reducible refine aD ?_ ?_|(apply aB;(·exact cS))|refine aH ?_|((with_reducible refine aA ?_ ?_)<;>intro hc<;>(try simp only[List.length_map,ne_eq,db] at hc)<;>try(exfalso;omega)))
      exact⟨.inl ⟨y,rfl,by rw[←hrun,hfh,←hto]⟩⟩
    |false=>
     rw[if_pos hfd] at hto
     rw[hfd] at hE3
     have hcts:=count_set (l:=fnds) (i:=y.toNat) (by rw[hfl2];exact k1) hfd
     repeat' (first|((with_reducible refine aI ?_);conv=>whnf)|refine aG ?_|exact gG|with_reducible refine aD ?_ ?_|((with_reducible refine Ask.mk ?_);first|exact dz|(exact hl2m)|exact dD)|(apply aB;(·(first|exact e3 _|exact e4 _|exact cS)))|(simp only[hE3])|(apply aS (g:=none);(·exact fun _=>nt _ _))|(apply aS (g:=none);(·exact fun _=>nL _ _ _))|refine aH ?_|((with_reducible refine aA ?_ ?_)<;>intro hc<;>(try simp only[List.length_map,ne_eq,db] at hc)<;>try(exfalso;omega)))
     refine aL (lT (l:=l++[(g.nd x.toNat).cQ]) ?_ (by omega)) ?_
     ·exact(hT.cU ca (fun b h1 h2=>cD)).1
     rintro _ H3 n3 ⟨rfl,hn3,hkp⟩
     have hb:∀{p:Prop},p→p:=fun h=>h
     have r03:bu H3 0=some (.row 60 4 d02 [g.av]):=(hkp 0 ca).trans bw
     have r63:bu H3 6=some (.row 31 1 d62 (lks.map fX)):=(hkp 6 ca).trans bw
     have r83:bu H3 8=some (.row 3 0 d82 (mapA (qx (jA E2 y true)))):=(hkp 8 ca).trans bw
     have r123:bu H3 12=some (.row 3 1 d122 (tds.map i64)):=(hkp 12 ca).trans bw
     have hn23:n2<n3:=Nat.lt_of_lt_of_le ca hn3
     have hT3:lh (.sl (n+26) (l++[(g.nd x.toNat).cQ]).length) (l++[(g.nd x.toNat).cQ]) H3 n3:=hT.cU (Nat.le_of_lt hn23) (fun b h1 h2=>(hkp b (Nat.lt_of_lt_of_le h2 ca)).trans cD)
     clear hkp hT
     repeat' (first|((with_reducible refine aI ?_);conv=>whnf)|refine aG ?_|exact gG|with_reducible refine aD ?_ ?_|((with_reducible refine Ask.mk ?_);first|exact dz|(exact hl2m)|exact dD)|(apply aB;(·(first|exact e3 _|exact e4 _|exact cS)))|refine aH ?_|((with_reducible refine aA ?_ ?_)<;>intro hc<;>(try simp only[List.length_map,ne_eq,db] at hc)<;>try(exfalso;omega)))
     refine⟨(⟨lks.set y.toNat (l++[(g.nd x.toNat).cQ]),fnds.set y.toNat true,tds++[y]⟩,j+1),by dsimp only;omega,cK,by dsimp only;omega,ca,⟨_,bw⟩,⟨_,by dsimp only;rw[←rK];exact bw⟩,⟨_,jA E2 y true,bw, ?_⟩,⟨_,by dsimp only;rw[←jQ];exact bw⟩,hT3.cU ca (fun b h1 h2=>cD),by simp[hll2],by simp[hfl2], ?_, ?_,hto⟩
     ·intro z hz
      rw[mI,HS.ud (s:=⟨lks,fnds,tds⟩) (by rw[hfl2];exact k1)]
      by_cases hzy:z=y
      ·rw[if_pos hzy,if_pos (by rw[hzy])];rfl
      ·rw[if_neg hzy,if_neg (by omega)];exact hE2 z hz
     ·simp only[List.length_append,List.length_cons,List.length_nil];omega
     ·intro i
      rw[fB]
      split
      ·exact hnl
      ·exact hlen2 i
   ·have:j=(g.nd x.toNat).fold.length:=by omega
    subst this
    rw[List.drop_eq_nil_of_le (Nat.le_refl _),de] at hto
    have hnx2:=hnx _ _ hnow (by rw[hfh];exact hto.symm)
    repeat' (first|((with_reducible refine aI ?_);conv=>whnf)|refine aG ?_|exact aC|with_reducible refine aD ?_ ?_|(apply aB;(·exact cS))|refine aH ?_|((with_reducible refine aA ?_ ?_)<;>intro hc<;>(try simp only[List.length_map,ne_eq,db] at hc)<;>try(exfalso;omega)))
    refine⟨(⟨lks,fnds,tds⟩,k+1),by dsimp only;omega,cK,⟨_,_,Wk.refl _ _ _,ca,⟨_,bw⟩,⟨_,bw⟩,⟨_,E2,bw,hE2⟩,⟨_,bw⟩,hnx2,by dsimp only;omega,hlen2, ?_⟩⟩
    rw[←hrun,hfh,←hto]
    dsimp only
    congr 1
    omega
  ·by_cases h6:(g.nd x.toNat).kind=6
   ·rcases List.eq_nil_or_concat l with rfl|⟨a,y,rfl⟩
    ·have hnow:dj (g.nd x.toNat) []=none:=by unfold dj;rw[if_neg h5,if_pos h6,if_neg (fun h=>h.1 rfl)]
     rw[hnow] at hrun
     dsimp only at hrun
     repeat' (first|((with_reducible refine aI ?_);conv=>whnf)|refine aG ?_|exact gG|with_reducible refine aD ?_ ?_|((with_reducible refine Ask.mk ?_);first|exact dz|(exact hlm)|exact dD|(intro h;simp_all[cF.cells,Node.cells]<;>fail)|(simp_all[cF.cells,Node.cells]<;>fail))|(apply aB;(·(first|exact jj x1 _|exact e1 _|exact e2 _|exact cS)))|refine aK (hf) ?_|(simp only[h6])|(apply aS (g:=none);(·exact fun _=>nt _ _))|(apply aS (g:=none);(·exact fun _=>nL _ _ _))|refine aH ?_|((with_reducible refine aA ?_ ?_)<;>intro hc<;>(try simp only[List.length_map,ne_eq,db] at hc)<;>try(exfalso;omega)))
     exact⟨.inl ⟨x,rfl,hrun.symm⟩⟩
    ·rw[List.concat_eq_append] at *
     have hla:(a++[y]).length=a.length+1:=by simp
     have hml:((a++[y]).map i64).length=a.length+1:=by simp
     have e5:∀d,((a++[y]).map i64).getD (((((a++[y]).map i64).length:Nat):Int) - 1).toNat d=i64 y:=fun d=>by
      rw[hml,show(((a.length+1:Nat):Int) - 1).toNat=a.length by omega,List.map_append]
      simp[List.getD]
     by_cases hy6:y=(g.nd x.toNat).cQ
     ·subst hy6
      have hnow:dj (g.nd x.toNat) (a++[(g.nd x.toNat).cQ])=some a:=by unfold dj;rw[if_neg h5,if_pos h6,if_pos ⟨by simp,by simp⟩,List.dropLast_concat]
      have hnl:a.length≤k+1:=by omega
      have htk:(((a++[(g.nd x.toNat).cQ]).map i64).drop 0).take a.length=a.map i64:=by simp
      rw[hnow] at hrun
      dsimp only at hrun
      repeat' (first|((with_reducible refine aI ?_);conv=>whnf)|refine aG ?_|exact gG|with_reducible refine aD ?_ ?_|((with_reducible refine Ask.mk ?_);first|exact dz|(exact hlm)|exact dD|(intro h;simp_all[cF.cells,Node.cells]<;>fail)|(simp_all[cF.cells,Node.cells]<;>fail))|(apply aB;(·(first|exact jj x1 _|exact e1 _|exact e2 _|exact e5 _|exact cS)))|refine aK (hf) ?_|(simp only[h6])|(simp only[htk])|(apply aS (g:=none);(·exact fun _=>nt _ _))|(apply aS (g:=none);(·exact fun _=>nL _ _ _))|refine aH ?_|((with_reducible refine aA ?_ ?_)<;>intro hc<;>(try simp only[List.length_map,ne_eq,db] at hc)<;>try(exfalso;omega)))
      ·exact absurd hc (by simp;omega)
      clear hf
      try simp only[List.length_map]
      refine aN (fun q:HS×Nat=>[(1, .pt 0 1 0 0),(4, .sl 6 g.nodes.length),(5, .mp 8),(6, .sl 12 q.1.todo.length),(7,i64 k),(10, .im 1 .any (a.map i64)),(78, .im 1 .any ((g.nd x.toNat).fold.map i64)),(79,i64 (g.nd x.toNat).fold.length),(80,i64 q.2)])
       (fun q H2 n2=>q.2≤(g.nd x.toNat).fold.length∧n+15≤n2∧(∃d,bu H2 0=some (.row 60 4 d [g.av]))∧(∃d,bu H2 6=some (.row 31 1 d (q.1.cE.map fX)))∧(∃d E,bu H2 8=some (.row 3 0 d (mapA (qx E)))∧sV E q.1)∧(∃d,bu H2 12=some (.row 3 1 d (q.1.todo.map i64)))∧lh (.im 1 .any (a.map i64)) (a) H2 n2∧q.1.cE.length=g.nodes.length∧q.1.found.length=g.nodes.length∧q.1.todo.length+q.1.found.count false=g.nodes.length∧(∀i,(q.1.cE.getD i []).length≤k+1)∧de (a) ((g.nd x.toNat).fold.drop q.2) q.1=de (a) (g.nd x.toNat).fold s)
       (fun q=>(g.nd x.toNat).fold.length - q.2) (s,0) cK ⟨Nat.zero_le _,ca,⟨_,bw⟩,⟨_,bw⟩,⟨_,E,bw,hE⟩,⟨_,bw⟩,⟨.inl rfl,fun b m h=>by cases h⟩,hI.pA,hI.qw,hI.count,fun i=>Nat.le_succ_of_le (hlen i),rfl⟩ ?_
      clear r0 r6 r8 r12
      rintro⟨⟨lks,fnds,tds⟩,j⟩ H2 n2 ⟨hj,hn2,⟨d02,r0⟩,⟨d62,r6⟩,⟨d82,E2,r8,hE2⟩,⟨d122,r12⟩,hT,hll2,hfl2,hct2,hlen2,hto⟩
      dsimp only at hj hn2 r6 hE2 r12 hT hll2 hfl2 hct2 hlen2 hto ⊢
      by_cases hjl:j<(g.nd x.toNat).fold.length
      ·have hm:=jV.1 (cR 0 hjl)
       obtain⟨k0,k1⟩:=(hw.2.2 x.toNat x1).2.2 _ hm
       have e3:=fun d=>lL (l:=(g.nd x.toNat).fold) hjl d
       rw[jc _ _ _ hjl] at hto
       generalize hy:(g.nd x.toNat).fold.getD j 0=y at *
       have hl2m:(lks.map fX).length=g.nodes.length:=by simp[hll2]
       have e4:=fun d=>qG (l:=lks) (i:=y) (by rw[hll2];exact k1) d
       have hE3:=hE2 y k0
       have hyc:((y.toNat:Nat):Int)=y:=by omega
       cases hfd:HS.f ⟨lks,fnds,tds⟩ y with
       |true=>
        rw[if_neg (by rw[hfd];decide)] at hto
        rw[hfd] at hE3
        repeat' (first|((with_reducible refine aI ?_);conv=>whnf)|refine aG ?_|exact gG|with_reducible refine aD ?_ ?_|((with_reducible refine Ask.mk ?_);first|exact dz|(exact hl2m)|exact dD)|(apply aB;(·(first|exact e3 _|exact e4 _|exact cS)))|(simp only[hE3])|(apply aS (g:=none);(·exact fun _=>nt _ _))|(apply aS (g:=none);(·exact fun _=>nL _ _ _))|refine aH ?_|((with_reducible refine aA ?_ ?_)<;>intro hc<;>(try simp only[List.length_map,ne_eq,db] at hc)<;>try(exfalso;omega)))
        refine aL (rQ (l:=a) ?_ (lks.getD y.toNat []) (by omega) (by have:=hlen2 y.toNat;omega)) ?_
        ·exact(hT.cU ca (fun b h1 h2=>cD)).1
        rintro r1 H3 n3 ⟨hr,rfl,rfl⟩
        by_cases hq:lks.getD y.toNat []=(a)
        ·have hq2:HS.l ⟨lks,fnds,tds⟩ y=(a):=hq
         rw[if_pos hq2] at hto
         have hr1:r1=bl true:=hr.trans (congrArg _ (decide_eq_true hq))
         subst hr1
         repeat' (first|((with_reducible refine aI ?_);conv=>whnf)|refine aG ?_|exact aC|with_reducible refine aD ?_ ?_|(apply aB;(·exact cS))|refine aH ?_|((with_reducible refine aA ?_ ?_)<;>intro hc<;>(try simp only[List.length_map,ne_eq,db] at hc)<;>try(exfalso;omega)))
         exact⟨(⟨lks,fnds,tds⟩,j+1),by dsimp only;omega,cK,by dsimp only;omega,ca,⟨_,bw⟩,⟨_,bw⟩,⟨_,E2,bw,hE2⟩,⟨_,bw⟩,hT.cU ca (fun b h1 h2=>cD),hll2,hfl2,hct2,hlen2,hto⟩
        ·have hq2:¬HS.l ⟨lks,fnds,tds⟩ y=(a):=hq
         rw[if_neg hq2] at hto
         have hr1:r1=bl false:=hr.trans (congrArg _ (decide_eq_false hq))
         subst hr1
         repeat' (first|((with_reducible refine aI ?_);conv=>whnf)|refine aG ?_|exact aC|with_reducible refine aD ?_ ?_|(apply aB;(·exact cS))|refine aH ?_|((with_reducible refine aA ?_ ?_)<;>intro hc<;>(try simp only[List.length_map,ne_eq,db] at hc)<;>try(exfalso;omega)))
         exact⟨.inl ⟨y,rfl,by rw[←hrun,hfh,←hto]⟩⟩
       |false=>
        rw[if_pos hfd] at hto
        rw[hfd] at hE3
        have hcts:=count_set (l:=fnds) (i:=y.toNat) (by rw[hfl2];exact k1) hfd
        repeat' (first|((with_reducible refine aI ?_);conv=>whnf)|refine aG ?_|exact gG|with_reducible refine aD ?_ ?_|((with_reducible refine Ask.mk ?_);first|exact dz|(exact hl2m)|exact dD)|(apply aB;(·(first|exact e3 _|exact e4 _|exact cS)))|(simp only[hE3])|(apply aS (g:=none);(·exact fun _=>nt _ _))|(apply aS (g:=none);(·exact fun _=>nL _ _ _))|refine aH ?_|((with_reducible refine aA ?_ ?_)<;>intro hc<;>(try simp only[List.length_map,ne_eq,db] at hc)<;>try(exfalso;omega)))
        refine aL (lT (l:=a) ?_ (by omega)) ?_
        ·exact(hT.cU ca (fun b h1 h2=>cD)).1
        rintro _ H3 n3 ⟨rfl,hn3,hkp⟩
        have hb:∀{p:Prop},p→p:=fun h=>h
        have r03:bu H3 0=some (.row 60 4 d02 [g.av]):=(hkp 0 ca).trans bw
        have r63:bu H3 6=some (.row 31 1 d62 (lks.map fX)):=(hkp 6 ca).trans bw
        have r83:bu H3 8=some (.row 3 0 d82 (mapA (qx (jA E2 y true)))):=(hkp 8 ca).trans bw
        have r123:bu H3 12=some (.row 3 1 d122 (tds.map i64)):=(hkp 12 ca).trans bw
        have hn23:n2<n3:=Nat.lt_of_lt_of_le ca hn3
        have hT3:lh (.im 1 .any (a.map i64)) (a) H3 n3:=hT.cU (Nat.le_of_lt hn23) (fun b h1 h2=>(hkp b (Nat.lt_of_lt_of_le h2 ca)).trans cD)
        clear hkp hT
        repeat' (first|((with_reducible refine aI ?_);conv=>whnf)|refine aG ?_|exact gG|with_reducible refine aD ?_ ?_|((with_reducible refine Ask.mk ?_);first|exact dz|(exact hl2m)|exact dD)|(apply aB;(·(first|exact e3 _|exact e4 _|exact cS)))|refine aH ?_|((with_reducible refine aA ?_ ?_)<;>intro hc<;>(try simp only[List.length_map,ne_eq,db] at hc)<;>try(exfalso;omega)))
        refine⟨(⟨lks.set y.toNat (a),fnds.set y.toNat true,tds++[y]⟩,j+1),by dsimp only;omega,cK,by dsimp only;omega,ca,⟨_,bw⟩,⟨_,by dsimp only;rw[←rK];exact bw⟩,⟨_,jA E2 y true,bw, ?_⟩,⟨_,by dsimp only;rw[←jQ];exact bw⟩,hT3.cU ca (fun b h1 h2=>cD),by simp[hll2],by simp[hfl2], ?_, ?_,hto⟩
        ·intro z hz
         rw[mI,HS.ud (s:=⟨lks,fnds,tds⟩) (by rw[hfl2];exact k1)]
         by_cases hzy:z=y
         ·rw[if_pos hzy,if_pos (by rw[hzy])];rfl
         ·rw[if_neg hzy,if_neg (by omega)];exact hE2 z hz
        ·simp only[List.length_append,List.length_cons,List.length_nil];omega
        ·intro i
         rw[fB]
         split
         ·exact hnl
         ·exact hlen2 i
      ·have:j=(g.nd x.toNat).fold.length:=by omega
       subst this
       rw[List.drop_eq_nil_of_le (Nat.le_refl _),de] at hto
       have hnx2:=hnx _ _ hnow (by rw[hfh];exact hto.symm)
       repeat' (first|((with_reducible refine aI ?_);conv=>whnf)|refine aG ?_|exact aC|with_reducible refine aD ?_ ?_|(apply aB;(·exact cS))|refine aH ?_|((with_reducible refine aA ?_ ?_)<;>intro hc<;>(try simp only[List.length_map,ne_eq,db] at hc)<;>try(exfalso;omega)))
       refine⟨(⟨lks,fnds,tds⟩,k+1),by dsimp only;omega,cK,⟨_,_,Wk.refl _ _ _,ca,⟨_,bw⟩,⟨_,bw⟩,⟨_,E2,bw,hE2⟩,⟨_,bw⟩,hnx2,by dsimp only;omega,hlen2, ?_⟩⟩
       rw[←hrun,hfh,←hto]
       dsimp only
       congr 1
       omega
     ·have hnow:dj (g.nd x.toNat) (a++[y])=none:=by unfold dj;rw[if_neg h5,if_pos h6,if_neg (fun h=>hy6 (by simpa using h.2))]
      rw[hnow] at hrun
      dsimp only at hrun
      repeat' (first|((with_reducible refine aI ?_);conv=>whnf)|refine aG ?_|exact gG|with_reducible refine aD ?_ ?_|((with_reducible refine Ask.mk ?_);first|exact dz|(exact hlm)|exact dD|(intro h;simp_all[cF.cells,Node.cells]<;>fail)|(simp_all[cF.cells,Node.cells]<;>fail))|(apply aB;(·(first|exact jj x1 _|exact e1 _|exact e2 _|exact e5 _|exact cS)))|refine aK (hf) ?_|(simp only[h6])|(apply aS (g:=none);(·exact fun _=>nt _ _))|(apply aS (g:=none);(·exact fun _=>nL _ _ _))|refine aH ?_|((with_reducible refine aA ?_ ?_)<;>intro hc<;>(try simp only[List.length_map,ne_eq,db] at hc)<;>try(exfalso;omega)))
      all_goals first|exact absurd hc.2 hy6|exact⟨.inl ⟨x,rfl,hrun.symm⟩⟩
   ·by_cases h9:(g.nd x.toNat).kind=9∧l≠[]
    ·have hnow:dj (g.nd x.toNat) l=none:=by unfold dj;rw[if_neg h5,if_neg h6,if_pos h9.1,if_neg h9.2]
     have hlp:0<l.length:=List.length_pos_iff.2 h9.2
     have h91:=h9.1
     rw[hnow] at hrun
     dsimp only at hrun
     repeat' (first|((with_reducible refine aI ?_);conv=>whnf)|refine aG ?_|exact gG|with_reducible refine aD ?_ ?_|((with_reducible refine Ask.mk ?_);first|exact dz|(exact hlm)|exact dD|(intro h;simp_all[cF.cells,Node.cells]<;>fail)|(simp_all[cF.cells,Node.cells]<;>fail))|(apply aB;(·(first|exact jj x1 _|exact e1 _|exact e2 _|exact cS)))|refine aK (hf) ?_|(simp only[h91])|(apply aS (g:=none);(·exact fun _=>nt _ _))|(apply aS (g:=none);(·exact fun _=>nL _ _ _))|refine aH ?_|((with_reducible refine aA ?_ ?_)<;>intro hc<;>(try simp only[List.length_map,ne_eq,db] at hc)<;>try(exfalso;omega)))
     exact⟨.inl ⟨x,rfl,hrun.symm⟩⟩
    ·by_cases h91:(g.nd x.toNat).kind=9
     ·have hl0:l=[]:=Classical.byContradiction fun h=>h9 ⟨h91,h⟩
      subst hl0
      have hnow:dj (g.nd x.toNat) []=some []:=by unfold dj;rw[if_neg h5,if_neg h6,if_pos h91,if_pos rfl]
      have hnl:([]:List Int).length≤k+1:=Nat.zero_le _
      rw[hnow] at hrun
      dsimp only at hrun
      repeat' (first|((with_reducible refine aI ?_);conv=>whnf)|refine aG ?_|exact gG|with_reducible refine aD ?_ ?_|((with_reducible refine Ask.mk ?_);first|exact dz|(exact hlm)|exact dD|(intro h;simp_all[cF.cells,Node.cells]<;>fail)|(simp_all[cF.cells,Node.cells]<;>fail))|(apply aB;(·(first|exact jj x1 _|exact e1 _|exact e2 _|exact cS)))|refine aK (hf) ?_|(simp only[h91])|(apply aS (g:=none);(·exact fun _=>nt _ _))|(apply aS (g:=none);(·exact fun _=>nL _ _ _))|refine aH ?_|((with_reducible refine aA ?_ ?_)<;>intro hc<;>(try simp only[List.length_map,ne_eq,db] at hc)<;>try(exfalso;omega)))
      clear hf
      try simp only[List.length_map]
      refine aN (fun q:HS×Nat=>[(1, .pt 0 1 0 0),(4, .sl 6 g.nodes.length),(5, .mp 8),(6, .sl 12 q.1.todo.length),(7,i64 k),(10, .im 1 .any (([]:List Int).map i64)),(78, .im 1 .any ((g.nd x.toNat).fold.map i64)),(79,i64 (g.nd x.toNat).fold.length),(80,i64 q.2)])
       (fun q H2 n2=>q.2≤(g.nd x.toNat).fold.length∧n+15≤n2∧(∃d,bu H2 0=some (.row 60 4 d [g.av]))∧(∃d,bu H2 6=some (.row 31 1 d (q.1.cE.map fX)))∧(∃d E,bu H2 8=some (.row 3 0 d (mapA (qx E)))∧sV E q.1)∧(∃d,bu H2 12=some (.row 3 1 d (q.1.todo.map i64)))∧lh (.im 1 .any (([]:List Int).map i64)) ([]) H2 n2∧q.1.cE.length=g.nodes.length∧q.1.found.length=g.nodes.length∧q.1.todo.length+q.1.found.count false=g.nodes.length∧(∀i,(q.1.cE.getD i []).length≤k+1)∧de ([]) ((g.nd x.toNat).fold.drop q.2) q.1=de ([]) (g.nd x.toNat).fold s)
       (fun q=>(g.nd x.toNat).fold.length - q.2) (s,0) cK ⟨Nat.zero_le _,ca,⟨_,bw⟩,⟨_,bw⟩,⟨_,E,bw,hE⟩,⟨_,bw⟩,⟨.inl rfl,fun b m h=>by cases h⟩,hI.pA,hI.qw,hI.count,fun i=>Nat.le_succ_of_le (hlen i),rfl⟩ ?_
      clear r0 r6 r8 r12
      rintro⟨⟨lks,fnds,tds⟩,j⟩ H2 n2 ⟨hj,hn2,⟨d02,r0⟩,⟨d62,r6⟩,⟨d82,E2,r8,hE2⟩,⟨d122,r12⟩,hT,hll2,hfl2,hct2,hlen2,hto⟩
      dsimp only at hj hn2 r6 hE2 r12 hT hll2 hfl2 hct2 hlen2 hto ⊢
      by_cases hjl:j<(g.nd x.toNat).fold.length
      ·have hm:=jV.1 (cR 0 hjl)
       obtain⟨k0,k1⟩:=(hw.2.2 x.toNat x1).2.2 _ hm
       have e3:=fun d=>lL (l:=(g.nd x.toNat).fold) hjl d
       rw[jc _ _ _ hjl] at hto
       generalize hy:(g.nd x.toNat).fold.getD j 0=y at *
       have hl2m:(lks.map fX).length=g.nodes.length:=by simp[hll2]
       have e4:=fun d=>qG (l:=lks) (i:=y) (by rw[hll2];exact k1) d
       have hE3:=hE2 y k0
       have hyc:((y.toNat:Nat):Int)=y:=by omega
       cases hfd:HS.f ⟨lks,fnds,tds⟩ y with
       |true=>
        rw[if_neg (by rw[hfd];decide)] at hto
        rw[hfd] at hE3
        repeat' (first|((with_reducible refine aI ?_);conv=>whnf)|refine aG ?_|exact gG|with_reducible refine aD ?_ ?_|((with_reducible refine Ask.mk ?_);first|exact dz|(exact hl2m)|exact dD)|(apply aB;(·(first|exact e3 _|exact e4 _|exact cS)))|(simp only[hE3])|(apply aS (g:=none);(·exact fun _=>nt _ _))|(apply aS (g:=none);(·exact fun _=>nL _ _ _))|refine aH ?_|((with_reducible refine aA ?_ ?_)<;>intro hc<;>(try simp only[List.length_map,ne_eq,db] at hc)<;>try(exfalso;omega)))
        refine aL (rQ (l:=[]) ?_ (lks.getD y.toNat []) (by omega) (by have:=hlen2 y.toNat;omega)) ?_
        ·exact(hT.cU ca (fun b h1 h2=>cD)).1
        rintro r1 H3 n3 ⟨hr,rfl,rfl⟩
        by_cases hq:lks.getD y.toNat []=([])
        ·have hq2:HS.l ⟨lks,fnds,tds⟩ y=([]):=hq
         rw[if_pos hq2] at hto
         have hr1:r1=bl true:=hr.trans (congrArg _ (decide_eq_true hq))
         subst hr1
         repeat' (first|((with_reducible refine aI ?_);conv=>whnf)|refine aG ?_|exact aC|with_reducible refine aD ?_ ?_|(apply aB;(·exact cS))|refine aH ?_|((with_reducible refine aA ?_ ?_)<;>intro hc<;>(try simp only[List.length_map,ne_eq,db] at hc)<;>try(exfalso;omega)))
         exact⟨(⟨lks,fnds,tds⟩,j+1),by dsimp only;omega,cK,by dsimp only;omega,ca,⟨_,bw⟩,⟨_,bw⟩,⟨_,E2,bw,hE2⟩,⟨_,bw⟩,hT.cU ca (fun b h1 h2=>cD),hll2,hfl2,hct2,hlen2,hto⟩
        ·have hq2:¬HS.l ⟨lks,fnds,tds⟩ y=([]):=hq
         rw[if_neg hq2] at hto
         have hr1:r1=bl false:=hr.trans (congrArg _ (decide_eq_false hq))
         subst hr1
         repeat' (first|((with_reducible refine aI ?_);conv=>whnf)|refine aG ?_|exact aC|with_reducible refine aD ?_ ?_|(apply aB;(·exact cS))|refine aH ?_|((with_reducible refine aA ?_ ?_)<;>intro hc<;>(try simp only[List.length_map,ne_eq,db] at hc)<;>try(exfalso;omega)))
         exact⟨.inl ⟨y,rfl,by rw[←hrun,hfh,←hto]⟩⟩
       |false=>
        rw[if_pos hfd] at hto
        rw[hfd] at hE3
        have hcts:=count_set (l:=fnds) (i:=y.toNat) (by rw[hfl2];exact k1) hfd
        repeat' (first|((with_reducible refine aI ?_);conv=>whnf)|refine aG ?_|exact gG|with_reducible refine aD ?_ ?_|((with_reducible refine Ask.mk ?_);first|exact dz|(exact hl2m)|exact dD)|(apply aB;(·(first|exact e3 _|exact e4 _|exact cS)))|(simp only[hE3])|(apply aS (g:=none);(·exact fun _=>nt _ _))|(apply aS (g:=none);(·exact fun _=>nL _ _ _))|refine aH ?_|((with_reducible refine aA ?_ ?_)<;>intro hc<;>(try simp only[List.length_map,ne_eq,db] at hc)<;>try(exfalso;omega)))
        refine aL (lT (l:=[]) ?_ (by omega)) ?_
        ·exact(hT.cU ca (fun b h1 h2=>cD)).1
        rintro _ H3 n3 ⟨rfl,hn3,hkp⟩
        have hb:∀{p:Prop},p→p:=fun h=>h
        have r03:bu H3 0=some (.row 60 4 d02 [g.av]):=(hkp 0 ca).trans bw
        have r63:bu H3 6=some (.row 31 1 d62 (lks.map fX)):=(hkp 6 ca).trans bw
        have r83:bu H3 8=some (.row 3 0 d82 (mapA (qx (jA E2 y true)))):=(hkp 8 ca).trans bw
        have r123:bu H3 12=some (.row 3 1 d122 (tds.map i64)):=(hkp 12 ca).trans bw
        have hn23:n2<n3:=Nat.lt_of_lt_of_le ca hn3
        have hT3:lh (.im 1 .any (([]:List Int).map i64)) ([]) H3 n3:=hT.cU (Nat.le_of_lt hn23) (fun b h1 h2=>(hkp b (Nat.lt_of_lt_of_le h2 ca)).trans cD)
        clear hkp hT
        repeat' (first|((with_reducible refine aI ?_);conv=>whnf)|refine aG ?_|exact gG|with_reducible refine aD ?_ ?_|((with_reducible refine Ask.mk ?_);first|exact dz|(exact hl2m)|exact dD)|(apply aB;(·(first|exact e3 _|exact e4 _|exact cS)))|refine aH ?_|((with_reducible refine aA ?_ ?_)<;>intro hc<;>(try simp only[List.length_map,ne_eq,db] at hc)<;>try(exfalso;omega)))
        refine⟨(⟨lks.set y.toNat ([]),fnds.set y.toNat true,tds++[y]⟩,j+1),by dsimp only;omega,cK,by dsimp only;omega,ca,⟨_,bw⟩,⟨_,by dsimp only;rw[←rK];exact bw⟩,⟨_,jA E2 y true,bw, ?_⟩,⟨_,by dsimp only;rw[←jQ];exact bw⟩,hT3.cU ca (fun b h1 h2=>cD),by simp[hll2],by simp[hfl2], ?_, ?_,hto⟩
        ·intro z hz
         rw[mI,HS.ud (s:=⟨lks,fnds,tds⟩) (by rw[hfl2];exact k1)]
         by_cases hzy:z=y
         ·rw[if_pos hzy,if_pos (by rw[hzy])];rfl
         ·rw[if_neg hzy,if_neg (by omega)];exact hE2 z hz
        ·simp only[List.length_append,List.length_cons,List.length_nil];omega
        ·intro i
         rw[fB]
         split
         ·exact hnl
         ·exact hlen2 i
      ·have:j=(g.nd x.toNat).fold.length:=by omega
       subst this
       rw[List.drop_eq_nil_of_le (Nat.le_refl _),de] at hto
       have hnx2:=hnx _ _ hnow (by rw[hfh];exact hto.symm)
       repeat' (first|((with_reducible refine aI ?_);conv=>whnf)|refine aG ?_|exact aC|with_reducible refine aD ?_ ?_|(apply aB;(·exact cS))|refine aH ?_|((with_reducible refine aA ?_ ?_)<;>intro hc<;>(try simp only[List.length_map,ne_eq,db] at hc)<;>try(exfalso;omega)))
       refine⟨(⟨lks,fnds,tds⟩,k+1),by dsimp only;omega,cK,⟨_,_,Wk.refl _ _ _,ca,⟨_,bw⟩,⟨_,bw⟩,⟨_,E2,bw,hE2⟩,⟨_,bw⟩,hnx2,by dsimp only;omega,hlen2, ?_⟩⟩
       rw[←hrun,hfh,←hto]
       dsimp only
       congr 1
       omega
     ·have hnow:dj (g.nd x.toNat) l=some l:=by unfold dj;rw[if_neg h5,if_neg h6,if_neg h91]
      have hnl:l.length≤k+1:=by omega
      rw[hnow] at hrun
      dsimp only at hrun
      repeat' (first|((with_reducible refine aI ?_);conv=>whnf)|refine aG ?_|exact gG|with_reducible refine aD ?_ ?_|((with_reducible refine Ask.mk ?_);first|exact dz|(exact hlm)|exact dD|(intro h;simp_all[cF.cells,Node.cells]<;>fail)|(simp_all[cF.cells,Node.cells]<;>fail))|(apply aB;(·(first|exact jj x1 _|exact e1 _|exact e2 _|exact cS)))|refine aK (hf) ?_|(simp only[h5])|(simp only[h6])|(simp only[h91])|(apply aS (g:=none);(·exact fun _=>nt _ _))|(apply aS (g:=none);(·exact fun _=>nL _ _ _))|refine aH ?_|((with_reducible refine aA ?_ ?_)<;>intro hc<;>(try simp only[List.length_map,ne_eq,db] at hc)<;>try(exfalso;omega)))
      clear hf
      try simp only[List.length_map]
      refine aN (fun q:HS×Nat=>[(1, .pt 0 1 0 0),(4, .sl 6 g.nodes.length),(5, .mp 8),(6, .sl 12 q.1.todo.length),(7,i64 k),(10, .im 1 .any (l.map i64)),(78, .im 1 .any ((g.nd x.toNat).fold.map i64)),(79,i64 (g.nd x.toNat).fold.length),(80,i64 q.2)])
       (fun q H2 n2=>q.2≤(g.nd x.toNat).fold.length∧n+15≤n2∧(∃d,bu H2 0=some (.row 60 4 d [g.av]))∧(∃d,bu H2 6=some (.row 31 1 d (q.1.cE.map fX)))∧(∃d E,bu H2 8=some (.row 3 0 d (mapA (qx E)))∧sV E q.1)∧(∃d,bu H2 12=some (.row 3 1 d (q.1.todo.map i64)))∧lh (.im 1 .any (l.map i64)) (l) H2 n2∧q.1.cE.length=g.nodes.length∧q.1.found.length=g.nodes.length∧q.1.todo.length+q.1.found.count false=g.nodes.length∧(∀i,(q.1.cE.getD i []).length≤k+1)∧de (l) ((g.nd x.toNat).fold.drop q.2) q.1=de (l) (g.nd x.toNat).fold s)
       (fun q=>(g.nd x.toNat).fold.length - q.2) (s,0) cK ⟨Nat.zero_le _,ca,⟨_,bw⟩,⟨_,bw⟩,⟨_,E,bw,hE⟩,⟨_,bw⟩,⟨.inl rfl,fun b m h=>by cases h⟩,hI.pA,hI.qw,hI.count,fun i=>Nat.le_succ_of_le (hlen i),rfl⟩ ?_
      clear r0 r6 r8 r12
      rintro⟨⟨lks,fnds,tds⟩,j⟩ H2 n2 ⟨hj,hn2,⟨d02,r0⟩,⟨d62,r6⟩,⟨d82,E2,r8,hE2⟩,⟨d122,r12⟩,hT,hll2,hfl2,hct2,hlen2,hto⟩
      dsimp only at hj hn2 r6 hE2 r12 hT hll2 hfl2 hct2 hlen2 hto ⊢
      by_cases hjl:j<(g.nd x.toNat).fold.length
      ·have hm:=jV.1 (cR 0 hjl)
       obtain⟨k0,k1⟩:=(hw.2.2 x.toNat x1).2.2 _ hm
       have e3:=fun d=>lL (l:=(g.nd x.toNat).fold) hjl d
       rw[jc _ _ _ hjl] at hto
       generalize hy:(g.nd x.toNat).fold.getD j 0=y at *
       have hl2m:(lks.map fX).length=g.nodes.length:=by simp[hll2]
       have e4:=fun d=>qG (l:=lks) (i:=y) (by rw[hll2];exact k1) d
       have hE3:=hE2 y k0
       have hyc:((y.toNat:Nat):Int)=y:=by omega
       cases hfd:HS.f ⟨lks,fnds,tds⟩ y with
       |true=>
        rw[if_neg (by rw[hfd];decide)] at hto
        rw[hfd] at hE3
        repeat' (first|((with_reducible refine aI ?_);conv=>whnf)|refine aG ?_|exact gG|with_reducible refine aD ?_ ?_|((with_reducible refine Ask.mk ?_);first|exact dz|(exact hl2m)|exact dD)|(apply aB;(·(first|exact e3 _|exact e4 _|exact cS)))|(simp only[hE3])|(apply aS (g:=none);(·exact fun _=>nt _ _))|(apply aS (g:=none);(·exact fun _=>nL _ _ _))|refine aH ?_|((with_reducible refine aA ?_ ?_)<;>intro hc<;>(try simp only[List.length_map,ne_eq,db] at hc)<;>try(exfalso;omega)))
        refine aL (rQ (l:=l) ?_ (lks.getD y.toNat []) (by omega) (by have:=hlen2 y.toNat;omega)) ?_
        ·exact(hT.cU ca (fun b h1 h2=>cD)).1
        rintro r1 H3 n3 ⟨hr,rfl,rfl⟩
        by_cases hq:lks.getD y.toNat []=(l)
        ·have hq2:HS.l ⟨lks,fnds,tds⟩ y=(l):=hq
         rw[if_pos hq2] at hto
         have hr1:r1=bl true:=hr.trans (congrArg _ (decide_eq_true hq))
         subst hr1
         repeat' (first|((with_reducible refine aI ?_);conv=>whnf)|refine aG ?_|exact aC|with_reducible refine aD ?_ ?_|(apply aB;(·exact cS))|refine aH ?_|((with_reducible refine aA ?_ ?_)<;>intro hc<;>(try simp only[List.length_map,ne_eq,db] at hc)<;>try(exfalso;omega)))
         exact⟨(⟨lks,fnds,tds⟩,j+1),by dsimp only;omega,cK,by dsimp only;omega,ca,⟨_,bw⟩,⟨_,bw⟩,⟨_,E2,bw,hE2⟩,⟨_,bw⟩,hT.cU ca (fun b h1 h2=>cD),hll2,hfl2,hct2,hlen2,hto⟩
        ·have hq2:¬HS.l ⟨lks,fnds,tds⟩ y=(l):=hq
         rw[if_neg hq2] at hto
         have hr1:r1=bl false:=hr.trans (congrArg _ (decide_eq_false hq))
         subst hr1
         repeat' (first|((with_reducible refine aI ?_);conv=>whnf)|refine aG ?_|exact aC|with_reducible refine aD ?_ ?_|(apply aB;(·exact cS))|refine aH ?_|((with_reducible refine aA ?_ ?_)<;>intro hc<;>(try simp only[List.length_map,ne_eq,db] at hc)<;>try(exfalso;omega)))
         exact⟨.inl ⟨y,rfl,by rw[←hrun,hfh,←hto]⟩⟩
       |false=>
        rw[if_pos hfd] at hto
        rw[hfd] at hE3
        have hcts:=count_set (l:=fnds) (i:=y.toNat) (by rw[hfl2];exact k1) hfd
        repeat' (first|((with_reducible refine aI ?_);conv=>whnf)|refine aG ?_|exact gG|with_reducible refine aD ?_ ?_|((with_reducible refine Ask.mk ?_);first|exact dz|(exact hl2m)|exact dD)|(apply aB;(·(first|exact e3 _|exact e4 _|exact cS)))|(simp only[hE3])|(apply aS (g:=none);(·exact fun _=>nt _ _))|(apply aS (g:=none);(·exact fun _=>nL _ _ _))|refine aH ?_|((with_reducible refine aA ?_ ?_)<;>intro hc<;>(try simp only[List.length_map,ne_eq,db] at hc)<;>try(exfalso;omega)))
        refine aL (lT (l:=l) ?_ (by omega)) ?_
        ·exact(hT.cU ca (fun b h1 h2=>cD)).1
        rintro _ H3 n3 ⟨rfl,hn3,hkp⟩
        have hb:∀{p:Prop},p→p:=fun h=>h
        have r03:bu H3 0=some (.row 60 4 d02 [g.av]):=(hkp 0 ca).trans bw
        have r63:bu H3 6=some (.row 31 1 d62 (lks.map fX)):=(hkp 6 ca).trans bw
        have r83:bu H3 8=some (.row 3 0 d82 (mapA (qx (jA E2 y true)))):=(hkp 8 ca).trans bw
        have r123:bu H3 12=some (.row 3 1 d122 (tds.map i64)):=(hkp 12 ca).trans bw
        have hn23:n2<n3:=Nat.lt_of_lt_of_le ca hn3
        have hT3:lh (.im 1 .any (l.map i64)) (l) H3 n3:=hT.cU (Nat.le_of_lt hn23) (fun b h1 h2=>(hkp b (Nat.lt_of_lt_of_le h2 ca)).trans cD)
        clear hkp hT
        repeat' (first|((with_reducible refine aI ?_);conv=>whnf)|refine aG ?_|exact gG|with_reducible refine aD ?_ ?_|((with_reducible refine Ask.mk ?_);first|exact dz|(exact hl2m)|exact dD)|(apply aB;(·(first|exact e3 _|exact e4 _|exact cS)))|refine aH ?_|((with_reducible refine aA ?_ ?_)<;>intro hc<;>(try simp only[List.length_map,ne_eq,db] at hc)<;>try(exfalso;omega)))
        refine⟨(⟨lks.set y.toNat (l),fnds.set y.toNat true,tds++[y]⟩,j+1),by dsimp only;omega,cK,by dsimp only;omega,ca,⟨_,bw⟩,⟨_,by dsimp only;rw[←rK];exact bw⟩,⟨_,jA E2 y true,bw, ?_⟩,⟨_,by dsimp only;rw[←jQ];exact bw⟩,hT3.cU ca (fun b h1 h2=>cD),by simp[hll2],by simp[hfl2], ?_, ?_,hto⟩
        ·intro z hz
         rw[mI,HS.ud (s:=⟨lks,fnds,tds⟩) (by rw[hfl2];exact k1)]
         by_cases hzy:z=y
         ·rw[if_pos hzy,if_pos (by rw[hzy])];rfl
         ·rw[if_neg hzy,if_neg (by omega)];exact hE2 z hz
        ·simp only[List.length_append,List.length_cons,List.length_nil];omega
        ·intro i
         rw[fB]
         split
         ·exact hnl
         ·exact hlen2 i
      ·have:j=(g.nd x.toNat).fold.length:=by omega
       subst this
       rw[List.drop_eq_nil_of_le (Nat.le_refl _),de] at hto
       have hnx2:=hnx _ _ hnow (by rw[hfh];exact hto.symm)
       repeat' (first|((with_reducible refine aI ?_);conv=>whnf)|refine aG ?_|exact aC|with_reducible refine aD ?_ ?_|(apply aB;(·exact cS))|refine aH ?_|((with_reducible refine aA ?_ ?_)<;>intro hc<;>(try simp only[List.length_map,ne_eq,db] at hc)<;>try(exfalso;omega)))
       refine⟨(⟨lks,fnds,tds⟩,k+1),by dsimp only;omega,cK,⟨_,_,Wk.refl _ _ _,ca,⟨_,bw⟩,⟨_,bw⟩,⟨_,E2,bw,hE2⟩,⟨_,bw⟩,hnx2,by dsimp only;omega,hlen2, ?_⟩⟩
       rw[←hrun,hfh,←hto]
       dsimp only
       congr 1
       omega
 ·have hkt:s.todo.length≤k:=by omega
  have hrun2:eO g=(s.cE,-1):=by
   rw[←hrun,show g.nodes.length+1 - k=(g.nodes.length - k)+1 by omega,fe,if_neg hk]
  repeat' (first|((with_reducible refine aI ?_);conv=>whnf)|refine aG ?_|exact aC|with_reducible refine aD ?_ ?_|(apply aB;(·exact cS))|refine aH ?_|((with_reducible refine aA ?_ ?_)<;>intro hc<;>(try simp only[List.length_map,ne_eq,db] at hc)<;>try(exfalso;omega)))
  exact⟨.inr ⟨6,d6,s.cE,by rw[hI.pA],hrun2,bw⟩⟩
theorem uy (g:cF) (hg:g.Wf) (hw:Whole g):Pure Tryz.prog 73 [g.av] (fun r=>r=qE (eO g)):=by
 have h:=JC g hg hw
 have fL:∀L:List (List Int),cX 0 (L.map fX):=fun L=>(cB _ _).2 fun _ _=>by simp[fX,cI,cB]
 have fh:∀r,cI 0 (qE r):=fun r=>by simp only[qE,cI,cX];exact⟨fL _,trivial,trivial⟩
 by_cases hc:(eO g).1=[]
 ·refine HH (u:= .dK [.sc (.slice none 0 0),i64 (eO g).2]) (pure_or (h.mono ?_) (by simp[cI,cX]) (fh _)) (fh _) fun c=> ?_
  ·rintro r H n (⟨a,rfl,e⟩|⟨b,d,L,rfl,e,hb⟩)
   ·left;rw[e];exact du _ (by simp[cI,cX])
   ·right
    rw[e]
    have e1:cZ.dV H 6 (.dK [.sl b L.length,i64 (-1)])= .dK [cZ.dV H 5 (.sl b L.length),i64 (-1)]:=by
     simp only[dV,List.map_cons,List.map_nil]
    rw[e1,dc hb (by simp),cy _ (fL L)]
    rfl
  ·unfold qE
   rw[hc]
   intro v hv
   rw[VR] at hv ⊢
   obtain⟨vs,rfl,hv⟩:=hv
   refine⟨vs,rfl, ?_⟩
   rw[cg] at hv ⊢
   obtain⟨v1,vs1,e1,h1,h2⟩:=hv
   exact⟨v1,vs1,e1,cZ.dN.kb c c 1 .any _ h1,h2⟩
 ·refine cx (h.mono ?_) (fh _)
  rintro r H n (⟨a,rfl,e⟩|⟨b,d,L,rfl,e,hb⟩)
  ·rw[e] at hc;exact absurd rfl hc
  ·rw[e]
   have e1:cZ.dV H 6 (.dK [.sl b L.length,i64 (-1)])= .dK [cZ.dV H 5 (.sl b L.length),i64 (-1)]:=by
    simp only[dV,List.map_cons,List.map_nil]
   rw[e1,dc hb (by simp),cy _ (fL L)]
   rfl
end Go.Proofs.YtjopoheligmmoaaGreatDoor
end
section
/- How variables are shared, in plain data. -/
namespace Go.Proofs.YtjopoheligmmoaaGreatDoor
open Go Go.cZ Go.Proofs
set_option linter.unusedSimpArgs false
set_option linter.unusedVariables false
def hb (l:List Int):Nat:=l.foldl (fun a k=>a|||2^k.toNat) 0
theorem V7 (l:List Int) (k:Int):hb (l++[k])=hb l|||2^k.toNat:=by simp[hb]
theorem NQ:∀(l:List Int) (j:Nat),(hb l).testBit j=l.any fun k=>decide (k.toNat=j):=by
 have h:∀(l:List Int) (a j:Nat),(l.foldl (fun a k=>a|||2^k.toNat) a).testBit j=(a.testBit j||l.any fun k=>decide (k.toNat=j)):=by
  intro l
  induction l with
  |nil=>simp
  |cons k l ih=>
   intro a j
   rw[List.foldl_cons,ih,Nat.testBit_or,Nat.testBit_two_pow,List.any_cons,Bool.or_assoc]
 intro l j
 rw[hb,h];simp
theorem S6 {n m:Nat} (h:∀j,n.testBit j=true→j<m):n<2^m:=by
 apply Nat.lt_of_not_le
 intro hle
 obtain⟨j,hj,ht⟩:=Nat.exists_ge_and_testBit_of_ge_two_pow hle
 exact absurd (h j ht) (by omega)
theorem UQ {l:List Int} {m:Nat} (h:∀k∈l,k.toNat<m):hb l<2^m:=S6 fun j hj=>by
 rw[NQ,List.any_eq_true] at hj
 obtain⟨k,hk,e⟩:=hj
 rw[←of_decide_eq_true e];exact h k hk
theorem zl {α:Type} {p:List α→Prop} (h0:p []) (h1:∀l x,p l→p (l++[x])) (l:List α):p l:=by
 have:∀r:List α,p r.reverse:=by
  intro r
  induction r with
  |nil=>exact h0
  |cons a r ih=>rw[List.reverse_cons];exact h1 _ _ ih
 rw[←List.reverse_reverse l];exact this _
abbrev ctz (x:Nat):Nat:=Lib.ctz 32 x
theorem RE {x:Nat} (h0:x≠0) (h:x<4294967296):x.testBit (ctz x)=true∧(∀j,j<ctz x→x.testBit j=false)∧ctz x<32:=by
 unfold ctz Lib.ctz
 rw[if_neg h0]
 obtain⟨m,hm,hk⟩:=Lib.ctzFrom_spec 32 x (Nat.pos_of_ne_zero h0) h
 generalize Lib.ctzFrom 32 x=k at *
 refine⟨?_,fun j hj=> ?_,hk⟩
 ·rw[hm,Nat.mul_comm,Nat.testBit_mul_two_pow];simp
 ·rw[hm,Nat.mul_comm,Nat.testBit_mul_two_pow];simp;omega
theorem AI {x:Nat} (h0:x≠0) (h:x<4294967296) (j:Nat):(x&&& (x - 1)).testBit j=(x.testBit j&&decide (j≠ctz x)):=by
 unfold ctz Lib.ctz
 rw[if_neg h0]
 obtain⟨m,hm,hk⟩:=Lib.ctzFrom_spec 32 x (Nat.pos_of_ne_zero h0) h
 generalize Lib.ctzFrom 32 x=k at *
 have e1:x - 1=2^k * (2 * m)+(2^k - 1):=by
  rw[hm,Nat.mul_add,Nat.mul_one]
  have:=Nat.one_le_two_pow (n:=k)
  omega
 have hlt:2^k - 1<2^k:=by have:=Nat.one_le_two_pow (n:=k);omega
 rw[Nat.testBit_and,e1,Nat.testBit_two_pow_mul_add _ hlt]
 by_cases hj:j<k
 ·rw[if_pos hj,Nat.testBit_two_pow_sub_one,decide_eq_true hj,Bool.and_true,decide_eq_true (by omega),Bool.and_true]
 ·rw[if_neg hj]
  have e2:x.testBit j=(2 * m+1).testBit (j - k):=by
   rw[hm,Nat.mul_comm,Nat.testBit_mul_two_pow,decide_eq_true (by omega)];simp
  rw[e2]
  by_cases e:j=k
  ·subst e;simp
  ·obtain⟨i,hi⟩:∃i,j - k=i+1:=⟨j - k - 1,by omega⟩
   rw[hi,Nat.testBit_succ,Nat.testBit_succ,show(2 * m+1) /2=m by omega,show(2 * m) /2=m by omega,decide_eq_true e]
   simp
theorem pred_lt {x:Nat} (h0:x≠0):x&&& (x - 1)<x:=by
 have:x&&& (x - 1)≤x - 1:=Nat.and_le_right
 omega
def uS:Nat→Nat→List Int
 |0,_=>[]
 |f+1,x=>if x=0 then[] else(ctz x:Int)::uS f (x&&& (x - 1))
def bits (x:Nat):List Int:=uS x x
theorem nb:∀(f x:Nat),x≤f→uS f x=bits x
 |0,x,h=>by have:x=0:=by omega
            subst this;rfl
 |f+1,x,h=>by
  by_cases h0:x=0
  ·subst h0;rfl
  ·obtain⟨y,rfl⟩:∃y,x=y+1:=⟨x - 1,by omega⟩
   have:=pred_lt h0
   rw[uS,if_neg h0,bits,uS,if_neg h0,nb f _ (by omega),nb y _ (by omega)]
theorem po {x:Nat} (h0:x≠0):bits x=(ctz x:Int)::bits (x&&& (x - 1)):=by
 obtain⟨y,rfl⟩:∃y,x=y+1:=⟨x - 1,by omega⟩
 have:=pred_lt h0
 rw[bits,uS,if_neg h0,nb y _ (by omega)]
end Go.Proofs.YtjopoheligmmoaaGreatDoor
end
