import Derived.Test.YtekfmjjmihomlaaGreatDoorM28
import Derived.Test.YtekfmjjmihomlaaGreatDoorM25
namespace Go.Proofs.YtekfmjjmihomlaaGreatDoor
open Go Go.cw Go.Proofs
set_option linter.unusedSimpArgs false
set_option linter.unusedVariables false
abbrev mR (E:List (Int×Bool)):List AV:=lu (fun n:Int=>Value.int .i64 n) bl E
theorem oC (E:List (Int×Bool)) (t:Int):qB false (.int .i64 t) (mR E) (bl false)=some (bl ((cm E t).getD false),(cm E t).isSome):=(uU oq bl t E (bl false)).trans (by cases cm E t<;>rfl)
theorem nH (E:List (Int×Bool)) (t:Int) (v:Bool):sO false (.int .i64 t) (mR E) (bl v)=some (mR (gA E t v)):=uV oq bl t v E
def tq (E:List (Int×Bool)) (s:HS):Prop:=∀k:Int,0<=k->(cm E k).getD false=s.f k
theorem qt {l:List (List Int)} {i:Int} (h:i.toNat<l.length) (d:AV):(l.map gy).getD i.toNat d=gy (l.getD i.toNat []):=dN gy l _ d h
theorem sd {l:List (List Int)} {i:Nat} (v:List Int):(l.map gy).set i (gy v)=(l.set i v).map gy:=by rw[List.map_set]
theorem xj {g:bu} {f k:Nat} {s:HS} (hk:k<s.todo.length):fX g (f+1) s k=(match eK (g.nd (s.todo.getD k 0).toNat) (s.l (s.todo.getD k 0)) with
 |none=>([],s.todo.getD k 0)
 |some now=>match dV now (g.nd (s.todo.getD k 0).toNat).iA s with
  | .inl s'=>fX g f s' (k+1)
  | .inr at_=>([],at_)):=by rw[fX,if_pos hk];rfl
def qo (r:List (List Int)×Int):AV:= .df [.im 1 .any (r.1.map gy),i64 r.2]
theorem NF {l:List Int} {k:Nat} (h:k<l.length) (d:AV):(l.map i64).getD ((k:Int)).toNat d=i64 (l.getD k 0):=kY h d
theorem ND (l:List Int) {H:Hp}:[AV.im 1 .any (l.map i64)].map (cw.dj H 6)=[AV.im 1 .any (l.map i64)]:=by
 rw[List.map_cons,List.map_nil,dG 6 (by simp[cF,cI])]
theorem kG (now l:List Int) (s:HS) {j:Nat} (h:j<l.length):dV now (l.drop j) s=if s.f (l.getD j 0)=false then dV now (l.drop (j+1)) ⟨s.cE.set (l.getD j 0).toNat now,s.found.set (l.getD j 0).toNat true,s.todo++[l.getD j 0]⟩ else if s.l (l.getD j 0)=now then dV now (l.drop (j+1)) s else .inr (l.getD j 0):=by
 rw[List.drop_eq_getElem_cons h,dV,gd h]
theorem xk (now:List Int) (a:Int) (s:HS) (h:a.toNat<s.found.length) (hl:s.cE.length=s.found.length):dV now [a,a] s=dV now [a] s:=by
 simp only[dV]
 by_cases h1:s.f a=false
 ·rw[if_pos h1,if_pos h1,if_neg (by rw[HS.ta h];simp),if_pos (by rw[HS.NJ (by rw[hl];exact h)];simp)]
 ·simp only[if_neg h1]
  by_cases h2:s.l a=now
  ·simp only[if_pos h2]
  ·simp only[if_neg h2]
theorem IN {g:bu} (hw:Whole g) {i:Nat} (hi:i<g.nodes.length) {now:List Int} {s:HS} (hl:s.cE.length=g.nodes.length) (hf:s.found.length=g.nodes.length):dV now (g.nd i).iA s=dV now (g.nd i).fold s:=
 (tn (fun l=>dV now l s) (g.nd i) fun h8=>xk now _ s (by
  rw[hf]
  refine((hw.2.2 i hi).2.2 _ ?_).2
  unfold Node.iA
  rw[if_neg (by omega),if_pos h8];simp) (by rw[hl,hf])).symm
def mX (nv:AV) (l:List Int) (H:Hp) (nx:Nat):Prop:=Told nv l H nx/\∀b m,nv= .sl b m->12<b
theorem Told.keep {nv:AV} {l:List Int} {H H2:Hp} {nx nx2:Nat} (h:Told nv l H nx) (hn:nx<=nx2) (hb:∀b m,nv= .sl b m->12<b) (hk:∀b,12<b->b<nx->bo H2 b=bo H b):Told nv l H2 nx2:=by
 rcases h with h|⟨b,d,h1,h2,h3⟩
 ·exact .inl h
 ·exact .inr ⟨b,d,h1,by omega,(hk b (hb _ _ h1) h2).trans h3⟩
theorem mX.keep {nv:AV} {l:List Int} {H H2:Hp} {nx nx2:Nat} (h:mX nv l H nx) (hn:nx<=nx2) (hk:∀b,12<b->b<nx->bo H2 b=bo H b):mX nv l H2 nx2:=⟨h.1.keep hn h.2 hk,h.2⟩
set_option maxRecDepth 8000 in
set_option maxHeartbeats 8000000 in
theorem I5 (g:bu) (hg:g.Wf) (hw:Whole g):cQ Tryz.prog 61 [g.av] [] 0 (fun r H n=>(∃a,r= .df [.sc (.slice none 0 0),i64 a]/\eP g=([],a))\/∃b d L,r= .df [.sl b L.length,i64 (-1)]/\eP g=(L,-1)/\bo H b=some (.row 132 1 d (L.map gy))):=by
 have hl:=hg.len
 have hl0:=hw.1
 have hl1:=hw.2.1
 refine aJ OL rfl ?_
 repeat' (first|refine aQ ?_|exact dR|with_reducible refine aB ?_ ?_|((with_reducible refine Ask.mk ?_);first|exact cW|exact cJ|(intro h;simp_all[bu.cells]<;>fail)|(simp_all[bu.cells]<;>fail))|(apply aA;(·exact bz))|(apply aF (g:=none);(·exact fun _=>nH [] _ _))|refine aH ?_|((with_reducible refine aE ?_ ?_)<;>intro hc<;>try(exfalso;omega)))
 simp only[List.length_map,Int.toNat_natCast]
 refine bA (fun s:HS×Nat=>[(1, .pt 0 1 0 0),(4, .sl 6 g.nodes.length),(5, .mp 8),(6, .sl 12 s.1.todo.length),(7,i64 s.2)])
  (fun s H n=>15<=n/\(∃d,bo H 0=some (.row 45 4 d [g.av]))/\(∃d,bo H 6=some (.row 132 1 d (s.1.cE.map gy)))/\(∃d E,bo H 8=some (.row 3 0 d (mapA (mR E)))/\tq E s.1)/\(∃d,bo H 12=some (.row 3 1 d (s.1.todo.map i64)))/\HI g s.1 s.2/\s.2<=g.nodes.length/\(∀i,(s.1.cE.getD i []).length<=s.2)/\fX g (g.nodes.length+1 - s.2) s.1 s.2=eP g)
  (fun s=>g.nodes.length+1 - s.2) (kg g,0) cG ⟨_,_,Wk.YL (b:=6) (e:=132) (sz:=1) (es:=List.replicate g.nodes.length (.sc (.slice none 0 0))) (d:= .sc (.slice none 0 0)) .any bt (es2:=(kg g).cE.map gy) (by simp[kg]) (fun c c2 _ _=> ?_),cU,⟨_,bt⟩,⟨_,bt⟩,⟨_,gA [] 0 true,bt, ?_⟩,⟨_,bt⟩,HI.start hw,Nat.zero_le _, ?_,rfl⟩ ?_
 ·simp only[kg,List.map_replicate]
  exact dL.rep (da.qE c c2 1 .any) _
 ·intro y hy
  have:=kD (l:=List.replicate g.nodes.length false) (i:=0) (by simp;omega) y
  show _=ji ((List.replicate g.nodes.length false).set 0 true) y
  rw[this]
  by_cases e:y=0
  ·subst e;rfl
  ·rw[if_neg (by omega)]
   show(cm [(0,true)] y).getD false=_
   simp only[cm,if_neg e,Option.getD_none,ji,List.getD,List.getElem?_replicate]
   split<;>rfl
 ·intro i
  simp only[kg,List.getD,List.getElem?_replicate];split<;>exact Nat.zero_le _
 rintro⟨s,k⟩ H n ⟨hn,⟨d0,r0⟩,⟨d6,r6⟩,⟨d8,E,r8,hE⟩,⟨d12,r12⟩,hI,hkl,hlen,hrun⟩
 dsimp only at r6 r12 hI hkl hlen hrun hE ⊢
 have hct:=hI.count
 by_cases hk:k<s.todo.length
 ·obtain⟨x0,x1,x2⟩:=hI.inr _ (cR (0:Int) hk)
  have hll:=hI.ow
  have hcnt:=hI.count
  have hlm:(s.cE.map gy).length=g.nodes.length:=by simp[hll]
  have e1:=fun d=>NF hk d
  have e2:=fun d=>qt (l:=s.cE) (i:=s.todo.getD k 0) (by rw[hll];exact x1) d
  have hlk:=hlen (s.todo.getD k 0).toNat
  rw[show g.nodes.length+1 - k=(g.nodes.length - k)+1 by omega,xj hk] at hrun
  have hnx:=fun now s'=>hI.next hw hk (now:=now) (s':=s')
  unfold HS.l at hrun hnx
  generalize hx:s.todo.getD k 0=x at *
  have hf:=lj (g.nd x.toNat)
  unfold gy at hf
  generalize hl0:s.cE.getD x.toNat []=l at *
  have hfl:=mh (g.nd x.toNat)
  have hfh:=fun now=>IN hw x1 (now:=now) (s:=s) hI.ow hI.pa
  by_cases h5:(g.nd x.toNat).kind=5
  ·have hnow:eK (g.nd x.toNat) l=some (l++[(g.nd x.toNat).cB]):=by unfold eK;rw[if_pos h5]
   have hnl:(l++[(g.nd x.toNat).cB]).length<=k+1:=by rw[List.length_append];exact Nat.succ_le_succ hlk
   rw[hnow] at hrun
   dsimp only at hrun
   repeat' (first|refine aQ ?_|exact dR|with_reducible refine aB ?_ ?_|((with_reducible refine Ask.mk ?_);first|exact cW|(exact hlm)|(refine K9 (m:=1) rfl ?_;simp only[List.length_map];omega)|exact cJ|(intro h;simp_all[bu.cells,Node.cells]<;>fail)|(simp_all[bu.cells,Node.cells]<;>fail))|(apply aA;(·(first|exact gh x1 _|exact e1 _|exact e2 _|exact bz)))|refine aK (hf) ?_|(simp only[h5])|((refine aj [] .any (oJ (es:=l.map i64) (by rw[List.length_map];omega)) (fun i hi=>by rw[dN i64 _ _ _ (by simpa using hi)];trivial) (fun _ _=>ND l) (by simp[cT,cF,cI]) ?_))|(apply aF (g:=none);(·exact fun _=>oC _ _))|(apply aF (g:=none);(·exact fun _=>nH _ _ _))|refine aH ?_|((with_reducible refine aE ?_ ?_)<;>intro hc<;>try(exfalso;omega)))
   clear hf
   simp only[List.length_map]
   refine aI (fun q:HS×Nat=>[(1, .pt 0 1 0 0),(4, .sl 6 g.nodes.length),(5, .mp 8),(6, .sl 12 q.1.todo.length),(7,i64 k),(10, .sl (n+26) (l++[(g.nd x.toNat).cB]).length),(78, .im 1 .any ((g.nd x.toNat).fold.map i64)),(79,i64 (g.nd x.toNat).fold.length),(80,i64 q.2)])
    (fun q H2 n2=>q.2<=(g.nd x.toNat).fold.length/\n+15<=n2/\(∃d,bo H2 0=some (.row 45 4 d [g.av]))/\(∃d,bo H2 6=some (.row 132 1 d (q.1.cE.map gy)))/\(∃d E,bo H2 8=some (.row 3 0 d (mapA (mR E)))/\tq E q.1)/\(∃d,bo H2 12=some (.row 3 1 d (q.1.todo.map i64)))/\mX (.sl (n+26) (l++[(g.nd x.toNat).cB]).length) (l++[(g.nd x.toNat).cB]) H2 n2/\q.1.cE.length=g.nodes.length/\q.1.found.length=g.nodes.length/\q.1.todo.length+q.1.found.count false=g.nodes.length/\(∀i,(q.1.cE.getD i []).length<=k+1)/\dV (l++[(g.nd x.toNat).cB]) ((g.nd x.toNat).fold.drop q.2) q.1=dV (l++[(g.nd x.toNat).cB]) (g.nd x.toNat).fold s)
    (fun q=>(g.nd x.toNat).fold.length - q.2) (s,0) cG ⟨Nat.zero_le _,cU,⟨_,bt⟩,⟨_,bt⟩,⟨_,E,bt,hE⟩,⟨_,bt⟩,⟨.inr ⟨n+26,_,rfl,cU,by rw[<-jk];exact bt⟩,fun b m h=>by cases h;omega⟩,hI.ow,hI.pa,hI.count,fun i=>Nat.le_succ_of_le (hlen i),rfl⟩ ?_
   clear r0 r6 r8 r12
   rintro⟨⟨lks,fnds,tds⟩,j⟩ H2 n2 ⟨hj,hn2,⟨d02,r0⟩,⟨d62,r6⟩,⟨d82,E2,r8,hE2⟩,⟨d122,r12⟩,hT,hll2,hfl2,hct2,hlen2,hto⟩
   dsimp only at hj hn2 r6 hE2 r12 hT hll2 hfl2 hct2 hlen2 hto ⊢
   by_cases hjl:j<(g.nd x.toNat).fold.length
   ·have hm:=iQ.1 (cR 0 hjl)
    obtain⟨k0,k1⟩:=(hw.2.2 x.toNat x1).2.2 _ hm
    have e3:=fun d=>kY (l:=(g.nd x.toNat).fold) hjl d
    rw[kG _ _ _ hjl] at hto
    generalize hy:(g.nd x.toNat).fold.getD j 0=y at *
    have hl2m:(lks.map gy).length=g.nodes.length:=by simp[hll2]
    have e4:=fun d=>qt (l:=lks) (i:=y) (by rw[hll2];exact k1) d
    have hE3:=hE2 y k0
    have hyc:((y.toNat:Nat):Int)=y:=by omega
    cases hfd:HS.f ⟨lks,fnds,tds⟩ y with
    |true=>
     rw[if_neg (by rw[hfd];decide)] at hto
     rw[hfd] at hE3
     repeat' (first|refine aQ ?_|exact dR|with_reducible refine aB ?_ ?_|((with_reducible refine Ask.mk ?_);first|exact cW|(exact hl2m)|exact cJ)|(apply aA;(·(first|exact e3 _|exact e4 _|exact bz)))|(simp only[hE3])|(apply aF (g:=none);(·exact fun _=>oC _ _))|(apply aF (g:=none);(·exact fun _=>nH _ _ _))|refine aH ?_|((with_reducible refine aE ?_ ?_)<;>intro hc<;>try(exfalso;omega)))
     refine aG (si (l:=l++[(g.nd x.toNat).cB]) ?_ (lks.getD y.toNat []) (by omega) (by have:=hlen2 y.toNat;omega)) ?_
     ·exact(hT.keep cU (fun b h1 h2=>bx)).1
     rintro r1 H3 n3 ⟨hr,rfl,rfl⟩
     by_cases hq:lks.getD y.toNat []=(l++[(g.nd x.toNat).cB])
     ·have hq2:HS.l ⟨lks,fnds,tds⟩ y=(l++[(g.nd x.toNat).cB]):=hq
      rw[if_pos hq2] at hto
      have hr1:r1=bl true:=hr.trans (congrArg _ (decide_eq_true hq))
      subst hr1
      repeat' (first|refine aQ ?_|exact aC|with_reducible refine aB ?_ ?_|(apply aA;(·exact bz))|refine aH ?_|((with_reducible refine aE ?_ ?_)<;>intro hc<;>try(exfalso;omega)))
      exact⟨(⟨lks,fnds,tds⟩,j+1),by dsimp only;omega,cG,by dsimp only;omega,cU,⟨_,bt⟩,⟨_,bt⟩,⟨_,E2,bt,hE2⟩,⟨_,bt⟩,hT.keep cU (fun b h1 h2=>bx),hll2,hfl2,hct2,hlen2,hto⟩
     ·have hq2:¬HS.l ⟨lks,fnds,tds⟩ y=(l++[(g.nd x.toNat).cB]):=hq
      rw[if_neg hq2] at hto
      have hr1:r1=bl false:=hr.trans (congrArg _ (decide_eq_false hq))
      subst hr1
      repeat' (first|refine aQ ?_|exact aC|with_reducible refine aB ?_ ?_|(apply aA;(·exact bz))|refine aH ?_|((with_reducible refine aE ?_ ?_)<;>intro hc<;>try(exfalso;omega)))
      exact⟨.inl ⟨y,rfl,by rw[<-hrun,hfh,<-hto]⟩⟩
    |false=>
     rw[if_pos hfd] at hto
     rw[hfd] at hE3
     have hcts:=count_set (l:=fnds) (i:=y.toNat) (by rw[hfl2];exact k1) hfd
     repeat' (first|refine aQ ?_|exact dR|with_reducible refine aB ?_ ?_|((with_reducible refine Ask.mk ?_);first|exact cW|(exact hl2m)|exact cJ)|(apply aA;(·(first|exact e3 _|exact e4 _|exact bz)))|(simp only[hE3])|(apply aF (g:=none);(·exact fun _=>oC _ _))|(apply aF (g:=none);(·exact fun _=>nH _ _ _))|refine aH ?_|((with_reducible refine aE ?_ ?_)<;>intro hc<;>try(exfalso;omega)))
     refine aG (mF (l:=l++[(g.nd x.toNat).cB]) ?_ (by omega)) ?_
     ·exact(hT.keep cU (fun b h1 h2=>bx)).1
     rintro _ H3 n3 ⟨rfl,hn3,hkp⟩
     have hb:∀{p:Prop},p->p:=fun h=>h
     have r03:bo H3 0=some (.row 45 4 d02 [g.av]):=(hkp 0 cU).trans bt
     have r63:bo H3 6=some (.row 132 1 d62 (lks.map gy)):=(hkp 6 cU).trans bt
     have r83:bo H3 8=some (.row 3 0 d82 (mapA (mR (gA E2 y true)))):=(hkp 8 cU).trans bt
     have r123:bo H3 12=some (.row 3 1 d122 (tds.map i64)):=(hkp 12 cU).trans bt
     have hn23:n2<n3:=Nat.lt_of_lt_of_le cU hn3
     have hT3:mX (.sl (n+26) (l++[(g.nd x.toNat).cB]).length) (l++[(g.nd x.toNat).cB]) H3 n3:=hT.keep (Nat.le_of_lt hn23) (fun b h1 h2=>(hkp b (Nat.lt_of_lt_of_le h2 cU)).trans bx)
     clear hkp hT
     repeat' (first|refine aQ ?_|exact dR|with_reducible refine aB ?_ ?_|((with_reducible refine Ask.mk ?_);first|exact cW|(exact hl2m)|exact cJ)|(apply aA;(·(first|exact e3 _|exact e4 _|exact bz)))|refine aH ?_|((with_reducible refine aE ?_ ?_)<;>intro hc<;>try(exfalso;omega)))
     refine⟨(⟨lks.set y.toNat (l++[(g.nd x.toNat).cB]),fnds.set y.toNat true,tds++[y]⟩,j+1),by dsimp only;omega,cG,by dsimp only;omega,cU,⟨_,bt⟩,⟨_,by dsimp only;rw[<-sd];exact bt⟩,⟨_,gA E2 y true,bt, ?_⟩,⟨_,by dsimp only;rw[<-jk];exact bt⟩,hT3.keep cU (fun b h1 h2=>bx),by simp[hll2],by simp[hfl2], ?_, ?_,hto⟩
     ·intro z hz
      rw[gb,HS.ta (s:=⟨lks,fnds,tds⟩) (by rw[hfl2];exact k1)]
      by_cases hzy:z=y
      ·rw[if_pos hzy,if_pos (by rw[hzy])];rfl
      ·rw[if_neg hzy,if_neg (by omega)];exact hE2 z hz
     ·simp only[List.length_append,List.length_cons,List.length_nil];omega
     ·intro i
      rw[ct]
      split
      ·exact hnl
      ·exact hlen2 i
   ·have:j=(g.nd x.toNat).fold.length:=by omega
    subst this
    rw[List.drop_eq_nil_of_le (Nat.le_refl _),dV] at hto
    have hnx2:=hnx _ _ hnow (by rw[hfh];exact hto.symm)
    repeat' (first|refine aQ ?_|exact aC|with_reducible refine aB ?_ ?_|(apply aA;(·exact bz))|refine aH ?_|((with_reducible refine aE ?_ ?_)<;>intro hc<;>try(exfalso;omega)))
    refine⟨(⟨lks,fnds,tds⟩,k+1),by dsimp only;omega,cG,⟨_,_,Wk.refl _ _ _,cU,⟨_,bt⟩,⟨_,bt⟩,⟨_,E2,bt,hE2⟩,⟨_,bt⟩,hnx2,by dsimp only;omega,hlen2, ?_⟩⟩
    rw[<-hrun,hfh,<-hto]
    dsimp only
    congr 1
    omega
  ·by_cases h6:(g.nd x.toNat).kind=6
   ·rcases List.eq_nil_or_concat l with rfl|⟨a,y,rfl⟩
    ·have hnow:eK (g.nd x.toNat) []=none:=by unfold eK;rw[if_neg h5,if_pos h6,if_neg (fun h=>h.1 rfl)]
     rw[hnow] at hrun
     dsimp only at hrun
     repeat' (first|refine aQ ?_|exact dR|with_reducible refine aB ?_ ?_|((with_reducible refine Ask.mk ?_);first|exact cW|(exact hlm)|exact cJ|(intro h;simp_all[bu.cells,Node.cells]<;>fail)|(simp_all[bu.cells,Node.cells]<;>fail))|(apply aA;(·(first|exact gh x1 _|exact e1 _|exact e2 _|exact bz)))|refine aK (hf) ?_|(simp only[h6])|(apply aF (g:=none);(·exact fun _=>oC _ _))|(apply aF (g:=none);(·exact fun _=>nH _ _ _))|refine aH ?_|((with_reducible refine aE ?_ ?_)<;>intro hc<;>try(exfalso;omega)))
     exact⟨.inl ⟨x,rfl,hrun.symm⟩⟩
    ·rw[List.concat_eq_append] at *
     have hla:(a++[y]).length=a.length+1:=by simp
     have hml:((a++[y]).map i64).length=a.length+1:=by simp
     have e5:∀d,((a++[y]).map i64).getD (((((a++[y]).map i64).length:Nat):Int) - 1).toNat d=i64 y:=fun d=>by
      rw[hml,show(((a.length+1:Nat):Int) - 1).toNat=a.length by omega,List.map_append]
      simp[List.getD]
     by_cases hy6:y=(g.nd x.toNat).cB
     ·subst hy6
      have hnow:eK (g.nd x.toNat) (a++[(g.nd x.toNat).cB])=some a:=by unfold eK;rw[if_neg h5,if_pos h6,if_pos ⟨by simp,by simp⟩,List.dropLast_concat]
      have hnl:a.length<=k+1:=by omega
      have htk:(((a++[(g.nd x.toNat).cB]).map i64).drop 0).take a.length=a.map i64:=by simp
      rw[hnow] at hrun
      dsimp only at hrun
      repeat' (first|refine aQ ?_|exact dR|with_reducible refine aB ?_ ?_|((with_reducible refine Ask.mk ?_);first|exact cW|(exact hlm)|exact cJ|(intro h;simp_all[bu.cells,Node.cells]<;>fail)|(simp_all[bu.cells,Node.cells]<;>fail))|(apply aA;(·(first|exact gh x1 _|exact e1 _|exact e2 _|exact e5 _|exact bz)))|refine aK (hf) ?_|(simp only[h6])|(simp only[htk])|(apply aF (g:=none);(·exact fun _=>oC _ _))|(apply aF (g:=none);(·exact fun _=>nH _ _ _))|refine aH ?_|((with_reducible refine aE ?_ ?_)<;>intro hc<;>try(exfalso;omega)))
      ·exact absurd hc (by simp;omega)
      clear hf
      try simp only[List.length_map]
      refine aI (fun q:HS×Nat=>[(1, .pt 0 1 0 0),(4, .sl 6 g.nodes.length),(5, .mp 8),(6, .sl 12 q.1.todo.length),(7,i64 k),(10, .im 1 .any (a.map i64)),(78, .im 1 .any ((g.nd x.toNat).fold.map i64)),(79,i64 (g.nd x.toNat).fold.length),(80,i64 q.2)])
       (fun q H2 n2=>q.2<=(g.nd x.toNat).fold.length/\n+15<=n2/\(∃d,bo H2 0=some (.row 45 4 d [g.av]))/\(∃d,bo H2 6=some (.row 132 1 d (q.1.cE.map gy)))/\(∃d E,bo H2 8=some (.row 3 0 d (mapA (mR E)))/\tq E q.1)/\(∃d,bo H2 12=some (.row 3 1 d (q.1.todo.map i64)))/\mX (.im 1 .any (a.map i64)) (a) H2 n2/\q.1.cE.length=g.nodes.length/\q.1.found.length=g.nodes.length/\q.1.todo.length+q.1.found.count false=g.nodes.length/\(∀i,(q.1.cE.getD i []).length<=k+1)/\dV (a) ((g.nd x.toNat).fold.drop q.2) q.1=dV (a) (g.nd x.toNat).fold s)
       (fun q=>(g.nd x.toNat).fold.length - q.2) (s,0) cG ⟨Nat.zero_le _,cU,⟨_,bt⟩,⟨_,bt⟩,⟨_,E,bt,hE⟩,⟨_,bt⟩,⟨.inl rfl,fun b m h=>by cases h⟩,hI.ow,hI.pa,hI.count,fun i=>Nat.le_succ_of_le (hlen i),rfl⟩ ?_
      clear r0 r6 r8 r12
      rintro⟨⟨lks,fnds,tds⟩,j⟩ H2 n2 ⟨hj,hn2,⟨d02,r0⟩,⟨d62,r6⟩,⟨d82,E2,r8,hE2⟩,⟨d122,r12⟩,hT,hll2,hfl2,hct2,hlen2,hto⟩
      dsimp only at hj hn2 r6 hE2 r12 hT hll2 hfl2 hct2 hlen2 hto ⊢
      by_cases hjl:j<(g.nd x.toNat).fold.length
      ·have hm:=iQ.1 (cR 0 hjl)
       obtain⟨k0,k1⟩:=(hw.2.2 x.toNat x1).2.2 _ hm
       have e3:=fun d=>kY (l:=(g.nd x.toNat).fold) hjl d
       rw[kG _ _ _ hjl] at hto
       generalize hy:(g.nd x.toNat).fold.getD j 0=y at *
       have hl2m:(lks.map gy).length=g.nodes.length:=by simp[hll2]
       have e4:=fun d=>qt (l:=lks) (i:=y) (by rw[hll2];exact k1) d
       have hE3:=hE2 y k0
       have hyc:((y.toNat:Nat):Int)=y:=by omega
       cases hfd:HS.f ⟨lks,fnds,tds⟩ y with
       |true=>
        rw[if_neg (by rw[hfd];decide)] at hto
        rw[hfd] at hE3
        repeat' (first|refine aQ ?_|exact dR|with_reducible refine aB ?_ ?_|((with_reducible refine Ask.mk ?_);first|exact cW|(exact hl2m)|exact cJ)|(apply aA;(·(first|exact e3 _|exact e4 _|exact bz)))|(simp only[hE3])|(apply aF (g:=none);(·exact fun _=>oC _ _))|(apply aF (g:=none);(·exact fun _=>nH _ _ _))|refine aH ?_|((with_reducible refine aE ?_ ?_)<;>intro hc<;>try(exfalso;omega)))
        refine aG (si (l:=a) ?_ (lks.getD y.toNat []) (by omega) (by have:=hlen2 y.toNat;omega)) ?_
        ·exact(hT.keep cU (fun b h1 h2=>bx)).1
        rintro r1 H3 n3 ⟨hr,rfl,rfl⟩
        by_cases hq:lks.getD y.toNat []=(a)
        ·have hq2:HS.l ⟨lks,fnds,tds⟩ y=(a):=hq
         rw[if_pos hq2] at hto
         have hr1:r1=bl true:=hr.trans (congrArg _ (decide_eq_true hq))
         subst hr1
         repeat' (first|refine aQ ?_|exact aC|with_reducible refine aB ?_ ?_|(apply aA;(·exact bz))|refine aH ?_|((with_reducible refine aE ?_ ?_)<;>intro hc<;>try(exfalso;omega)))
         exact⟨(⟨lks,fnds,tds⟩,j+1),by dsimp only;omega,cG,by dsimp only;omega,cU,⟨_,bt⟩,⟨_,bt⟩,⟨_,E2,bt,hE2⟩,⟨_,bt⟩,hT.keep cU (fun b h1 h2=>bx),hll2,hfl2,hct2,hlen2,hto⟩
        ·have hq2:¬HS.l ⟨lks,fnds,tds⟩ y=(a):=hq
         rw[if_neg hq2] at hto
         have hr1:r1=bl false:=hr.trans (congrArg _ (decide_eq_false hq))
         subst hr1
         repeat' (first|refine aQ ?_|exact aC|with_reducible refine aB ?_ ?_|(apply aA;(·exact bz))|refine aH ?_|((with_reducible refine aE ?_ ?_)<;>intro hc<;>try(exfalso;omega)))
         exact⟨.inl ⟨y,rfl,by rw[<-hrun,hfh,<-hto]⟩⟩
       |false=>
        rw[if_pos hfd] at hto
        rw[hfd] at hE3
        have hcts:=count_set (l:=fnds) (i:=y.toNat) (by rw[hfl2];exact k1) hfd
        repeat' (first|refine aQ ?_|exact dR|with_reducible refine aB ?_ ?_|((with_reducible refine Ask.mk ?_);first|exact cW|(exact hl2m)|exact cJ)|(apply aA;(·(first|exact e3 _|exact e4 _|exact bz)))|(simp only[hE3])|(apply aF (g:=none);(·exact fun _=>oC _ _))|(apply aF (g:=none);(·exact fun _=>nH _ _ _))|refine aH ?_|((with_reducible refine aE ?_ ?_)<;>intro hc<;>try(exfalso;omega)))
        refine aG (mF (l:=a) ?_ (by omega)) ?_
        ·exact(hT.keep cU (fun b h1 h2=>bx)).1
        rintro _ H3 n3 ⟨rfl,hn3,hkp⟩
        have hb:∀{p:Prop},p->p:=fun h=>h
        have r03:bo H3 0=some (.row 45 4 d02 [g.av]):=(hkp 0 cU).trans bt
        have r63:bo H3 6=some (.row 132 1 d62 (lks.map gy)):=(hkp 6 cU).trans bt
        have r83:bo H3 8=some (.row 3 0 d82 (mapA (mR (gA E2 y true)))):=(hkp 8 cU).trans bt
        have r123:bo H3 12=some (.row 3 1 d122 (tds.map i64)):=(hkp 12 cU).trans bt
        have hn23:n2<n3:=Nat.lt_of_lt_of_le cU hn3
        have hT3:mX (.im 1 .any (a.map i64)) (a) H3 n3:=hT.keep (Nat.le_of_lt hn23) (fun b h1 h2=>(hkp b (Nat.lt_of_lt_of_le h2 cU)).trans bx)
        clear hkp hT
        repeat' (first|refine aQ ?_|exact dR|with_reducible refine aB ?_ ?_|((with_reducible refine Ask.mk ?_);first|exact cW|(exact hl2m)|exact cJ)|(apply aA;(·(first|exact e3 _|exact e4 _|exact bz)))|refine aH ?_|((with_reducible refine aE ?_ ?_)<;>intro hc<;>try(exfalso;omega)))
        refine⟨(⟨lks.set y.toNat (a),fnds.set y.toNat true,tds++[y]⟩,j+1),by dsimp only;omega,cG,by dsimp only;omega,cU,⟨_,bt⟩,⟨_,by dsimp only;rw[<-sd];exact bt⟩,⟨_,gA E2 y true,bt, ?_⟩,⟨_,by dsimp only;rw[<-jk];exact bt⟩,hT3.keep cU (fun b h1 h2=>bx),by simp[hll2],by simp[hfl2], ?_, ?_,hto⟩
        ·intro z hz
         rw[gb,HS.ta (s:=⟨lks,fnds,tds⟩) (by rw[hfl2];exact k1)]
         by_cases hzy:z=y
         ·rw[if_pos hzy,if_pos (by rw[hzy])];rfl
         ·rw[if_neg hzy,if_neg (by omega)];exact hE2 z hz
        ·simp only[List.length_append,List.length_cons,List.length_nil];omega
        ·intro i
         rw[ct]
         split
         ·exact hnl
         ·exact hlen2 i
      ·have:j=(g.nd x.toNat).fold.length:=by omega
       subst this
       rw[List.drop_eq_nil_of_le (Nat.le_refl _),dV] at hto
       have hnx2:=hnx _ _ hnow (by rw[hfh];exact hto.symm)
       repeat' (first|refine aQ ?_|exact aC|with_reducible refine aB ?_ ?_|(apply aA;(·exact bz))|refine aH ?_|((with_reducible refine aE ?_ ?_)<;>intro hc<;>try(exfalso;omega)))
       refine⟨(⟨lks,fnds,tds⟩,k+1),by dsimp only;omega,cG,⟨_,_,Wk.refl _ _ _,cU,⟨_,bt⟩,⟨_,bt⟩,⟨_,E2,bt,hE2⟩,⟨_,bt⟩,hnx2,by dsimp only;omega,hlen2, ?_⟩⟩
       rw[<-hrun,hfh,<-hto]
       dsimp only
       congr 1
       omega
     ·have hnow:eK (g.nd x.toNat) (a++[y])=none:=by unfold eK;rw[if_neg h5,if_pos h6,if_neg (fun h=>hy6 (by simpa using h.2))]
      rw[hnow] at hrun
      dsimp only at hrun
      repeat' (first|refine aQ ?_|exact dR|with_reducible refine aB ?_ ?_|((with_reducible refine Ask.mk ?_);first|exact cW|(exact hlm)|exact cJ|(intro h;simp_all[bu.cells,Node.cells]<;>fail)|(simp_all[bu.cells,Node.cells]<;>fail))|(apply aA;(·(first|exact gh x1 _|exact e1 _|exact e2 _|exact e5 _|exact bz)))|refine aK (hf) ?_|(simp only[h6])|(apply aF (g:=none);(·exact fun _=>oC _ _))|(apply aF (g:=none);(·exact fun _=>nH _ _ _))|refine aH ?_|((with_reducible refine aE ?_ ?_)<;>intro hc<;>try(exfalso;omega)))
      all_goals first|exact absurd hc.2 hy6|exact⟨.inl ⟨x,rfl,hrun.symm⟩⟩
   ·by_cases h9:(g.nd x.toNat).kind=9/\l≠[]
    ·have hnow:eK (g.nd x.toNat) l=none:=by unfold eK;rw[if_neg h5,if_neg h6,if_pos h9.1,if_neg h9.2]
     have hlp:0<l.length:=List.length_pos_iff.2 h9.2
     have h91:=h9.1
     rw[hnow] at hrun
     dsimp only at hrun
     repeat' (first|refine aQ ?_|exact dR|with_reducible refine aB ?_ ?_|((with_reducible refine Ask.mk ?_);first|exact cW|(exact hlm)|exact cJ|(intro h;simp_all[bu.cells,Node.cells]<;>fail)|(simp_all[bu.cells,Node.cells]<;>fail))|(apply aA;(·(first|exact gh x1 _|exact e1 _|exact e2 _|exact bz)))|refine aK (hf) ?_|(simp only[h91])|(apply aF (g:=none);(·exact fun _=>oC _ _))|(apply aF (g:=none);(·exact fun _=>nH _ _ _))|refine aH ?_|((with_reducible refine aE ?_ ?_)<;>intro hc<;>try(exfalso;omega)))
     exact⟨.inl ⟨x,rfl,hrun.symm⟩⟩
    ·by_cases h91:(g.nd x.toNat).kind=9
     ·have hl0:l=[]:=Classical.byContradiction fun h=>h9 ⟨h91,h⟩
      subst hl0
      have hnow:eK (g.nd x.toNat) []=some []:=by unfold eK;rw[if_neg h5,if_neg h6,if_pos h91,if_pos rfl]
      have hnl:([]:List Int).length<=k+1:=Nat.zero_le _
      rw[hnow] at hrun
      dsimp only at hrun
      repeat' (first|refine aQ ?_|exact dR|with_reducible refine aB ?_ ?_|((with_reducible refine Ask.mk ?_);first|exact cW|(exact hlm)|exact cJ|(intro h;simp_all[bu.cells,Node.cells]<;>fail)|(simp_all[bu.cells,Node.cells]<;>fail))|(apply aA;(·(first|exact gh x1 _|exact e1 _|exact e2 _|exact bz)))|refine aK (hf) ?_|(simp only[h91])|(apply aF (g:=none);(·exact fun _=>oC _ _))|(apply aF (g:=none);(·exact fun _=>nH _ _ _))|refine aH ?_|((with_reducible refine aE ?_ ?_)<;>intro hc<;>try(exfalso;omega)))
      clear hf
      try simp only[List.length_map]
      refine aI (fun q:HS×Nat=>[(1, .pt 0 1 0 0),(4, .sl 6 g.nodes.length),(5, .mp 8),(6, .sl 12 q.1.todo.length),(7,i64 k),(10, .im 1 .any (([]:List Int).map i64)),(78, .im 1 .any ((g.nd x.toNat).fold.map i64)),(79,i64 (g.nd x.toNat).fold.length),(80,i64 q.2)])
       (fun q H2 n2=>q.2<=(g.nd x.toNat).fold.length/\n+15<=n2/\(∃d,bo H2 0=some (.row 45 4 d [g.av]))/\(∃d,bo H2 6=some (.row 132 1 d (q.1.cE.map gy)))/\(∃d E,bo H2 8=some (.row 3 0 d (mapA (mR E)))/\tq E q.1)/\(∃d,bo H2 12=some (.row 3 1 d (q.1.todo.map i64)))/\mX (.im 1 .any (([]:List Int).map i64)) ([]) H2 n2/\q.1.cE.length=g.nodes.length/\q.1.found.length=g.nodes.length/\q.1.todo.length+q.1.found.count false=g.nodes.length/\(∀i,(q.1.cE.getD i []).length<=k+1)/\dV ([]) ((g.nd x.toNat).fold.drop q.2) q.1=dV ([]) (g.nd x.toNat).fold s)
       (fun q=>(g.nd x.toNat).fold.length - q.2) (s,0) cG ⟨Nat.zero_le _,cU,⟨_,bt⟩,⟨_,bt⟩,⟨_,E,bt,hE⟩,⟨_,bt⟩,⟨.inl rfl,fun b m h=>by cases h⟩,hI.ow,hI.pa,hI.count,fun i=>Nat.le_succ_of_le (hlen i),rfl⟩ ?_
      clear r0 r6 r8 r12
      rintro⟨⟨lks,fnds,tds⟩,j⟩ H2 n2 ⟨hj,hn2,⟨d02,r0⟩,⟨d62,r6⟩,⟨d82,E2,r8,hE2⟩,⟨d122,r12⟩,hT,hll2,hfl2,hct2,hlen2,hto⟩
      dsimp only at hj hn2 r6 hE2 r12 hT hll2 hfl2 hct2 hlen2 hto ⊢
      by_cases hjl:j<(g.nd x.toNat).fold.length
      ·have hm:=iQ.1 (cR 0 hjl)
       obtain⟨k0,k1⟩:=(hw.2.2 x.toNat x1).2.2 _ hm
       have e3:=fun d=>kY (l:=(g.nd x.toNat).fold) hjl d
       rw[kG _ _ _ hjl] at hto
       generalize hy:(g.nd x.toNat).fold.getD j 0=y at *
       have hl2m:(lks.map gy).length=g.nodes.length:=by simp[hll2]
       have e4:=fun d=>qt (l:=lks) (i:=y) (by rw[hll2];exact k1) d
       have hE3:=hE2 y k0
       have hyc:((y.toNat:Nat):Int)=y:=by omega
       cases hfd:HS.f ⟨lks,fnds,tds⟩ y with
       |true=>
        rw[if_neg (by rw[hfd];decide)] at hto
        rw[hfd] at hE3
        repeat' (first|refine aQ ?_|exact dR|with_reducible refine aB ?_ ?_|((with_reducible refine Ask.mk ?_);first|exact cW|(exact hl2m)|exact cJ)|(apply aA;(·(first|exact e3 _|exact e4 _|exact bz)))|(simp only[hE3])|(apply aF (g:=none);(·exact fun _=>oC _ _))|(apply aF (g:=none);(·exact fun _=>nH _ _ _))|refine aH ?_|((with_reducible refine aE ?_ ?_)<;>intro hc<;>try(exfalso;omega)))
        refine aG (si (l:=[]) ?_ (lks.getD y.toNat []) (by omega) (by have:=hlen2 y.toNat;omega)) ?_
        ·exact(hT.keep cU (fun b h1 h2=>bx)).1
        rintro r1 H3 n3 ⟨hr,rfl,rfl⟩
        by_cases hq:lks.getD y.toNat []=([])
        ·have hq2:HS.l ⟨lks,fnds,tds⟩ y=([]):=hq
         rw[if_pos hq2] at hto
         have hr1:r1=bl true:=hr.trans (congrArg _ (decide_eq_true hq))
         subst hr1
         repeat' (first|refine aQ ?_|exact aC|with_reducible refine aB ?_ ?_|(apply aA;(·exact bz))|refine aH ?_|((with_reducible refine aE ?_ ?_)<;>intro hc<;>try(exfalso;omega)))
         exact⟨(⟨lks,fnds,tds⟩,j+1),by dsimp only;omega,cG,by dsimp only;omega,cU,⟨_,bt⟩,⟨_,bt⟩,⟨_,E2,bt,hE2⟩,⟨_,bt⟩,hT.keep cU (fun b h1 h2=>bx),hll2,hfl2,hct2,hlen2,hto⟩
        ·have hq2:¬HS.l ⟨lks,fnds,tds⟩ y=([]):=hq
         rw[if_neg hq2] at hto
         have hr1:r1=bl false:=hr.trans (congrArg _ (decide_eq_false hq))
         subst hr1
         repeat' (first|refine aQ ?_|exact aC|with_reducible refine aB ?_ ?_|(apply aA;(·exact bz))|refine aH ?_|((with_reducible refine aE ?_ ?_)<;>intro hc<;>try(exfalso;omega)))
         exact⟨.inl ⟨y,rfl,by rw[<-hrun,hfh,<-hto]⟩⟩
       |false=>
        rw[if_pos hfd] at hto
        rw[hfd] at hE3
        have hcts:=count_set (l:=fnds) (i:=y.toNat) (by rw[hfl2];exact k1) hfd
        repeat' (first|refine aQ ?_|exact dR|with_reducible refine aB ?_ ?_|((with_reducible refine Ask.mk ?_);first|exact cW|(exact hl2m)|exact cJ)|(apply aA;(·(first|exact e3 _|exact e4 _|exact bz)))|(simp only[hE3])|(apply aF (g:=none);(·exact fun _=>oC _ _))|(apply aF (g:=none);(·exact fun _=>nH _ _ _))|refine aH ?_|((with_reducible refine aE ?_ ?_)<;>intro hc<;>try(exfalso;omega)))
        refine aG (mF (l:=[]) ?_ (by omega)) ?_
        ·exact(hT.keep cU (fun b h1 h2=>bx)).1
        rintro _ H3 n3 ⟨rfl,hn3,hkp⟩
        have hb:∀{p:Prop},p->p:=fun h=>h
        have r03:bo H3 0=some (.row 45 4 d02 [g.av]):=(hkp 0 cU).trans bt
        have r63:bo H3 6=some (.row 132 1 d62 (lks.map gy)):=(hkp 6 cU).trans bt
        have r83:bo H3 8=some (.row 3 0 d82 (mapA (mR (gA E2 y true)))):=(hkp 8 cU).trans bt
        have r123:bo H3 12=some (.row 3 1 d122 (tds.map i64)):=(hkp 12 cU).trans bt
        have hn23:n2<n3:=Nat.lt_of_lt_of_le cU hn3
        have hT3:mX (.im 1 .any (([]:List Int).map i64)) ([]) H3 n3:=hT.keep (Nat.le_of_lt hn23) (fun b h1 h2=>(hkp b (Nat.lt_of_lt_of_le h2 cU)).trans bx)
        clear hkp hT
        repeat' (first|refine aQ ?_|exact dR|with_reducible refine aB ?_ ?_|((with_reducible refine Ask.mk ?_);first|exact cW|(exact hl2m)|exact cJ)|(apply aA;(·(first|exact e3 _|exact e4 _|exact bz)))|refine aH ?_|((with_reducible refine aE ?_ ?_)<;>intro hc<;>try(exfalso;omega)))
        refine⟨(⟨lks.set y.toNat ([]),fnds.set y.toNat true,tds++[y]⟩,j+1),by dsimp only;omega,cG,by dsimp only;omega,cU,⟨_,bt⟩,⟨_,by dsimp only;rw[<-sd];exact bt⟩,⟨_,gA E2 y true,bt, ?_⟩,⟨_,by dsimp only;rw[<-jk];exact bt⟩,hT3.keep cU (fun b h1 h2=>bx),by simp[hll2],by simp[hfl2], ?_, ?_,hto⟩
        ·intro z hz
         rw[gb,HS.ta (s:=⟨lks,fnds,tds⟩) (by rw[hfl2];exact k1)]
         by_cases hzy:z=y
         ·rw[if_pos hzy,if_pos (by rw[hzy])];rfl
         ·rw[if_neg hzy,if_neg (by omega)];exact hE2 z hz
        ·simp only[List.length_append,List.length_cons,List.length_nil];omega
        ·intro i
         rw[ct]
         split
         ·exact hnl
         ·exact hlen2 i
      ·have:j=(g.nd x.toNat).fold.length:=by omega
       subst this
       rw[List.drop_eq_nil_of_le (Nat.le_refl _),dV] at hto
       have hnx2:=hnx _ _ hnow (by rw[hfh];exact hto.symm)
       repeat' (first|refine aQ ?_|exact aC|with_reducible refine aB ?_ ?_|(apply aA;(·exact bz))|refine aH ?_|((with_reducible refine aE ?_ ?_)<;>intro hc<;>try(exfalso;omega)))
       refine⟨(⟨lks,fnds,tds⟩,k+1),by dsimp only;omega,cG,⟨_,_,Wk.refl _ _ _,cU,⟨_,bt⟩,⟨_,bt⟩,⟨_,E2,bt,hE2⟩,⟨_,bt⟩,hnx2,by dsimp only;omega,hlen2, ?_⟩⟩
       rw[<-hrun,hfh,<-hto]
       dsimp only
       congr 1
       omega
     ·have hnow:eK (g.nd x.toNat) l=some l:=by unfold eK;rw[if_neg h5,if_neg h6,if_neg h91]
      have hnl:l.length<=k+1:=by omega
      rw[hnow] at hrun
      dsimp only at hrun
      repeat' (first|refine aQ ?_|exact dR|with_reducible refine aB ?_ ?_|((with_reducible refine Ask.mk ?_);first|exact cW|(exact hlm)|exact cJ|(intro h;simp_all[bu.cells,Node.cells]<;>fail)|(simp_all[bu.cells,Node.cells]<;>fail))|(apply aA;(·(first|exact gh x1 _|exact e1 _|exact e2 _|exact bz)))|refine aK (hf) ?_|(simp only[h5])|(simp only[h6])|(simp only[h91])|(apply aF (g:=none);(·exact fun _=>oC _ _))|(apply aF (g:=none);(·exact fun _=>nH _ _ _))|refine aH ?_|((with_reducible refine aE ?_ ?_)<;>intro hc<;>try(exfalso;omega)))
      clear hf
      try simp only[List.length_map]
      refine aI (fun q:HS×Nat=>[(1, .pt 0 1 0 0),(4, .sl 6 g.nodes.length),(5, .mp 8),(6, .sl 12 q.1.todo.length),(7,i64 k),(10, .im 1 .any (l.map i64)),(78, .im 1 .any ((g.nd x.toNat).fold.map i64)),(79,i64 (g.nd x.toNat).fold.length),(80,i64 q.2)])
       (fun q H2 n2=>q.2<=(g.nd x.toNat).fold.length/\n+15<=n2/\(∃d,bo H2 0=some (.row 45 4 d [g.av]))/\(∃d,bo H2 6=some (.row 132 1 d (q.1.cE.map gy)))/\(∃d E,bo H2 8=some (.row 3 0 d (mapA (mR E)))/\tq E q.1)/\(∃d,bo H2 12=some (.row 3 1 d (q.1.todo.map i64)))/\mX (.im 1 .any (l.map i64)) (l) H2 n2/\q.1.cE.length=g.nodes.length/\q.1.found.length=g.nodes.length/\q.1.todo.length+q.1.found.count false=g.nodes.length/\(∀i,(q.1.cE.getD i []).length<=k+1)/\dV (l) ((g.nd x.toNat).fold.drop q.2) q.1=dV (l) (g.nd x.toNat).fold s)
       (fun q=>(g.nd x.toNat).fold.length - q.2) (s,0) cG ⟨Nat.zero_le _,cU,⟨_,bt⟩,⟨_,bt⟩,⟨_,E,bt,hE⟩,⟨_,bt⟩,⟨.inl rfl,fun b m h=>by cases h⟩,hI.ow,hI.pa,hI.count,fun i=>Nat.le_succ_of_le (hlen i),rfl⟩ ?_
      clear r0 r6 r8 r12
      rintro⟨⟨lks,fnds,tds⟩,j⟩ H2 n2 ⟨hj,hn2,⟨d02,r0⟩,⟨d62,r6⟩,⟨d82,E2,r8,hE2⟩,⟨d122,r12⟩,hT,hll2,hfl2,hct2,hlen2,hto⟩
      dsimp only at hj hn2 r6 hE2 r12 hT hll2 hfl2 hct2 hlen2 hto ⊢
      by_cases hjl:j<(g.nd x.toNat).fold.length
      ·have hm:=iQ.1 (cR 0 hjl)
       obtain⟨k0,k1⟩:=(hw.2.2 x.toNat x1).2.2 _ hm
       have e3:=fun d=>kY (l:=(g.nd x.toNat).fold) hjl d
       rw[kG _ _ _ hjl] at hto
       generalize hy:(g.nd x.toNat).fold.getD j 0=y at *
       have hl2m:(lks.map gy).length=g.nodes.length:=by simp[hll2]
       have e4:=fun d=>qt (l:=lks) (i:=y) (by rw[hll2];exact k1) d
       have hE3:=hE2 y k0
       have hyc:((y.toNat:Nat):Int)=y:=by omega
       cases hfd:HS.f ⟨lks,fnds,tds⟩ y with
       |true=>
        rw[if_neg (by rw[hfd];decide)] at hto
        rw[hfd] at hE3
        repeat' (first|refine aQ ?_|exact dR|with_reducible refine aB ?_ ?_|((with_reducible refine Ask.mk ?_);first|exact cW|(exact hl2m)|exact cJ)|(apply aA;(·(first|exact e3 _|exact e4 _|exact bz)))|(simp only[hE3])|(apply aF (g:=none);(·exact fun _=>oC _ _))|(apply aF (g:=none);(·exact fun _=>nH _ _ _))|refine aH ?_|((with_reducible refine aE ?_ ?_)<;>intro hc<;>try(exfalso;omega)))
        refine aG (si (l:=l) ?_ (lks.getD y.toNat []) (by omega) (by have:=hlen2 y.toNat;omega)) ?_
        ·exact(hT.keep cU (fun b h1 h2=>bx)).1
        rintro r1 H3 n3 ⟨hr,rfl,rfl⟩
        by_cases hq:lks.getD y.toNat []=(l)
        ·have hq2:HS.l ⟨lks,fnds,tds⟩ y=(l):=hq
         rw[if_pos hq2] at hto
         have hr1:r1=bl true:=hr.trans (congrArg _ (decide_eq_true hq))
         subst hr1
         repeat' (first|refine aQ ?_|exact aC|with_reducible refine aB ?_ ?_|(apply aA;(·exact bz))|refine aH ?_|((with_reducible refine aE ?_ ?_)<;>intro hc<;>try(exfalso;omega)))
         exact⟨(⟨lks,fnds,tds⟩,j+1),by dsimp only;omega,cG,by dsimp only;omega,cU,⟨_,bt⟩,⟨_,bt⟩,⟨_,E2,bt,hE2⟩,⟨_,bt⟩,hT.keep cU (fun b h1 h2=>bx),hll2,hfl2,hct2,hlen2,hto⟩
        ·have hq2:¬HS.l ⟨lks,fnds,tds⟩ y=(l):=hq
         rw[if_neg hq2] at hto
         have hr1:r1=bl false:=hr.trans (congrArg _ (decide_eq_false hq))
         subst hr1
         repeat' (first|refine aQ ?_|exact aC|with_reducible refine aB ?_ ?_|(apply aA;(·exact bz))|refine aH ?_|((with_reducible refine aE ?_ ?_)<;>intro hc<;>try(exfalso;omega)))
         exact⟨.inl ⟨y,rfl,by rw[<-hrun,hfh,<-hto]⟩⟩
       |false=>
        rw[if_pos hfd] at hto
        rw[hfd] at hE3
        have hcts:=count_set (l:=fnds) (i:=y.toNat) (by rw[hfl2];exact k1) hfd
        repeat' (first|refine aQ ?_|exact dR|with_reducible refine aB ?_ ?_|((with_reducible refine Ask.mk ?_);first|exact cW|(exact hl2m)|exact cJ)|(apply aA;(·(first|exact e3 _|exact e4 _|exact bz)))|(simp only[hE3])|(apply aF (g:=none);(·exact fun _=>oC _ _))|(apply aF (g:=none);(·exact fun _=>nH _ _ _))|refine aH ?_|((with_reducible refine aE ?_ ?_)<;>intro hc<;>try(exfalso;omega)))
        refine aG (mF (l:=l) ?_ (by omega)) ?_
        ·exact(hT.keep cU (fun b h1 h2=>bx)).1
        rintro _ H3 n3 ⟨rfl,hn3,hkp⟩
        have hb:∀{p:Prop},p->p:=fun h=>h
        have r03:bo H3 0=some (.row 45 4 d02 [g.av]):=(hkp 0 cU).trans bt
        have r63:bo H3 6=some (.row 132 1 d62 (lks.map gy)):=(hkp 6 cU).trans bt
        have r83:bo H3 8=some (.row 3 0 d82 (mapA (mR (gA E2 y true)))):=(hkp 8 cU).trans bt
        have r123:bo H3 12=some (.row 3 1 d122 (tds.map i64)):=(hkp 12 cU).trans bt
        have hn23:n2<n3:=Nat.lt_of_lt_of_le cU hn3
        have hT3:mX (.im 1 .any (l.map i64)) (l) H3 n3:=hT.keep (Nat.le_of_lt hn23) (fun b h1 h2=>(hkp b (Nat.lt_of_lt_of_le h2 cU)).trans bx)
        clear hkp hT
        repeat' (first|refine aQ ?_|exact dR|with_reducible refine aB ?_ ?_|((with_reducible refine Ask.mk ?_);first|exact cW|(exact hl2m)|exact cJ)|(apply aA;(·(first|exact e3 _|exact e4 _|exact bz)))|refine aH ?_|((with_reducible refine aE ?_ ?_)<;>intro hc<;>try(exfalso;omega)))
        refine⟨(⟨lks.set y.toNat (l),fnds.set y.toNat true,tds++[y]⟩,j+1),by dsimp only;omega,cG,by dsimp only;omega,cU,⟨_,bt⟩,⟨_,by dsimp only;rw[<-sd];exact bt⟩,⟨_,gA E2 y true,bt, ?_⟩,⟨_,by dsimp only;rw[<-jk];exact bt⟩,hT3.keep cU (fun b h1 h2=>bx),by simp[hll2],by simp[hfl2], ?_, ?_,hto⟩
        ·intro z hz
         rw[gb,HS.ta (s:=⟨lks,fnds,tds⟩) (by rw[hfl2];exact k1)]
         by_cases hzy:z=y
         ·rw[if_pos hzy,if_pos (by rw[hzy])];rfl
         ·rw[if_neg hzy,if_neg (by omega)];exact hE2 z hz
        ·simp only[List.length_append,List.length_cons,List.length_nil];omega
        ·intro i
         rw[ct]
         split
         ·exact hnl
         ·exact hlen2 i
      ·have:j=(g.nd x.toNat).fold.length:=by omega
       subst this
       rw[List.drop_eq_nil_of_le (Nat.le_refl _),dV] at hto
       have hnx2:=hnx _ _ hnow (by rw[hfh];exact hto.symm)
       repeat' (first|refine aQ ?_|exact aC|with_reducible refine aB ?_ ?_|(apply aA;(·exact bz))|refine aH ?_|((with_reducible refine aE ?_ ?_)<;>intro hc<;>try(exfalso;omega)))
       refine⟨(⟨lks,fnds,tds⟩,k+1),by dsimp only;omega,cG,⟨_,_,Wk.refl _ _ _,cU,⟨_,bt⟩,⟨_,bt⟩,⟨_,E2,bt,hE2⟩,⟨_,bt⟩,hnx2,by dsimp only;omega,hlen2, ?_⟩⟩
       rw[<-hrun,hfh,<-hto]
       dsimp only
       congr 1
       omega
 ·have hkt:s.todo.length<=k:=by omega
  have hrun2:eP g=(s.cE,-1):=by
   rw[<-hrun,show g.nodes.length+1 - k=(g.nodes.length - k)+1 by omega,fX,if_neg hk]
  repeat' (first|refine aQ ?_|exact aC|with_reducible refine aB ?_ ?_|(apply aA;(·exact bz))|refine aH ?_|((with_reducible refine aE ?_ ?_)<;>intro hc<;>try(exfalso;omega)))
  exact⟨.inr ⟨6,d6,s.cE,by rw[hI.ow],hrun2,bt⟩⟩
theorem wV (g:bu) (hg:g.Wf) (hw:Whole g):Pure Tryz.prog 61 [g.av] (fun r=>r=qo (eP g)):=by
 have h:=I5 g hg hw
 have fL:∀L:List (List Int),cT 0 (L.map gy):=fun L=>(cI _ _).2 fun _ _=>by simp[gy,cF,cI]
 have fh:∀r,cF 0 (qo r):=fun r=>by simp only[qo,cF,cT];exact⟨fL _,trivial,trivial⟩
 by_cases hc:(eP g).1=[]
 ·refine qL (u:= .df [.sc (.slice none 0 0),i64 (eP g).2]) (pure_or (h.mono ?_) (by simp[cF,cT]) (fh _)) (fh _) fun c=> ?_
  ·rintro r H n (⟨a,rfl,e⟩|⟨b,d,L,rfl,e,hb⟩)
   ·left;rw[e];exact dG _ (by simp[cF,cT])
   ·right
    rw[e]
    have e1:cw.dj H 6 (.df [.sl b L.length,i64 (-1)])= .df [cw.dj H 5 (.sl b L.length),i64 (-1)]:=by
     simp only[dj,List.map_cons,List.map_nil]
    rw[e1,dv hb (by simp),cu _ (fL L)]
    rfl
  ·unfold qo
   rw[hc]
   intro v hv
   rw[VR] at hv ⊢
   obtain⟨vs,rfl,hv⟩:=hv
   refine⟨vs,rfl, ?_⟩
   rw[cj] at hv ⊢
   obtain⟨v1,vs1,e1,h1,h2⟩:=hv
   exact⟨v1,vs1,e1,cw.da.qE c c 1 .any _ h1,h2⟩
 ·refine dO (h.mono ?_) (fh _)
  rintro r H n (⟨a,rfl,e⟩|⟨b,d,L,rfl,e,hb⟩)
  ·rw[e] at hc;exact absurd rfl hc
  ·rw[e]
   have e1:cw.dj H 6 (.df [.sl b L.length,i64 (-1)])= .df [cw.dj H 5 (.sl b L.length),i64 (-1)]:=by
    simp only[dj,List.map_cons,List.map_nil]
   rw[e1,dv hb (by simp),cu _ (fL L)]
   rfl
theorem DN {α:Type} {p:α->Bool} {l:List α} (d:α) {i:Nat} (h:gJ p (l.drop i) i=gJ p l 0) (hi:i<l.length):gJ p l 0=if p (l.getD i d)=true then gJ p (l.drop (i+1)) (i+1) else some i:=by
 rw[<-h,zG p l d hi]
theorem xg {u:bq} {l:List bu} {t:Nat} (h:t<l.length):ft u (l.drop t) t=match oi u (l.getD t default) with
 |some k=>(60,(t:Int),k)
 |none=>ft u (l.drop (t+1)) (t+1):=by
 rw[List.drop_eq_getElem_cons h,ft,gd h];rfl
theorem xX {u:bq} (h:fw u=false):jP u=(60,0,0):=by unfold jP;rw[if_neg (by rw[h];decide)]
abbrev LL (r:Int×Int×Int):AV:= .df [i64 r.1,i64 r.2.1,i64 r.2.2]
set_option maxHeartbeats 4000000 in
theorem jg (u:bq) (hu:u.Wf):Pure Tryz.prog 25 [u.av] (fun r=>r=LL (jP u)):=by
 refine aD NT rfl ?_
 have hnp:=EB u hu
 cases hnm:fw u with
 |false=>
  rw[hnm] at hnp
  rw[xX hnm]
  repeat' (first|refine aQ ?_|exact dR|with_reducible refine aB ?_ ?_|((with_reducible refine Ask.mk ?_);first|exact cW|exact cJ|(intro h;simp_all[bq.cells]<;>fail)|(simp_all[bq.cells]<;>fail))|(apply aA;(·exact bz))|refine aK (hnp) ?_|refine aH ?_|((with_reducible refine aE ?_ ?_)<;>intro hc<;>try(exfalso;omega)))
  exact rfl
 |true=>
  rw[hnm] at hnp
  have hck:jP u=ft u u.br 0:=by unfold jP;rw[if_pos hnm]
  rw[hck]
  have hgl:u.br.length<=8:=by
   have:=hnm
   unfold fw at this
   simp only[Bool.and_eq_true,decide_eq_true_eq] at this
   exact this.1.1.2
  repeat' (first|refine aQ ?_|exact dR|with_reducible refine aB ?_ ?_|((with_reducible refine Ask.mk ?_);first|exact cW|exact cJ|(intro h;simp_all[bq.cells]<;>fail)|(simp_all[bq.cells]<;>fail))|(apply aA;(·exact bz))|refine aK (hnp) ?_|refine aH ?_|((with_reducible refine aE ?_ ?_)<;>intro hc<;>try(exfalso;omega)))
  simp only[List.length_map]
  refine aI (fun t:Nat=>[(1, .pt 0 1 0 0),(15,dS u.br),(16,i64 u.br.length),(17,i64 t)])
   (fun t H n=>t<=u.br.length/\1<=n/\(∃d,bo H 0=some (.row 25 3 d [u.av]))/\ft u (u.br.drop t) t=ft u u.br 0) (fun t=>u.br.length - t) 0 cG ⟨Nat.zero_le _,cU,⟨_,bt⟩,rfl⟩ ?_
  rintro t H n ⟨ht,hn,⟨d0,r0⟩,hF⟩
  by_cases htl:t<u.br.length
  ·have hg:=hu.br _ (cR default htl)
   rw[xg htl] at hF
   have eg:=fun d=>pj htl d
   generalize hG:u.br.getD t default=g at *
   have hl:=hg.len
   unfold oi at hF
   by_cases hb:g.locals<0\/g.locals>64\/g.bw<g.locals\/g.bw>4160\/g.nodes.length<1\/g.nodes.length>4096
   ·rw[if_pos hb] at hF
    rw[<-hF]
    repeat' (first|refine aQ ?_|exact dR|with_reducible refine aB ?_ ?_|((with_reducible refine Ask.mk ?_);first|exact cW|exact cJ|(intro h;simp_all[bq.cells,bu.cells]<;>fail)|(simp_all[bq.cells,bu.cells]<;>fail))|(apply aA;(·(first|exact eg _|exact bz)))|refine aH ?_|((with_reducible refine aE ?_ ?_)<;>intro hc<;>try(exfalso;omega)))
    all_goals first|exact rfl|(exfalso;omega)
   ·rw[if_neg hb] at hF
    repeat' (first|refine aQ ?_|exact dR|with_reducible refine aB ?_ ?_|((with_reducible refine Ask.mk ?_);first|exact cW|exact cJ|(intro h;simp_all[bq.cells,bu.cells]<;>fail)|(simp_all[bq.cells,bu.cells]<;>fail))|(apply aA;(·(first|exact eg _|exact bz)))|refine aH ?_|((with_reducible refine aE ?_ ?_)<;>intro hc<;>try(exfalso;omega)))
    simp only[List.length_map]
    clear hnp
    refine aI (fun i:Nat=>[(1, .pt 0 1 0 0),(5,i64 t),(6, .pt (n+4) 1 0 0),(15,dS u.br),(16,i64 u.br.length),(17,i64 t),(56,gE g.nodes),(57,i64 g.nodes.length),(58,i64 i)])
     (fun i H2 n2=>i<=g.nodes.length/\n+5<=n2/\(∃d,bo H2 0=some (.row 25 3 d [u.av]))/\(∃d,bo H2 (n+4)=some (.row 45 4 d [g.av]))/\gJ (nB u g) (g.nodes.drop i) i=gJ (nB u g) g.nodes 0) (fun i=>g.nodes.length - i) 0 cG ⟨Nat.zero_le _,cU,⟨_,bt⟩,⟨_,bt⟩,rfl⟩ ?_
    clear r0
    rintro i H2 n2 ⟨hi,hn2,⟨d02,r0⟩,⟨d4,r4⟩,hfst⟩
    by_cases hil:i<g.nodes.length
    ·have hp:=EY u g (g.nodes.getD i default) (hg.nodes _ (cR default hil))
     have en:=fun d=>gh hil d
     have hfst2:=DN default hfst hil
     cases hnb:nB u g (g.nodes.getD i default) with
     |false=>
      rw[hnb] at hp
      rw[if_neg (by rw[hnb];decide)] at hfst2
      rw[hfst2] at hF
      rw[<-hF]
      repeat' (first|refine aQ ?_|exact dR|with_reducible refine aB ?_ ?_|((with_reducible refine Ask.mk ?_);first|exact cW|exact cJ|(intro h;simp_all[bq.cells,bu.cells,Node.cells]<;>fail)|(simp_all[bq.cells,bu.cells,Node.cells]<;>fail))|(apply aA;(·(first|exact en _|exact bz)))|refine aK (hp) ?_|refine aH ?_|((with_reducible refine aE ?_ ?_)<;>intro hc<;>try(exfalso;omega)))
      exact rfl
     |true=>
      rw[hnb] at hp
      rw[if_pos hnb] at hfst2
      repeat' (first|refine aQ ?_|exact dR|with_reducible refine aB ?_ ?_|((with_reducible refine Ask.mk ?_);first|exact cW|exact cJ|(intro h;simp_all[bq.cells,bu.cells,Node.cells]<;>fail)|(simp_all[bq.cells,bu.cells,Node.cells]<;>fail))|(apply aA;(·(first|exact en _|exact bz)))|refine aK (hp) ?_|refine aH ?_|((with_reducible refine aE ?_ ?_)<;>intro hc<;>try(exfalso;omega)))
      exact⟨i+1,by omega,cG,by omega,cU,⟨_,bt⟩,⟨_,bt⟩,hfst2.symm⟩
    ·have:i=g.nodes.length:=by omega
     subst this
     rw[DM _ _ (Nat.le_refl _)] at hfst
     rw[<-hfst] at hF
     dsimp only at hF
     have hok:Whole g:=vE (u:=u) (by omega) fun m hm=>qz.1 (kE.1 hfst.symm m hm)
     have hh:=wV g hg hok
     unfold qo at hh
     by_cases hb2:0<=(eP g).2
     ·rw[if_pos hb2] at hF
      rw[<-hF]
      repeat' (first|refine aQ ?_|exact dR|with_reducible refine aB ?_ ?_|((with_reducible refine Ask.mk ?_);first|exact cW|exact cJ|(intro h;simp_all[bq.cells,bu.cells]<;>fail)|(simp_all[bq.cells,bu.cells]<;>fail))|(apply aA;(·exact bz))|refine aK (hh) ?_|refine aH ?_|((with_reducible refine aE ?_ ?_)<;>intro hc<;>try(exfalso;omega)))
      exact rfl
     ·rw[if_neg hb2] at hF
      repeat' (first|refine aQ ?_|exact dR|with_reducible refine aB ?_ ?_|((with_reducible refine Ask.mk ?_);first|exact cW|exact cJ|(intro h;simp_all[bq.cells,bu.cells]<;>fail)|(simp_all[bq.cells,bu.cells]<;>fail))|(apply aA;(·exact bz))|refine aK (hh) ?_|refine aH ?_|((with_reducible refine aE ?_ ?_)<;>intro hc<;>try(exfalso;omega)))
      exact⟨t+1,by omega,cG,by omega,by omega,⟨_,bt⟩,hF⟩
  ·have:t=u.br.length:=by omega
   subst this
   rw[List.drop_eq_nil_of_le (Nat.le_refl _),ft] at hF
   rw[<-hF]
   repeat' (first|refine aQ ?_|exact dR|with_reducible refine aB ?_ ?_|((with_reducible refine Ask.mk ?_);first|exact cW|exact cJ|(intro h;simp_all[bq.cells]<;>fail)|(simp_all[bq.cells]<;>fail))|(apply aA;(·exact bz))|refine aH ?_|((with_reducible refine aE ?_ ?_)<;>intro hc<;>try(exfalso;omega)))
   exact rfl
end Go.Proofs.YtekfmjjmihomlaaGreatDoor
