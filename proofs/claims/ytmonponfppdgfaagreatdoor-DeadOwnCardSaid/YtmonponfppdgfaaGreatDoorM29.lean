import Derived.Test.YtmonponfppdgfaaGreatDoorM28
import Derived.Test.YtmonponfppdgfaaGreatDoorM25
namespace Go.Proofs.YtmonponfppdgfaaGreatDoor
open Go Go.dD Go.Proofs
set_option linter.unusedSimpArgs false
set_option linter.unusedVariables false
abbrev lx (E:List (Int×Bool)):List AV:=lu (fun n:Int=>Value.int .i64 n) bl E
theorem nD (E:List (Int×Bool)) (t:Int):q6 false (.int .i64 t) (lx E) (bl false)=some (bl ((cd E t).getD false),(cd E t).isSome):=(vN nj bl t E (bl false)).trans (by cases cd E t<;>rfl)
theorem m8 (E:List (Int×Bool)) (t:Int) (v:Bool):tG false (.int .i64 t) (lx E) (bl v)=some (lx (gW E t v)):=vO nj bl t v E
def rX (E:List (Int×Bool)) (s:HS):Prop:=∀k:Int,0<=k->(cd E k).getD false=s.f k
theorem iy {l:List (List Int)} {i:Int} (h:i.toNat<l.length) (d:AV):(l.map dV).getD i.toNat d=dV (l.getD i.toNat []):=dG dV l _ d h
theorem kJ {l:List (List Int)} {i:Nat} (v:List Int):(l.map dV).set i (dV v)=(l.set i v).map dV:=by rw[List.map_set]
theorem oZ {g:br} {f k:Nat} {s:HS} (hk:k<s.todo.length):fI g (f+1) s k=(match ct (g.nd (s.todo.getD k 0).toNat) (s.l (s.todo.getD k 0)) with
 |none=>([],s.todo.getD k 0)
 |some now=>match cp now (g.nd (s.todo.getD k 0).toNat).dQ s with
  | .inl s'=>fI g f s' (k+1)
  | .inr at_=>([],at_)):=by rw[fI,if_pos hk];rfl
def jW (r:List (List Int)×Int):AV:= .dK [.im 1 .any (r.1.map dV),i64 r.2]
theorem wm {l:List Int} {k:Nat} (h:k<l.length) (d:AV):(l.map i64).getD ((k:Int)).toNat d=i64 (l.getD k 0):=e9 h d
theorem FN (l:List Int) {H:Hp}:[AV.im 1 .any (l.map i64)].map (dD.de H 6)=[AV.im 1 .any (l.map i64)]:=by
 rw[List.map_cons,List.map_nil,dB 6 (by simp[cJ,cK])]
theorem fu (now l:List Int) (s:HS) {j:Nat} (h:j<l.length):cp now (l.drop j) s=if s.f (l.getD j 0)=false then cp now (l.drop (j+1)) ⟨s.bz.set (l.getD j 0).toNat now,s.found.set (l.getD j 0).toNat true,s.todo++[l.getD j 0]⟩ else if s.l (l.getD j 0)=now then cp now (l.drop (j+1)) s else .inr (l.getD j 0):=by
 rw[List.drop_eq_getElem_cons h,cp,gd h]
theorem vH (now:List Int) (a:Int) (s:HS) (h:a.toNat<s.found.length) (hl:s.bz.length=s.found.length):cp now [a,a] s=cp now [a] s:=by
 simp only[cp]
 by_cases h1:s.f a=false
 ·rw[if_pos h1,if_pos h1,if_neg (by rw[HS.rQ h];simp),if_pos (by rw[HS.FQ (by rw[hl];exact h)];simp)]
 ·simp only[if_neg h1]
  by_cases h2:s.l a=now
  ·simp only[if_pos h2]
  ·simp only[if_neg h2]
theorem BZ {g:br} (hw:Whole g) {i:Nat} (hi:i<g.nodes.length) {now:List Int} {s:HS} (hl:s.bz.length=g.nodes.length) (hf:s.found.length=g.nodes.length):cp now (g.nd i).dQ s=cp now (g.nd i).fold s:=
 (rW (fun l=>cp now l s) (g.nd i) fun h8=>vH now _ s (by
  rw[hf]
  refine((hw.2.2 i hi).2.2 _ ?_).2
  unfold Node.dQ
  rw[if_neg (by omega),if_pos h8];simp) (by rw[hl,hf])).symm
def mB (nv:AV) (l:List Int) (H:Hp) (nx:Nat):Prop:=Told nv l H nx/\∀b m,nv= .sl b m->12<b
theorem Told.cH {nv:AV} {l:List Int} {H H2:Hp} {nx nx2:Nat} (h:Told nv l H nx) (hn:nx<=nx2) (hb:∀b m,nv= .sl b m->12<b) (hk:∀b,12<b->b<nx->bk H2 b=bk H b):Told nv l H2 nx2:=by
 rcases h with h|⟨b,d,h1,h2,h3⟩
 ·exact .inl h
 ·exact .inr ⟨b,d,h1,by omega,(hk b (hb _ _ h1) h2).trans h3⟩
theorem mB.cH {nv:AV} {l:List Int} {H H2:Hp} {nx nx2:Nat} (h:mB nv l H nx) (hn:nx<=nx2) (hk:∀b,12<b->b<nx->bk H2 b=bk H b):mB nv l H2 nx2:=⟨h.1.cH hn h.2 hk,h.2⟩
set_option maxRecDepth 8000 in
set_option maxHeartbeats 8000000 in
theorem CG (g:br) (hg:g.Wf) (hw:Whole g):cM Tryz.prog 53 [g.av] [] 0 (fun r H n=>(∃a,r= .dK [.sc (.slice none 0 0),i64 a]/\cx g=([],a))\/∃b d L,r= .dK [.sl b L.length,i64 (-1)]/\cx g=(L,-1)/\bk H b=some (.row 89 1 d (L.map dV))):=by
 have hl:=hg.len
 have hl0:=hw.1
 have hl1:=hw.2.1
 refine aI GR rfl ?_
 repeat' (first|refine aQ ?_|exact cP|with_reducible refine aB ?_ ?_|((with_reducible refine Ask.mk ?_);first|exact bx|exact bt|(intro h;simp_all[br.cells]<;>fail)|(simp_all[br.cells]<;>fail))|(apply aA;(·exact bp))|(apply aD (g:=none);(·exact fun _=>m8 [] _ _))|refine aH ?_|((with_reducible refine aE ?_ ?_)<;>intro hc<;>try(exfalso;omega)))
 simp only[List.length_map,Int.toNat_natCast]
 refine aa (fun s:HS×Nat=>[(1, .pt 0 1 0 0),(4, .sl 6 g.nodes.length),(5, .mp 8),(6, .sl 12 s.1.todo.length),(7,i64 s.2)])
  (fun s H n=>15<=n/\(∃d,bk H 0=some (.row 40 4 d [g.av]))/\(∃d,bk H 6=some (.row 89 1 d (s.1.bz.map dV)))/\(∃d E,bk H 8=some (.row 3 0 d (mapA (lx E)))/\rX E s.1)/\(∃d,bk H 12=some (.row 3 1 d (s.1.todo.map i64)))/\HI g s.1 s.2/\s.2<=g.nodes.length/\(∀i,(s.1.bz.getD i []).length<=s.2)/\fI g (g.nodes.length+1 - s.2) s.1 s.2=cx g)
  (fun s=>g.nodes.length+1 - s.2) (pB g,0) bu ⟨_,_,Wk.NB (b:=6) (e:=89) (sz:=1) (es:=List.replicate g.nodes.length (.sc (.slice none 0 0))) (d:= .sc (.slice none 0 0)) .any bm (es2:=(pB g).bz.map dV) (by simp[pB]) (fun c c2 _ _=> ?_),cI,⟨_,bm⟩,⟨_,bm⟩,⟨_,gW [] 0 true,bm, ?_⟩,⟨_,bm⟩,HI.start hw,Nat.zero_le _, ?_,rfl⟩ ?_
 ·simp only[pB,List.map_replicate]
  exact dI.rep (dk.mV c c2 1 .any) _
 ·intro y hy
  have:=kH (l:=List.replicate g.nodes.length false) (i:=0) (by simp;omega) y
  show _=iF ((List.replicate g.nodes.length false).set 0 true) y
  rw[this]
  by_cases e:y=0
  ·subst e;rfl
  ·rw[if_neg (by omega)]
   show(cd [(0,true)] y).getD false=_
   simp only[cd,if_neg e,Option.getD_none,iF,List.getD,List.getElem?_replicate]
   split<;>rfl
 ·intro i
  simp only[pB,List.getD,List.getElem?_replicate];split<;>exact Nat.zero_le _
 rintro⟨s,k⟩ H n ⟨hn,⟨d0,r0⟩,⟨d6,r6⟩,⟨d8,E,r8,hE⟩,⟨d12,r12⟩,hI,hkl,hlen,hrun⟩
 dsimp only at r6 r12 hI hkl hlen hrun hE ⊢
 have hct:=hI.count
 by_cases hk:k<s.todo.length
 ·obtain⟨x0,x1,x2⟩:=hI.inr _ (cE (0:Int) hk)
  have hll:=hI.k7
  have hcnt:=hI.count
  have hlm:(s.bz.map dV).length=g.nodes.length:=by simp[hll]
  have e1:=fun d=>wm hk d
  have e2:=fun d=>iy (l:=s.bz) (i:=s.todo.getD k 0) (by rw[hll];exact x1) d
  have hlk:=hlen (s.todo.getD k 0).toNat
  rw[show g.nodes.length+1 - k=(g.nodes.length - k)+1 by omega,oZ hk] at hrun
  have hnx:=fun now s'=>hI.next hw hk (now:=now) (s':=s')
  unfold HS.l at hrun hnx
  generalize hx:s.todo.getD k 0=x at *
  have hf:=lQ (g.nd x.toNat)
  unfold dV at hf
  generalize hl0:s.bz.getD x.toNat []=l at *
  have hfl:=mJ (g.nd x.toNat)
  have hfh:=fun now=>BZ hw x1 (now:=now) (s:=s) hI.k7 hI.lr
  by_cases h5:(g.nd x.toNat).kind=5
  ·have hnow:ct (g.nd x.toNat) l=some (l++[(g.nd x.toNat).cT]):=by unfold ct;rw[if_pos h5]
   have hnl:(l++[(g.nd x.toNat).cT]).length<=k+1:=by rw[List.length_append];exact Nat.succ_le_succ hlk
   rw[hnow] at hrun
   dsimp only at hrun
   repeat' (first|refine aQ ?_|exact cP|with_reducible refine aB ?_ ?_|((with_reducible refine Ask.mk ?_);first|exact bx|(exact hlm)|(refine jU (m:=1) rfl ?_;simp only[List.length_map];omega)|exact bt|(intro h;simp_all[br.cells,Node.cells]<;>fail)|(simp_all[br.cells,Node.cells]<;>fail))|(apply aA;(·(first|exact eH x1 _|exact e1 _|exact e2 _|exact bp)))|refine aK (hf) ?_|(simp only[h5])|((refine aX [] .any (nK (es:=l.map i64) (by rw[List.length_map];omega)) (fun i hi=>by rw[dG i64 _ _ _ (by simpa using hi)];trivial) (fun _ _=>FN l) (by simp[cL,cJ,cK]) ?_))|(apply aD (g:=none);(·exact fun _=>nD _ _))|(apply aD (g:=none);(·exact fun _=>m8 _ _ _))|refine aH ?_|((with_reducible refine aE ?_ ?_)<;>intro hc<;>try(exfalso;omega)))
   clear hf
   simp only[List.length_map]
   refine aF (fun q:HS×Nat=>[(1, .pt 0 1 0 0),(4, .sl 6 g.nodes.length),(5, .mp 8),(6, .sl 12 q.1.todo.length),(7,i64 k),(10, .sl (n+26) (l++[(g.nd x.toNat).cT]).length),(78, .im 1 .any ((g.nd x.toNat).fold.map i64)),(79,i64 (g.nd x.toNat).fold.length),(80,i64 q.2)])
    (fun q H2 n2=>q.2<=(g.nd x.toNat).fold.length/\n+15<=n2/\(∃d,bk H2 0=some (.row 40 4 d [g.av]))/\(∃d,bk H2 6=some (.row 89 1 d (q.1.bz.map dV)))/\(∃d E,bk H2 8=some (.row 3 0 d (mapA (lx E)))/\rX E q.1)/\(∃d,bk H2 12=some (.row 3 1 d (q.1.todo.map i64)))/\mB (.sl (n+26) (l++[(g.nd x.toNat).cT]).length) (l++[(g.nd x.toNat).cT]) H2 n2/\q.1.bz.length=g.nodes.length/\q.1.found.length=g.nodes.length/\q.1.todo.length+q.1.found.count false=g.nodes.length/\(∀i,(q.1.bz.getD i []).length<=k+1)/\cp (l++[(g.nd x.toNat).cT]) ((g.nd x.toNat).fold.drop q.2) q.1=cp (l++[(g.nd x.toNat).cT]) (g.nd x.toNat).fold s)
    (fun q=>(g.nd x.toNat).fold.length - q.2) (s,0) bu ⟨Nat.zero_le _,cI,⟨_,bm⟩,⟨_,bm⟩,⟨_,E,bm,hE⟩,⟨_,bm⟩,⟨.inr ⟨n+26,_,rfl,cI,by rw[<-fi];exact bm⟩,fun b m h=>by cases h;omega⟩,hI.k7,hI.lr,hI.count,fun i=>Nat.le_succ_of_le (hlen i),rfl⟩ ?_
   clear r0 r6 r8 r12
   rintro⟨⟨lks,fnds,tds⟩,j⟩ H2 n2 ⟨hj,hn2,⟨d02,r0⟩,⟨d62,r6⟩,⟨d82,E2,r8,hE2⟩,⟨d122,r12⟩,hT,hll2,hfl2,hct2,hlen2,hto⟩
   dsimp only at hj hn2 r6 hE2 r12 hT hll2 hfl2 hct2 hlen2 hto ⊢
   by_cases hjl:j<(g.nd x.toNat).fold.length
   ·have hm:=iP.1 (cE 0 hjl)
    obtain⟨k0,k1⟩:=(hw.2.2 x.toNat x1).2.2 _ hm
    have e3:=fun d=>e9 (l:=(g.nd x.toNat).fold) hjl d
    rw[fu _ _ _ hjl] at hto
    generalize hy:(g.nd x.toNat).fold.getD j 0=y at *
    have hl2m:(lks.map dV).length=g.nodes.length:=by simp[hll2]
    have e4:=fun d=>iy (l:=lks) (i:=y) (by rw[hll2];exact k1) d
    have hE3:=hE2 y k0
    have hyc:((y.toNat:Nat):Int)=y:=by omega
    cases hfd:HS.f ⟨lks,fnds,tds⟩ y with
    |true=>
     rw[if_neg (by rw[hfd];decide)] at hto
     rw[hfd] at hE3
     repeat' (first|refine aQ ?_|exact cP|with_reducible refine aB ?_ ?_|((with_reducible refine Ask.mk ?_);first|exact bx|(exact hl2m)|exact bt)|(apply aA;(·(first|exact e3 _|exact e4 _|exact bp)))|(simp only[hE3])|(apply aD (g:=none);(·exact fun _=>nD _ _))|(apply aD (g:=none);(·exact fun _=>m8 _ _ _))|refine aH ?_|((with_reducible refine aE ?_ ?_)<;>intro hc<;>try(exfalso;omega)))
     refine aJ (qu (l:=l++[(g.nd x.toNat).cT]) ?_ (lks.getD y.toNat []) (by omega) (by have:=hlen2 y.toNat;omega)) ?_
     ·exact(hT.cH cI (fun b h1 h2=>bw)).1
     rintro r1 H3 n3 ⟨hr,rfl,rfl⟩
     by_cases hq:lks.getD y.toNat []=(l++[(g.nd x.toNat).cT])
     ·have hq2:HS.l ⟨lks,fnds,tds⟩ y=(l++[(g.nd x.toNat).cT]):=hq
      rw[if_pos hq2] at hto
      have hr1:r1=bl true:=hr.trans (congrArg _ (decide_eq_true hq))
      subst hr1
      repeat' (first|refine aQ ?_|exact aC|with_reducible refine aB ?_ ?_|(apply aA;(·exact bp))|refine aH ?_|((with_reducible refine aE ?_ ?_)<;>intro hc<;>try(exfalso;omega)))
      exact⟨(⟨lks,fnds,tds⟩,j+1),by dsimp only;omega,bu,by dsimp only;omega,cI,⟨_,bm⟩,⟨_,bm⟩,⟨_,E2,bm,hE2⟩,⟨_,bm⟩,hT.cH cI (fun b h1 h2=>bw),hll2,hfl2,hct2,hlen2,hto⟩
     ·have hq2:¬HS.l ⟨lks,fnds,tds⟩ y=(l++[(g.nd x.toNat).cT]):=hq
      rw[if_neg hq2] at hto
      have hr1:r1=bl false:=hr.trans (congrArg _ (decide_eq_false hq))
      subst hr1
      repeat' (first|refine aQ ?_|exact aC|with_reducible refine aB ?_ ?_|(apply aA;(·exact bp))|refine aH ?_|((with_reducible refine aE ?_ ?_)<;>intro hc<;>try(exfalso;omega)))
      exact⟨.inl ⟨y,rfl,by rw[<-hrun,hfh,<-hto]⟩⟩
    |false=>
     rw[if_pos hfd] at hto
     rw[hfd] at hE3
     have hcts:=count_set (l:=fnds) (i:=y.toNat) (by rw[hfl2];exact k1) hfd
     repeat' (first|refine aQ ?_|exact cP|with_reducible refine aB ?_ ?_|((with_reducible refine Ask.mk ?_);first|exact bx|(exact hl2m)|exact bt)|(apply aA;(·(first|exact e3 _|exact e4 _|exact bp)))|(simp only[hE3])|(apply aD (g:=none);(·exact fun _=>nD _ _))|(apply aD (g:=none);(·exact fun _=>m8 _ _ _))|refine aH ?_|((with_reducible refine aE ?_ ?_)<;>intro hc<;>try(exfalso;omega)))
     refine aJ (l3 (l:=l++[(g.nd x.toNat).cT]) ?_ (by omega)) ?_
     ·exact(hT.cH cI (fun b h1 h2=>bw)).1
     rintro _ H3 n3 ⟨rfl,hn3,hkp⟩
     have hb:∀{p:Prop},p->p:=fun h=>h
     have r03:bk H3 0=some (.row 40 4 d02 [g.av]):=(hkp 0 cI).trans bm
     have r63:bk H3 6=some (.row 89 1 d62 (lks.map dV)):=(hkp 6 cI).trans bm
     have r83:bk H3 8=some (.row 3 0 d82 (mapA (lx (gW E2 y true)))):=(hkp 8 cI).trans bm
     have r123:bk H3 12=some (.row 3 1 d122 (tds.map i64)):=(hkp 12 cI).trans bm
     have hn23:n2<n3:=Nat.lt_of_lt_of_le cI hn3
     have hT3:mB (.sl (n+26) (l++[(g.nd x.toNat).cT]).length) (l++[(g.nd x.toNat).cT]) H3 n3:=hT.cH (Nat.le_of_lt hn23) (fun b h1 h2=>(hkp b (Nat.lt_of_lt_of_le h2 cI)).trans bw)
     clear hkp hT
     repeat' (first|refine aQ ?_|exact cP|with_reducible refine aB ?_ ?_|((with_reducible refine Ask.mk ?_);first|exact bx|(exact hl2m)|exact bt)|(apply aA;(·(first|exact e3 _|exact e4 _|exact bp)))|refine aH ?_|((with_reducible refine aE ?_ ?_)<;>intro hc<;>try(exfalso;omega)))
     refine⟨(⟨lks.set y.toNat (l++[(g.nd x.toNat).cT]),fnds.set y.toNat true,tds++[y]⟩,j+1),by dsimp only;omega,bu,by dsimp only;omega,cI,⟨_,bm⟩,⟨_,by dsimp only;rw[<-kJ];exact bm⟩,⟨_,gW E2 y true,bm, ?_⟩,⟨_,by dsimp only;rw[<-fi];exact bm⟩,hT3.cH cI (fun b h1 h2=>bw),by simp[hll2],by simp[hfl2], ?_, ?_,hto⟩
     ·intro z hz
      rw[hC,HS.rQ (s:=⟨lks,fnds,tds⟩) (by rw[hfl2];exact k1)]
      by_cases hzy:z=y
      ·rw[if_pos hzy,if_pos (by rw[hzy])];rfl
      ·rw[if_neg hzy,if_neg (by omega)];exact hE2 z hz
     ·simp only[List.length_append,List.length_cons,List.length_nil];omega
     ·intro i
      rw[cw]
      split
      ·exact hnl
      ·exact hlen2 i
   ·have:j=(g.nd x.toNat).fold.length:=by omega
    subst this
    rw[List.drop_eq_nil_of_le (Nat.le_refl _),cp] at hto
    have hnx2:=hnx _ _ hnow (by rw[hfh];exact hto.symm)
    repeat' (first|refine aQ ?_|exact aC|with_reducible refine aB ?_ ?_|(apply aA;(·exact bp))|refine aH ?_|((with_reducible refine aE ?_ ?_)<;>intro hc<;>try(exfalso;omega)))
    refine⟨(⟨lks,fnds,tds⟩,k+1),by dsimp only;omega,bu,⟨_,_,Wk.refl _ _ _,cI,⟨_,bm⟩,⟨_,bm⟩,⟨_,E2,bm,hE2⟩,⟨_,bm⟩,hnx2,by dsimp only;omega,hlen2, ?_⟩⟩
    rw[<-hrun,hfh,<-hto]
    dsimp only
    congr 1
    omega
  ·by_cases h6:(g.nd x.toNat).kind=6
   ·rcases List.eq_nil_or_concat l with rfl|⟨a,y,rfl⟩
    ·have hnow:ct (g.nd x.toNat) []=none:=by unfold ct;rw[if_neg h5,if_pos h6,if_neg (fun h=>h.1 rfl)]
     rw[hnow] at hrun
     dsimp only at hrun
     repeat' (first|refine aQ ?_|exact cP|with_reducible refine aB ?_ ?_|((with_reducible refine Ask.mk ?_);first|exact bx|(exact hlm)|exact bt|(intro h;simp_all[br.cells,Node.cells]<;>fail)|(simp_all[br.cells,Node.cells]<;>fail))|(apply aA;(·(first|exact eH x1 _|exact e1 _|exact e2 _|exact bp)))|refine aK (hf) ?_|(simp only[h6])|(apply aD (g:=none);(·exact fun _=>nD _ _))|(apply aD (g:=none);(·exact fun _=>m8 _ _ _))|refine aH ?_|((with_reducible refine aE ?_ ?_)<;>intro hc<;>try(exfalso;omega)))
     exact⟨.inl ⟨x,rfl,hrun.symm⟩⟩
    ·rw[List.concat_eq_append] at *
     have hla:(a++[y]).length=a.length+1:=by simp
     have hml:((a++[y]).map i64).length=a.length+1:=by simp
     have e5:∀d,((a++[y]).map i64).getD (((((a++[y]).map i64).length:Nat):Int) - 1).toNat d=i64 y:=fun d=>by
      rw[hml,show(((a.length+1:Nat):Int) - 1).toNat=a.length by omega,List.map_append]
      simp[List.getD]
     by_cases hy6:y=(g.nd x.toNat).cT
     ·subst hy6
      have hnow:ct (g.nd x.toNat) (a++[(g.nd x.toNat).cT])=some a:=by unfold ct;rw[if_neg h5,if_pos h6,if_pos ⟨by simp,by simp⟩,List.dropLast_concat]
      have hnl:a.length<=k+1:=by omega
      have htk:(((a++[(g.nd x.toNat).cT]).map i64).drop 0).take a.length=a.map i64:=by simp
      rw[hnow] at hrun
      dsimp only at hrun
      repeat' (first|refine aQ ?_|exact cP|with_reducible refine aB ?_ ?_|((with_reducible refine Ask.mk ?_);first|exact bx|(exact hlm)|exact bt|(intro h;simp_all[br.cells,Node.cells]<;>fail)|(simp_all[br.cells,Node.cells]<;>fail))|(apply aA;(·(first|exact eH x1 _|exact e1 _|exact e2 _|exact e5 _|exact bp)))|refine aK (hf) ?_|(simp only[h6])|(simp only[htk])|(apply aD (g:=none);(·exact fun _=>nD _ _))|(apply aD (g:=none);(·exact fun _=>m8 _ _ _))|refine aH ?_|((with_reducible refine aE ?_ ?_)<;>intro hc<;>try(exfalso;omega)))
      ·exact absurd hc (by simp;omega)
      clear hf
      try simp only[List.length_map]
      refine aF (fun q:HS×Nat=>[(1, .pt 0 1 0 0),(4, .sl 6 g.nodes.length),(5, .mp 8),(6, .sl 12 q.1.todo.length),(7,i64 k),(10, .im 1 .any (a.map i64)),(78, .im 1 .any ((g.nd x.toNat).fold.map i64)),(79,i64 (g.nd x.toNat).fold.length),(80,i64 q.2)])
       (fun q H2 n2=>q.2<=(g.nd x.toNat).fold.length/\n+15<=n2/\(∃d,bk H2 0=some (.row 40 4 d [g.av]))/\(∃d,bk H2 6=some (.row 89 1 d (q.1.bz.map dV)))/\(∃d E,bk H2 8=some (.row 3 0 d (mapA (lx E)))/\rX E q.1)/\(∃d,bk H2 12=some (.row 3 1 d (q.1.todo.map i64)))/\mB (.im 1 .any (a.map i64)) (a) H2 n2/\q.1.bz.length=g.nodes.length/\q.1.found.length=g.nodes.length/\q.1.todo.length+q.1.found.count false=g.nodes.length/\(∀i,(q.1.bz.getD i []).length<=k+1)/\cp (a) ((g.nd x.toNat).fold.drop q.2) q.1=cp (a) (g.nd x.toNat).fold s)
       (fun q=>(g.nd x.toNat).fold.length - q.2) (s,0) bu ⟨Nat.zero_le _,cI,⟨_,bm⟩,⟨_,bm⟩,⟨_,E,bm,hE⟩,⟨_,bm⟩,⟨.inl rfl,fun b m h=>by cases h⟩,hI.k7,hI.lr,hI.count,fun i=>Nat.le_succ_of_le (hlen i),rfl⟩ ?_
      clear r0 r6 r8 r12
      rintro⟨⟨lks,fnds,tds⟩,j⟩ H2 n2 ⟨hj,hn2,⟨d02,r0⟩,⟨d62,r6⟩,⟨d82,E2,r8,hE2⟩,⟨d122,r12⟩,hT,hll2,hfl2,hct2,hlen2,hto⟩
      dsimp only at hj hn2 r6 hE2 r12 hT hll2 hfl2 hct2 hlen2 hto ⊢
      by_cases hjl:j<(g.nd x.toNat).fold.length
      ·have hm:=iP.1 (cE 0 hjl)
       obtain⟨k0,k1⟩:=(hw.2.2 x.toNat x1).2.2 _ hm
       have e3:=fun d=>e9 (l:=(g.nd x.toNat).fold) hjl d
       rw[fu _ _ _ hjl] at hto
       generalize hy:(g.nd x.toNat).fold.getD j 0=y at *
       have hl2m:(lks.map dV).length=g.nodes.length:=by simp[hll2]
       have e4:=fun d=>iy (l:=lks) (i:=y) (by rw[hll2];exact k1) d
       have hE3:=hE2 y k0
       have hyc:((y.toNat:Nat):Int)=y:=by omega
       cases hfd:HS.f ⟨lks,fnds,tds⟩ y with
       |true=>
        rw[if_neg (by rw[hfd];decide)] at hto
        rw[hfd] at hE3
        repeat' (first|refine aQ ?_|exact cP|with_reducible refine aB ?_ ?_|((with_reducible refine Ask.mk ?_);first|exact bx|(exact hl2m)|exact bt)|(apply aA;(·(first|exact e3 _|exact e4 _|exact bp)))|(simp only[hE3])|(apply aD (g:=none);(·exact fun _=>nD _ _))|(apply aD (g:=none);(·exact fun _=>m8 _ _ _))|refine aH ?_|((with_reducible refine aE ?_ ?_)<;>intro hc<;>try(exfalso;omega)))
        refine aJ (qu (l:=a) ?_ (lks.getD y.toNat []) (by omega) (by have:=hlen2 y.toNat;omega)) ?_
        ·exact(hT.cH cI (fun b h1 h2=>bw)).1
        rintro r1 H3 n3 ⟨hr,rfl,rfl⟩
        by_cases hq:lks.getD y.toNat []=(a)
        ·have hq2:HS.l ⟨lks,fnds,tds⟩ y=(a):=hq
         rw[if_pos hq2] at hto
         have hr1:r1=bl true:=hr.trans (congrArg _ (decide_eq_true hq))
         subst hr1
         repeat' (first|refine aQ ?_|exact aC|with_reducible refine aB ?_ ?_|(apply aA;(·exact bp))|refine aH ?_|((with_reducible refine aE ?_ ?_)<;>intro hc<;>try(exfalso;omega)))
         exact⟨(⟨lks,fnds,tds⟩,j+1),by dsimp only;omega,bu,by dsimp only;omega,cI,⟨_,bm⟩,⟨_,bm⟩,⟨_,E2,bm,hE2⟩,⟨_,bm⟩,hT.cH cI (fun b h1 h2=>bw),hll2,hfl2,hct2,hlen2,hto⟩
        ·have hq2:¬HS.l ⟨lks,fnds,tds⟩ y=(a):=hq
         rw[if_neg hq2] at hto
         have hr1:r1=bl false:=hr.trans (congrArg _ (decide_eq_false hq))
         subst hr1
         repeat' (first|refine aQ ?_|exact aC|with_reducible refine aB ?_ ?_|(apply aA;(·exact bp))|refine aH ?_|((with_reducible refine aE ?_ ?_)<;>intro hc<;>try(exfalso;omega)))
         exact⟨.inl ⟨y,rfl,by rw[<-hrun,hfh,<-hto]⟩⟩
       |false=>
        rw[if_pos hfd] at hto
        rw[hfd] at hE3
        have hcts:=count_set (l:=fnds) (i:=y.toNat) (by rw[hfl2];exact k1) hfd
        repeat' (first|refine aQ ?_|exact cP|with_reducible refine aB ?_ ?_|((with_reducible refine Ask.mk ?_);first|exact bx|(exact hl2m)|exact bt)|(apply aA;(·(first|exact e3 _|exact e4 _|exact bp)))|(simp only[hE3])|(apply aD (g:=none);(·exact fun _=>nD _ _))|(apply aD (g:=none);(·exact fun _=>m8 _ _ _))|refine aH ?_|((with_reducible refine aE ?_ ?_)<;>intro hc<;>try(exfalso;omega)))
        refine aJ (l3 (l:=a) ?_ (by omega)) ?_
        ·exact(hT.cH cI (fun b h1 h2=>bw)).1
        rintro _ H3 n3 ⟨rfl,hn3,hkp⟩
        have hb:∀{p:Prop},p->p:=fun h=>h
        have r03:bk H3 0=some (.row 40 4 d02 [g.av]):=(hkp 0 cI).trans bm
        have r63:bk H3 6=some (.row 89 1 d62 (lks.map dV)):=(hkp 6 cI).trans bm
        have r83:bk H3 8=some (.row 3 0 d82 (mapA (lx (gW E2 y true)))):=(hkp 8 cI).trans bm
        have r123:bk H3 12=some (.row 3 1 d122 (tds.map i64)):=(hkp 12 cI).trans bm
        have hn23:n2<n3:=Nat.lt_of_lt_of_le cI hn3
        have hT3:mB (.im 1 .any (a.map i64)) (a) H3 n3:=hT.cH (Nat.le_of_lt hn23) (fun b h1 h2=>(hkp b (Nat.lt_of_lt_of_le h2 cI)).trans bw)
        clear hkp hT
        repeat' (first|refine aQ ?_|exact cP|with_reducible refine aB ?_ ?_|((with_reducible refine Ask.mk ?_);first|exact bx|(exact hl2m)|exact bt)|(apply aA;(·(first|exact e3 _|exact e4 _|exact bp)))|refine aH ?_|((with_reducible refine aE ?_ ?_)<;>intro hc<;>try(exfalso;omega)))
        refine⟨(⟨lks.set y.toNat (a),fnds.set y.toNat true,tds++[y]⟩,j+1),by dsimp only;omega,bu,by dsimp only;omega,cI,⟨_,bm⟩,⟨_,by dsimp only;rw[<-kJ];exact bm⟩,⟨_,gW E2 y true,bm, ?_⟩,⟨_,by dsimp only;rw[<-fi];exact bm⟩,hT3.cH cI (fun b h1 h2=>bw),by simp[hll2],by simp[hfl2], ?_, ?_,hto⟩
        ·intro z hz
         rw[hC,HS.rQ (s:=⟨lks,fnds,tds⟩) (by rw[hfl2];exact k1)]
         by_cases hzy:z=y
         ·rw[if_pos hzy,if_pos (by rw[hzy])];rfl
         ·rw[if_neg hzy,if_neg (by omega)];exact hE2 z hz
        ·simp only[List.length_append,List.length_cons,List.length_nil];omega
        ·intro i
         rw[cw]
         split
         ·exact hnl
         ·exact hlen2 i
      ·have:j=(g.nd x.toNat).fold.length:=by omega
       subst this
       rw[List.drop_eq_nil_of_le (Nat.le_refl _),cp] at hto
       have hnx2:=hnx _ _ hnow (by rw[hfh];exact hto.symm)
       repeat' (first|refine aQ ?_|exact aC|with_reducible refine aB ?_ ?_|(apply aA;(·exact bp))|refine aH ?_|((with_reducible refine aE ?_ ?_)<;>intro hc<;>try(exfalso;omega)))
       refine⟨(⟨lks,fnds,tds⟩,k+1),by dsimp only;omega,bu,⟨_,_,Wk.refl _ _ _,cI,⟨_,bm⟩,⟨_,bm⟩,⟨_,E2,bm,hE2⟩,⟨_,bm⟩,hnx2,by dsimp only;omega,hlen2, ?_⟩⟩
       rw[<-hrun,hfh,<-hto]
       dsimp only
       congr 1
       omega
     ·have hnow:ct (g.nd x.toNat) (a++[y])=none:=by unfold ct;rw[if_neg h5,if_pos h6,if_neg (fun h=>hy6 (by simpa using h.2))]
      rw[hnow] at hrun
      dsimp only at hrun
      repeat' (first|refine aQ ?_|exact cP|with_reducible refine aB ?_ ?_|((with_reducible refine Ask.mk ?_);first|exact bx|(exact hlm)|exact bt|(intro h;simp_all[br.cells,Node.cells]<;>fail)|(simp_all[br.cells,Node.cells]<;>fail))|(apply aA;(·(first|exact eH x1 _|exact e1 _|exact e2 _|exact e5 _|exact bp)))|refine aK (hf) ?_|(simp only[h6])|(apply aD (g:=none);(·exact fun _=>nD _ _))|(apply aD (g:=none);(·exact fun _=>m8 _ _ _))|refine aH ?_|((with_reducible refine aE ?_ ?_)<;>intro hc<;>try(exfalso;omega)))
      all_goals first|exact absurd hc.2 hy6|exact⟨.inl ⟨x,rfl,hrun.symm⟩⟩
   ·by_cases h9:(g.nd x.toNat).kind=9/\l≠[]
    ·have hnow:ct (g.nd x.toNat) l=none:=by unfold ct;rw[if_neg h5,if_neg h6,if_pos h9.1,if_neg h9.2]
     have hlp:0<l.length:=List.length_pos_iff.2 h9.2
     have h91:=h9.1
     rw[hnow] at hrun
     dsimp only at hrun
     repeat' (first|refine aQ ?_|exact cP|with_reducible refine aB ?_ ?_|((with_reducible refine Ask.mk ?_);first|exact bx|(exact hlm)|exact bt|(intro h;simp_all[br.cells,Node.cells]<;>fail)|(simp_all[br.cells,Node.cells]<;>fail))|(apply aA;(·(first|exact eH x1 _|exact e1 _|exact e2 _|exact bp)))|refine aK (hf) ?_|(simp only[h91])|(apply aD (g:=none);(·exact fun _=>nD _ _))|(apply aD (g:=none);(·exact fun _=>m8 _ _ _))|refine aH ?_|((with_reducible refine aE ?_ ?_)<;>intro hc<;>try(exfalso;omega)))
     exact⟨.inl ⟨x,rfl,hrun.symm⟩⟩
    ·by_cases h91:(g.nd x.toNat).kind=9
     ·have hl0:l=[]:=Classical.byContradiction fun h=>h9 ⟨h91,h⟩
      subst hl0
      have hnow:ct (g.nd x.toNat) []=some []:=by unfold ct;rw[if_neg h5,if_neg h6,if_pos h91,if_pos rfl]
      have hnl:([]:List Int).length<=k+1:=Nat.zero_le _
      rw[hnow] at hrun
      dsimp only at hrun
      repeat' (first|refine aQ ?_|exact cP|with_reducible refine aB ?_ ?_|((with_reducible refine Ask.mk ?_);first|exact bx|(exact hlm)|exact bt|(intro h;simp_all[br.cells,Node.cells]<;>fail)|(simp_all[br.cells,Node.cells]<;>fail))|(apply aA;(·(first|exact eH x1 _|exact e1 _|exact e2 _|exact bp)))|refine aK (hf) ?_|(simp only[h91])|(apply aD (g:=none);(·exact fun _=>nD _ _))|(apply aD (g:=none);(·exact fun _=>m8 _ _ _))|refine aH ?_|((with_reducible refine aE ?_ ?_)<;>intro hc<;>try(exfalso;omega)))
      clear hf
      try simp only[List.length_map]
      refine aF (fun q:HS×Nat=>[(1, .pt 0 1 0 0),(4, .sl 6 g.nodes.length),(5, .mp 8),(6, .sl 12 q.1.todo.length),(7,i64 k),(10, .im 1 .any (([]:List Int).map i64)),(78, .im 1 .any ((g.nd x.toNat).fold.map i64)),(79,i64 (g.nd x.toNat).fold.length),(80,i64 q.2)])
       (fun q H2 n2=>q.2<=(g.nd x.toNat).fold.length/\n+15<=n2/\(∃d,bk H2 0=some (.row 40 4 d [g.av]))/\(∃d,bk H2 6=some (.row 89 1 d (q.1.bz.map dV)))/\(∃d E,bk H2 8=some (.row 3 0 d (mapA (lx E)))/\rX E q.1)/\(∃d,bk H2 12=some (.row 3 1 d (q.1.todo.map i64)))/\mB (.im 1 .any (([]:List Int).map i64)) ([]) H2 n2/\q.1.bz.length=g.nodes.length/\q.1.found.length=g.nodes.length/\q.1.todo.length+q.1.found.count false=g.nodes.length/\(∀i,(q.1.bz.getD i []).length<=k+1)/\cp ([]) ((g.nd x.toNat).fold.drop q.2) q.1=cp ([]) (g.nd x.toNat).fold s)
       (fun q=>(g.nd x.toNat).fold.length - q.2) (s,0) bu ⟨Nat.zero_le _,cI,⟨_,bm⟩,⟨_,bm⟩,⟨_,E,bm,hE⟩,⟨_,bm⟩,⟨.inl rfl,fun b m h=>by cases h⟩,hI.k7,hI.lr,hI.count,fun i=>Nat.le_succ_of_le (hlen i),rfl⟩ ?_
      clear r0 r6 r8 r12
      rintro⟨⟨lks,fnds,tds⟩,j⟩ H2 n2 ⟨hj,hn2,⟨d02,r0⟩,⟨d62,r6⟩,⟨d82,E2,r8,hE2⟩,⟨d122,r12⟩,hT,hll2,hfl2,hct2,hlen2,hto⟩
      dsimp only at hj hn2 r6 hE2 r12 hT hll2 hfl2 hct2 hlen2 hto ⊢
      by_cases hjl:j<(g.nd x.toNat).fold.length
      ·have hm:=iP.1 (cE 0 hjl)
       obtain⟨k0,k1⟩:=(hw.2.2 x.toNat x1).2.2 _ hm
       have e3:=fun d=>e9 (l:=(g.nd x.toNat).fold) hjl d
       rw[fu _ _ _ hjl] at hto
       generalize hy:(g.nd x.toNat).fold.getD j 0=y at *
       have hl2m:(lks.map dV).length=g.nodes.length:=by simp[hll2]
       have e4:=fun d=>iy (l:=lks) (i:=y) (by rw[hll2];exact k1) d
       have hE3:=hE2 y k0
       have hyc:((y.toNat:Nat):Int)=y:=by omega
       cases hfd:HS.f ⟨lks,fnds,tds⟩ y with
       |true=>
        rw[if_neg (by rw[hfd];decide)] at hto
        rw[hfd] at hE3
        repeat' (first|refine aQ ?_|exact cP|with_reducible refine aB ?_ ?_|((with_reducible refine Ask.mk ?_);first|exact bx|(exact hl2m)|exact bt)|(apply aA;(·(first|exact e3 _|exact e4 _|exact bp)))|(simp only[hE3])|(apply aD (g:=none);(·exact fun _=>nD _ _))|(apply aD (g:=none);(·exact fun _=>m8 _ _ _))|refine aH ?_|((with_reducible refine aE ?_ ?_)<;>intro hc<;>try(exfalso;omega)))
        refine aJ (qu (l:=[]) ?_ (lks.getD y.toNat []) (by omega) (by have:=hlen2 y.toNat;omega)) ?_
        ·exact(hT.cH cI (fun b h1 h2=>bw)).1
        rintro r1 H3 n3 ⟨hr,rfl,rfl⟩
        by_cases hq:lks.getD y.toNat []=([])
        ·have hq2:HS.l ⟨lks,fnds,tds⟩ y=([]):=hq
         rw[if_pos hq2] at hto
         have hr1:r1=bl true:=hr.trans (congrArg _ (decide_eq_true hq))
         subst hr1
         repeat' (first|refine aQ ?_|exact aC|with_reducible refine aB ?_ ?_|(apply aA;(·exact bp))|refine aH ?_|((with_reducible refine aE ?_ ?_)<;>intro hc<;>try(exfalso;omega)))
         exact⟨(⟨lks,fnds,tds⟩,j+1),by dsimp only;omega,bu,by dsimp only;omega,cI,⟨_,bm⟩,⟨_,bm⟩,⟨_,E2,bm,hE2⟩,⟨_,bm⟩,hT.cH cI (fun b h1 h2=>bw),hll2,hfl2,hct2,hlen2,hto⟩
        ·have hq2:¬HS.l ⟨lks,fnds,tds⟩ y=([]):=hq
         rw[if_neg hq2] at hto
         have hr1:r1=bl false:=hr.trans (congrArg _ (decide_eq_false hq))
         subst hr1
         repeat' (first|refine aQ ?_|exact aC|with_reducible refine aB ?_ ?_|(apply aA;(·exact bp))|refine aH ?_|((with_reducible refine aE ?_ ?_)<;>intro hc<;>try(exfalso;omega)))
         exact⟨.inl ⟨y,rfl,by rw[<-hrun,hfh,<-hto]⟩⟩
       |false=>
        rw[if_pos hfd] at hto
        rw[hfd] at hE3
        have hcts:=count_set (l:=fnds) (i:=y.toNat) (by rw[hfl2];exact k1) hfd
        repeat' (first|refine aQ ?_|exact cP|with_reducible refine aB ?_ ?_|((with_reducible refine Ask.mk ?_);first|exact bx|(exact hl2m)|exact bt)|(apply aA;(·(first|exact e3 _|exact e4 _|exact bp)))|(simp only[hE3])|(apply aD (g:=none);(·exact fun _=>nD _ _))|(apply aD (g:=none);(·exact fun _=>m8 _ _ _))|refine aH ?_|((with_reducible refine aE ?_ ?_)<;>intro hc<;>try(exfalso;omega)))
        refine aJ (l3 (l:=[]) ?_ (by omega)) ?_
        ·exact(hT.cH cI (fun b h1 h2=>bw)).1
        rintro _ H3 n3 ⟨rfl,hn3,hkp⟩
        have hb:∀{p:Prop},p->p:=fun h=>h
        have r03:bk H3 0=some (.row 40 4 d02 [g.av]):=(hkp 0 cI).trans bm
        have r63:bk H3 6=some (.row 89 1 d62 (lks.map dV)):=(hkp 6 cI).trans bm
        have r83:bk H3 8=some (.row 3 0 d82 (mapA (lx (gW E2 y true)))):=(hkp 8 cI).trans bm
        have r123:bk H3 12=some (.row 3 1 d122 (tds.map i64)):=(hkp 12 cI).trans bm
        have hn23:n2<n3:=Nat.lt_of_lt_of_le cI hn3
        have hT3:mB (.im 1 .any (([]:List Int).map i64)) ([]) H3 n3:=hT.cH (Nat.le_of_lt hn23) (fun b h1 h2=>(hkp b (Nat.lt_of_lt_of_le h2 cI)).trans bw)
        clear hkp hT
        repeat' (first|refine aQ ?_|exact cP|with_reducible refine aB ?_ ?_|((with_reducible refine Ask.mk ?_);first|exact bx|(exact hl2m)|exact bt)|(apply aA;(·(first|exact e3 _|exact e4 _|exact bp)))|refine aH ?_|((with_reducible refine aE ?_ ?_)<;>intro hc<;>try(exfalso;omega)))
        refine⟨(⟨lks.set y.toNat ([]),fnds.set y.toNat true,tds++[y]⟩,j+1),by dsimp only;omega,bu,by dsimp only;omega,cI,⟨_,bm⟩,⟨_,by dsimp only;rw[<-kJ];exact bm⟩,⟨_,gW E2 y true,bm, ?_⟩,⟨_,by dsimp only;rw[<-fi];exact bm⟩,hT3.cH cI (fun b h1 h2=>bw),by simp[hll2],by simp[hfl2], ?_, ?_,hto⟩
        ·intro z hz
         rw[hC,HS.rQ (s:=⟨lks,fnds,tds⟩) (by rw[hfl2];exact k1)]
         by_cases hzy:z=y
         ·rw[if_pos hzy,if_pos (by rw[hzy])];rfl
         ·rw[if_neg hzy,if_neg (by omega)];exact hE2 z hz
        ·simp only[List.length_append,List.length_cons,List.length_nil];omega
        ·intro i
         rw[cw]
         split
         ·exact hnl
         ·exact hlen2 i
      ·have:j=(g.nd x.toNat).fold.length:=by omega
       subst this
       rw[List.drop_eq_nil_of_le (Nat.le_refl _),cp] at hto
       have hnx2:=hnx _ _ hnow (by rw[hfh];exact hto.symm)
       repeat' (first|refine aQ ?_|exact aC|with_reducible refine aB ?_ ?_|(apply aA;(·exact bp))|refine aH ?_|((with_reducible refine aE ?_ ?_)<;>intro hc<;>try(exfalso;omega)))
       refine⟨(⟨lks,fnds,tds⟩,k+1),by dsimp only;omega,bu,⟨_,_,Wk.refl _ _ _,cI,⟨_,bm⟩,⟨_,bm⟩,⟨_,E2,bm,hE2⟩,⟨_,bm⟩,hnx2,by dsimp only;omega,hlen2, ?_⟩⟩
       rw[<-hrun,hfh,<-hto]
       dsimp only
       congr 1
       omega
     ·have hnow:ct (g.nd x.toNat) l=some l:=by unfold ct;rw[if_neg h5,if_neg h6,if_neg h91]
      have hnl:l.length<=k+1:=by omega
      rw[hnow] at hrun
      dsimp only at hrun
      repeat' (first|refine aQ ?_|exact cP|with_reducible refine aB ?_ ?_|((with_reducible refine Ask.mk ?_);first|exact bx|(exact hlm)|exact bt|(intro h;simp_all[br.cells,Node.cells]<;>fail)|(simp_all[br.cells,Node.cells]<;>fail))|(apply aA;(·(first|exact eH x1 _|exact e1 _|exact e2 _|exact bp)))|refine aK (hf) ?_|(simp only[h5])|(simp only[h6])|(simp only[h91])|(apply aD (g:=none);(·exact fun _=>nD _ _))|(apply aD (g:=none);(·exact fun _=>m8 _ _ _))|refine aH ?_|((with_reducible refine aE ?_ ?_)<;>intro hc<;>try(exfalso;omega)))
      clear hf
      try simp only[List.length_map]
      refine aF (fun q:HS×Nat=>[(1, .pt 0 1 0 0),(4, .sl 6 g.nodes.length),(5, .mp 8),(6, .sl 12 q.1.todo.length),(7,i64 k),(10, .im 1 .any (l.map i64)),(78, .im 1 .any ((g.nd x.toNat).fold.map i64)),(79,i64 (g.nd x.toNat).fold.length),(80,i64 q.2)])
       (fun q H2 n2=>q.2<=(g.nd x.toNat).fold.length/\n+15<=n2/\(∃d,bk H2 0=some (.row 40 4 d [g.av]))/\(∃d,bk H2 6=some (.row 89 1 d (q.1.bz.map dV)))/\(∃d E,bk H2 8=some (.row 3 0 d (mapA (lx E)))/\rX E q.1)/\(∃d,bk H2 12=some (.row 3 1 d (q.1.todo.map i64)))/\mB (.im 1 .any (l.map i64)) (l) H2 n2/\q.1.bz.length=g.nodes.length/\q.1.found.length=g.nodes.length/\q.1.todo.length+q.1.found.count false=g.nodes.length/\(∀i,(q.1.bz.getD i []).length<=k+1)/\cp (l) ((g.nd x.toNat).fold.drop q.2) q.1=cp (l) (g.nd x.toNat).fold s)
       (fun q=>(g.nd x.toNat).fold.length - q.2) (s,0) bu ⟨Nat.zero_le _,cI,⟨_,bm⟩,⟨_,bm⟩,⟨_,E,bm,hE⟩,⟨_,bm⟩,⟨.inl rfl,fun b m h=>by cases h⟩,hI.k7,hI.lr,hI.count,fun i=>Nat.le_succ_of_le (hlen i),rfl⟩ ?_
      clear r0 r6 r8 r12
      rintro⟨⟨lks,fnds,tds⟩,j⟩ H2 n2 ⟨hj,hn2,⟨d02,r0⟩,⟨d62,r6⟩,⟨d82,E2,r8,hE2⟩,⟨d122,r12⟩,hT,hll2,hfl2,hct2,hlen2,hto⟩
      dsimp only at hj hn2 r6 hE2 r12 hT hll2 hfl2 hct2 hlen2 hto ⊢
      by_cases hjl:j<(g.nd x.toNat).fold.length
      ·have hm:=iP.1 (cE 0 hjl)
       obtain⟨k0,k1⟩:=(hw.2.2 x.toNat x1).2.2 _ hm
       have e3:=fun d=>e9 (l:=(g.nd x.toNat).fold) hjl d
       rw[fu _ _ _ hjl] at hto
       generalize hy:(g.nd x.toNat).fold.getD j 0=y at *
       have hl2m:(lks.map dV).length=g.nodes.length:=by simp[hll2]
       have e4:=fun d=>iy (l:=lks) (i:=y) (by rw[hll2];exact k1) d
       have hE3:=hE2 y k0
       have hyc:((y.toNat:Nat):Int)=y:=by omega
       cases hfd:HS.f ⟨lks,fnds,tds⟩ y with
       |true=>
        rw[if_neg (by rw[hfd];decide)] at hto
        rw[hfd] at hE3
        repeat' (first|refine aQ ?_|exact cP|with_reducible refine aB ?_ ?_|((with_reducible refine Ask.mk ?_);first|exact bx|(exact hl2m)|exact bt)|(apply aA;(·(first|exact e3 _|exact e4 _|exact bp)))|(simp only[hE3])|(apply aD (g:=none);(·exact fun _=>nD _ _))|(apply aD (g:=none);(·exact fun _=>m8 _ _ _))|refine aH ?_|((with_reducible refine aE ?_ ?_)<;>intro hc<;>try(exfalso;omega)))
        refine aJ (qu (l:=l) ?_ (lks.getD y.toNat []) (by omega) (by have:=hlen2 y.toNat;omega)) ?_
        ·exact(hT.cH cI (fun b h1 h2=>bw)).1
        rintro r1 H3 n3 ⟨hr,rfl,rfl⟩
        by_cases hq:lks.getD y.toNat []=(l)
        ·have hq2:HS.l ⟨lks,fnds,tds⟩ y=(l):=hq
         rw[if_pos hq2] at hto
         have hr1:r1=bl true:=hr.trans (congrArg _ (decide_eq_true hq))
         subst hr1
         repeat' (first|refine aQ ?_|exact aC|with_reducible refine aB ?_ ?_|(apply aA;(·exact bp))|refine aH ?_|((with_reducible refine aE ?_ ?_)<;>intro hc<;>try(exfalso;omega)))
         exact⟨(⟨lks,fnds,tds⟩,j+1),by dsimp only;omega,bu,by dsimp only;omega,cI,⟨_,bm⟩,⟨_,bm⟩,⟨_,E2,bm,hE2⟩,⟨_,bm⟩,hT.cH cI (fun b h1 h2=>bw),hll2,hfl2,hct2,hlen2,hto⟩
        ·have hq2:¬HS.l ⟨lks,fnds,tds⟩ y=(l):=hq
         rw[if_neg hq2] at hto
         have hr1:r1=bl false:=hr.trans (congrArg _ (decide_eq_false hq))
         subst hr1
         repeat' (first|refine aQ ?_|exact aC|with_reducible refine aB ?_ ?_|(apply aA;(·exact bp))|refine aH ?_|((with_reducible refine aE ?_ ?_)<;>intro hc<;>try(exfalso;omega)))
         exact⟨.inl ⟨y,rfl,by rw[<-hrun,hfh,<-hto]⟩⟩
       |false=>
        rw[if_pos hfd] at hto
        rw[hfd] at hE3
        have hcts:=count_set (l:=fnds) (i:=y.toNat) (by rw[hfl2];exact k1) hfd
        repeat' (first|refine aQ ?_|exact cP|with_reducible refine aB ?_ ?_|((with_reducible refine Ask.mk ?_);first|exact bx|(exact hl2m)|exact bt)|(apply aA;(·(first|exact e3 _|exact e4 _|exact bp)))|(simp only[hE3])|(apply aD (g:=none);(·exact fun _=>nD _ _))|(apply aD (g:=none);(·exact fun _=>m8 _ _ _))|refine aH ?_|((with_reducible refine aE ?_ ?_)<;>intro hc<;>try(exfalso;omega)))
        refine aJ (l3 (l:=l) ?_ (by omega)) ?_
        ·exact(hT.cH cI (fun b h1 h2=>bw)).1
        rintro _ H3 n3 ⟨rfl,hn3,hkp⟩
        have hb:∀{p:Prop},p->p:=fun h=>h
        have r03:bk H3 0=some (.row 40 4 d02 [g.av]):=(hkp 0 cI).trans bm
        have r63:bk H3 6=some (.row 89 1 d62 (lks.map dV)):=(hkp 6 cI).trans bm
        have r83:bk H3 8=some (.row 3 0 d82 (mapA (lx (gW E2 y true)))):=(hkp 8 cI).trans bm
        have r123:bk H3 12=some (.row 3 1 d122 (tds.map i64)):=(hkp 12 cI).trans bm
        have hn23:n2<n3:=Nat.lt_of_lt_of_le cI hn3
        have hT3:mB (.im 1 .any (l.map i64)) (l) H3 n3:=hT.cH (Nat.le_of_lt hn23) (fun b h1 h2=>(hkp b (Nat.lt_of_lt_of_le h2 cI)).trans bw)
        clear hkp hT
        repeat' (first|refine aQ ?_|exact cP|with_reducible refine aB ?_ ?_|((with_reducible refine Ask.mk ?_);first|exact bx|(exact hl2m)|exact bt)|(apply aA;(·(first|exact e3 _|exact e4 _|exact bp)))|refine aH ?_|((with_reducible refine aE ?_ ?_)<;>intro hc<;>try(exfalso;omega)))
        refine⟨(⟨lks.set y.toNat (l),fnds.set y.toNat true,tds++[y]⟩,j+1),by dsimp only;omega,bu,by dsimp only;omega,cI,⟨_,bm⟩,⟨_,by dsimp only;rw[<-kJ];exact bm⟩,⟨_,gW E2 y true,bm, ?_⟩,⟨_,by dsimp only;rw[<-fi];exact bm⟩,hT3.cH cI (fun b h1 h2=>bw),by simp[hll2],by simp[hfl2], ?_, ?_,hto⟩
        ·intro z hz
         rw[hC,HS.rQ (s:=⟨lks,fnds,tds⟩) (by rw[hfl2];exact k1)]
         by_cases hzy:z=y
         ·rw[if_pos hzy,if_pos (by rw[hzy])];rfl
         ·rw[if_neg hzy,if_neg (by omega)];exact hE2 z hz
        ·simp only[List.length_append,List.length_cons,List.length_nil];omega
        ·intro i
         rw[cw]
         split
         ·exact hnl
         ·exact hlen2 i
      ·have:j=(g.nd x.toNat).fold.length:=by omega
       subst this
       rw[List.drop_eq_nil_of_le (Nat.le_refl _),cp] at hto
       have hnx2:=hnx _ _ hnow (by rw[hfh];exact hto.symm)
       repeat' (first|refine aQ ?_|exact aC|with_reducible refine aB ?_ ?_|(apply aA;(·exact bp))|refine aH ?_|((with_reducible refine aE ?_ ?_)<;>intro hc<;>try(exfalso;omega)))
       refine⟨(⟨lks,fnds,tds⟩,k+1),by dsimp only;omega,bu,⟨_,_,Wk.refl _ _ _,cI,⟨_,bm⟩,⟨_,bm⟩,⟨_,E2,bm,hE2⟩,⟨_,bm⟩,hnx2,by dsimp only;omega,hlen2, ?_⟩⟩
       rw[<-hrun,hfh,<-hto]
       dsimp only
       congr 1
       omega
 ·have hkt:s.todo.length<=k:=by omega
  have hrun2:cx g=(s.bz,-1):=by
   rw[<-hrun,show g.nodes.length+1 - k=(g.nodes.length - k)+1 by omega,fI,if_neg hk]
  repeat' (first|refine aQ ?_|exact aC|with_reducible refine aB ?_ ?_|(apply aA;(·exact bp))|refine aH ?_|((with_reducible refine aE ?_ ?_)<;>intro hc<;>try(exfalso;omega)))
  exact⟨.inr ⟨6,d6,s.bz,by rw[hI.k7],hrun2,bm⟩⟩
theorem uQ (g:br) (hg:g.Wf) (hw:Whole g):Pure Tryz.prog 53 [g.av] (fun r=>r=jW (cx g)):=by
 have h:=CG g hg hw
 have fL:∀L:List (List Int),cL 0 (L.map dV):=fun L=>(cK _ _).2 fun _ _=>by simp[dV,cJ,cK]
 have fh:∀r,cJ 0 (jW r):=fun r=>by simp only[jW,cJ,cL];exact⟨fL _,trivial,trivial⟩
 by_cases hc:(cx g).1=[]
 ·refine mw (u:= .dK [.sc (.slice none 0 0),i64 (cx g).2]) (pure_or (h.mono ?_) (by simp[cJ,cL]) (fh _)) (fh _) fun c=> ?_
  ·rintro r H n (⟨a,rfl,e⟩|⟨b,d,L,rfl,e,hb⟩)
   ·left;rw[e];exact dB _ (by simp[cJ,cL])
   ·right
    rw[e]
    have e1:dD.de H 6 (.dK [.sl b L.length,i64 (-1)])= .dK [dD.de H 5 (.sl b L.length),i64 (-1)]:=by
     simp only[de,List.map_cons,List.map_nil]
    rw[e1,dM hb (by simp),cf _ (fL L)]
    rfl
  ·unfold jW
   rw[hc]
   intro v hv
   rw[VR] at hv ⊢
   obtain⟨vs,rfl,hv⟩:=hv
   refine⟨vs,rfl, ?_⟩
   rw[c9] at hv ⊢
   obtain⟨v1,vs1,e1,h1,h2⟩:=hv
   exact⟨v1,vs1,e1,dD.dk.mV c c 1 .any _ h1,h2⟩
 ·refine cV (h.mono ?_) (fh _)
  rintro r H n (⟨a,rfl,e⟩|⟨b,d,L,rfl,e,hb⟩)
  ·rw[e] at hc;exact absurd rfl hc
  ·rw[e]
   have e1:dD.de H 6 (.dK [.sl b L.length,i64 (-1)])= .dK [dD.de H 5 (.sl b L.length),i64 (-1)]:=by
    simp only[de,List.map_cons,List.map_nil]
   rw[e1,dM hb (by simp),cf _ (fL L)]
   rfl
theorem rZ {α:Type} {p:α->Bool} {l:List α} (d:α) {i:Nat} (h:gB p (l.drop i) i=gB p l 0) (hi:i<l.length):gB p l 0=if p (l.getD i d)=true then gB p (l.drop (i+1)) (i+1) else some i:=by
 rw[<-h,wS p l d hi]
theorem oW {u:bq} {l:List br} {t:Nat} (h:t<l.length):e8 u (l.drop t) t=match mN u (l.getD t default) with
 |some k=>(60,(t:Int),k)
 |none=>e8 u (l.drop (t+1)) (t+1):=by
 rw[List.drop_eq_getElem_cons h,e8,gd h];rfl
theorem lI {u:bq} (h:eV u=false):gT u=(60,0,0):=by unfold gT;rw[if_neg (by rw[h];decide)]
abbrev y3 (r:Int×Int×Int):AV:= .dK [i64 r.1,i64 r.2.1,i64 r.2.2]
set_option maxHeartbeats 4000000 in
theorem lJ (u:bq) (hu:u.Wf):Pure Tryz.prog 27 [u.av] (fun r=>r=y3 (gT u)):=by
 refine aG FZ rfl ?_
 have hnp:=zJ u hu
 cases hnm:eV u with
 |false=>
  rw[hnm] at hnp
  rw[lI hnm]
  repeat' (first|refine aQ ?_|exact cP|with_reducible refine aB ?_ ?_|((with_reducible refine Ask.mk ?_);first|exact bx|exact bt|(intro h;simp_all[bq.cells]<;>fail)|(simp_all[bq.cells]<;>fail))|(apply aA;(·exact bp))|refine aK (hnp) ?_|refine aH ?_|((with_reducible refine aE ?_ ?_)<;>intro hc<;>try(exfalso;omega)))
  exact rfl
 |true=>
  rw[hnm] at hnp
  have hck:gT u=e8 u u.bo 0:=by unfold gT;rw[if_pos hnm]
  rw[hck]
  have hgl:u.bo.length<=8:=by
   have:=hnm
   unfold eV at this
   simp only[Bool.and_eq_true,decide_eq_true_eq] at this
   exact this.1.1.2
  repeat' (first|refine aQ ?_|exact cP|with_reducible refine aB ?_ ?_|((with_reducible refine Ask.mk ?_);first|exact bx|exact bt|(intro h;simp_all[bq.cells]<;>fail)|(simp_all[bq.cells]<;>fail))|(apply aA;(·exact bp))|refine aK (hnp) ?_|refine aH ?_|((with_reducible refine aE ?_ ?_)<;>intro hc<;>try(exfalso;omega)))
  simp only[List.length_map]
  refine aF (fun t:Nat=>[(1, .pt 0 1 0 0),(15,fR u.bo),(16,i64 u.bo.length),(17,i64 t)])
   (fun t H n=>t<=u.bo.length/\1<=n/\(∃d,bk H 0=some (.row 25 3 d [u.av]))/\e8 u (u.bo.drop t) t=e8 u u.bo 0) (fun t=>u.bo.length - t) 0 bu ⟨Nat.zero_le _,cI,⟨_,bm⟩,rfl⟩ ?_
  rintro t H n ⟨ht,hn,⟨d0,r0⟩,hF⟩
  by_cases htl:t<u.bo.length
  ·have hg:=hu.bo _ (cE default htl)
   rw[oW htl] at hF
   have eg:=fun d=>j3 htl d
   generalize hG:u.bo.getD t default=g at *
   have hl:=hg.len
   unfold mN at hF
   by_cases hb:g.locals<0\/g.locals>64\/g.cZ<g.locals\/g.cZ>4160\/g.nodes.length<1\/g.nodes.length>4096
   ·rw[if_pos hb] at hF
    rw[<-hF]
    repeat' (first|refine aQ ?_|exact cP|with_reducible refine aB ?_ ?_|((with_reducible refine Ask.mk ?_);first|exact bx|exact bt|(intro h;simp_all[bq.cells,br.cells]<;>fail)|(simp_all[bq.cells,br.cells]<;>fail))|(apply aA;(·(first|exact eg _|exact bp)))|refine aH ?_|((with_reducible refine aE ?_ ?_)<;>intro hc<;>try(exfalso;omega)))
    all_goals first|exact rfl|(exfalso;omega)
   ·rw[if_neg hb] at hF
    repeat' (first|refine aQ ?_|exact cP|with_reducible refine aB ?_ ?_|((with_reducible refine Ask.mk ?_);first|exact bx|exact bt|(intro h;simp_all[bq.cells,br.cells]<;>fail)|(simp_all[bq.cells,br.cells]<;>fail))|(apply aA;(·(first|exact eg _|exact bp)))|refine aH ?_|((with_reducible refine aE ?_ ?_)<;>intro hc<;>try(exfalso;omega)))
    simp only[List.length_map]
    clear hnp
    refine aF (fun i:Nat=>[(1, .pt 0 1 0 0),(5,i64 t),(6, .pt (n+4) 1 0 0),(15,fR u.bo),(16,i64 u.bo.length),(17,i64 t),(56,ee g.nodes),(57,i64 g.nodes.length),(58,i64 i)])
     (fun i H2 n2=>i<=g.nodes.length/\n+5<=n2/\(∃d,bk H2 0=some (.row 25 3 d [u.av]))/\(∃d,bk H2 (n+4)=some (.row 40 4 d [g.av]))/\gB (iW u g) (g.nodes.drop i) i=gB (iW u g) g.nodes 0) (fun i=>g.nodes.length - i) 0 bu ⟨Nat.zero_le _,cI,⟨_,bm⟩,⟨_,bm⟩,rfl⟩ ?_
    clear r0
    rintro i H2 n2 ⟨hi,hn2,⟨d02,r0⟩,⟨d4,r4⟩,hfst⟩
    by_cases hil:i<g.nodes.length
    ·have hp:=zj u g (g.nodes.getD i default) (hg.nodes _ (cE default hil))
     have en:=fun d=>eH hil d
     have hfst2:=rZ default hfst hil
     cases hnb:iW u g (g.nodes.getD i default) with
     |false=>
      rw[hnb] at hp
      rw[if_neg (by rw[hnb];decide)] at hfst2
      rw[hfst2] at hF
      rw[<-hF]
      repeat' (first|refine aQ ?_|exact cP|with_reducible refine aB ?_ ?_|((with_reducible refine Ask.mk ?_);first|exact bx|exact bt|(intro h;simp_all[bq.cells,br.cells,Node.cells]<;>fail)|(simp_all[bq.cells,br.cells,Node.cells]<;>fail))|(apply aA;(·(first|exact en _|exact bp)))|refine aK (hp) ?_|refine aH ?_|((with_reducible refine aE ?_ ?_)<;>intro hc<;>try(exfalso;omega)))
      exact rfl
     |true=>
      rw[hnb] at hp
      rw[if_pos hnb] at hfst2
      repeat' (first|refine aQ ?_|exact cP|with_reducible refine aB ?_ ?_|((with_reducible refine Ask.mk ?_);first|exact bx|exact bt|(intro h;simp_all[bq.cells,br.cells,Node.cells]<;>fail)|(simp_all[bq.cells,br.cells,Node.cells]<;>fail))|(apply aA;(·(first|exact en _|exact bp)))|refine aK (hp) ?_|refine aH ?_|((with_reducible refine aE ?_ ?_)<;>intro hc<;>try(exfalso;omega)))
      exact⟨i+1,by omega,bu,by omega,cI,⟨_,bm⟩,⟨_,bm⟩,hfst2.symm⟩
    ·have:i=g.nodes.length:=by omega
     subst this
     rw[rY _ _ (Nat.le_refl _)] at hfst
     rw[<-hfst] at hF
     dsimp only at hF
     have hok:Whole g:=oz (u:=u) (by omega) fun m hm=>mr.1 (jK.1 hfst.symm m hm)
     have hh:=uQ g hg hok
     unfold jW at hh
     by_cases hb2:0<=(cx g).2
     ·rw[if_pos hb2] at hF
      rw[<-hF]
      repeat' (first|refine aQ ?_|exact cP|with_reducible refine aB ?_ ?_|((with_reducible refine Ask.mk ?_);first|exact bx|exact bt|(intro h;simp_all[bq.cells,br.cells]<;>fail)|(simp_all[bq.cells,br.cells]<;>fail))|(apply aA;(·exact bp))|refine aK (hh) ?_|refine aH ?_|((with_reducible refine aE ?_ ?_)<;>intro hc<;>try(exfalso;omega)))
      exact rfl
     ·rw[if_neg hb2] at hF
      repeat' (first|refine aQ ?_|exact cP|with_reducible refine aB ?_ ?_|((with_reducible refine Ask.mk ?_);first|exact bx|exact bt|(intro h;simp_all[bq.cells,br.cells]<;>fail)|(simp_all[bq.cells,br.cells]<;>fail))|(apply aA;(·exact bp))|refine aK (hh) ?_|refine aH ?_|((with_reducible refine aE ?_ ?_)<;>intro hc<;>try(exfalso;omega)))
      exact⟨t+1,by omega,bu,by omega,by omega,⟨_,bm⟩,hF⟩
  ·have:t=u.bo.length:=by omega
   subst this
   rw[List.drop_eq_nil_of_le (Nat.le_refl _),e8] at hF
   rw[<-hF]
   repeat' (first|refine aQ ?_|exact cP|with_reducible refine aB ?_ ?_|((with_reducible refine Ask.mk ?_);first|exact bx|exact bt|(intro h;simp_all[bq.cells]<;>fail)|(simp_all[bq.cells]<;>fail))|(apply aA;(·exact bp))|refine aH ?_|((with_reducible refine aE ?_ ?_)<;>intro hc<;>try(exfalso;omega)))
   exact rfl
end Go.Proofs.YtmonponfppdgfaaGreatDoor
