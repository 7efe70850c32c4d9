import Derived.Test.YtmonponfppdgfaaGreatDoorM30
import Derived.Test.YtmonponfppdgfaaGreatDoorM27
import Derived.Test.YtmonponfppdgfaaGreatDoorM31
section
/- The locks held, by the document: the walk. -/
namespace Go.ch
open Go.RowKit
theorem Rt.tQ {fr:Fr} {H:Hp} {nx:Nat} (t b len:Nat) {e:TypeId} {sz:Nat} {d:AV} {es:List AV} (h:cZ fr t= .sl b len) (hb:bj H b=some (.row e sz d es)) (hl:es.length=len):Rt fr H nx ((t, .im sz .any es)::fr) ((b,none)::H) nx:=by
 have hw:=Wk.LD (r:= .sl b len) (H:=H) (nx:=nx) [(b,some (.row e sz d es))] 1 (fun x q hq=>by
  by_cases hx:x=b
  ·subst hx;rw[ck] at hq;rw[hb];exact hq
  ·rw[cS hx] at hq;cases hq)
 rw[oq (ck _ _ _) hl,vn,ku,tL] at hw
 exact Rt.slot t h hw
theorem Rt.LG {fr:Fr} {H:Hp} {nx:Nat} (t x len lo n:Nat) {e:TypeId} {sz:Nat} {d:AV} {l es:List AV} (h:cZ fr t= .sv x len lo n) (h3:bj H x=some (.row e sz d l)) (hl:l.length=len) (hn:lo+n≤len) (he:(l.drop lo).take n=es):
 Rt fr H nx ((t, .im sz .any es)::(t, .sl nx n)::fr) ((nx,none)::(nx,some (.row e sz .any es))::(x,none)::H) (nx+1):=by
 subst he
 exact(Rt.part t h h3 hl hn).trans (Rt.tQ t nx n (by simp[cZ]) (ck _ _ _) (by simp;omega))
end Go.ch
namespace Go.Proofs.YtmonponfppdgfaaGreatDoor
open Go Go.ch Go.Proofs
set_option linter.unusedSimpArgs false
set_option linter.unusedVariables false
theorem lE (l m:List Int) (hl:l.length * 8≤140737488351232) (hm:m.length * 8≤140737488351232):Pure Tryz.prog 97 [dO l,dO m] (fun r=>r=bl (decide (l=m))):=by
 refine aJ FJ rfl ?_
 unfold dO
 repeat' (first|((with_reducible refine aE ?_);conv=>whnf)|refine aG ?_|exact aC|with_reducible refine aD ?_ ?_|(apply aA;(·exact bm))|refine aH ?_|((with_reducible refine aB ?_ ?_)<;>intro hc<;>(try simp only[List.length_map,ne_eq,cD] at hc)<;>try(exfalso;omega)))
 ·refine cg (Eq.symm ?_)
  exact decide_eq_false fun e=>hc (by rw[e])
 ·have hlm:l.length=m.length:=by omega
  refine aI (fun i:Nat=>[(0,dO l),(1,dO m),(5,i64 i)])
   (fun i H n=>i≤l.length∧∀j,j<i→l.getD j 0=m.getD j 0) (fun i=>l.length - i) 0 bt ⟨Nat.zero_le _,fun _ h=>by omega⟩ ?_
  unfold dO
  rintro i H n ⟨hi,hall⟩
  by_cases hil:i<l.length
  ·have e1:=oB (l:=l) hil
   have e2:=oB (l:=m) (i:=i) (by omega)
   repeat' (first|((with_reducible refine aE ?_);conv=>whnf)|refine aG ?_|exact aC|with_reducible refine aD ?_ ?_|(apply aA;(·(first|exact e1 _|exact e2 _|exact bm)))|refine aH ?_|((with_reducible refine aB ?_ ?_)<;>intro hc<;>(try simp only[List.length_map,ne_eq,cD] at hc)<;>try(exfalso;omega)))
   ·refine cg (Eq.symm ?_)
    exact decide_eq_false fun e=>hc (by rw[e])
   ·refine⟨i+1,by omega,bt,by omega,fun j hj=> ?_⟩
    by_cases hji:j=i
    ·subst hji;exact hc
    ·exact hall j (by omega)
  ·have:i=l.length:=by omega
   subst this
   repeat' (first|((with_reducible refine aE ?_);conv=>whnf)|refine aG ?_|exact aC|with_reducible refine aD ?_ ?_|(apply aA;(·exact bm))|refine aH ?_|((with_reducible refine aB ?_ ?_)<;>intro hc<;>(try simp only[List.length_map,ne_eq,cD] at hc)<;>try(exfalso;omega)))
   refine cg (Eq.symm ?_)
   refine decide_eq_true (List.ext_getElem hlm fun j h1 h2=> ?_)
   have:=hall j h1
   simpa[List.getD,h1,h2] using this
set_option maxRecDepth 8000 in
set_option maxHeartbeats 8000000 in
theorem yV (g:bo) (hg:g.Wf) (hw:Whole g):cM Tryz.prog 57 [g.av] [] 0 (fun r H n=>(∃a,r= .dI [.sc (.slice none 0 0),i64 a]∧cr g=([],a))∨∃b d L,r= .dI [.sl b L.length,i64 (-1)]∧cr g=(L,-1)∧bj H b=some (.row 89 1 d (L.map dO))):=by
 have hl:=hg.len
 have hl0:=hw.1
 have hl1:=hw.2.1
 have hrep:∀d,(List.replicate (((List.map Node.av g.nodes).length:Nat):Int).toNat (iW false [Value.bool false])).getD (Int.toNat 0) d=bl false:=fun d=>by
  rw[Int.toNat_natCast,show Int.toNat 0=0 from rfl,List.length_map,List.getD,List.getElem?_replicate,if_pos (by omega)];rfl
 refine aL EG rfl ?_
 repeat' (first|((with_reducible refine aE ?_);conv=>whnf)|refine aG ?_|exact cN|with_reducible refine aD ?_ ?_|((with_reducible refine Ask.mk ?_);first|exact bw|exact br|(intro h;simp_all[bo.cells]<;>fail)|(simp_all[bo.cells]<;>fail))|(apply aA;(·(first|exact hrep _|exact bm)))|refine aH ?_|((with_reducible refine aB ?_ ?_)<;>intro hc<;>(try simp only[List.length_map,ne_eq,cD] at hc)<;>try(exfalso;omega)))
 simp only[List.length_map,Int.toNat_natCast]
 have hs11:((oo g,0).1:HS).found.map bl=(List.replicate g.nodes.length (bl false)).set 0 (bl true):=by simp[oo,List.map_set]
 refine aY (fun s:HS×Nat=>[(1, .pt 0 1 0 0),(4, .sl 6 g.nodes.length),(5, .sl 11 g.nodes.length),(6, .sl 16 s.1.todo.length),(7,i64 s.2)])
  (fun s H n=>19≤n∧(∃d,bj H 0=some (.row 40 4 d [g.av]))∧(∃d,bj H 6=some (.row 89 1 d (s.1.bx.map dO)))∧(∃d,bj H 11=some (.row 4 1 d (s.1.found.map bl)))∧(∃d,bj H 16=some (.row 3 1 d (s.1.todo.map i64)))∧HI g s.1 s.2∧s.2≤g.nodes.length∧(∀i,(s.1.bx.getD i []).length≤s.2)∧fA g (g.nodes.length+1 - s.2) s.1 s.2=cr g)
  (fun s=>g.nodes.length+1 - s.2) (oo g,0) bt ⟨_,_,Wk.KI (b:=6) (e:=89) (sz:=1) (es:=List.replicate g.nodes.length (.sc (.slice none 0 0))) (d:= .sc (.slice none 0 0)) .any bk (es2:=(oo g).bx.map dO) (by simp[oo]) (fun c c2 _ _=> ?_),cH,⟨_,bk⟩,⟨_,bk⟩,⟨_,by rw[hs11];exact bk⟩,⟨_,bk⟩,HI.start hw,Nat.zero_le _, ?_,rfl⟩ ?_
 ·simp only[oo,List.map_replicate]
  exact dA.rep (dZ.lx c c2 1 .any) _
 ·intro i
  simp only[oo,List.getD,List.getElem?_replicate];split<;>exact Nat.zero_le _
 rintro⟨s,k⟩ H n ⟨hn,⟨d0,r0⟩,⟨d6,r6⟩,⟨d11,r11⟩,⟨d16,r16⟩,hI,hkl,hlen,hrun⟩
 dsimp only at r6 r11 r16 hI hkl hlen hrun ⊢
 have hct:=hI.count
 by_cases hk:k<s.todo.length
 ·obtain⟨x0,x1,x2⟩:=hI.inr _ (cC (0:Int) hk)
  have hll:=hI.kH
  have hcnt:=hI.count
  have hlm:(s.bx.map dO).length=g.nodes.length:=by simp[hll]
  have htm:(s.todo.map i64).length=s.todo.length:=by simp
  have e1:=fun d=>vq hk d
  have e2:=fun d=>iN (l:=s.bx) (i:=s.todo.getD k 0) (by rw[hll];exact x1) d
  have hlk:=hlen (s.todo.getD k 0).toNat
  rw[show g.nodes.length+1 - k=(g.nodes.length - k)+1 by omega,nz hk] at hrun
  have hnx:=fun now s'=>hI.next hw hk (now:=now) (s':=s')
  unfold HS.l at hrun hnx
  generalize hx:s.todo.getD k 0=x at *
  have hf:=fu (g.nd x.toNat)
  unfold dO at hf
  generalize hl0:s.bx.getD x.toNat []=l at *
  have hfl:=mO (g.nd x.toNat)
  have hil:(l.map i64).length=l.length:=by simp
  by_cases h5:(g.nd x.toNat).kind=5
  ·have hnow:cq (g.nd x.toNat) l=some (l++[(g.nd x.toNat).cP]):=by unfold cq;rw[if_pos h5]
   have hnl:(l++[(g.nd x.toNat).cP]).length≤k+1:=by rw[List.length_append];exact Nat.succ_le_succ hlk
   rw[hnow] at hrun
   dsimp only at hrun
   repeat' (first|((with_reducible refine aE ?_);conv=>whnf)|refine aG ?_|exact cN|with_reducible refine aD ?_ ?_|((with_reducible refine Ask.mk ?_);first|exact bw|(exact hlm)|(exact htm)|(exact hil)|(refine jA (m:=1) rfl ?_;simp only[List.length_map];omega)|exact br|(intro h;simp_all[bo.cells,Node.cells]<;>fail)|(simp_all[bo.cells,Node.cells]<;>fail))|(apply aA;(·(first|exact dy x1 _|exact e1 _|exact e2 _|exact bm)))|refine aK (hf) ?_|(simp only[h5])|refine aH ?_|((with_reducible refine aB ?_ ?_)<;>intro hc<;>(try simp only[List.length_map,ne_eq,cD] at hc)<;>try(exfalso;omega)))
   obtain⟨nw,hnw⟩:∃nw,nw=l++[(g.nd x.toNat).cP]:=⟨_,rfl⟩
   rw[←hnw] at hnow hnl hrun
   refine aR (fun q:HS×Nat=>[(1, .pt 0 1 0 0),(4, .sl 6 g.nodes.length),(5, .sl 11 g.nodes.length),(6, .sl 16 q.1.todo.length),(7,i64 k),(9, .im 1 .any ((nw).map i64)),(10, .im 1 .any ((g.nd x.toNat).dK.map i64)),(11,i64 q.2)])
    (fun q H2 n2=>q.2≤(g.nd x.toNat).dK.length∧n+15≤n2∧(∃d,bj H2 0=some (.row 40 4 d [g.av]))∧(∃d,bj H2 6=some (.row 89 1 d (q.1.bx.map dO)))∧(∃d,bj H2 11=some (.row 4 1 d (q.1.found.map bl)))∧(∃d,bj H2 16=some (.row 3 1 d (q.1.todo.map i64)))∧q.1.bx.length=g.nodes.length∧q.1.found.length=g.nodes.length∧q.1.todo.length+q.1.found.count false=g.nodes.length∧(∀i,(q.1.bx.getD i []).length≤k+1)∧cm (nw) ((g.nd x.toNat).dK.drop q.2) q.1=cm (nw) (g.nd x.toNat).dK s)
    (fun q=>(g.nd x.toNat).dK.length - q.2) (s,0) ⟨_,_,_,Rt.tQ 9 (n+14) (0+(l.map i64).length+1) (e:=3) (sz:=1) (es:=nw.map i64) rfl (by rw[hnw,←fV];exact bk) (by rw[hnw];simp),bt,Nat.zero_le _,cH,⟨_,bk⟩,⟨_,bk⟩,⟨_,bk⟩,⟨_,bk⟩,hI.kH,hI.lW,hI.count,fun i=>Nat.le_succ_of_le (hlen i),rfl⟩ ?_
   clear r0 r6 r11 r16
   rintro⟨⟨lks,fnds,tds⟩,j⟩ H2 n2 ⟨hj,hn2,⟨d02,r0⟩,⟨d62,r6⟩,⟨d112,r11⟩,⟨d162,r16⟩,hll2,hfl2,hct2,hlen2,hto⟩
   dsimp only at hj hn2 r6 r11 r16 hll2 hfl2 hct2 hlen2 hto ⊢
   by_cases hjl:j<(g.nd x.toNat).dK.length
   ·have hm:=cC (0:Int) hjl
    obtain⟨k0,k1⟩:=(hw.2.2 x.toNat x1).2.2 _ hm
    have e3:=fun d=>eS (l:=(g.nd x.toNat).dK) hjl d
    rw[fZ _ _ _ hjl] at hto
    generalize hy:(g.nd x.toNat).dK.getD j 0=y at *
    have hl2m:(lks.map dO).length=g.nodes.length:=by simp[hll2]
    have hf2m:(fnds.map bl).length=g.nodes.length:=by simp[hfl2]
    have e4:=fun d=>iN (l:=lks) (i:=y) (by rw[hll2];exact k1) d
    have e5:=fun d=>jl (l:=fnds) (k:=y) d (by rw[hfl2];exact k1)
    have hsm:=lE (lks.getD y.toNat []) (nw) (by have:=hlen2 y.toNat;omega) (by omega)
    unfold dO at hsm
    cases hfd:HS.f ⟨lks,fnds,tds⟩ y with
    |true=>
     rw[if_neg (by rw[hfd];decide)] at hto
     rw[show gl fnds y=true from hfd] at e5
     by_cases hq:lks.getD y.toNat []=(nw)
     ·have hq2:HS.l ⟨lks,fnds,tds⟩ y=(nw):=hq
      rw[if_pos hq2] at hto
      rw[decide_eq_true hq] at hsm
      repeat' (first|((with_reducible refine aE ?_);conv=>whnf)|refine aG ?_|exact cN|with_reducible refine aD ?_ ?_|((with_reducible refine Ask.mk ?_);first|exact bw|(exact hl2m)|(exact hf2m)|exact br)|(apply aA;(·(first|exact e3 _|exact e4 _|exact e5 _|exact bm)))|refine aK (hsm) ?_|refine aH ?_|((with_reducible refine aB ?_ ?_)<;>intro hc<;>(try simp only[List.length_map,ne_eq,cD] at hc)<;>try(exfalso;omega)))
      exact⟨(⟨lks,fnds,tds⟩,j+1),by dsimp only;omega,_,_,_,Rt.refl _ _ _,bt,by dsimp only;omega,cH,⟨_,bk⟩,⟨_,bk⟩,⟨_,bk⟩,⟨_,bk⟩,hll2,hfl2,hct2,hlen2,hto⟩
     ·have hq2:¬HS.l ⟨lks,fnds,tds⟩ y=(nw):=hq
      rw[if_neg hq2] at hto
      rw[decide_eq_false hq] at hsm
      repeat' (first|((with_reducible refine aE ?_);conv=>whnf)|refine aG ?_|exact cN|with_reducible refine aD ?_ ?_|((with_reducible refine Ask.mk ?_);first|exact bw|(exact hl2m)|(exact hf2m)|exact br)|(apply aA;(·(first|exact e3 _|exact e4 _|exact e5 _|exact bm)))|refine aK (hsm) ?_|refine aH ?_|((with_reducible refine aB ?_ ?_)<;>intro hc<;>(try simp only[List.length_map,ne_eq,cD] at hc)<;>try(exfalso;omega)))
      exact⟨.inl ⟨y,rfl,by rw[←hrun,←hto]⟩⟩
    |false=>
     rw[if_pos hfd] at hto
     rw[show gl fnds y=false from hfd] at e5
     have hcts:=count_set (l:=fnds) (i:=y.toNat) (by rw[hfl2];exact k1) hfd
     repeat' (first|((with_reducible refine aE ?_);conv=>whnf)|refine aG ?_|exact cN|with_reducible refine aD ?_ ?_|((with_reducible refine Ask.mk ?_);first|exact bw|(exact hl2m)|(exact hf2m)|exact br)|(apply aA;(·(first|exact e3 _|exact e4 _|exact e5 _|exact bm)))|refine aH ?_|((with_reducible refine aB ?_ ?_)<;>intro hc<;>(try simp only[List.length_map,ne_eq,cD] at hc)<;>try(exfalso;omega)))
     refine⟨(⟨lks.set y.toNat (nw),fnds.set y.toNat true,tds++[y]⟩,j+1),by dsimp only;omega,_,_,_,Rt.refl _ _ _,bt,by dsimp only;omega,cH,⟨_,bk⟩,⟨_,by dsimp only;rw[←jq];exact bk⟩,⟨_,by dsimp only;rw[←iZ];exact bk⟩,⟨_,by dsimp only;rw[←fV];exact bk⟩,by simp[hll2],by simp[hfl2], ?_, ?_,hto⟩
     ·simp only[List.length_append,List.length_cons,List.length_nil];omega
     ·intro i
      rw[dE]
      split
      ·exact hnl
      ·exact hlen2 i
   ·have:j=(g.nd x.toNat).dK.length:=by omega
    subst this
    rw[List.drop_eq_nil_of_le (Nat.le_refl _),cm] at hto
    have hnx2:=hnx _ _ hnow hto.symm
    repeat' (first|((with_reducible refine aE ?_);conv=>whnf)|refine aG ?_|exact aC|with_reducible refine aD ?_ ?_|(apply aA;(·exact bm))|refine aH ?_|((with_reducible refine aB ?_ ?_)<;>intro hc<;>(try simp only[List.length_map,ne_eq,cD] at hc)<;>try(exfalso;omega)))
    refine⟨(⟨lks,fnds,tds⟩,k+1),by dsimp only;omega,bt,⟨_,_,Wk.refl _ _ _,cH,⟨_,bk⟩,⟨_,bk⟩,⟨_,bk⟩,⟨_,bk⟩,hnx2,by dsimp only;omega,hlen2, ?_⟩⟩
    rw[←hrun,←hto]
    dsimp only
    congr 1
    omega
  ·by_cases h6:(g.nd x.toNat).kind=6
   ·rcases List.eq_nil_or_concat l with rfl|⟨a,y,rfl⟩
    ·have hnow:cq (g.nd x.toNat) []=none:=by unfold cq;rw[if_neg h5,if_pos h6,if_neg (fun h=>h.1 rfl)]
     rw[hnow] at hrun
     dsimp only at hrun
     repeat' (first|((with_reducible refine aE ?_);conv=>whnf)|refine aG ?_|exact cN|with_reducible refine aD ?_ ?_|((with_reducible refine Ask.mk ?_);first|exact bw|(exact hlm)|(exact htm)|(exact hil)|(refine jA (m:=1) rfl ?_;simp only[List.length_map];omega)|exact br|(intro h;simp_all[bo.cells,Node.cells]<;>fail)|(simp_all[bo.cells,Node.cells]<;>fail))|(apply aA;(·(first|exact dy x1 _|exact e1 _|exact e2 _|exact bm)))|refine aK (hf) ?_|(simp only[h6])|refine aH ?_|((with_reducible refine aB ?_ ?_)<;>intro hc<;>(try simp only[List.length_map,ne_eq,cD] at hc)<;>try(exfalso;omega)))
     exact⟨.inl ⟨x,rfl,hrun.symm⟩⟩
    ·rw[List.concat_eq_append] at *
     have hla:(a++[y]).length=a.length+1:=by simp
     have hml:((a++[y]).map i64).length=a.length+1:=by simp
     have e5:∀d,((a++[y]).map i64).getD (((a.length+1:Nat):Int) - 1).toNat d=i64 y:=fun d=>by
      rw[show(((a.length+1:Nat):Int) - 1).toNat=a.length by omega,List.map_append]
      simp[List.getD]
     have hm0:0+(List.map i64 (a++[y])).length=a.length+1:=by simp
     by_cases hy6:y=(g.nd x.toNat).cP
     ·subst hy6
      have hnow:cq (g.nd x.toNat) (a++[(g.nd x.toNat).cP])=some a:=by unfold cq;rw[if_neg h5,if_pos h6,if_pos ⟨by simp,by simp⟩,List.dropLast_concat]
      have hnl:a.length≤k+1:=by omega
      have htk:(((a++[(g.nd x.toNat).cP]).map i64).drop 0).take a.length=a.map i64:=by simp
      rw[hnow] at hrun
      dsimp only at hrun
      repeat' (first|((with_reducible refine aE ?_);conv=>whnf)|refine aG ?_|exact cN|with_reducible refine aD ?_ ?_|((with_reducible refine Ask.mk ?_);first|exact bw|(exact hlm)|(exact htm)|(exact hil)|(refine jA (m:=1) rfl ?_;simp only[List.length_map];omega)|exact br|(intro h;simp_all[bo.cells,Node.cells]<;>fail)|(simp_all[bo.cells,Node.cells]<;>fail))|(apply aA;(·(first|exact dy x1 _|exact e1 _|exact e2 _|exact e5 _|exact bm)))|refine aK (hf) ?_|(simp only[h6])|(simp only[hm0])|((with_reducible apply aW);(·exact ua (es:=List.map i64 (a++[(g.nd x.toNat).cP])) bk hml sI sI KW))|refine aH ?_|((with_reducible refine aB ?_ ?_)<;>intro hc<;>(try simp only[List.length_map,ne_eq,cD] at hc)<;>try(exfalso;omega)))
      ·exact absurd hc (by simp;omega)
      refine aR (fun q:HS×Nat=>[(1, .pt 0 1 0 0),(4, .sl 6 g.nodes.length),(5, .sl 11 g.nodes.length),(6, .sl 16 q.1.todo.length),(7,i64 k),(9, .im 1 .any ((a).map i64)),(10, .im 1 .any ((g.nd x.toNat).dK.map i64)),(11,i64 q.2)])
       (fun q H2 n2=>q.2≤(g.nd x.toNat).dK.length∧n+15≤n2∧(∃d,bj H2 0=some (.row 40 4 d [g.av]))∧(∃d,bj H2 6=some (.row 89 1 d (q.1.bx.map dO)))∧(∃d,bj H2 11=some (.row 4 1 d (q.1.found.map bl)))∧(∃d,bj H2 16=some (.row 3 1 d (q.1.todo.map i64)))∧q.1.bx.length=g.nodes.length∧q.1.found.length=g.nodes.length∧q.1.todo.length+q.1.found.count false=g.nodes.length∧(∀i,(q.1.bx.getD i []).length≤k+1)∧cm (a) ((g.nd x.toNat).dK.drop q.2) q.1=cm (a) (g.nd x.toNat).dK s)
       (fun q=>(g.nd x.toNat).dK.length - q.2) (s,0) ⟨_,_,_,Rt.LG 9 (n+14) (a.length+1) 0 (a.length - 0) (e:=3) (sz:=1) (l:=(a++[(g.nd x.toNat).cP]).map i64) rfl bk hml (by omega) (by first|(rw[Nat.sub_zero];exact htk)|rw[Nat.sub_zero]),bt,Nat.zero_le _,cH,⟨_,bk⟩,⟨_,bk⟩,⟨_,bk⟩,⟨_,bk⟩,hI.kH,hI.lW,hI.count,fun i=>Nat.le_succ_of_le (hlen i),rfl⟩ ?_
      clear r0 r6 r11 r16
      rintro⟨⟨lks,fnds,tds⟩,j⟩ H2 n2 ⟨hj,hn2,⟨d02,r0⟩,⟨d62,r6⟩,⟨d112,r11⟩,⟨d162,r16⟩,hll2,hfl2,hct2,hlen2,hto⟩
      dsimp only at hj hn2 r6 r11 r16 hll2 hfl2 hct2 hlen2 hto ⊢
      by_cases hjl:j<(g.nd x.toNat).dK.length
      ·have hm:=cC (0:Int) hjl
       obtain⟨k0,k1⟩:=(hw.2.2 x.toNat x1).2.2 _ hm
       have e3:=fun d=>eS (l:=(g.nd x.toNat).dK) hjl d
       rw[fZ _ _ _ hjl] at hto
       generalize hy:(g.nd x.toNat).dK.getD j 0=y at *
       have hl2m:(lks.map dO).length=g.nodes.length:=by simp[hll2]
       have hf2m:(fnds.map bl).length=g.nodes.length:=by simp[hfl2]
       have e4:=fun d=>iN (l:=lks) (i:=y) (by rw[hll2];exact k1) d
       have e5:=fun d=>jl (l:=fnds) (k:=y) d (by rw[hfl2];exact k1)
       have hsm:=lE (lks.getD y.toNat []) (a) (by have:=hlen2 y.toNat;omega) (by omega)
       unfold dO at hsm
       cases hfd:HS.f ⟨lks,fnds,tds⟩ y with
       |true=>
        rw[if_neg (by rw[hfd];decide)] at hto
        rw[show gl fnds y=true from hfd] at e5
        by_cases hq:lks.getD y.toNat []=(a)
        ·have hq2:HS.l ⟨lks,fnds,tds⟩ y=(a):=hq
         rw[if_pos hq2] at hto
         rw[decide_eq_true hq] at hsm
         repeat' (first|((with_reducible refine aE ?_);conv=>whnf)|refine aG ?_|exact cN|with_reducible refine aD ?_ ?_|((with_reducible refine Ask.mk ?_);first|exact bw|(exact hl2m)|(exact hf2m)|exact br)|(apply aA;(·(first|exact e3 _|exact e4 _|exact e5 _|exact bm)))|refine aK (hsm) ?_|refine aH ?_|((with_reducible refine aB ?_ ?_)<;>intro hc<;>(try simp only[List.length_map,ne_eq,cD] at hc)<;>try(exfalso;omega)))
         exact⟨(⟨lks,fnds,tds⟩,j+1),by dsimp only;omega,_,_,_,Rt.refl _ _ _,bt,by dsimp only;omega,cH,⟨_,bk⟩,⟨_,bk⟩,⟨_,bk⟩,⟨_,bk⟩,hll2,hfl2,hct2,hlen2,hto⟩
        ·have hq2:¬HS.l ⟨lks,fnds,tds⟩ y=(a):=hq
         rw[if_neg hq2] at hto
         rw[decide_eq_false hq] at hsm
         repeat' (first|((with_reducible refine aE ?_);conv=>whnf)|refine aG ?_|exact cN|with_reducible refine aD ?_ ?_|((with_reducible refine Ask.mk ?_);first|exact bw|(exact hl2m)|(exact hf2m)|exact br)|(apply aA;(·(first|exact e3 _|exact e4 _|exact e5 _|exact bm)))|refine aK (hsm) ?_|refine aH ?_|((with_reducible refine aB ?_ ?_)<;>intro hc<;>(try simp only[List.length_map,ne_eq,cD] at hc)<;>try(exfalso;omega)))
         exact⟨.inl ⟨y,rfl,by rw[←hrun,←hto]⟩⟩
       |false=>
        rw[if_pos hfd] at hto
        rw[show gl fnds y=false from hfd] at e5
        have hcts:=count_set (l:=fnds) (i:=y.toNat) (by rw[hfl2];exact k1) hfd
        repeat' (first|((with_reducible refine aE ?_);conv=>whnf)|refine aG ?_|exact cN|with_reducible refine aD ?_ ?_|((with_reducible refine Ask.mk ?_);first|exact bw|(exact hl2m)|(exact hf2m)|exact br)|(apply aA;(·(first|exact e3 _|exact e4 _|exact e5 _|exact bm)))|refine aH ?_|((with_reducible refine aB ?_ ?_)<;>intro hc<;>(try simp only[List.length_map,ne_eq,cD] at hc)<;>try(exfalso;omega)))
        refine⟨(⟨lks.set y.toNat (a),fnds.set y.toNat true,tds++[y]⟩,j+1),by dsimp only;omega,_,_,_,Rt.refl _ _ _,bt,by dsimp only;omega,cH,⟨_,bk⟩,⟨_,by dsimp only;rw[←jq];exact bk⟩,⟨_,by dsimp only;rw[←iZ];exact bk⟩,⟨_,by dsimp only;rw[←fV];exact bk⟩,by simp[hll2],by simp[hfl2], ?_, ?_,hto⟩
        ·simp only[List.length_append,List.length_cons,List.length_nil];omega
        ·intro i
         rw[dE]
         split
         ·exact hnl
         ·exact hlen2 i
      ·have:j=(g.nd x.toNat).dK.length:=by omega
       subst this
       rw[List.drop_eq_nil_of_le (Nat.le_refl _),cm] at hto
       have hnx2:=hnx _ _ hnow hto.symm
       repeat' (first|((with_reducible refine aE ?_);conv=>whnf)|refine aG ?_|exact aC|with_reducible refine aD ?_ ?_|(apply aA;(·exact bm))|refine aH ?_|((with_reducible refine aB ?_ ?_)<;>intro hc<;>(try simp only[List.length_map,ne_eq,cD] at hc)<;>try(exfalso;omega)))
       refine⟨(⟨lks,fnds,tds⟩,k+1),by dsimp only;omega,bt,⟨_,_,Wk.refl _ _ _,cH,⟨_,bk⟩,⟨_,bk⟩,⟨_,bk⟩,⟨_,bk⟩,hnx2,by dsimp only;omega,hlen2, ?_⟩⟩
       rw[←hrun,←hto]
       dsimp only
       congr 1
       omega
     ·have hnow:cq (g.nd x.toNat) (a++[y])=none:=by unfold cq;rw[if_neg h5,if_pos h6,if_neg (fun h=>hy6 (by simpa using h.2))]
      have hy7:¬y=(g.nodes.getD x.toNat default).cP:=hy6
      rw[hnow] at hrun
      dsimp only at hrun
      repeat' (first|((with_reducible refine aE ?_);conv=>whnf)|refine aG ?_|exact cN|with_reducible refine aD ?_ ?_|((with_reducible refine Ask.mk ?_);first|exact bw|(exact hlm)|(exact htm)|(exact hil)|(refine jA (m:=1) rfl ?_;simp only[List.length_map];omega)|exact br|(intro h;simp_all[bo.cells,Node.cells]<;>fail)|(simp_all[bo.cells,Node.cells]<;>fail))|(apply aA;(·(first|exact dy x1 _|exact e1 _|exact e2 _|exact e5 _|exact bm)))|refine aK (hf) ?_|(simp only[h6])|(simp only[hm0])|refine aH ?_|((with_reducible refine aB ?_ ?_)<;>intro hc<;>(try simp only[List.length_map,ne_eq,cD] at hc)<;>try(exfalso;omega)))
      all_goals exact⟨.inl ⟨x,rfl,hrun.symm⟩⟩
   ·by_cases h9:(g.nd x.toNat).kind=9∧l≠[]
    ·have hnow:cq (g.nd x.toNat) l=none:=by unfold cq;rw[if_neg h5,if_neg h6,if_pos h9.1,if_neg h9.2]
     have hlp:0<l.length:=List.length_pos_iff.2 h9.2
     have h91:=h9.1
     rw[hnow] at hrun
     dsimp only at hrun
     repeat' (first|((with_reducible refine aE ?_);conv=>whnf)|refine aG ?_|exact cN|with_reducible refine aD ?_ ?_|((with_reducible refine Ask.mk ?_);first|exact bw|(exact hlm)|(exact htm)|(exact hil)|(refine jA (m:=1) rfl ?_;simp only[List.length_map];omega)|exact br|(intro h;simp_all[bo.cells,Node.cells]<;>fail)|(simp_all[bo.cells,Node.cells]<;>fail))|(apply aA;(·(first|exact dy x1 _|exact e1 _|exact e2 _|exact bm)))|refine aK (hf) ?_|(simp only[h91])|refine aH ?_|((with_reducible refine aB ?_ ?_)<;>intro hc<;>(try simp only[List.length_map,ne_eq,cD] at hc)<;>try(exfalso;omega)))
     exact⟨.inl ⟨x,rfl,hrun.symm⟩⟩
    ·by_cases h91:(g.nd x.toNat).kind=9
     ·have hl0:l=[]:=Classical.byContradiction fun h=>h9 ⟨h91,h⟩
      subst hl0
      have hnow:cq (g.nd x.toNat) []=some []:=by unfold cq;rw[if_neg h5,if_neg h6,if_pos h91,if_pos rfl]
      have hnl:([]:List Int).length≤k+1:=Nat.zero_le _
      rw[hnow] at hrun
      dsimp only at hrun
      repeat' (first|((with_reducible refine aE ?_);conv=>whnf)|refine aG ?_|exact cN|with_reducible refine aD ?_ ?_|((with_reducible refine Ask.mk ?_);first|exact bw|(exact hlm)|(exact htm)|(exact hil)|(refine jA (m:=1) rfl ?_;simp only[List.length_map];omega)|exact br|(intro h;simp_all[bo.cells,Node.cells]<;>fail)|(simp_all[bo.cells,Node.cells]<;>fail))|(apply aA;(·(first|exact dy x1 _|exact e1 _|exact e2 _|exact bm)))|refine aK (hf) ?_|(simp only[h91])|refine aH ?_|((with_reducible refine aB ?_ ?_)<;>intro hc<;>(try simp only[List.length_map,ne_eq,cD] at hc)<;>try(exfalso;omega)))
      refine aR (fun q:HS×Nat=>[(1, .pt 0 1 0 0),(4, .sl 6 g.nodes.length),(5, .sl 11 g.nodes.length),(6, .sl 16 q.1.todo.length),(7,i64 k),(9, .im 1 .any (([]).map i64)),(10, .im 1 .any ((g.nd x.toNat).dK.map i64)),(11,i64 q.2)])
       (fun q H2 n2=>q.2≤(g.nd x.toNat).dK.length∧n+15≤n2∧(∃d,bj H2 0=some (.row 40 4 d [g.av]))∧(∃d,bj H2 6=some (.row 89 1 d (q.1.bx.map dO)))∧(∃d,bj H2 11=some (.row 4 1 d (q.1.found.map bl)))∧(∃d,bj H2 16=some (.row 3 1 d (q.1.todo.map i64)))∧q.1.bx.length=g.nodes.length∧q.1.found.length=g.nodes.length∧q.1.todo.length+q.1.found.count false=g.nodes.length∧(∀i,(q.1.bx.getD i []).length≤k+1)∧cm ([]) ((g.nd x.toNat).dK.drop q.2) q.1=cm ([]) (g.nd x.toNat).dK s)
       (fun q=>(g.nd x.toNat).dK.length - q.2) (s,0) ⟨_,_,_,Rt.tQ 9 (n+14) (0) (e:=3) (sz:=1) (es:=([]:List Int).map i64) rfl bk (by simp),bt,Nat.zero_le _,cH,⟨_,bk⟩,⟨_,bk⟩,⟨_,bk⟩,⟨_,bk⟩,hI.kH,hI.lW,hI.count,fun i=>Nat.le_succ_of_le (hlen i),rfl⟩ ?_
      clear r0 r6 r11 r16
      rintro⟨⟨lks,fnds,tds⟩,j⟩ H2 n2 ⟨hj,hn2,⟨d02,r0⟩,⟨d62,r6⟩,⟨d112,r11⟩,⟨d162,r16⟩,hll2,hfl2,hct2,hlen2,hto⟩
      dsimp only at hj hn2 r6 r11 r16 hll2 hfl2 hct2 hlen2 hto ⊢
      by_cases hjl:j<(g.nd x.toNat).dK.length
      ·have hm:=cC (0:Int) hjl
       obtain⟨k0,k1⟩:=(hw.2.2 x.toNat x1).2.2 _ hm
       have e3:=fun d=>eS (l:=(g.nd x.toNat).dK) hjl d
       rw[fZ _ _ _ hjl] at hto
       generalize hy:(g.nd x.toNat).dK.getD j 0=y at *
       have hl2m:(lks.map dO).length=g.nodes.length:=by simp[hll2]
       have hf2m:(fnds.map bl).length=g.nodes.length:=by simp[hfl2]
       have e4:=fun d=>iN (l:=lks) (i:=y) (by rw[hll2];exact k1) d
       have e5:=fun d=>jl (l:=fnds) (k:=y) d (by rw[hfl2];exact k1)
       have hsm:=lE (lks.getD y.toNat []) ([]) (by have:=hlen2 y.toNat;omega) (by omega)
       unfold dO at hsm
       cases hfd:HS.f ⟨lks,fnds,tds⟩ y with
       |true=>
        rw[if_neg (by rw[hfd];decide)] at hto
        rw[show gl fnds y=true from hfd] at e5
        by_cases hq:lks.getD y.toNat []=([])
        ·have hq2:HS.l ⟨lks,fnds,tds⟩ y=([]):=hq
         rw[if_pos hq2] at hto
         rw[decide_eq_true hq] at hsm
         repeat' (first|((with_reducible refine aE ?_);conv=>whnf)|refine aG ?_|exact cN|with_reducible refine aD ?_ ?_|((with_reducible refine Ask.mk ?_);first|exact bw|(exact hl2m)|(exact hf2m)|exact br)|(apply aA;(·(first|exact e3 _|exact e4 _|exact e5 _|exact bm)))|refine aK (hsm) ?_|refine aH ?_|((with_reducible refine aB ?_ ?_)<;>intro hc<;>(try simp only[List.length_map,ne_eq,cD] at hc)<;>try(exfalso;omega)))
         exact⟨(⟨lks,fnds,tds⟩,j+1),by dsimp only;omega,_,_,_,Rt.refl _ _ _,bt,by dsimp only;omega,cH,⟨_,bk⟩,⟨_,bk⟩,⟨_,bk⟩,⟨_,bk⟩,hll2,hfl2,hct2,hlen2,hto⟩
        ·have hq2:¬HS.l ⟨lks,fnds,tds⟩ y=([]):=hq
         rw[if_neg hq2] at hto
         rw[decide_eq_false hq] at hsm
         repeat' (first|((with_reducible refine aE ?_);conv=>whnf)|refine aG ?_|exact cN|with_reducible refine aD ?_ ?_|((with_reducible refine Ask.mk ?_);first|exact bw|(exact hl2m)|(exact hf2m)|exact br)|(apply aA;(·(first|exact e3 _|exact e4 _|exact e5 _|exact bm)))|refine aK (hsm) ?_|refine aH ?_|((with_reducible refine aB ?_ ?_)<;>intro hc<;>(try simp only[List.length_map,ne_eq,cD] at hc)<;>try(exfalso;omega)))
         exact⟨.inl ⟨y,rfl,by rw[←hrun,←hto]⟩⟩
       |false=>
        rw[if_pos hfd] at hto
        rw[show gl fnds y=false from hfd] at e5
        have hcts:=count_set (l:=fnds) (i:=y.toNat) (by rw[hfl2];exact k1) hfd
        repeat' (first|((with_reducible refine aE ?_);conv=>whnf)|refine aG ?_|exact cN|with_reducible refine aD ?_ ?_|((with_reducible refine Ask.mk ?_);first|exact bw|(exact hl2m)|(exact hf2m)|exact br)|(apply aA;(·(first|exact e3 _|exact e4 _|exact e5 _|exact bm)))|refine aH ?_|((with_reducible refine aB ?_ ?_)<;>intro hc<;>(try simp only[List.length_map,ne_eq,cD] at hc)<;>try(exfalso;omega)))
        refine⟨(⟨lks.set y.toNat ([]),fnds.set y.toNat true,tds++[y]⟩,j+1),by dsimp only;omega,_,_,_,Rt.refl _ _ _,bt,by dsimp only;omega,cH,⟨_,bk⟩,⟨_,by dsimp only;rw[←jq];exact bk⟩,⟨_,by dsimp only;rw[←iZ];exact bk⟩,⟨_,by dsimp only;rw[←fV];exact bk⟩,by simp[hll2],by simp[hfl2], ?_, ?_,hto⟩
        ·simp only[List.length_append,List.length_cons,List.length_nil];omega
        ·intro i
         rw[dE]
         split
         ·exact hnl
         ·exact hlen2 i
      ·have:j=(g.nd x.toNat).dK.length:=by omega
       subst this
       rw[List.drop_eq_nil_of_le (Nat.le_refl _),cm] at hto
       have hnx2:=hnx _ _ hnow hto.symm
       repeat' (first|((with_reducible refine aE ?_);conv=>whnf)|refine aG ?_|exact aC|with_reducible refine aD ?_ ?_|(apply aA;(·exact bm))|refine aH ?_|((with_reducible refine aB ?_ ?_)<;>intro hc<;>(try simp only[List.length_map,ne_eq,cD] at hc)<;>try(exfalso;omega)))
       refine⟨(⟨lks,fnds,tds⟩,k+1),by dsimp only;omega,bt,⟨_,_,Wk.refl _ _ _,cH,⟨_,bk⟩,⟨_,bk⟩,⟨_,bk⟩,⟨_,bk⟩,hnx2,by dsimp only;omega,hlen2, ?_⟩⟩
       rw[←hrun,←hto]
       dsimp only
       congr 1
       omega
     ·have hnow:cq (g.nd x.toNat) l=some l:=by unfold cq;rw[if_neg h5,if_neg h6,if_neg h91]
      have hnl:l.length≤k+1:=by omega
      rw[hnow] at hrun
      dsimp only at hrun
      repeat' (first|((with_reducible refine aE ?_);conv=>whnf)|refine aG ?_|exact cN|with_reducible refine aD ?_ ?_|((with_reducible refine Ask.mk ?_);first|exact bw|(exact hlm)|(exact htm)|(exact hil)|(refine jA (m:=1) rfl ?_;simp only[List.length_map];omega)|exact br|(intro h;simp_all[bo.cells,Node.cells]<;>fail)|(simp_all[bo.cells,Node.cells]<;>fail))|(apply aA;(·(first|exact dy x1 _|exact e1 _|exact e2 _|exact bm)))|refine aK (hf) ?_|(simp only[h5])|(simp only[h6])|(simp only[h91])|refine aH ?_|((with_reducible refine aB ?_ ?_)<;>intro hc<;>(try simp only[List.length_map,ne_eq,cD] at hc)<;>try(exfalso;omega)))
      refine aR (fun q:HS×Nat=>[(1, .pt 0 1 0 0),(4, .sl 6 g.nodes.length),(5, .sl 11 g.nodes.length),(6, .sl 16 q.1.todo.length),(7,i64 k),(9, .im 1 .any ((l).map i64)),(10, .im 1 .any ((g.nd x.toNat).dK.map i64)),(11,i64 q.2)])
       (fun q H2 n2=>q.2≤(g.nd x.toNat).dK.length∧n+15≤n2∧(∃d,bj H2 0=some (.row 40 4 d [g.av]))∧(∃d,bj H2 6=some (.row 89 1 d (q.1.bx.map dO)))∧(∃d,bj H2 11=some (.row 4 1 d (q.1.found.map bl)))∧(∃d,bj H2 16=some (.row 3 1 d (q.1.todo.map i64)))∧q.1.bx.length=g.nodes.length∧q.1.found.length=g.nodes.length∧q.1.todo.length+q.1.found.count false=g.nodes.length∧(∀i,(q.1.bx.getD i []).length≤k+1)∧cm (l) ((g.nd x.toNat).dK.drop q.2) q.1=cm (l) (g.nd x.toNat).dK s)
       (fun q=>(g.nd x.toNat).dK.length - q.2) (s,0) ⟨_,_,_,Rt.tQ 9 (n+14) (0+(l.map i64).length) (e:=3) (sz:=1) (es:=l.map i64) rfl bk (by simp),bt,Nat.zero_le _,cH,⟨_,bk⟩,⟨_,bk⟩,⟨_,bk⟩,⟨_,bk⟩,hI.kH,hI.lW,hI.count,fun i=>Nat.le_succ_of_le (hlen i),rfl⟩ ?_
      clear r0 r6 r11 r16
      rintro⟨⟨lks,fnds,tds⟩,j⟩ H2 n2 ⟨hj,hn2,⟨d02,r0⟩,⟨d62,r6⟩,⟨d112,r11⟩,⟨d162,r16⟩,hll2,hfl2,hct2,hlen2,hto⟩
      dsimp only at hj hn2 r6 r11 r16 hll2 hfl2 hct2 hlen2 hto ⊢
      by_cases hjl:j<(g.nd x.toNat).dK.length
      ·have hm:=cC (0:Int) hjl
       obtain⟨k0,k1⟩:=(hw.2.2 x.toNat x1).2.2 _ hm
       have e3:=fun d=>eS (l:=(g.nd x.toNat).dK) hjl d
       rw[fZ _ _ _ hjl] at hto
       generalize hy:(g.nd x.toNat).dK.getD j 0=y at *
       have hl2m:(lks.map dO).length=g.nodes.length:=by simp[hll2]
       have hf2m:(fnds.map bl).length=g.nodes.length:=by simp[hfl2]
       have e4:=fun d=>iN (l:=lks) (i:=y) (by rw[hll2];exact k1) d
       have e5:=fun d=>jl (l:=fnds) (k:=y) d (by rw[hfl2];exact k1)
       have hsm:=lE (lks.getD y.toNat []) (l) (by have:=hlen2 y.toNat;omega) (by omega)
       unfold dO at hsm
       cases hfd:HS.f ⟨lks,fnds,tds⟩ y with
       |true=>
        rw[if_neg (by rw[hfd];decide)] at hto
        rw[show gl fnds y=true from hfd] at e5
        by_cases hq:lks.getD y.toNat []=(l)
        ·have hq2:HS.l ⟨lks,fnds,tds⟩ y=(l):=hq
         rw[if_pos hq2] at hto
         rw[decide_eq_true hq] at hsm
         repeat' (first|((with_reducible refine aE ?_);conv=>whnf)|refine aG ?_|exact cN|with_reducible refine aD ?_ ?_|((with_reducible refine Ask.mk ?_);first|exact bw|(exact hl2m)|(exact hf2m)|exact br)|(apply aA;(·(first|exact e3 _|exact e4 _|exact e5 _|exact bm)))|refine aK (hsm) ?_|refine aH ?_|((with_reducible refine aB ?_ ?_)<;>intro hc<;>(try simp only[List.length_map,ne_eq,cD] at hc)<;>try(exfalso;omega)))
         exact⟨(⟨lks,fnds,tds⟩,j+1),by dsimp only;omega,_,_,_,Rt.refl _ _ _,bt,by dsimp only;omega,cH,⟨_,bk⟩,⟨_,bk⟩,⟨_,bk⟩,⟨_,bk⟩,hll2,hfl2,hct2,hlen2,hto⟩
        ·have hq2:¬HS.l ⟨lks,fnds,tds⟩ y=(l):=hq
         rw[if_neg hq2] at hto
         rw[decide_eq_false hq] at hsm
         repeat' (first|((with_reducible refine aE ?_);conv=>whnf)|refine aG ?_|exact cN|with_reducible refine aD ?_ ?_|((with_reducible refine Ask.mk ?_);first|exact bw|(exact hl2m)|(exact hf2m)|exact br)|(apply aA;(·(first|exact e3 _|exact e4 _|exact e5 _|exact bm)))|refine aK (hsm) ?_|refine aH ?_|((with_reducible refine aB ?_ ?_)<;>intro hc<;>(try simp only[List.length_map,ne_eq,cD] at hc)<;>try(exfalso;omega)))
         exact⟨.inl ⟨y,rfl,by rw[←hrun,←hto]⟩⟩
       |false=>
        rw[if_pos hfd] at hto
        rw[show gl fnds y=false from hfd] at e5
        have hcts:=count_set (l:=fnds) (i:=y.toNat) (by rw[hfl2];exact k1) hfd
        repeat' (first|((with_reducible refine aE ?_);conv=>whnf)|refine aG ?_|exact cN|with_reducible refine aD ?_ ?_|((with_reducible refine Ask.mk ?_);first|exact bw|(exact hl2m)|(exact hf2m)|exact br)|(apply aA;(·(first|exact e3 _|exact e4 _|exact e5 _|exact bm)))|refine aH ?_|((with_reducible refine aB ?_ ?_)<;>intro hc<;>(try simp only[List.length_map,ne_eq,cD] at hc)<;>try(exfalso;omega)))
        refine⟨(⟨lks.set y.toNat (l),fnds.set y.toNat true,tds++[y]⟩,j+1),by dsimp only;omega,_,_,_,Rt.refl _ _ _,bt,by dsimp only;omega,cH,⟨_,bk⟩,⟨_,by dsimp only;rw[←jq];exact bk⟩,⟨_,by dsimp only;rw[←iZ];exact bk⟩,⟨_,by dsimp only;rw[←fV];exact bk⟩,by simp[hll2],by simp[hfl2], ?_, ?_,hto⟩
        ·simp only[List.length_append,List.length_cons,List.length_nil];omega
        ·intro i
         rw[dE]
         split
         ·exact hnl
         ·exact hlen2 i
      ·have:j=(g.nd x.toNat).dK.length:=by omega
       subst this
       rw[List.drop_eq_nil_of_le (Nat.le_refl _),cm] at hto
       have hnx2:=hnx _ _ hnow hto.symm
       repeat' (first|((with_reducible refine aE ?_);conv=>whnf)|refine aG ?_|exact aC|with_reducible refine aD ?_ ?_|(apply aA;(·exact bm))|refine aH ?_|((with_reducible refine aB ?_ ?_)<;>intro hc<;>(try simp only[List.length_map,ne_eq,cD] at hc)<;>try(exfalso;omega)))
       refine⟨(⟨lks,fnds,tds⟩,k+1),by dsimp only;omega,bt,⟨_,_,Wk.refl _ _ _,cH,⟨_,bk⟩,⟨_,bk⟩,⟨_,bk⟩,⟨_,bk⟩,hnx2,by dsimp only;omega,hlen2, ?_⟩⟩
       rw[←hrun,←hto]
       dsimp only
       congr 1
       omega
 ·have hkt:s.todo.length≤k:=by omega
  have hrun2:cr g=(s.bx,-1):=by
   rw[←hrun,show g.nodes.length+1 - k=(g.nodes.length - k)+1 by omega,fA,if_neg hk]
  repeat' (first|((with_reducible refine aE ?_);conv=>whnf)|refine aG ?_|exact aC|with_reducible refine aD ?_ ?_|(apply aA;(·exact bm))|refine aH ?_|((with_reducible refine aB ?_ ?_)<;>intro hc<;>(try simp only[List.length_map,ne_eq,cD] at hc)<;>try(exfalso;omega)))
  exact⟨.inr ⟨6,d6,s.bx,by rw[hI.kH],hrun2,bk⟩⟩
end Go.Proofs.YtmonponfppdgfaaGreatDoor
end
