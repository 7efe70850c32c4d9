import Derived.Test.YtjopoheligmmoaaGreatDoorM42
import Derived.Test.YtjopoheligmmoaaGreatDoorM27
import Derived.Test.YtjopoheligmmoaaGreatDoorM29
import Derived.Test.YtjopoheligmmoaaGreatDoorM41
import Derived.Test.YtjopoheligmmoaaGreatDoorM39
import Derived.Test.YtjopoheligmmoaaGreatDoorM37
namespace Go.cu
open Go.RowKit
theorem Rt.vi {fr:Fr} {H:Hp} {nx:Nat} (t b len:Nat) {e:TypeId} {sz:Nat} {d:AV} {es:List AV} (h:cp fr t= .sl b len) (hb:bu H b=some (.row e sz d es)) (hl:es.length=len):Rt fr H nx ((t, .im sz .any es)::fr) ((b,none)::H) nx:=by
 have hw:=Wk.RE (r:= .sl b len) (H:=H) (nx:=nx) [(b,some (.row e sz d es))] 1 (fun x q hq=>by
  by_cases hx:x=b
  ·subst hx;rw[cY] at hq;rw[hb];exact hq
  ·rw[cN hx] at hq;cases hq)
 rw[BT (cY _ _ _) hl,p6,la,vc] at hw
 exact Rt.slot t h hw
theorem Rt.TO {fr:Fr} {H:Hp} {nx:Nat} (t x len lo n:Nat) {e:TypeId} {sz:Nat} {d:AV} {l es:List AV} (h:cp fr t= .sv x len lo n) (h3:bu H x=some (.row e sz d l)) (hl:l.length=len) (hn:lo+n<=len) (he:(l.drop lo).take n=es) (hxt:e∉XT:=by decide):
 Rt fr H nx ((t, .im sz .any es)::(t, .sl nx n)::fr) ((nx,none)::(nx,some (.row e sz .any es))::(x,none)::H) (nx+1):=by
 subst he
 exact(Rt.part t h h3 hl hn hxt).trans (Rt.vi t nx n (by simp[cp]) (cY _ _ _) (by simp;omega))
end Go.cu
namespace Go.Proofs.YtjopoheligmmoaaGreatDoor
open Go Go.cu Go.Proofs
set_option linter.unusedSimpArgs false
set_option linter.unusedVariables false
set_option maxRecDepth 8000
theorem lr (l m:List Int) (hl:l.length * 8<=140737488351232) (hm:m.length * 8<=140737488351232):Pure Tryz.prog 44 [eu l,eu m] (fun r=>r=bl (decide (l=m))):=by
 refine aD V3 rfl ?_
 unfold eu
 repeat' (first|refine aQ ?_|exact aC|with_reducible refine aB ?_ ?_|(apply aA;(·exact cL))|refine aH ?_|((with_reducible refine aE ?_ ?_)<;>intro hc<;>try(exfalso;omega)))
 ·refine eK (Eq.symm ?_)
  exact decide_eq_false fun e=>hc (by rw[e])
 ·have hlm:l.length=m.length:=by omega
  refine aN (fun i:Nat=>[(0,eu l),(1,eu m),(5,i64 i)])
   (fun i H n=>i<=l.length/\∀j,j<i->l.getD j 0=m.getD j 0) (fun i=>l.length - i) 0 cH ⟨Nat.zero_le _,fun _ h=>by omega⟩ ?_
  unfold eu
  rintro i H n ⟨hi,hall⟩
  by_cases hil:i<l.length
  ·have e1:=lJ (l:=l) hil
   have e2:=lJ (l:=m) (i:=i) (by omega)
   repeat' (first|refine aQ ?_|exact aC|with_reducible refine aB ?_ ?_|(apply aA;(·(first|exact e1 _|exact e2 _|exact cL)))|refine aH ?_|((with_reducible refine aE ?_ ?_)<;>intro hc<;>try(exfalso;omega)))
   ·refine eK (Eq.symm ?_)
    exact decide_eq_false fun e=>hc (by rw[e])
   ·refine⟨i+1,by omega,cH,by omega,fun j hj=> ?_⟩
    by_cases hji:j=i
    ·subst hji;exact hc
    ·exact hall j (by omega)
  ·have:i=l.length:=by omega
   subst this
   repeat' (first|refine aQ ?_|exact aC|with_reducible refine aB ?_ ?_|(apply aA;(·exact cL))|refine aH ?_|((with_reducible refine aE ?_ ?_)<;>intro hc<;>try(exfalso;omega)))
   refine eK (Eq.symm ?_)
   refine decide_eq_true (List.ext_getElem hlm fun j h1 h2=> ?_)
   have:=hall j h1
   simpa[List.getD,h1,h2] using this
set_option maxRecDepth 8000 in
set_option maxHeartbeats 8000000 in
theorem CT (g:cF) (hg:g.Wf) (hw:Whole g):cS Tryz.prog 78 [g.av] [] 0 (fun r H n=>(∃a,r= .dD [.sc (.slice none 0 0),i64 a]/\eF g=([],a))\/∃b d L,r= .dD [.sl b L.length,i64 (-1)]/\eF g=(L,-1)/\bu H b=some (.row 31 1 d (L.map eu))):=by
 have hl:=hg.len
 have hl0:=hw.1
 have hl1:=hw.2.1
 have hrep:∀d,(List.replicate (((List.map Node.av g.nodes).length:Nat):Int).toNat (gC false [Value.bool false])).getD (Int.toNat 0) d=bl false:=fun d=>by
  rw[Int.toNat_natCast,show Int.toNat 0=0 from rfl,List.length_map,List.getD,List.getElem?_replicate,if_pos (by omega)];rfl
 refine aI YR rfl ?_
 repeat' (first|refine aQ ?_|exact eY|with_reducible refine aB ?_ ?_|((with_reducible refine Ask.mk ?_);first|exact dE|exact cd|(intro h;simp_all[cF.cells]<;>fail)|(simp_all[cF.cells]<;>fail))|(apply aA;(·(first|exact hrep _|exact cL)))|refine aH ?_|((with_reducible refine aE ?_ ?_)<;>intro hc<;>try(exfalso;omega)))
 simp only[List.length_map,Int.toNat_natCast]
 have hs11:((rQ g,0).1:HS).found.map bl=(List.replicate g.nodes.length (bl false)).set 0 (bl true):=by simp[rQ,List.map_set]
 refine ah (fun s:HS×Nat=>[(1, .pt 0 1 0 0),(4, .sl 6 g.nodes.length),(5, .sl 11 g.nodes.length),(6, .sl 16 s.1.todo.length),(7,i64 s.2)])
  (fun s H n=>19<=n/\(∃d,bu H 0=some (.row 60 4 d [g.av]))/\(∃d,bu H 6=some (.row 31 1 d (s.1.cB.map eu)))/\(∃d,bu H 11=some (.row 4 1 d (s.1.found.map bl)))/\(∃d,bu H 16=some (.row 3 1 d (s.1.todo.map i64)))/\HI g s.1 s.2/\s.2<=g.nodes.length/\(∀i,(s.1.cB.getD i []).length<=s.2)/\fc g (g.nodes.length+1 - s.2) s.1 s.2=eF g)
  (fun s=>g.nodes.length+1 - s.2) (rQ g,0) cH ⟨_,_,Wk.SI (b:=6) (e:=31) (sz:=1) (es:=List.replicate g.nodes.length (.sc (.slice none 0 0))) (d:= .sc (.slice none 0 0)) .any bx (es2:=(rQ g).cB.map eu) (by simp[rQ]) (fun c c2 _ _=> ?_),cZ,⟨_,bx⟩,⟨_,bx⟩,⟨_,by rw[hs11];exact bx⟩,⟨_,bx⟩,HI.start hw,Nat.zero_le _, ?_,rfl⟩ ?_
 ·simp only[rQ,List.map_replicate]
  exact dW.rep (dV.jw c c2 1 .any) _
 ·intro i
  simp only[rQ,List.getD,List.getElem?_replicate];split<;>exact Nat.zero_le _
 rintro⟨s,k⟩ H n ⟨hn,⟨d0,r0⟩,⟨d6,r6⟩,⟨d11,r11⟩,⟨d16,r16⟩,hI,hkl,hlen,hrun⟩
 dsimp only at r6 r11 r16 hI hkl hlen hrun ⊢
 have hct:=hI.count
 by_cases hk:k<s.todo.length
 ·obtain⟨x0,x1,x2⟩:=hI.inr _ (cT (0:Int) hk)
  have hll:=hI.lK
  have hcnt:=hI.count
  have hlm:(s.cB.map eu).length=g.nodes.length:=by simp[hll]
  have htm:(s.todo.map i64).length=s.todo.length:=by simp
  have e1:=fun d=>yr hk d
  have e2:=fun d=>jo (l:=s.cB) (i:=s.todo.getD k 0) (by rw[hll];exact x1) d
  have hlk:=hlen (s.todo.getD k 0).toNat
  rw[show g.nodes.length+1 - k=(g.nodes.length - k)+1 by omega,pY hk] at hrun
  have hnx:=fun now s'=>hI.next hw hk (now:=now) (s':=s')
  unfold HS.l at hrun hnx
  generalize hx:s.todo.getD k 0=x at *
  have hf:=ua (g.nd x.toNat)
  unfold eu at hf
  generalize hl0:s.cB.getD x.toNat []=l at *
  have hfl:=NW (g.nd x.toNat)
  have hil:(l.map i64).length=l.length:=by simp
  by_cases h5:(g.nd x.toNat).kind=5
  ·have hnow:dH (g.nd x.toNat) l=some (l++[(g.nd x.toNat).cG]):=by unfold dH;rw[if_pos h5]
   have hnl:(l++[(g.nd x.toNat).cG]).length<=k+1:=by rw[List.length_append];exact Nat.succ_le_succ hlk
   rw[hnow] at hrun
   dsimp only at hrun
   repeat' (first|refine aQ ?_|exact eY|with_reducible refine aB ?_ ?_|((with_reducible refine Ask.mk ?_);first|exact dE|(exact hlm)|(exact htm)|(exact hil)|(refine lV (m:=1) rfl ?_;simp only[List.length_map];omega)|exact cd|(intro h;simp_all[cF.cells,Node.cells]<;>fail)|(simp_all[cF.cells,Node.cells]<;>fail))|(apply aA;(·(first|exact gU x1 _|exact e1 _|exact e2 _|exact cL)))|refine aK (hf) ?_|(simp only[h5])|refine aH ?_|((with_reducible refine aE ?_ ?_)<;>intro hc<;>try(exfalso;omega)))
   obtain⟨nw,hnw⟩:∃nw,nw=l++[(g.nd x.toNat).cG]:=⟨_,rfl⟩
   rw[<-hnw] at hnow hnl hrun
   refine aS (fun q:HS×Nat=>[(1, .pt 0 1 0 0),(4, .sl 6 g.nodes.length),(5, .sl 11 g.nodes.length),(6, .sl 16 q.1.todo.length),(7,i64 k),(9, .im 1 .any ((nw).map i64)),(10, .im 1 .any ((g.nd x.toNat).gO.map i64)),(11,i64 q.2)])
    (fun q H2 n2=>q.2<=(g.nd x.toNat).gO.length/\n+15<=n2/\(∃d,bu H2 0=some (.row 60 4 d [g.av]))/\(∃d,bu H2 6=some (.row 31 1 d (q.1.cB.map eu)))/\(∃d,bu H2 11=some (.row 4 1 d (q.1.found.map bl)))/\(∃d,bu H2 16=some (.row 3 1 d (q.1.todo.map i64)))/\q.1.cB.length=g.nodes.length/\q.1.found.length=g.nodes.length/\q.1.todo.length+q.1.found.count false=g.nodes.length/\(∀i,(q.1.cB.getD i []).length<=k+1)/\dQ (nw) ((g.nd x.toNat).gO.drop q.2) q.1=dQ (nw) (g.nd x.toNat).gO s)
    (fun q=>(g.nd x.toNat).gO.length - q.2) (s,0) ⟨_,_,_,Rt.vi 9 (n+14) (0+(l.map i64).length+1) (e:=3) (sz:=1) (es:=nw.map i64) rfl (by rw[hnw,<-fw];exact bx) (by rw[hnw];simp),cH,Nat.zero_le _,cZ,⟨_,bx⟩,⟨_,bx⟩,⟨_,bx⟩,⟨_,bx⟩,hI.lK,hI.nu,hI.count,fun i=>Nat.le_succ_of_le (hlen i),rfl⟩ ?_
   clear r0 r6 r11 r16
   rintro⟨⟨lks,fnds,tds⟩,j⟩ H2 n2 ⟨hj,hn2,⟨d02,r0⟩,⟨d62,r6⟩,⟨d112,r11⟩,⟨d162,r16⟩,hll2,hfl2,hct2,hlen2,hto⟩
   dsimp only at hj hn2 r6 r11 r16 hll2 hfl2 hct2 hlen2 hto ⊢
   by_cases hjl:j<(g.nd x.toNat).gO.length
   ·have hm:=cT (0:Int) hjl
    obtain⟨k0,k1⟩:=(hw.2.2 x.toNat x1).2.2 _ hm
    have e3:=fun d=>iz (l:=(g.nd x.toNat).gO) hjl d
    rw[fm _ _ _ hjl] at hto
    generalize hy:(g.nd x.toNat).gO.getD j 0=y at *
    have hl2m:(lks.map eu).length=g.nodes.length:=by simp[hll2]
    have hf2m:(fnds.map bl).length=g.nodes.length:=by simp[hfl2]
    have e4:=fun d=>jo (l:=lks) (i:=y) (by rw[hll2];exact k1) d
    have e5:=fun d=>pK (l:=fnds) (k:=y) d (by rw[hfl2];exact k1)
    have hsm:=lr (lks.getD y.toNat []) (nw) (by have:=hlen2 y.toNat;omega) (by omega)
    unfold eu at hsm
    cases hfd:HS.f ⟨lks,fnds,tds⟩ y with
    |true=>
     rw[if_neg (by rw[hfd];decide)] at hto
     rw[show kg fnds y=true from hfd] at e5
     by_cases hq:lks.getD y.toNat []=(nw)
     ·have hq2:HS.l ⟨lks,fnds,tds⟩ y=(nw):=hq
      rw[if_pos hq2] at hto
      rw[decide_eq_true hq] at hsm
      repeat' (first|refine aQ ?_|exact eY|with_reducible refine aB ?_ ?_|((with_reducible refine Ask.mk ?_);first|exact dE|(exact hl2m)|(exact hf2m)|exact cd)|(apply aA;(·(first|exact e3 _|exact e4 _|exact e5 _|exact cL)))|refine aK (hsm) ?_|refine aH ?_|((with_reducible refine aE ?_ ?_)<;>intro hc<;>try(exfalso;omega)))
      exact⟨(⟨lks,fnds,tds⟩,j+1),by dsimp only;omega,_,_,_,Rt.refl _ _ _,cH,by dsimp only;omega,cZ,⟨_,bx⟩,⟨_,bx⟩,⟨_,bx⟩,⟨_,bx⟩,hll2,hfl2,hct2,hlen2,hto⟩
     ·have hq2:¬HS.l ⟨lks,fnds,tds⟩ y=(nw):=hq
      rw[if_neg hq2] at hto
      rw[decide_eq_false hq] at hsm
      repeat' (first|refine aQ ?_|exact eY|with_reducible refine aB ?_ ?_|((with_reducible refine Ask.mk ?_);first|exact dE|(exact hl2m)|(exact hf2m)|exact cd)|(apply aA;(·(first|exact e3 _|exact e4 _|exact e5 _|exact cL)))|refine aK (hsm) ?_|refine aH ?_|((with_reducible refine aE ?_ ?_)<;>intro hc<;>try(exfalso;omega)))
      exact⟨.inl ⟨y,rfl,by rw[<-hrun,<-hto]⟩⟩
    |false=>
     rw[if_pos hfd] at hto
     rw[show kg fnds y=false from hfd] at e5
     have hcts:=count_set (l:=fnds) (i:=y.toNat) (by rw[hfl2];exact k1) hfd
     repeat' (first|refine aQ ?_|exact eY|with_reducible refine aB ?_ ?_|((with_reducible refine Ask.mk ?_);first|exact dE|(exact hl2m)|(exact hf2m)|exact cd)|(apply aA;(·(first|exact e3 _|exact e4 _|exact e5 _|exact cL)))|refine aH ?_|((with_reducible refine aE ?_ ?_)<;>intro hc<;>try(exfalso;omega)))
     refine⟨(⟨lks.set y.toNat (nw),fnds.set y.toNat true,tds++[y]⟩,j+1),by dsimp only;omega,_,_,_,Rt.refl _ _ _,cH,by dsimp only;omega,cZ,⟨_,bx⟩,⟨_,by dsimp only;rw[<-kE];exact bx⟩,⟨_,by dsimp only;rw[<-mU];exact bx⟩,⟨_,by dsimp only;rw[<-fw];exact bx⟩,by simp[hll2],by simp[hfl2], ?_, ?_,hto⟩
     ·simp only[List.length_append,List.length_cons,List.length_nil];omega
     ·intro i
      rw[eM]
      split
      ·exact hnl
      ·exact hlen2 i
   ·have:j=(g.nd x.toNat).gO.length:=by omega
    subst this
    rw[List.drop_eq_nil_of_le (Nat.le_refl _),dQ] at hto
    have hnx2:=hnx _ _ hnow hto.symm
    repeat' (first|refine aQ ?_|exact aC|with_reducible refine aB ?_ ?_|(apply aA;(·exact cL))|refine aH ?_|((with_reducible refine aE ?_ ?_)<;>intro hc<;>try(exfalso;omega)))
    refine⟨(⟨lks,fnds,tds⟩,k+1),by dsimp only;omega,cH,⟨_,_,Wk.refl _ _ _,cZ,⟨_,bx⟩,⟨_,bx⟩,⟨_,bx⟩,⟨_,bx⟩,hnx2,by dsimp only;omega,hlen2, ?_⟩⟩
    rw[<-hrun,<-hto]
    dsimp only
    congr 1
    omega
  ·by_cases h6:(g.nd x.toNat).kind=6
   ·rcases List.eq_nil_or_concat l with rfl|⟨a,y,rfl⟩
    ·have hnow:dH (g.nd x.toNat) []=none:=by unfold dH;rw[if_neg h5,if_pos h6,if_neg (fun h=>h.1 rfl)]
     rw[hnow] at hrun
     dsimp only at hrun
     repeat' (first|refine aQ ?_|exact eY|with_reducible refine aB ?_ ?_|((with_reducible refine Ask.mk ?_);first|exact dE|(exact hlm)|(exact htm)|(exact hil)|(refine lV (m:=1) rfl ?_;simp only[List.length_map];omega)|exact cd|(intro h;simp_all[cF.cells,Node.cells]<;>fail)|(simp_all[cF.cells,Node.cells]<;>fail))|(apply aA;(·(first|exact gU x1 _|exact e1 _|exact e2 _|exact cL)))|refine aK (hf) ?_|(simp only[h6])|refine aH ?_|((with_reducible refine aE ?_ ?_)<;>intro hc<;>try(exfalso;omega)))
     exact⟨.inl ⟨x,rfl,hrun.symm⟩⟩
    ·rw[List.concat_eq_append] at *
     have hla:(a++[y]).length=a.length+1:=by simp
     have hml:((a++[y]).map i64).length=a.length+1:=by simp
     have e5:∀d,((a++[y]).map i64).getD (((a.length+1:Nat):Int) - 1).toNat d=i64 y:=fun d=>by
      rw[show(((a.length+1:Nat):Int) - 1).toNat=a.length by omega,List.map_append]
      simp[List.getD]
     have hm0:0+(List.map i64 (a++[y])).length=a.length+1:=by simp
     by_cases hy6:y=(g.nd x.toNat).cG
     ·subst hy6
      have hnow:dH (g.nd x.toNat) (a++[(g.nd x.toNat).cG])=some a:=by unfold dH;rw[if_neg h5,if_pos h6,if_pos ⟨by simp,by simp⟩,List.dropLast_concat]
      have hnl:a.length<=k+1:=by omega
      have htk:(((a++[(g.nd x.toNat).cG]).map i64).drop 0).take a.length=a.map i64:=by simp
      rw[hnow] at hrun
      dsimp only at hrun
      repeat' (first|refine aQ ?_|exact eY|with_reducible refine aB ?_ ?_|((with_reducible refine Ask.mk ?_);first|exact dE|(exact hlm)|(exact htm)|(exact hil)|(refine lV (m:=1) rfl ?_;simp only[List.length_map];omega)|exact cd|(intro h;simp_all[cF.cells,Node.cells]<;>fail)|(simp_all[cF.cells,Node.cells]<;>fail))|(apply aA;(·(first|exact gU x1 _|exact e1 _|exact e2 _|exact e5 _|exact cL)))|refine aK (hf) ?_|(simp only[h6])|(simp only[hm0])|((with_reducible apply aU);(·exact L8 (es:=List.map i64 (a++[(g.nd x.toNat).cG])) bx hml E7 E7 S5))|refine aH ?_|((with_reducible refine aE ?_ ?_)<;>intro hc<;>try(exfalso;omega)))
      ·exact absurd hc (by simp;omega)
      refine aS (fun q:HS×Nat=>[(1, .pt 0 1 0 0),(4, .sl 6 g.nodes.length),(5, .sl 11 g.nodes.length),(6, .sl 16 q.1.todo.length),(7,i64 k),(9, .im 1 .any ((a).map i64)),(10, .im 1 .any ((g.nd x.toNat).gO.map i64)),(11,i64 q.2)])
       (fun q H2 n2=>q.2<=(g.nd x.toNat).gO.length/\n+15<=n2/\(∃d,bu H2 0=some (.row 60 4 d [g.av]))/\(∃d,bu H2 6=some (.row 31 1 d (q.1.cB.map eu)))/\(∃d,bu H2 11=some (.row 4 1 d (q.1.found.map bl)))/\(∃d,bu H2 16=some (.row 3 1 d (q.1.todo.map i64)))/\q.1.cB.length=g.nodes.length/\q.1.found.length=g.nodes.length/\q.1.todo.length+q.1.found.count false=g.nodes.length/\(∀i,(q.1.cB.getD i []).length<=k+1)/\dQ (a) ((g.nd x.toNat).gO.drop q.2) q.1=dQ (a) (g.nd x.toNat).gO s)
       (fun q=>(g.nd x.toNat).gO.length - q.2) (s,0) ⟨_,_,_,Rt.TO 9 (n+14) (a.length+1) 0 (a.length - 0) (e:=3) (sz:=1) (l:=(a++[(g.nd x.toNat).cG]).map i64) rfl bx hml (by omega) (by first|(rw[Nat.sub_zero];exact htk)|rw[Nat.sub_zero]),cH,Nat.zero_le _,cZ,⟨_,bx⟩,⟨_,bx⟩,⟨_,bx⟩,⟨_,bx⟩,hI.lK,hI.nu,hI.count,fun i=>Nat.le_succ_of_le (hlen i),rfl⟩ ?_
      clear r0 r6 r11 r16
      rintro⟨⟨lks,fnds,tds⟩,j⟩ H2 n2 ⟨hj,hn2,⟨d02,r0⟩,⟨d62,r6⟩,⟨d112,r11⟩,⟨d162,r16⟩,hll2,hfl2,hct2,hlen2,hto⟩
      dsimp only at hj hn2 r6 r11 r16 hll2 hfl2 hct2 hlen2 hto ⊢
      by_cases hjl:j<(g.nd x.toNat).gO.length
      ·have hm:=cT (0:Int) hjl
       obtain⟨k0,k1⟩:=(hw.2.2 x.toNat x1).2.2 _ hm
       have e3:=fun d=>iz (l:=(g.nd x.toNat).gO) hjl d
       rw[fm _ _ _ hjl] at hto
       generalize hy:(g.nd x.toNat).gO.getD j 0=y at *
       have hl2m:(lks.map eu).length=g.nodes.length:=by simp[hll2]
       have hf2m:(fnds.map bl).length=g.nodes.length:=by simp[hfl2]
       have e4:=fun d=>jo (l:=lks) (i:=y) (by rw[hll2];exact k1) d
       have e5:=fun d=>pK (l:=fnds) (k:=y) d (by rw[hfl2];exact k1)
       have hsm:=lr (lks.getD y.toNat []) (a) (by have:=hlen2 y.toNat;omega) (by omega)
       unfold eu at hsm
       cases hfd:HS.f ⟨lks,fnds,tds⟩ y with
       |true=>
        rw[if_neg (by rw[hfd];decide)] at hto
        rw[show kg fnds y=true from hfd] at e5
        by_cases hq:lks.getD y.toNat []=(a)
        ·have hq2:HS.l ⟨lks,fnds,tds⟩ y=(a):=hq
         rw[if_pos hq2] at hto
         rw[decide_eq_true hq] at hsm
         repeat' (first|refine aQ ?_|exact eY|with_reducible refine aB ?_ ?_|((with_reducible refine Ask.mk ?_);first|exact dE|(exact hl2m)|(exact hf2m)|exact cd)|(apply aA;(·(first|exact e3 _|exact e4 _|exact e5 _|exact cL)))|refine aK (hsm) ?_|refine aH ?_|((with_reducible refine aE ?_ ?_)<;>intro hc<;>try(exfalso;omega)))
         exact⟨(⟨lks,fnds,tds⟩,j+1),by dsimp only;omega,_,_,_,Rt.refl _ _ _,cH,by dsimp only;omega,cZ,⟨_,bx⟩,⟨_,bx⟩,⟨_,bx⟩,⟨_,bx⟩,hll2,hfl2,hct2,hlen2,hto⟩
        ·have hq2:¬HS.l ⟨lks,fnds,tds⟩ y=(a):=hq
         rw[if_neg hq2] at hto
         rw[decide_eq_false hq] at hsm
         repeat' (first|refine aQ ?_|exact eY|with_reducible refine aB ?_ ?_|((with_reducible refine Ask.mk ?_);first|exact dE|(exact hl2m)|(exact hf2m)|exact cd)|(apply aA;(·(first|exact e3 _|exact e4 _|exact e5 _|exact cL)))|refine aK (hsm) ?_|refine aH ?_|((with_reducible refine aE ?_ ?_)<;>intro hc<;>try(exfalso;omega)))
         exact⟨.inl ⟨y,rfl,by rw[<-hrun,<-hto]⟩⟩
       |false=>
        rw[if_pos hfd] at hto
        rw[show kg fnds y=false from hfd] at e5
        have hcts:=count_set (l:=fnds) (i:=y.toNat) (by rw[hfl2];exact k1) hfd
        repeat' (first|refine aQ ?_|exact eY|with_reducible refine aB ?_ ?_|((with_reducible refine Ask.mk ?_);first|exact dE|(exact hl2m)|(exact hf2m)|exact cd)|(apply aA;(·(first|exact e3 _|exact e4 _|exact e5 _|exact cL)))|refine aH ?_|((with_reducible refine aE ?_ ?_)<;>intro hc<;>try(exfalso;omega)))
        refine⟨(⟨lks.set y.toNat (a),fnds.set y.toNat true,tds++[y]⟩,j+1),by dsimp only;omega,_,_,_,Rt.refl _ _ _,cH,by dsimp only;omega,cZ,⟨_,bx⟩,⟨_,by dsimp only;rw[<-kE];exact bx⟩,⟨_,by dsimp only;rw[<-mU];exact bx⟩,⟨_,by dsimp only;rw[<-fw];exact bx⟩,by simp[hll2],by simp[hfl2], ?_, ?_,hto⟩
        ·simp only[List.length_append,List.length_cons,List.length_nil];omega
        ·intro i
         rw[eM]
         split
         ·exact hnl
         ·exact hlen2 i
      ·have:j=(g.nd x.toNat).gO.length:=by omega
       subst this
       rw[List.drop_eq_nil_of_le (Nat.le_refl _),dQ] at hto
       have hnx2:=hnx _ _ hnow hto.symm
       repeat' (first|refine aQ ?_|exact aC|with_reducible refine aB ?_ ?_|(apply aA;(·exact cL))|refine aH ?_|((with_reducible refine aE ?_ ?_)<;>intro hc<;>try(exfalso;omega)))
       refine⟨(⟨lks,fnds,tds⟩,k+1),by dsimp only;omega,cH,⟨_,_,Wk.refl _ _ _,cZ,⟨_,bx⟩,⟨_,bx⟩,⟨_,bx⟩,⟨_,bx⟩,hnx2,by dsimp only;omega,hlen2, ?_⟩⟩
       rw[<-hrun,<-hto]
       dsimp only
       congr 1
       omega
     ·have hnow:dH (g.nd x.toNat) (a++[y])=none:=by unfold dH;rw[if_neg h5,if_pos h6,if_neg (fun h=>hy6 (by simpa using h.2))]
      have hy7:¬y=(g.nodes.getD x.toNat default).cG:=hy6
      rw[hnow] at hrun
      dsimp only at hrun
      repeat' (first|refine aQ ?_|exact eY|with_reducible refine aB ?_ ?_|((with_reducible refine Ask.mk ?_);first|exact dE|(exact hlm)|(exact htm)|(exact hil)|(refine lV (m:=1) rfl ?_;simp only[List.length_map];omega)|exact cd|(intro h;simp_all[cF.cells,Node.cells]<;>fail)|(simp_all[cF.cells,Node.cells]<;>fail))|(apply aA;(·(first|exact gU x1 _|exact e1 _|exact e2 _|exact e5 _|exact cL)))|refine aK (hf) ?_|(simp only[h6])|(simp only[hm0])|refine aH ?_|((with_reducible refine aE ?_ ?_)<;>intro hc<;>try(exfalso;omega)))
      all_goals exact⟨.inl ⟨x,rfl,hrun.symm⟩⟩
   ·by_cases h9:(g.nd x.toNat).kind=9/\l≠[]
    ·have hnow:dH (g.nd x.toNat) l=none:=by unfold dH;rw[if_neg h5,if_neg h6,if_pos h9.1,if_neg h9.2]
     have hlp:0<l.length:=List.length_pos_iff.2 h9.2
     have h91:=h9.1
     rw[hnow] at hrun
     dsimp only at hrun
     repeat' (first|refine aQ ?_|exact eY|with_reducible refine aB ?_ ?_|((with_reducible refine Ask.mk ?_);first|exact dE|(exact hlm)|(exact htm)|(exact hil)|(refine lV (m:=1) rfl ?_;simp only[List.length_map];omega)|exact cd|(intro h;simp_all[cF.cells,Node.cells]<;>fail)|(simp_all[cF.cells,Node.cells]<;>fail))|(apply aA;(·(first|exact gU x1 _|exact e1 _|exact e2 _|exact cL)))|refine aK (hf) ?_|(simp only[h91])|refine aH ?_|((with_reducible refine aE ?_ ?_)<;>intro hc<;>try(exfalso;omega)))
     exact⟨.inl ⟨x,rfl,hrun.symm⟩⟩
    ·by_cases h91:(g.nd x.toNat).kind=9
     ·have hl0:l=[]:=Classical.byContradiction fun h=>h9 ⟨h91,h⟩
      subst hl0
      have hnow:dH (g.nd x.toNat) []=some []:=by unfold dH;rw[if_neg h5,if_neg h6,if_pos h91,if_pos rfl]
      have hnl:([]:List Int).length<=k+1:=Nat.zero_le _
      rw[hnow] at hrun
      dsimp only at hrun
      repeat' (first|refine aQ ?_|exact eY|with_reducible refine aB ?_ ?_|((with_reducible refine Ask.mk ?_);first|exact dE|(exact hlm)|(exact htm)|(exact hil)|(refine lV (m:=1) rfl ?_;simp only[List.length_map];omega)|exact cd|(intro h;simp_all[cF.cells,Node.cells]<;>fail)|(simp_all[cF.cells,Node.cells]<;>fail))|(apply aA;(·(first|exact gU x1 _|exact e1 _|exact e2 _|exact cL)))|refine aK (hf) ?_|(simp only[h91])|refine aH ?_|((with_reducible refine aE ?_ ?_)<;>intro hc<;>try(exfalso;omega)))
      refine aS (fun q:HS×Nat=>[(1, .pt 0 1 0 0),(4, .sl 6 g.nodes.length),(5, .sl 11 g.nodes.length),(6, .sl 16 q.1.todo.length),(7,i64 k),(9, .im 1 .any (([]).map i64)),(10, .im 1 .any ((g.nd x.toNat).gO.map i64)),(11,i64 q.2)])
       (fun q H2 n2=>q.2<=(g.nd x.toNat).gO.length/\n+15<=n2/\(∃d,bu H2 0=some (.row 60 4 d [g.av]))/\(∃d,bu H2 6=some (.row 31 1 d (q.1.cB.map eu)))/\(∃d,bu H2 11=some (.row 4 1 d (q.1.found.map bl)))/\(∃d,bu H2 16=some (.row 3 1 d (q.1.todo.map i64)))/\q.1.cB.length=g.nodes.length/\q.1.found.length=g.nodes.length/\q.1.todo.length+q.1.found.count false=g.nodes.length/\(∀i,(q.1.cB.getD i []).length<=k+1)/\dQ ([]) ((g.nd x.toNat).gO.drop q.2) q.1=dQ ([]) (g.nd x.toNat).gO s)
       (fun q=>(g.nd x.toNat).gO.length - q.2) (s,0) ⟨_,_,_,Rt.vi 9 (n+14) (0) (e:=3) (sz:=1) (es:=([]:List Int).map i64) rfl bx (by simp),cH,Nat.zero_le _,cZ,⟨_,bx⟩,⟨_,bx⟩,⟨_,bx⟩,⟨_,bx⟩,hI.lK,hI.nu,hI.count,fun i=>Nat.le_succ_of_le (hlen i),rfl⟩ ?_
      clear r0 r6 r11 r16
      rintro⟨⟨lks,fnds,tds⟩,j⟩ H2 n2 ⟨hj,hn2,⟨d02,r0⟩,⟨d62,r6⟩,⟨d112,r11⟩,⟨d162,r16⟩,hll2,hfl2,hct2,hlen2,hto⟩
      dsimp only at hj hn2 r6 r11 r16 hll2 hfl2 hct2 hlen2 hto ⊢
      by_cases hjl:j<(g.nd x.toNat).gO.length
      ·have hm:=cT (0:Int) hjl
       obtain⟨k0,k1⟩:=(hw.2.2 x.toNat x1).2.2 _ hm
       have e3:=fun d=>iz (l:=(g.nd x.toNat).gO) hjl d
       rw[fm _ _ _ hjl] at hto
       generalize hy:(g.nd x.toNat).gO.getD j 0=y at *
       have hl2m:(lks.map eu).length=g.nodes.length:=by simp[hll2]
       have hf2m:(fnds.map bl).length=g.nodes.length:=by simp[hfl2]
       have e4:=fun d=>jo (l:=lks) (i:=y) (by rw[hll2];exact k1) d
       have e5:=fun d=>pK (l:=fnds) (k:=y) d (by rw[hfl2];exact k1)
       have hsm:=lr (lks.getD y.toNat []) ([]) (by have:=hlen2 y.toNat;omega) (by omega)
       unfold eu at hsm
       cases hfd:HS.f ⟨lks,fnds,tds⟩ y with
       |true=>
        rw[if_neg (by rw[hfd];decide)] at hto
        rw[show kg fnds y=true from hfd] at e5
        by_cases hq:lks.getD y.toNat []=([])
        ·have hq2:HS.l ⟨lks,fnds,tds⟩ y=([]):=hq
         rw[if_pos hq2] at hto
         rw[decide_eq_true hq] at hsm
         repeat' (first|refine aQ ?_|exact eY|with_reducible refine aB ?_ ?_|((with_reducible refine Ask.mk ?_);first|exact dE|(exact hl2m)|(exact hf2m)|exact cd)|(apply aA;(·(first|exact e3 _|exact e4 _|exact e5 _|exact cL)))|refine aK (hsm) ?_|refine aH ?_|((with_reducible refine aE ?_ ?_)<;>intro hc<;>try(exfalso;omega)))
         exact⟨(⟨lks,fnds,tds⟩,j+1),by dsimp only;omega,_,_,_,Rt.refl _ _ _,cH,by dsimp only;omega,cZ,⟨_,bx⟩,⟨_,bx⟩,⟨_,bx⟩,⟨_,bx⟩,hll2,hfl2,hct2,hlen2,hto⟩
        ·have hq2:¬HS.l ⟨lks,fnds,tds⟩ y=([]):=hq
         rw[if_neg hq2] at hto
         rw[decide_eq_false hq] at hsm
         repeat' (first|refine aQ ?_|exact eY|with_reducible refine aB ?_ ?_|((with_reducible refine Ask.mk ?_);first|exact dE|(exact hl2m)|(exact hf2m)|exact cd)|(apply aA;(·(first|exact e3 _|exact e4 _|exact e5 _|exact cL)))|refine aK (hsm) ?_|refine aH ?_|((with_reducible refine aE ?_ ?_)<;>intro hc<;>try(exfalso;omega)))
         exact⟨.inl ⟨y,rfl,by rw[<-hrun,<-hto]⟩⟩
       |false=>
        rw[if_pos hfd] at hto
        rw[show kg fnds y=false from hfd] at e5
        have hcts:=count_set (l:=fnds) (i:=y.toNat) (by rw[hfl2];exact k1) hfd
        repeat' (first|refine aQ ?_|exact eY|with_reducible refine aB ?_ ?_|((with_reducible refine Ask.mk ?_);first|exact dE|(exact hl2m)|(exact hf2m)|exact cd)|(apply aA;(·(first|exact e3 _|exact e4 _|exact e5 _|exact cL)))|refine aH ?_|((with_reducible refine aE ?_ ?_)<;>intro hc<;>try(exfalso;omega)))
        refine⟨(⟨lks.set y.toNat ([]),fnds.set y.toNat true,tds++[y]⟩,j+1),by dsimp only;omega,_,_,_,Rt.refl _ _ _,cH,by dsimp only;omega,cZ,⟨_,bx⟩,⟨_,by dsimp only;rw[<-kE];exact bx⟩,⟨_,by dsimp only;rw[<-mU];exact bx⟩,⟨_,by dsimp only;rw[<-fw];exact bx⟩,by simp[hll2],by simp[hfl2], ?_, ?_,hto⟩
        ·simp only[List.length_append,List.length_cons,List.length_nil];omega
        ·intro i
         rw[eM]
         split
         ·exact hnl
         ·exact hlen2 i
      ·have:j=(g.nd x.toNat).gO.length:=by omega
       subst this
       rw[List.drop_eq_nil_of_le (Nat.le_refl _),dQ] at hto
       have hnx2:=hnx _ _ hnow hto.symm
       repeat' (first|refine aQ ?_|exact aC|with_reducible refine aB ?_ ?_|(apply aA;(·exact cL))|refine aH ?_|((with_reducible refine aE ?_ ?_)<;>intro hc<;>try(exfalso;omega)))
       refine⟨(⟨lks,fnds,tds⟩,k+1),by dsimp only;omega,cH,⟨_,_,Wk.refl _ _ _,cZ,⟨_,bx⟩,⟨_,bx⟩,⟨_,bx⟩,⟨_,bx⟩,hnx2,by dsimp only;omega,hlen2, ?_⟩⟩
       rw[<-hrun,<-hto]
       dsimp only
       congr 1
       omega
     ·have hnow:dH (g.nd x.toNat) l=some l:=by unfold dH;rw[if_neg h5,if_neg h6,if_neg h91]
      have hnl:l.length<=k+1:=by omega
      rw[hnow] at hrun
      dsimp only at hrun
      repeat' (first|refine aQ ?_|exact eY|with_reducible refine aB ?_ ?_|((with_reducible refine Ask.mk ?_);first|exact dE|(exact hlm)|(exact htm)|(exact hil)|(refine lV (m:=1) rfl ?_;simp only[List.length_map];omega)|exact cd|(intro h;simp_all[cF.cells,Node.cells]<;>fail)|(simp_all[cF.cells,Node.cells]<;>fail))|(apply aA;(·(first|exact gU x1 _|exact e1 _|exact e2 _|exact cL)))|refine aK (hf) ?_|(simp only[h5])|(simp only[h6])|(simp only[h91])|refine aH ?_|((with_reducible refine aE ?_ ?_)<;>intro hc<;>try(exfalso;omega)))
      refine aS (fun q:HS×Nat=>[(1, .pt 0 1 0 0),(4, .sl 6 g.nodes.length),(5, .sl 11 g.nodes.length),(6, .sl 16 q.1.todo.length),(7,i64 k),(9, .im 1 .any ((l).map i64)),(10, .im 1 .any ((g.nd x.toNat).gO.map i64)),(11,i64 q.2)])
       (fun q H2 n2=>q.2<=(g.nd x.toNat).gO.length/\n+15<=n2/\(∃d,bu H2 0=some (.row 60 4 d [g.av]))/\(∃d,bu H2 6=some (.row 31 1 d (q.1.cB.map eu)))/\(∃d,bu H2 11=some (.row 4 1 d (q.1.found.map bl)))/\(∃d,bu H2 16=some (.row 3 1 d (q.1.todo.map i64)))/\q.1.cB.length=g.nodes.length/\q.1.found.length=g.nodes.length/\q.1.todo.length+q.1.found.count false=g.nodes.length/\(∀i,(q.1.cB.getD i []).length<=k+1)/\dQ (l) ((g.nd x.toNat).gO.drop q.2) q.1=dQ (l) (g.nd x.toNat).gO s)
       (fun q=>(g.nd x.toNat).gO.length - q.2) (s,0) ⟨_,_,_,Rt.vi 9 (n+14) (0+(l.map i64).length) (e:=3) (sz:=1) (es:=l.map i64) rfl bx (by simp),cH,Nat.zero_le _,cZ,⟨_,bx⟩,⟨_,bx⟩,⟨_,bx⟩,⟨_,bx⟩,hI.lK,hI.nu,hI.count,fun i=>Nat.le_succ_of_le (hlen i),rfl⟩ ?_
      clear r0 r6 r11 r16
      rintro⟨⟨lks,fnds,tds⟩,j⟩ H2 n2 ⟨hj,hn2,⟨d02,r0⟩,⟨d62,r6⟩,⟨d112,r11⟩,⟨d162,r16⟩,hll2,hfl2,hct2,hlen2,hto⟩
      dsimp only at hj hn2 r6 r11 r16 hll2 hfl2 hct2 hlen2 hto ⊢
      by_cases hjl:j<(g.nd x.toNat).gO.length
      ·have hm:=cT (0:Int) hjl
       obtain⟨k0,k1⟩:=(hw.2.2 x.toNat x1).2.2 _ hm
       have e3:=fun d=>iz (l:=(g.nd x.toNat).gO) hjl d
       rw[fm _ _ _ hjl] at hto
       generalize hy:(g.nd x.toNat).gO.getD j 0=y at *
       have hl2m:(lks.map eu).length=g.nodes.length:=by simp[hll2]
       have hf2m:(fnds.map bl).length=g.nodes.length:=by simp[hfl2]
       have e4:=fun d=>jo (l:=lks) (i:=y) (by rw[hll2];exact k1) d
       have e5:=fun d=>pK (l:=fnds) (k:=y) d (by rw[hfl2];exact k1)
       have hsm:=lr (lks.getD y.toNat []) (l) (by have:=hlen2 y.toNat;omega) (by omega)
       unfold eu at hsm
       cases hfd:HS.f ⟨lks,fnds,tds⟩ y with
       |true=>
        rw[if_neg (by rw[hfd];decide)] at hto
        rw[show kg fnds y=true from hfd] at e5
        by_cases hq:lks.getD y.toNat []=(l)
        ·have hq2:HS.l ⟨lks,fnds,tds⟩ y=(l):=hq
         rw[if_pos hq2] at hto
         rw[decide_eq_true hq] at hsm
         repeat' (first|refine aQ ?_|exact eY|with_reducible refine aB ?_ ?_|((with_reducible refine Ask.mk ?_);first|exact dE|(exact hl2m)|(exact hf2m)|exact cd)|(apply aA;(·(first|exact e3 _|exact e4 _|exact e5 _|exact cL)))|refine aK (hsm) ?_|refine aH ?_|((with_reducible refine aE ?_ ?_)<;>intro hc<;>try(exfalso;omega)))
         exact⟨(⟨lks,fnds,tds⟩,j+1),by dsimp only;omega,_,_,_,Rt.refl _ _ _,cH,by dsimp only;omega,cZ,⟨_,bx⟩,⟨_,bx⟩,⟨_,bx⟩,⟨_,bx⟩,hll2,hfl2,hct2,hlen2,hto⟩
        ·have hq2:¬HS.l ⟨lks,fnds,tds⟩ y=(l):=hq
         rw[if_neg hq2] at hto
         rw[decide_eq_false hq] at hsm
         repeat' (first|refine aQ ?_|exact eY|with_reducible refine aB ?_ ?_|((with_reducible refine Ask.mk ?_);first|exact dE|(exact hl2m)|(exact hf2m)|exact cd)|(apply aA;(·(first|exact e3 _|exact e4 _|exact e5 _|exact cL)))|refine aK (hsm) ?_|refine aH ?_|((with_reducible refine aE ?_ ?_)<;>intro hc<;>try(exfalso;omega)))
         exact⟨.inl ⟨y,rfl,by rw[<-hrun,<-hto]⟩⟩
       |false=>
        rw[if_pos hfd] at hto
        rw[show kg fnds y=false from hfd] at e5
        have hcts:=count_set (l:=fnds) (i:=y.toNat) (by rw[hfl2];exact k1) hfd
        repeat' (first|refine aQ ?_|exact eY|with_reducible refine aB ?_ ?_|((with_reducible refine Ask.mk ?_);first|exact dE|(exact hl2m)|(exact hf2m)|exact cd)|(apply aA;(·(first|exact e3 _|exact e4 _|exact e5 _|exact cL)))|refine aH ?_|((with_reducible refine aE ?_ ?_)<;>intro hc<;>try(exfalso;omega)))
        refine⟨(⟨lks.set y.toNat (l),fnds.set y.toNat true,tds++[y]⟩,j+1),by dsimp only;omega,_,_,_,Rt.refl _ _ _,cH,by dsimp only;omega,cZ,⟨_,bx⟩,⟨_,by dsimp only;rw[<-kE];exact bx⟩,⟨_,by dsimp only;rw[<-mU];exact bx⟩,⟨_,by dsimp only;rw[<-fw];exact bx⟩,by simp[hll2],by simp[hfl2], ?_, ?_,hto⟩
        ·simp only[List.length_append,List.length_cons,List.length_nil];omega
        ·intro i
         rw[eM]
         split
         ·exact hnl
         ·exact hlen2 i
      ·have:j=(g.nd x.toNat).gO.length:=by omega
       subst this
       rw[List.drop_eq_nil_of_le (Nat.le_refl _),dQ] at hto
       have hnx2:=hnx _ _ hnow hto.symm
       repeat' (first|refine aQ ?_|exact aC|with_reducible refine aB ?_ ?_|(apply aA;(·exact cL))|refine aH ?_|((with_reducible refine aE ?_ ?_)<;>intro hc<;>try(exfalso;omega)))
       refine⟨(⟨lks,fnds,tds⟩,k+1),by dsimp only;omega,cH,⟨_,_,Wk.refl _ _ _,cZ,⟨_,bx⟩,⟨_,bx⟩,⟨_,bx⟩,⟨_,bx⟩,hnx2,by dsimp only;omega,hlen2, ?_⟩⟩
       rw[<-hrun,<-hto]
       dsimp only
       congr 1
       omega
 ·have hkt:s.todo.length<=k:=by omega
  have hrun2:eF g=(s.cB,-1):=by
   rw[<-hrun,show g.nodes.length+1 - k=(g.nodes.length - k)+1 by omega,fc,if_neg hk]
  repeat' (first|refine aQ ?_|exact aC|with_reducible refine aB ?_ ?_|(apply aA;(·exact cL))|refine aH ?_|((with_reducible refine aE ?_ ?_)<;>intro hc<;>try(exfalso;omega)))
  exact⟨.inr ⟨6,d6,s.cB,by rw[hI.lK],hrun2,bx⟩⟩
theorem CU (g:cF) (hg:g.Wf) (hw:Whole g):Pure Tryz.prog 78 [g.av] (fun r=>r=jm (eF g)):=by
 have h:=CT g hg hw
 have fL:∀L:List (List Int),cX 0 (L.map eu):=fun L=>(cD _ _).2 fun _ _=>by simp[eu,cK,cD]
 have fh:∀r,cK 0 (jm r):=fun r=>by simp only[jm,cK,cX];exact⟨fL _,trivial,trivial⟩
 by_cases hc:(eF g).1=[]
 ·refine xH (u:= .dD [.sc (.slice none 0 0),i64 (eF g).2]) (pure_or (h.mono ?_) (by simp[cK,cX]) (fh _)) (fh _) fun c=> ?_
  ·rintro r H n (⟨a,rfl,e⟩|⟨b,d,L,rfl,e,hb⟩)
   ·left;rw[e];exact dM _ (by simp[cK,cX])
   ·right
    rw[e]
    have e1:cu.dX H 6 (.dD [.sl b L.length,i64 (-1)])= .dD [cu.dX H 5 (.sl b L.length),i64 (-1)]:=by
     simp only[dX,List.map_cons,List.map_nil]
    rw[e1,dI hb (by simp),cn _ (fL L)]
    rfl
  ·unfold jm
   rw[hc]
   intro v hv
   rw[VR] at hv ⊢
   obtain⟨vs,rfl,hv⟩:=hv
   refine⟨vs,rfl, ?_⟩
   rw[ct] at hv ⊢
   obtain⟨v1,vs1,e1,h1,h2⟩:=hv
   exact⟨v1,vs1,e1,cu.dV.jw c c 1 .any _ h1,h2⟩
 ·refine cm (h.mono ?_) (fh _)
  rintro r H n (⟨a,rfl,e⟩|⟨b,d,L,rfl,e,hb⟩)
  ·rw[e] at hc;exact absurd rfl hc
  ·rw[e]
   have e1:cu.dX H 6 (.dD [.sl b L.length,i64 (-1)])= .dD [cu.dX H 5 (.sl b L.length),i64 (-1)]:=by
    simp only[dX,List.map_cons,List.map_nil]
   rw[e1,dI hb (by simp),cn _ (fL L)]
   rfl
theorem xC (acc:List ByteArray) (l:List Decl) (w:Bool):tj acc l w=(eh acc (l.map Decl.name)&&(w||l.all fun d=>decide (d.word=0))):=by
 induction l generalizing acc with
 |nil=>simp[tj,eh]
 |cons d r ih=>
  rw[tj,List.map_cons,eh,ih,List.all_cons]
  cases fZ d.name<;>cases w<;>cases ft acc d.name<;>cases decide (d.word=0)<;>cases eh (acc++[d.name]) (r.map Decl.name)<;>simp
theorem sQ (acc a b:List ByteArray):eh acc (a++b)=(eh acc a&&eh (acc++a) b):=by
 induction a generalizing acc with
 |nil=>simp[eh]
 |cons s r ih=>
  rw[List.cons_append,eh,eh,ih,List.append_assoc,List.singleton_append]
  split<;>simp
def j5 (u:bz):List Decl:=u.bw.map fun g=>⟨g.name,0,0⟩
theorem IC (u:bz):(j5 u).map Decl.name=u.bw.map cF.name:=by simp[j5,List.map_map,Function.comp_def]
theorem kA (u:bz):(j5 u).length=u.bw.length:=by simp[j5]
theorem ID {u:bz} {t:Nat} (h:t<u.bw.length):(j5 u).take (t+1)=(j5 u).take t++[⟨(u.gr t).name,0,0⟩]:=by
 rw[List.take_succ_eq_append_getElem (by rw[kA];exact h)]
 simp[j5,bz.gr,List.getD,h]
theorem RU (u:bz) (h1:u.shared.length<=64) (h2:u.cB.length<=16) (h3:u.bw.length<=8) {L1 L2:List ByteArray}
 (e1:L1=if tj [] u.shared true=true then[]++u.shared.map Decl.name else[])
 (e2:L2=if tj L1 u.cB false=true then L1++u.cB.map Decl.name else[]):
 (tj [] u.shared true&&tj L1 u.cB false&&tj L2 (j5 u) false)=fF u:=by
 unfold fF
 rw[decide_eq_true h1,decide_eq_true h2,decide_eq_true h3,cy,sQ,sQ]
 have ht:(j5 u).all (fun d=>decide (d.word=0))=true:=by simp[j5]
 rw[xC L2,ht,IC,Bool.or_true,Bool.and_true]
 rw[xC []] at e1 ⊢
 rw[xC L1] at e2 ⊢
 simp only[Bool.true_or,Bool.and_true,List.nil_append,Bool.true_and,Bool.false_or] at e1 e2 ⊢
 cases ha:eh [] (u.shared.map Decl.name) with
 |false=>simp
 |true=>
  rw[ha,if_pos rfl] at e1
  subst e1
  cases hb:eh (u.shared.map Decl.name) (u.cB.map Decl.name) with
  |false=>simp
  |true=>
   rw[hb] at e2
   cases hc:u.cB.all (fun d=>decide (d.word=0)) with
   |false=>simp
   |true=>
    rw[hc,if_pos (by rfl)] at e2
    subst e2
    simp
theorem Wk.PD {a a2:AV} {l:List AV} {H H2:Hp} {nx nx2:Nat} (h:Wk a H nx a2 H2 nx2):Wk (.dD (a::l)) H nx (.dD (a2::l)) H2 nx2:=by
 intro w0 ρ U w M0 hU hS
 obtain⟨ρ2,U2,k1,k2,k3,k4⟩:=h w0 ρ U w M0 hU hS
 refine⟨ρ2,U2,k1,k2,k3,fun v hv=> ?_⟩
 rw[VR] at hv ⊢
 obtain⟨vs,rfl,hv⟩:=hv
 refine⟨vs,rfl, ?_⟩
 rw[ct] at hv ⊢
 obtain⟨v1,vs1,e1,h1,h2⟩:=hv
 exact⟨v1,vs1,e1,k4 _ h1,ct.c8 k3 h2⟩
theorem xO (l:List Decl) (hl:l.length<=64) (hw:∀d∈l,d.Wf) (a0:List ByteArray) (ha:a0.length<=1000) (w:Bool) (nv0:AV) (H0:Hp) (nx:Nat) (ht0:DR nv0 a0 H0 nx):cS Tryz.prog 76 [cE l,nv0,bl w] H0 nx (fun r H n=>∃b d L,r= .dD [.sl b L.length,bl (tj a0 l w)]/\b<n/\bu H b=some (.row 9 1 d (strs L))/\L=(if tj a0 l w=true then a0++l.map Decl.name else[])/\nx<=n/\∀y,y<nx->ig nv0 y->bu H y=bu H0 y/\y≠b):=by
 refine(z7 l hl hw a0 ha w nv0 H0 nx ht0).wk ?_
 rintro r H n ⟨h1,h2,h3,h4⟩
 have hnil:∀bb:Bool,∀L:List ByteArray,L=[]->∃r2 H2 n2,Wk (.dD [.sc (.slice none 0 0),bl bb]) H n r2 H2 n2/\∃b d,r2= .dD [.sl b L.length,bl bb]/\b<n2/\bu H2 b=some (.row 9 1 d (strs L))/\nx<=n2/\∀y,y<nx->ig nv0 y->bu H2 y=bu H0 y/\y≠b:=by
  rintro bb L rfl
  refine⟨_,_,_,Wk.PD (Wk.nil 9 1 .any (by omega)),n, .any,rfl,Nat.lt_succ_self _,cY _ _ _,Nat.le_succ_of_le h1,fun y a b=> ?_⟩
  have hne:y≠n:=by omega
  exact⟨(cN hne).trans (h2 y a b),hne⟩
 cases hk:tj a0 l w with
 |true=>
  obtain⟨nv,rfl,ht,hy⟩:=h3 hk
  rcases ht with⟨rfl,hL⟩|⟨b,d,rfl,hbn,hb⟩
  ·obtain⟨r2,H2,n2,k1,b,d,k2,k3,k4,k5,k6⟩:=hnil true _ hL
   exact⟨r2,H2,n2,k1,b,d,_,k2,k3,k4,by rw[if_pos rfl],k5,k6⟩
  ·exact⟨_,_,_,Wk.refl _ _ _,b,d,_,rfl,hbn,hb,by rw[if_pos rfl],h1,fun y a c=>⟨h2 y a c,xq (hy y a c)⟩⟩
 |false=>
  rw[h4 hk]
  obtain⟨r2,H2,n2,k1,b,d,k2,k3,k4,k5,k6⟩:=hnil false [] rfl
  exact⟨r2,H2,n2,k1,b,d,_,k2,k3,k4,by rw[if_neg (by decide)],k5,k6⟩
set_option maxRecDepth 8000 in
set_option maxHeartbeats 8000000 in
theorem rX (u:bz) (hu:u.Wf):Pure Tryz.prog 37 [u.av] (fun r=>r=sa (gz u)):=by
 refine aD X5 rfl ?_
 have hgl9:=hu.vd
 have hsl9:=hu.qq
 have hll9:=hu.tW
 by_cases hsz:u.shared.length<=64/\u.cB.length<=16/\u.bw.length<=8
 ·obtain⟨hs1,hs2,hs3⟩:=hsz
  have hgm:(u.bw.map cF.av).length=u.bw.length:=by simp
  repeat' (first|refine aQ ?_|exact eY|with_reducible refine aB ?_ ?_|((with_reducible refine Ask.mk ?_);first|exact dE|exact cd|(intro h;simp_all[bz.cells]<;>fail)|(simp_all[bz.cells]<;>fail))|(apply aA;(·exact cL))|refine aH ?_|((with_reducible refine aE ?_ ?_)<;>intro hc<;>try(exfalso;omega)))
  all_goals first|(exfalso;omega)|skip
  refine aS (fun σ:Nat×AV=>[(1, .pt 0 1 0 0),(5,σ.2),(6,i64 σ.1)])
   (fun σ H n=>23<=n/\(∃d,bu H 0=some (.row 25 3 d [u.av]))/\((σ.1<u.bw.length/\σ.2= .sl 22 σ.1/\∃d,bu H 22=some (.row 85 3 d (((j5 u).take σ.1).map Decl.av)))\/(σ.1=u.bw.length/\σ.2=cE (j5 u)))) (fun σ=>u.bw.length - σ.1) (0,if u.bw.length=0 then cE (j5 u) else .sl 22 0) ?_ ?_
  ·by_cases h0:u.bw.length=0
   ·have hz:j5 u=[]:=List.length_eq_zero_iff.1 (by rw[kA];exact h0)
    rw[if_pos h0,hz]
    exact⟨_,_,_,(Rt.nil 5 85 3 (by omega) rfl).trans (Rt.vi 5 22 0 (e:=85) (sz:=3) (d:= .any) (es:=[]) rfl bx rfl),cH,cZ,⟨_,bx⟩, .inr ⟨h0.symm,rfl⟩⟩
   ·rw[if_neg h0]
    exact⟨_,_,_,Rt.nil 5 85 3 (by omega) rfl,cH,cZ,⟨_,bx⟩, .inl ⟨by dsimp only;omega,rfl,_,by simp only[List.take_zero,List.map_nil];exact bx⟩⟩
  clear hc
  rintro⟨t,av⟩ H n ⟨hn,⟨d0,r0⟩,hst⟩
  dsimp only at hst ⊢
  rcases hst with⟨htl,rfl,d5,r5⟩|⟨ht,rfl⟩
  ·have eg:=fun d=>mi (l:=u.bw) htl d
   rw[show u.bw.getD t default=u.gr t from rfl] at eg
   have hnx:=ID htl
   have htm:(((j5 u).take t).map Decl.av).length=t:=by rw[List.length_map,List.length_take,kA];omega
   have hap:(((j5 u).take t).map Decl.av)++[(⟨(u.gr t).name,0,0⟩:Decl).av]=(((j5 u).take (t+1)).map Decl.av):=by rw[hnx];simp
   have hal:(((j5 u).take (t+1)).map Decl.av).length=t+1:=by rw[List.length_map,List.length_take,kA];omega
   have hap2:=hap
   unfold Decl.av Decl.cells at hap2
   repeat' (first|refine aQ ?_|exact eY|with_reducible refine aB ?_ ?_|((with_reducible refine Ask.mk ?_);first|exact dE|(exact hgm)|(exact htm)|exact cd|(intro h;simp_all[bz.cells,cF.cells]<;>fail)|(simp_all[bz.cells,cF.cells]<;>fail))|(apply aA;(·(first|exact eg _|exact cL)))|refine aH ?_|((with_reducible refine aE ?_ ?_)<;>intro hc<;>try(exfalso;omega)))
   by_cases hlast:t+1=u.bw.length
   ·have hz:(j5 u).take (t+1)=j5 u:=List.take_of_length_le (by rw[kA];omega)
    rw[hz] at hap
    exact⟨(t+1,cE (j5 u)),by dsimp only;omega,_,_,_,Rt.vi 5 22 (t+1) (e:=85) (sz:=3) (es:=(j5 u).map Decl.av) rfl (by rw[<-hap];exact bx) (by rw[List.length_map,kA];omega),cH,cZ,⟨_,bx⟩, .inr ⟨hlast,rfl⟩⟩
   ·exact⟨(t+1, .sl 22 (t+1)),by dsimp only;omega,_,_,_,Rt.refl _ _ _,cH,cZ,⟨_,bx⟩, .inl ⟨by dsimp only;omega,rfl,_,by dsimp only;rw[<-hap];exact bx⟩⟩
  ·subst ht
   repeat' (first|refine aQ ?_|exact eY|with_reducible refine aB ?_ ?_|((with_reducible refine Ask.mk ?_);first|exact dE|(exact hgm)|exact cd|(intro h;simp_all[bz.cells]<;>fail)|(simp_all[bz.cells]<;>fail))|(apply aA;(·exact cL))|refine aH ?_|((with_reducible refine aE ?_ ?_)<;>intro hc<;>try(exfalso;omega)))
   refine aF (xO u.shared hs1 hu.shared [] (by simp) true _ _ _ (.inl ⟨rfl,rfl⟩)) ?_
   rintro _ H1 n1 ⟨b1,d1,L1,rfl,hb1,hr1,hL1,hn1,hy1⟩
   obtain⟨k1,a1⟩:=hy1 0 (by first|omega|exact cZ) (fun b' n' e=>by cases e)
   have r1:∃d,bu H1 0=some (.row 25 3 d [u.av]):=⟨_,k1.trans bx⟩
   have hnn1:23<=n1:=Nat.le_trans (by first|omega|exact cZ) hn1
   have hl1:L1.length<=64:=by rw[hL1];split<;>simp<;>omega
   clear k1 hy1 r0 hn1
   obtain⟨d1',r1⟩:=r1
   generalize hok1:tj [] u.shared true=o1 at *
   repeat' (first|refine aQ ?_|exact eY|with_reducible refine aB ?_ ?_|((with_reducible refine Ask.mk ?_);first|exact dE|exact cd|(intro h;simp_all[bz.cells]<;>fail)|(simp_all[bz.cells]<;>fail))|(apply aA;(·exact cL))|refine aH ?_|((with_reducible refine aE ?_ ?_)<;>intro hc<;>try(exfalso;omega)))
   refine aF (xO u.cB (by omega) hu.cB L1 (by omega) false _ _ _ (.inr ⟨b1,_,rfl,Nat.lt_of_lt_of_le hb1 cZ,bx⟩)) ?_
   rintro _ H2 n2 ⟨b2,d2,L2,rfl,hb2,hr2,hL2,hn2,hy2⟩
   obtain⟨k2,a2⟩:=hy2 0 (by first|omega|exact cZ) (fun b' n' e=>by cases e;exact a1)
   have r2:∃d,bu H2 0=some (.row 25 3 d [u.av]):=⟨_,k2.trans bx⟩
   have hnn2:23<=n2:=Nat.le_trans (by first|omega|exact cZ) hn2
   have hl2:L2.length<=128:=by rw[hL2];split<;>simp<;>omega
   clear k2 hy2 r1 hr1 hn2
   obtain⟨d2',r2⟩:=r2
   generalize hok2:tj L1 u.cB false=o2 at *
   repeat' (first|refine aQ ?_|exact eY|with_reducible refine aB ?_ ?_|((with_reducible refine Ask.mk ?_);first|exact dE|exact cd|(intro h;simp_all[bz.cells]<;>fail)|(simp_all[bz.cells]<;>fail))|(apply aA;(·exact cL))|refine aH ?_|((with_reducible refine aE ?_ ?_)<;>intro hc<;>try(exfalso;omega)))
   refine aF (xO (j5 u) (by rw[kA];omega) (fun d hd=> ?_) L2 (by omega) false _ _ _ (.inr ⟨b2,_,rfl,Nat.lt_of_lt_of_le hb2 cZ,bx⟩)) ?_
   ·obtain⟨g,hg,rfl⟩:=List.mem_map.1 hd
    have hz:eT 0:=by unfold eT;omega
    exact⟨(hu.bw g hg).name,hz,hz⟩
   rintro _ H3 n3 ⟨b3,d3,L3,rfl,hb3,hr3,hL3,hn3,hy3⟩
   obtain⟨k3,a3⟩:=hy3 0 (by first|omega|exact cZ) (fun b' n' e=>by cases e;exact a2)
   have r3:∃d,bu H3 0=some (.row 25 3 d [u.av]):=⟨_,k3.trans bx⟩
   have hnn3:23<=n3:=Nat.le_trans (by first|omega|exact cZ) hn3
   clear k3 hy3 r2 hr2 hr3 hn3
   obtain⟨d3',r3⟩:=r3
   generalize hok3:tj L2 (j5 u) false=o3 at *
   have hnm:(o1&&o2&&o3)=fF u:=by
    rw[<-RU u hs1 hs2 hs3 (L1:=L1) (L2:=L2) (by rw[hok1];exact hL1) (by rw[hok2];exact hL2),hok1,hok2,hok3]
   clear hL1 hL2 hL3 hok1 hok2 hok3
   cases hnb:fF u with
   |false=>
    rw[lX hnb]
    rw[hnb] at hnm
    repeat' (first|refine aQ ?_|exact eY|with_reducible refine aB ?_ ?_|((with_reducible refine Ask.mk ?_);first|exact dE|exact cd|(intro h;simp_all[bz.cells]<;>fail)|(simp_all[bz.cells]<;>fail))|(apply aA;(·exact cL))|refine aH ?_|((with_reducible refine aE ?_ ?_)<;>intro hc<;>try(exfalso;omega)))
    ·exact rfl
    ·exfalso
     obtain⟨hc1,hc2⟩:=hc
     subst hc2
     cases o1<;>cases o2<;>simp_all
   |true=>
    rw[hnb] at hnm
    have e1:o1=true:=by cases o1;cases hnm;rfl
    have e2:o2=true:=by cases o2;cases o1<;>cases hnm;rfl
    have e3:o3=true:=by cases o3;cases o1<;>cases o2<;>cases hnm;rfl
    subst e1;subst e2;subst e3
    have hck:gz u=fE u u.bw 0:=by unfold gz;rw[if_pos hnb]
    rw[hck]
    repeat' (first|refine aQ ?_|exact eY|with_reducible refine aB ?_ ?_|((with_reducible refine Ask.mk ?_);first|exact dE|exact cd|(intro h;simp_all[bz.cells]<;>fail)|(simp_all[bz.cells]<;>fail))|(apply aA;(·exact cL))|refine aH ?_|((with_reducible refine aE ?_ ?_)<;>intro hc<;>try(exfalso;omega)))
    refine aN (fun t:Nat=>[(1, .pt 0 1 0 0),(12,i64 t)])
     (fun t H n=>t<=u.bw.length/\1<=n/\(∃d,bu H 0=some (.row 25 3 d [u.av]))/\fE u (u.bw.drop t) t=fE u u.bw 0) (fun t=>u.bw.length - t) 0 cH ⟨Nat.zero_le _,cZ,⟨_,bx⟩,rfl⟩ ?_
    clear r3
    rintro t H n ⟨ht,hn,⟨d0,r0⟩,hF⟩
    by_cases htl:t<u.bw.length
    ·have hg:=hu.bw _ (cT default htl)
     rw[pW htl] at hF
     have eg:=fun d=>mi htl d
     generalize hG:u.bw.getD t default=g at *
     have hl:=hg.len
     have hnm':(g.nodes.map Node.av).length=g.nodes.length:=by simp
     unfold mj at hF
     by_cases hb:g.locals<0\/g.locals>64\/g.cA<g.locals\/g.cA>4160\/g.nodes.length<1\/g.nodes.length>4096
     ·rw[if_pos hb] at hF
      rw[<-hF]
      repeat' (first|refine aQ ?_|exact eY|with_reducible refine aB ?_ ?_|((with_reducible refine Ask.mk ?_);first|exact dE|(exact hgm)|(exact hnm')|exact cd|(intro h;simp_all[bz.cells,cF.cells]<;>fail)|(simp_all[bz.cells,cF.cells]<;>fail))|(apply aA;(·(first|exact eg _|exact cL)))|refine aH ?_|((with_reducible refine aE ?_ ?_)<;>intro hc<;>try(exfalso;omega)))
      all_goals first|exact rfl|(exfalso;omega)
     ·rw[if_neg hb] at hF
      repeat' (first|refine aQ ?_|exact eY|with_reducible refine aB ?_ ?_|((with_reducible refine Ask.mk ?_);first|exact dE|(exact hgm)|(exact hnm')|exact cd|(intro h;simp_all[bz.cells,cF.cells]<;>fail)|(simp_all[bz.cells,cF.cells]<;>fail))|(apply aA;(·(first|exact eg _|exact cL)))|refine aH ?_|((with_reducible refine aE ?_ ?_)<;>intro hc<;>try(exfalso;omega)))
      all_goals first|(exfalso;omega)|skip
      refine aN (fun i:Nat=>[(1, .pt 0 1 0 0),(12,i64 t),(13, .pt (n+10) 1 0 0),(14,i64 i)])
       (fun i H2 n2=>i<=g.nodes.length/\n+11<=n2/\(∃d,bu H2 0=some (.row 25 3 d [u.av]))/\(∃d,bu H2 (n+10)=some (.row 60 4 d [g.av]))/\fq (iY u g) (g.nodes.drop i) i=fq (iY u g) g.nodes 0) (fun i=>g.nodes.length - i) 0 cH ⟨Nat.zero_le _,cZ,⟨_,bx⟩,⟨_,bx⟩,rfl⟩ ?_
      clear r0
      rintro i H2 n2 ⟨hi,hn2,⟨d02,r0⟩,⟨d4,r4⟩,hfst⟩
      by_cases hil:i<g.nodes.length
      ·have hp:=CZ u g (g.nodes.getD i default) (hg.nodes _ (cT default hil))
       have en:=fun d=>gU hil d
       have hfst2:=tG default hfst hil
       cases hnb:iY u g (g.nodes.getD i default) with
       |false=>
        rw[hnb] at hp
        rw[if_neg (by rw[hnb];decide)] at hfst2
        rw[hfst2] at hF
        rw[<-hF]
        repeat' (first|refine aQ ?_|exact eY|with_reducible refine aB ?_ ?_|((with_reducible refine Ask.mk ?_);first|exact dE|(exact hnm')|exact cd|(intro h;simp_all[bz.cells,cF.cells,Node.cells]<;>fail)|(simp_all[bz.cells,cF.cells,Node.cells]<;>fail))|(apply aA;(·(first|exact en _|exact cL)))|refine aK (hp) ?_|refine aH ?_|((with_reducible refine aE ?_ ?_)<;>intro hc<;>try(exfalso;omega)))
        exact rfl
       |true=>
        rw[hnb] at hp
        rw[if_pos hnb] at hfst2
        repeat' (first|refine aQ ?_|exact eY|with_reducible refine aB ?_ ?_|((with_reducible refine Ask.mk ?_);first|exact dE|(exact hnm')|exact cd|(intro h;simp_all[bz.cells,cF.cells,Node.cells]<;>fail)|(simp_all[bz.cells,cF.cells,Node.cells]<;>fail))|(apply aA;(·(first|exact en _|exact cL)))|refine aK (hp) ?_|refine aH ?_|((with_reducible refine aE ?_ ?_)<;>intro hc<;>try(exfalso;omega)))
        exact⟨i+1,by omega,cH,by omega,cZ,⟨_,bx⟩,⟨_,bx⟩,hfst2.symm⟩
      ·have:i=g.nodes.length:=by omega
       subst this
       rw[tF _ _ (Nat.le_refl _)] at hfst
       rw[<-hfst] at hF
       dsimp only at hF
       have hok:Whole g:=uM (u:=u) (by omega) fun m hm=>nh.1 (jF.1 hfst.symm m hm)
       have hh:=CU g hg hok
       unfold jm at hh
       by_cases hb2:0<=(eF g).2
       ·rw[if_pos hb2] at hF
        rw[<-hF]
        repeat' (first|refine aQ ?_|exact eY|with_reducible refine aB ?_ ?_|((with_reducible refine Ask.mk ?_);first|exact dE|(exact hnm')|exact cd|(intro h;simp_all[bz.cells,cF.cells]<;>fail)|(simp_all[bz.cells,cF.cells]<;>fail))|(apply aA;(·exact cL))|refine aK (hh) ?_|refine aH ?_|((with_reducible refine aE ?_ ?_)<;>intro hc<;>try(exfalso;omega)))
        exact rfl
       ·rw[if_neg hb2] at hF
        repeat' (first|refine aQ ?_|exact eY|with_reducible refine aB ?_ ?_|((with_reducible refine Ask.mk ?_);first|exact dE|(exact hnm')|exact cd|(intro h;simp_all[bz.cells,cF.cells]<;>fail)|(simp_all[bz.cells,cF.cells]<;>fail))|(apply aA;(·exact cL))|refine aK (hh) ?_|refine aH ?_|((with_reducible refine aE ?_ ?_)<;>intro hc<;>try(exfalso;omega)))
        exact⟨t+1,by omega,cH,by omega,by omega,⟨_,bx⟩,hF⟩
    ·have:t=u.bw.length:=by omega
     subst this
     rw[List.drop_eq_nil_of_le (Nat.le_refl _),fE] at hF
     rw[<-hF]
     repeat' (first|refine aQ ?_|exact eY|with_reducible refine aB ?_ ?_|((with_reducible refine Ask.mk ?_);first|exact dE|(exact hgm)|exact cd|(intro h;simp_all[bz.cells]<;>fail)|(simp_all[bz.cells]<;>fail))|(apply aA;(·exact cL))|refine aH ?_|((with_reducible refine aE ?_ ?_)<;>intro hc<;>try(exfalso;omega)))
     exact rfl
 ·have hb:fF u=false:=by
   unfold fF
   by_cases e1:u.shared.length<=64
   ·by_cases e2:u.cB.length<=16
    ·have e3:¬u.bw.length<=8:=fun e=>hsz ⟨e1,e2,e⟩
     simp[e3]
    ·simp[e2]
   ·simp[e1]
  rw[lX hb]
  repeat' (first|refine aQ ?_|exact eY|with_reducible refine aB ?_ ?_|((with_reducible refine Ask.mk ?_);first|exact dE|exact cd|(intro h;simp_all[bz.cells]<;>fail)|(simp_all[bz.cells]<;>fail))|(apply aA;(·exact cL))|refine aH ?_|((with_reducible refine aE ?_ ?_)<;>intro hc<;>try(exfalso;omega)))
  all_goals first|exact rfl|(exfalso;omega)
def mL (h:Int->Int) (frst:Int):Nat->List Int->Int->Option (List Int)
 |0,out,t=>if t=frst then some out else none
 |f+1,out,t=>if t=frst then some out else if t<0 then none else mL h frst f (out++[t]) (h t)
theorem vE {h:Int->Int} {frst:Int} {S:Int->Prop} (hS:∀x,S x->S (h x)) (hn:∀x,S x->x≠frst):∀(f:Nat) (out:List Int) (t:Int),S t->mL h frst f out t=none
 |0,out,t,ht=>by rw[mL,if_neg (hn t ht)]
 |f+1,out,t,ht=>by
  rw[mL,if_neg (hn t ht)]
  split
  ·rfl
  ·exact vE hS hn f _ _ (hS t ht)
theorem ij.lost {h:Int->Int} {frst t:Int} {out:List Int} (g:ij h frst out) (ht:t=h (out.getD (out.length - 1) 0)) (htn:t≠frst) (hm:t∈out) (f:Nat) (o2:List Int):mL h frst f o2 t=none:=by
 have hp:=g.pos
 refine vE (S:=fun x=>x∈out/\x≠frst) ?_ (fun x hx=>hx.2) f o2 t ⟨hm,htn⟩
 rintro x ⟨hx,hxn⟩
 obtain⟨i,hi,rfl⟩:=wx hx
 by_cases e:i+1<out.length
 ·rw[g.on i e]
  refine⟨cT 0 e,fun h0=> ?_⟩
  rw[<-g.zero] at h0
  have:=pg g.nd e hp h0
  omega
 ·rw[show i=out.length - 1 by omega,<-ht]
  exact⟨hm,htn⟩
theorem vF {h:Int->Int} {frst:Int}:∀(f:Nat) (out:List Int) (t:Int),ij h frst out->t=h (out.getD (out.length - 1) 0)->mL h frst f out t=jR h frst f out t
 |0,out,t,g,ht=>rfl
 |f+1,out,t,g,ht=>by
  rw[mL,jR]
  by_cases e:t=frst
  ·rw[if_pos e,if_pos e]
  ·rw[if_neg e,if_neg e]
   by_cases h0:t<0
   ·rw[if_pos h0,if_pos (.inl h0)]
   ·rw[if_neg h0]
    by_cases hm:t∈out
    ·rw[if_pos (.inr hm)]
     have:=g.lost ht e hm (f+1) out
     rw[mL,if_neg e,if_neg h0] at this
     exact this
    ·rw[if_neg fun h=>h.elim h0 hm]
     refine vF f _ _ (g.more ht (by omega) hm) ?_
     rw[List.length_append,List.length_cons,List.length_nil,Nat.add_sub_cancel,fI]
theorem zh (u:bz) (hr:ca u) (m:MS) (h:eH u m) {t:Nat} (ht:t<u.bw.length):Pure Tryz.prog 91 [m.av u,i64 t] (fun r=>r=i64 (dJ u m t)):=by
 have c0:=oq u m hr.oW.2.2 h ht
 have hno:=h.node hr ht
 have hh:dJ u m (t:Int)=if(m.node u t).kind=5 then m.hold.getD (m.node u t).cG.toNat 0 else -1:=by
  unfold dJ;rw[Int.toNat_natCast]
 rw[hh]
 have hl:=h.hl
 have a0:(m.hold.map i64).length=u.cB.length:=by simp[hl]
 generalize m.node u t=n at *
 by_cases h5:n.kind=5
 ·obtain⟨x0,x1⟩:=fW hno (.inl h5)
  have e0:∀d,(m.hold.map i64).getD n.cG.toNat d=i64 (m.hold.getD n.cG.toNat 0):=fun d=>dN i64 _ _ d (by omega)
  rw[if_pos h5]
  have r0:decide (n.kind≠5)=false:=decide_eq_false fun e=>e h5
  refine aD WG rfl ?_
  refine cV ?_
  first|exact rfl|trivial
 ·rw[if_neg h5]
  have r0:decide (n.kind≠5)=true:=decide_eq_true h5
  refine aD WG rfl ?_
  refine cV ?_
  first|exact rfl|trivial
def tQ (q:Option (List Int)):AV:=match q with
 |none=> .dD [.sc (.slice none 0 0),bl false]
 |some l=> .dD [cR l,bl true]
theorem BV {H:Hp} {b:Nat} {e:TypeId} {d:AV} {l:List Int} (h:bu H b=some (.row e 1 d (l.map i64))):cu.dX H 6 (.dD [.sl b l.length, .sc (.bool true)])=tQ (some l):=by
 show AV.dD [cu.dX H 5 (.sl b l.length),bl true]=_
 rw[dI (k:=4) h (by simp),cn _ ((cD _ _).2 fun _ _=>by simp[cK])]
 rfl
theorem qf (u:bz) (hr:ca u) (m:MS) (h:eH u m) {t:Int} (ht:0<=t/\t<u.bw.length):-1<=dJ u m t/\dJ u m t<u.bw.length:=nX hr h ht
set_option maxHeartbeats 4000000 in
theorem uc (u:bz) (hr:ca u) (m:MS) (h:eH u m):Pure Tryz.prog 53 [m.av u] (fun r=>r=tQ (gR u m)):=by
 have hgl:=hr.oW.2.2
 have a0:(u.bw.map cF.av).length=u.bw.length:=List.length_map _
 have hcw:∀x:Int,0<=x->x<u.bw.length->Pure Tryz.prog 91 [m.av u,i64 x] (fun r=>r=i64 (dJ u m x)):=fun x h0 h1=>by
  obtain⟨k,rfl⟩:∃k:Nat,x=k:=⟨x.toNat,by omega⟩
  exact zh u hr m h (by omega)
 refine cm ?_ (by cases gR u m<;>simp[tQ,cK,cX,cD])
 refine aI YB rfl ?_
 refine cV ?_
 refine aN (fun t:Nat=>[(1, .pt 0 1 0 0),(4,i64 t)]) (fun t H n=>t<=u.bw.length/\1<=n/\gS u m t=none/\∃d,bu H 0=some (.row 96 8 d [m.av u])) (fun t=>u.bw.length - t) 0
  cH ⟨Nat.zero_le _,cZ,rfl,⟨_,bx⟩⟩ ?_
 rintro t H n ⟨ht,hn,hkt,⟨d0,r0'⟩⟩
 have hnx:gS u m (t+1)=iR (dJ u m) u.bw.length (t:Int):=by
  rw[gS,hkt]
 by_cases htl:t<u.bw.length
 ·have c0:=hcw (t:Int) (by omega) (by omega)
  have hdoc:=vF (h:=dJ u m) (frst:=(t:Int)) u.bw.length [(t:Int)] (dJ u m t) (.one (by omega)) rfl
  change _=iR (dJ u m) u.bw.length (t:Int) at hdoc
  refine cV ?_
  refine aN (fun σ:Int×List Int=>[(1, .pt 0 1 0 0),(4,i64 t),(5, .sl (n+7) σ.2.length),(6,i64 σ.1)])
   (fun σ H2 n2=>-1<=σ.1/\σ.1<u.bw.length/\0<σ.2.length/\σ.2.length<=u.bw.length+1/\mL (dJ u m) (t:Int) (u.bw.length+1 - σ.2.length) σ.2 σ.1=iR (dJ u m) u.bw.length (t:Int)/\n+8<=n2/\(∃d,bu H2 0=some (.row 96 8 d [m.av u]))/\∃d,bu H2 (n+7)=some (.row 3 1 d (σ.2.map i64))) (fun σ=>u.bw.length+1 - σ.2.length) (dJ u m t,[(t:Int)])
   cH ⟨(qf u hr m h (t:=(t:Int)) (by omega)).1,(qf u hr m h (t:=(t:Int)) (by omega)).2,by simp,by simp,hdoc,cZ,⟨_,bx⟩,⟨_,bx⟩⟩ ?_
  clear c0 r0'
  rintro⟨s,out⟩ H2 n2 ⟨s0,s1,hp,hol,hd,hn2,⟨d1,r0'⟩,⟨d2,r1'⟩⟩
  dsimp only at s0 s1 hp hol hd r1' ⊢
  have aO:(out.map i64).length=out.length:=List.length_map _
  have leave:mL (dJ u m) (t:Int) (u.bw.length+1 - out.length) out s=none->gS u m (t+1)=none:=fun h=>by rw[hnx,<-hd,h]
  by_cases hst:s=t
  ·have hd2:mL (dJ u m) (t:Int) (u.bw.length+1 - out.length) out s=some out:=by
    cases hf:u.bw.length+1 - out.length with
    |zero=>rw[mL,if_pos hst]
    |succ f=>rw[mL,if_pos hst]
   rw[hd2] at hd
   rw[<-hd] at hnx
   have hk:gR u m=some out:=rR hnx u.bw.length (by omega)
   rw[hk]
   subst hst
   have r0:decide (0<=(t:Int))=true:=decide_eq_true (by omega)
   have r1:decide ((t:Int)≠(t:Int))=false:=decide_eq_false fun e=>e rfl
   refine cV ?_
   exact⟨BV bx⟩
  ·have r1:decide (s≠(t:Int))=true:=decide_eq_true hst
   have r2:decide (s=(t:Int))=false:=decide_eq_false hst
   by_cases h0:0<=s
   ·have r0:decide (0<=s)=true:=decide_eq_true h0
    by_cases hlen:out.length<=u.bw.length
    ·have c0:=hcw s h0 s1
     have hd2:mL (dJ u m) (t:Int) (u.bw.length+1 - (out.length+1)) (out++[s]) (dJ u m s)=iR (dJ u m) u.bw.length (t:Int):=by
      rw[<-hd,show u.bw.length+1 - out.length=(u.bw.length+1 - (out.length+1))+1 by omega,mL,if_neg hst,if_neg (by omega)]
     have hin:=qf u hr m h ⟨h0,s1⟩
     refine cV ?_
     exact⟨(dJ u m s,out++[s]),by simp only[List.length_append,List.length_cons,List.length_nil];omega,cH,hin.1,hin.2,by simp,by simp only[List.length_append,List.length_cons,List.length_nil];omega,by simpa only[List.length_append,List.length_cons,List.length_nil] using hd2,cZ,⟨_,bx⟩,⟨_,by rw[List.map_append];exact bx⟩⟩
    ·have hno:=leave (by rw[show u.bw.length+1 - out.length=0 by omega,mL,if_neg hst])
     refine cV ?_
     exact⟨t+1,by omega,cH,by omega,cZ,hno,⟨_,bx⟩⟩
   ·have r0:decide (0<=s)=false:=decide_eq_false h0
    have hno:=leave (by
     cases hf:u.bw.length+1 - out.length with
     |zero=>rw[mL,if_neg hst]
     |succ f=>rw[mL,if_neg hst,if_pos (by omega)])
    refine cV ?_
    exact⟨t+1,by omega,cH,by omega,cZ,hno,⟨_,bx⟩⟩
 ·obtain rfl:t=u.bw.length:=by omega
  have hnone:gR u m=none:=hkt
  rw[hnone]
  refine cV ?_
  exact⟨rfl⟩
abbrev ZX:AV:= .agg [.sc (.slice none 0 0), .sc (.slice none 0 0), .sc (.slice none 0 0), .sc (.slice none 0 0), .sc (.slice none 0 0), .sc (.slice none 0 0), .sc (.slice none 0 0), .sc (.slice none 0 0)]
theorem LZ (u:bz) (hu:u.Wf) (hr:¬ca u):Pure Tryz.prog 51 [u.av] (fun r=>r= .dD [ZX,i64 60]):=by
 have c0:=rX u hu
 have hb:=oP hr
 generalize gz u=ck at *
 obtain⟨x,y,z⟩:=ck
 dsimp only at hb
 subst hb
 refine cm ?_ (by simp[cK,cX])
 refine aI V6 rfl ?_
 refine cV ?_
 first|exact⟨rfl⟩|trivial
set_option maxHeartbeats 4000000 in
theorem CX (u:bz) (hu:u.Wf) (w:List Int):Pure Tryz.prog 22 [u.av,cR w] (fun r=>r= .dD [cR ((gn u w).getD []),bl (gn u w).isSome,i64 (jI u w)]):=by
 have a0:(w.map i64).length=w.length:=List.length_map _
 have nilR:∀(e:Int) (c:Cx),dV c c (.dD [.sc (.slice none 0 0),bl false,i64 e]) (.dD [cR [],bl false,i64 e]):=fun e c=>dV.dD (.cons (dV.jw _ _ _ _) (.cons (fun _ h=>h) (.cons (fun _ h=>h) .nil)))
 by_cases hr:ca u
 ·have hck:=rX u hu
  rw[jc.2 hr] at hck
  have c0:=HK u hu hr hck
  by_cases hw:w.length<=1048576
  ·have hE:jI u w=0:=by unfold jI;rw[if_pos hr,if_pos hw]
   have hQ:gn u w=gR u (fB u (cr u) w):=by unfold gn;rw[if_pos hE]
   rw[hE,hQ]
   suffices key:Pure Tryz.prog 22 [u.av,cR w] (fun r=>r=match gR u (fB u (cr u) w) with|none=> .dD [.sc (.slice none 0 0),bl false,i64 0]|some l=> .dD [cR l,bl true,i64 0]) by
    refine gB key (fx _ _ _) fun c=> ?_
    cases gR u (fB u (cr u) w) with
    |none=>exact nilR 0 c
    |some l=>exact fun _ h=>h
   refine cm ?_ (by split<;>simp[cK,cX,cD])
   refine aI RM rfl ?_
   refine cV ?_
   refine aN (fun σ:Nat×Nat=>[(1,cR w),(7, .pt σ.1 1 0 0),(9,i64 σ.2)])
    (fun σ H n=>σ.2<=w.length/\σ.1<n/\(fB u (cr u) (w.take σ.2)).cJ.length<=σ.2/\∃d,bu H σ.1=some (.row 96 8 d [(fB u (cr u) (w.take σ.2)).av u])) (fun σ=>w.length - σ.2) (_,0)
    cH ⟨Nat.zero_le _,cZ,Nat.zero_le _,⟨_,bx⟩⟩ ?_
   clear c0
   rintro⟨b,i⟩ H n ⟨hi,hbn,hpr,⟨d0,r0'⟩⟩
   dsimp only at hi hbn hpr r0' ⊢
   have hsit:uQ u (fB u (cr u) (w.take i)):=(uQ.new hu hr).CH hu hr
   by_cases hil:i<w.length
   ·have e0:∀d,(w.map i64).getD ((i:Int)).toNat d=i64 (w.getD i 0):=fun d=>ints_at hil d
    have hpn:=vt u (cr u) w hil
    have hp2:=tm u (fB u (cr u) (w.take i)) (w.getD i 0)
    rw[<-hpn] at hp2
    generalize fB u (cr u) (w.take i)=m at *
    generalize w.getD i 0=t at *
    by_cases hb:m.ja u t=0
    ·obtain⟨k,rfl,hk⟩:=wT hsit.ok hb
     have c0:=C2 u hu hr m hsit.ok (by omega) k hk hb
     unfold P9 at hpn
     rw[if_pos hb,Int.toNat_natCast] at hpn
     refine cV ?_
     exact⟨(b,i+1),by dsimp only;omega,cH,by dsimp only;omega,cZ,by dsimp only;omega,⟨_,by dsimp only;rw[hpn];exact bx⟩⟩
    ·have c0:=HQ u hr m hsit.ok t hb
     unfold P9 at hpn
     rw[if_neg hb] at hpn
     have r0:decide (m.ja u t=0)=false:=decide_eq_false hb
     refine cV ?_
     exact⟨(b,i+1),by dsimp only;omega,cH,by dsimp only;omega,cZ,by dsimp only;omega,⟨_,by dsimp only;rw[hpn];exact bx⟩⟩
   ·obtain rfl:i=w.length:=by omega
    rw[List.take_length] at r0' hsit
    have c0:=uc u hr _ hsit.ok
    generalize fB u (cr u) w=m at *
    cases hq:gR u m with
    |none=>
     rw[hq] at c0
     unfold tQ at c0
     dsimp only at c0
     refine cV ?_
     exact⟨rfl⟩
    |some l=>
     rw[hq] at c0
     unfold tQ at c0
     dsimp only at c0
     refine cV ?_
     exact⟨rfl⟩
  ·have hE:jI u w=3:=by unfold jI;rw[if_pos hr,if_neg hw]
   have hQ:gn u w=none:=by unfold gn;rw[hE];rfl
   rw[hE,hQ]
   refine gB (cm ?_ (by simp[cK,cX])) (fx _ _ _) fun c=>nilR 3 c
   refine aI RM rfl ?_
   refine cV ?_
   first|exact⟨rfl⟩|trivial
 ·have hE:jI u w=60:=by unfold jI;rw[if_neg hr]
  have hQ:gn u w=none:=by unfold gn;rw[hE];rfl
  rw[hE,hQ]
  have c0:=LZ u hu hr
  refine gB (cm ?_ (by simp[cK,cX])) (fx _ _ _) fun c=>nilR 60 c
  refine aI RM rfl ?_
  refine cV ?_
  first|exact⟨rfl⟩|trivial
theorem yq (l:List Int) (hl:l.length * 8<=140737488351232):Pure Tryz.prog 18 [cR l,cR l] (fun r=>r=bl true):=by
 have:=kF l l hl hl
 rwa[decide_eq_true rfl] at this
theorem GL {u:bz} (hu:u.Wf) (w:List Int):((gn u w).getD []).length<=8:=by
 cases hq:gn u w with
 |none=>exact Nat.zero_le _
 |some k=>
  unfold gn at hq
  split at hq
  ·rename_i h0
   have hr:ca u:=by
    apply Classical.byContradiction
    intro hr
    unfold jI at h0
    rw[if_neg hr] at h0
    cases h0
   exact Nat.le_trans (N9 hr ((uQ.new hu hr).CH hu hr).ok hq).len hr.oW.2.2
  ·cases hq
theorem BX (u:bz) (hu:u.Wf) (w:List Int):Pure Tryz.prog 4 [u.av,cR w] (fun r=>r=bl true):=by
 have c0:=KS u hu w
 have c1:=CX u hu w
 have c2:=yq ((gn u w).getD []) (by have:=GL hu w;omega)
 have c3:=xw
 generalize (gn u w).getD []=l at *
 generalize (gn u w).isSome=b at *
 generalize jI u w=e at *
 have r0:decide (e=e)=true:=decide_eq_true rfl
 refine aD ZP rfl ?_
 cases b<;>
 ·refine cV ?_
  first|exact rfl|trivial
end Go.Proofs.YtjopoheligmmoaaGreatDoor
