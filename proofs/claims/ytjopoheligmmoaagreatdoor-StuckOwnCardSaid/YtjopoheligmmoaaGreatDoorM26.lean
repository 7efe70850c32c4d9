import Derived.Test.YtjopoheligmmoaaGreatDoorM24
import Derived.Test.YtjopoheligmmoaaGreatDoorM25
section
/- What is reached: the walk. -/
namespace Go.Proofs.YtjopoheligmmoaaGreatDoor
open Go Go.cZ Go.Proofs
set_option linter.unusedSimpArgs false
set_option linter.unusedVariables false
theorem sU {α:Type} (F:List Int→α) (n:Node) (h:n.kind=8→F [n.next,n.next]=F [n.next]):F n.fold=F n.oO:=by
 unfold Node.fold Node.oO
 by_cases h9:n.kind=9
 ·rw[if_pos h9,if_pos h9]
 ·rw[if_neg h9,if_neg h9]
  by_cases h8:n.kind=8
  ·rw[if_pos h8]
   by_cases he:n.sO=n.next
   ·rw[if_neg (fun h=>h.2 he),he,h h8]
   ·rw[if_pos ⟨h8,he⟩]
  ·rw[if_neg h8,if_neg (fun h=>h8 h.1)]
theorem KV {g:cF} (hw:Whole g) {i:Nat} (hi:i<g.nodes.length) (s:List Bool×List Int) (hs:s.1.length=g.nodes.length):kF (g.nd i).fold s=kF (g.nd i).oO s:=
 sU (fun l=>kF l s) (g.nd i) fun h8=>EA _ s (by
  rw[hs]
  refine((hw.2.2 i hi).2.2 _ ?_).2
  unfold Node.oO
  rw[if_neg (by omega),if_pos h8];simp)
theorem TJ {α:Type} {n i:Nat} {x:α}:(List.replicate n x).getD i x=x:=by
 simp only[List.getD,List.getElem?_replicate];split<;>rfl
theorem Q2 {l:List Bool} {k:Int} (d:AV) (h:k.toNat<l.length):(l.map bl).getD k.toNat d=bl (mn l k):=by
 rw[show mn l k=l.getD k.toNat default from rfl];exact dQ bl l _ d h
theorem L5 {l:List Bool} {k:Nat} (v:Bool):(l.map bl).set k (bl v)=(l.set k v).map bl:=by rw[List.map_set]
theorem jQ (l:List Int) (k:Int):l.map i64++[i64 k]=(l++[k]).map i64:=by simp
theorem KU (s:List Bool×List Int) (l:List Int) {j:Nat} (h:j<l.length):kF (l.drop j) s=if mn s.1 (l.getD j 0)=false then kF (l.drop (j+1)) (s.1.set (l.getD j 0).toNat true,s.2++[l.getD j 0]) else kF (l.drop (j+1)) s:=by
 rw[List.drop_eq_getElem_cons h,kF,gd h]
set_option maxHeartbeats 1000000 in
theorem AU (g:cF) (hg:g.Wf) (hw:Whole g) (cut:Int) (hcut:eQ cut):Pure Tryz.prog 199 [g.av,i64 cut] (fun r=>r=FF (fZ g cut)):=by
 refine nF (by simp[cI,cB]) ?_
 refine aM zQ rfl ?_
 have hl:=hg.len
 have hl0:=hw.1
 have hl1:=hw.2.1
 unfold eQ at hcut
 repeat' (first|((with_reducible refine aI ?_);conv=>whnf)|refine aG ?_|exact gG|with_reducible refine aD ?_ ?_|((with_reducible refine Ask.mk ?_);first|exact dz|exact dD|(intro h;simp_all[cF.cells]<;>fail)|(simp_all[cF.cells]<;>fail))|(apply aB;(·(first|exact TJ|exact cS)))|refine aH ?_|((with_reducible refine aA ?_ ?_)<;>intro hc<;>(try simp only[List.length_map,ne_eq,db] at hc)<;>try(exfalso;omega)))
 have e5:(List.replicate ((g.nodes.map Node.av).length:Int).toNat (AV.sc (.bool false))).set (0:Int).toNat (AV.sc (.bool true))=((List.replicate g.nodes.length false).set 0 true).map bl:=by
  simp[List.map_set]
 refine aV (fun s:List Bool×List Int×Nat=>[(1,i64 cut),(2, .pt 0 1 0 0),(5, .sl 5 g.nodes.length),(6, .sl s.2.2 s.2.1.length)])
  (fun s H n=>12≤n∧5<s.2.2∧s.2.2<n∧(∃d,bu H 0=some (.row 60 4 d [g.av]))∧(∃d,bu H 5=some (.row 4 1 d (s.1.map bl)))∧(∃d,bu H s.2.2=some (.row 3 1 d (s.2.1.map i64)))∧lW g cut s.1 s.2.1∧s.2.1.length+s.1.count false≤g.nodes.length)
  (fun s=>s.2.1.length+s.1.count false) ((List.replicate g.nodes.length false).set 0 true,[0],10) ⟨_,_,_,Rt.refl _ _ _,(by simp only[List.length_map];exact cK),ca,ca,ca,⟨_,bw⟩,⟨_,by rw[←e5];exact bw⟩,⟨_,bw⟩,lW.start hw, ?_⟩ ?_
 ·have:=count_set (l:=List.replicate g.nodes.length false) (i:=0) (by simp;omega) (by simp[List.getD,List.getElem?_replicate];split<;>rfl)
  simp only[List.count_replicate_self] at this
  simp only[List.length_cons,List.length_nil]
  omega
 rintro⟨out,todo,tb⟩ H n ⟨hn,ht5,htn,⟨d0,r0⟩,⟨d5,r5⟩,⟨dt,rt⟩,hgo,hcnt⟩
 dsimp only at ht5 htn r5 rt hgo hcnt ⊢
 have hol:=hgo.len
 by_cases hne:todo=[]
 ·subst hne
  have e1:=hgo.fin hw
  repeat' (first|((with_reducible refine aI ?_);conv=>whnf)|refine aG ?_|exact aC|with_reducible refine aD ?_ ?_|(apply aB;(·exact cS))|refine aH ?_|((with_reducible refine aA ?_ ?_)<;>intro hc<;>(try simp only[List.length_map,ne_eq,db] at hc)<;>try(exfalso;omega)))
  refine⟨.inr ?_⟩
  rw[←e1]
  refine(dc bw (by simp[hol])).trans ?_
  rw[cy _ (IT _ _)]
 ·obtain⟨a,x,rfl⟩:∃a x,todo=a++[x]:=⟨todo.dropLast,todo.getLast hne,(List.dropLast_concat_getLast hne).symm⟩
  obtain⟨x0,x1,x2⟩:=hgo.inr x (by simp)
  have x1o:=x1
  rw[hol] at x1
  have hla:(a++[x]).length=a.length+1:=by simp
  have hml:((a++[x]).map i64).length=a.length+1:=by simp
  have htk:(((a++[x]).map i64).drop 0).take a.length=a.map i64:=by simp
  rw[hla] at hcnt ⊢
  have e1:∀d,((a++[x]).map i64).getD (((a.length+1:Nat):Int) - 1).toNat d=i64 x:=fun d=>by
   rw[show(((a.length+1:Nat):Int) - 1).toNat=a.length by omega,List.map_append]
   simp[List.getD]
  have hf:=lK (g.nd x.toNat)
  unfold fX at hf
  repeat' (first|((with_reducible refine aI ?_);conv=>whnf)|refine aG ?_|exact gG|with_reducible refine aD ?_ ?_|((with_reducible refine Ask.mk ?_);first|exact dz|(exact hml)|exact dD|(intro h;simp_all[cF.cells,Node.cells]<;>fail)|(simp_all[cF.cells,Node.cells]<;>fail))|(apply aB;(·(first|exact jj x1 _|exact e1 _|exact cS)))|refine aK (hf) ?_|refine aH ?_|((with_reducible refine aA ?_ ?_)<;>intro hc<;>(try simp only[List.length_map,ne_eq,db] at hc)<;>try(exfalso;omega)))
  ·rename_i hxc
   have hxc:x=cut:=hc
   subst hxc
   refine⟨(out,a,_), ?_,_,_,_,Rt.part (d2:=dt) (l:=(a++[x]).map i64) (n:=a.length) 6 rfl bw hml (by omega),cK,ca,ca,ca,⟨_,bw⟩,⟨_,bw⟩,⟨.any,by rw[←htk];exact bw⟩,(by have:=hgo.cut (a:=a) (b:=[]) rfl;rwa[List.append_nil] at this),(by dsimp only;omega)⟩
   dsimp only
   omega
  ·have hxc:¬x=cut:=hc
   simp only[List.length_map]
   clear hf
   refine aV (fun q:(List Bool×List Int)×Nat×Nat=>[(1,i64 cut),(2, .pt 0 1 0 0),(5, .sl 5 g.nodes.length),(6, .sl q.2.1 q.1.2.length),(39,fX (g.nd x.toNat).fold),(40,i64 (g.nd x.toNat).fold.length),(41,i64 q.2.2)])
    (fun q H2 n2=>q.2.2≤(g.nd x.toNat).fold.length∧n≤n2∧5<q.2.1∧q.2.1<n2∧(∃d,bu H2 0=some (.row 60 4 d [g.av]))∧(∃d,bu H2 5=some (.row 4 1 d (q.1.1.map bl)))∧(∃d,bu H2 q.2.1=some (.row 3 1 d (q.1.2.map i64)))∧q.1.1.length=g.nodes.length∧kF ((g.nd x.toNat).fold.drop q.2.2) q.1=kF (g.nd x.toNat).fold (out,a)∧q.1.2.length+q.1.1.count false≤g.nodes.length)
    (fun q=>(g.nd x.toNat).fold.length - q.2.2) ((out,a),_,0) ⟨_,_,_,Rt.part (d2:=dt) (l:=(a++[x]).map i64) (n:=a.length) 6 rfl bw hml (by omega),cK,Nat.zero_le _,ca,ca,ca,⟨_,bw⟩,⟨_,bw⟩,⟨.any,by rw[←htk];exact bw⟩,hol,rfl,(by dsimp only;omega)⟩ ?_
   have hfl:=sS (g.nd x.toNat)
   clear r0 r5 rt
   rintro⟨⟨o2,t2⟩,b2,j⟩ H2 n2 ⟨hj,hn2,hb5,hbn,⟨d02,r0⟩,⟨d52,r5⟩,⟨dt2,rt⟩,ho2,hsp,hc2⟩
   dsimp only at hj hn2 hb5 hbn r5 rt ho2 hsp hc2 ⊢
   unfold fX
   by_cases hjl:j<(g.nd x.toNat).fold.length
   ·have hm:=jV.1 (cR 0 hjl)
    obtain⟨k0,k1⟩:=(hw.2.2 x.toNat x1).2.2 _ hm
    have hk:(((g.nd x.toNat).fold.getD j 0).toNat:Int)=(g.nd x.toNat).fold.getD j 0:=by omega
    have ek:=fun d=>Q2 (l:=o2) (k:=(g.nd x.toNat).fold.getD j 0) d (by rw[ho2];exact k1)
    rw[KU _ _ hjl] at hsp
    have hol2:(o2.map bl).length=g.nodes.length:=by simp[ho2]
    have htl:(t2.map i64).length=t2.length:=by simp
    cases hfd:mn o2 ((g.nd x.toNat).fold.getD j 0) with
    |true=>
     rw[if_neg (by rw[hfd];decide)] at hsp
     rw[hfd] at ek
     repeat' (first|((with_reducible refine aI ?_);conv=>whnf)|refine aG ?_|exact gG|with_reducible refine aD ?_ ?_|((with_reducible refine Ask.mk ?_);first|exact dz|(exact hol2)|exact dD)|(apply aB;(·(first|exact lL hjl _|exact ek _|exact cS)))|refine aH ?_|((with_reducible refine aA ?_ ?_)<;>intro hc<;>(try simp only[List.length_map,ne_eq,db] at hc)<;>try(exfalso;omega)))
     exact⟨((o2,t2),b2,j+1),by dsimp only;omega,_,_,_,Rt.refl _ _ _,cK,by dsimp only;omega,ca,hb5,ca,⟨_,bw⟩,⟨_,bw⟩,⟨_,bw⟩,ho2,hsp,hc2⟩
    |false=>
     rw[if_pos hfd] at hsp
     rw[hfd] at ek
     have hct:=count_set (l:=o2) (i:=((g.nd x.toNat).fold.getD j 0).toNat) (by rw[ho2];exact k1) hfd
     repeat' (first|((with_reducible refine aI ?_);conv=>whnf)|refine aG ?_|exact gG|with_reducible refine aD ?_ ?_|((with_reducible refine Ask.mk ?_);first|exact dz|(exact hol2)|exact dD)|(apply aB;(·(first|exact lL hjl _|exact ek _|exact cS)))|refine aH ?_|((with_reducible refine aA ?_ ?_)<;>intro hc<;>(try simp only[List.length_map,ne_eq,db] at hc)<;>try(exfalso;omega)))
     refine⟨((o2.set ((g.nd x.toNat).fold.getD j 0).toNat true,t2++[(g.nd x.toNat).fold.getD j 0]),b2,j+1),by dsimp only;omega,_,_,_,Rt.refl _ _ _,cK,by dsimp only;omega,ca,hb5,ca,⟨_,bw⟩,⟨_,by rw[←L5];exact bw⟩,⟨_,by rw[←jQ];exact bw⟩,by simp[ho2],hsp, ?_⟩
     simp only[List.length_append,List.length_cons,List.length_nil]
     omega
   ·have:j=(g.nd x.toNat).fold.length:=by omega
    subst this
    rw[List.drop_eq_nil_of_le (Nat.le_refl _),kF,KV hw x1 _ hol] at hsp
    have sp:=jm (g.nd x.toNat).oO (out,a) (fun k hk=>by have:=(hw.2.2 x.toNat x1).2.2 k hk;rw[←hol] at this;exact this)
    rw[←hsp] at sp
    obtain⟨t',e1,_,_,e4⟩:=sp.more
    dsimp only at e1 e4
    have hon:=hgo.on hw (a:=a) (b:=[]) rfl hxc (t:=a) hsp.symm e1
    rw[List.append_nil,←e1] at hon
    have hlt:t2.length=a.length+t'.length:=by rw[e1,List.length_append]
    repeat' (first|((with_reducible refine aI ?_);conv=>whnf)|refine aG ?_|exact aC|with_reducible refine aD ?_ ?_|(apply aB;(·exact cS))|refine aH ?_|((with_reducible refine aA ?_ ?_)<;>intro hc<;>(try simp only[List.length_map,ne_eq,db] at hc)<;>try(exfalso;omega)))
    exact⟨(o2,t2,b2),by dsimp only;omega,_,_,_,Rt.refl _ _ _,cK,ca,hb5,ca,⟨_,bw⟩,⟨_,bw⟩,⟨_,bw⟩,hon,hc2⟩
end Go.Proofs.YtjopoheligmmoaaGreatDoor
end
