import Derived.Test.YtmonponfppdgfaaGreatDoorM23
import Derived.Test.YtmonponfppdgfaaGreatDoorM21
section
/- What is reached. -/
namespace Go.Proofs.YtmonponfppdgfaaGreatDoor
open Go Go.ch Go.Proofs
set_option linter.unusedSimpArgs false
set_option linter.unusedVariables false
theorem gz {n:Node} {k:Int}:k∈n.fold↔k∈n.dK:=by
 have:=vA (fun j=>decide (j=k)) n
 rw[Bool.eq_iff_iff,List.any_eq_true,List.any_eq_true] at this
 constructor
 ·intro h;obtain⟨x,h1,h2⟩:=this.1 ⟨k,h,by simp⟩;rw[←of_decide_eq_true h2];exact h1
 ·intro h;obtain⟨x,h1,h2⟩:=this.2 ⟨k,h,by simp⟩;rw[←of_decide_eq_true h2];exact h1
theorem la (n:Node):n.fold.length≤2:=by unfold Node.fold;split<;>(try split)<;>simp
theorem mO (n:Node):n.dK.length≤2:=by unfold Node.dK;split<;>(try split)<;>simp
theorem gd {α:Type} {l:List α} {q:Nat} (h:q<l.length) (d:α):l.getD q d=l[q]:=by simp[List.getD,h]
theorem nj (n:Nat) (l:List Int):cL n (l.map i64):=(cJ _ _).2 fun _ _=>by simp[cG]
theorem jU (n:Nat) (l:List Bool):cL n (l.map bl):=(cJ _ _).2 fun _ _=>by simp[cG]
theorem dy {l:List Node} {i:Nat} (h:i<l.length) (d:AV):(l.map Node.av).getD ((i:Int).toNat) d=(l.getD i default).av:=by
 rw[Int.toNat_natCast];exact dJ Node.av l i d h
theorem j3 {l:List bo} {i:Nat} (h:i<l.length) (d:AV):(l.map bo.av).getD ((i:Int).toNat) d=(l.getD i default).av:=by
 rw[Int.toNat_natCast];exact dJ bo.av l i d h
theorem eS {l:List Int} {i:Nat} (h:i<l.length) (d:AV):(l.map i64).getD ((i:Int).toNat) d=i64 (l.getD i 0):=by
 rw[Int.toNat_natCast];exact dJ i64 l i d h
theorem sE (g:bo) (hg:g.Wf):Pure Tryz.prog 73 [g.av] (fun r=>r=bl (lI g)):=by
 have hl:=hg.len
 refine aJ EU rfl ?_
 repeat' (first|((with_reducible refine aE ?_);conv=>whnf)|refine aG ?_|exact cN|with_reducible refine aD ?_ ?_|((with_reducible refine Ask.mk ?_);first|exact bw|exact br|(intro h;simp_all[bo.cells]<;>fail)|(simp_all[bo.cells]<;>fail))|(apply aA;(·exact bm))|refine aH ?_|((with_reducible refine aB ?_ ?_)<;>intro hc<;>(try simp only[List.length_map,ne_eq,cD] at hc)<;>try(exfalso;omega)))
 ·refine cg (Eq.symm ?_)
  unfold lI
  by_cases h1:1≤g.nodes.length
  ·rw[decide_eq_false (show ¬g.nodes.length≤4096 by omega)];simp
  ·rw[decide_eq_false h1];simp
 ·simp only[List.length_map]
  refine aI (fun i:Nat=>[(1, .pt 0 1 0 0),(18,eU g.nodes),(19,i64 g.nodes.length),(20,i64 i)])
   (fun i H n=>i≤g.nodes.length∧16≤n∧(∃d,bj H 0=some (.row 40 4 d [g.av]))∧∀j,j<i→rp g.nodes.length (g.nd j)=true) (fun i=>g.nodes.length - i) 0 bt ⟨Nat.zero_le _,cH,⟨_,bk⟩,fun _ h=>by omega⟩ ?_
  rintro i H n ⟨hi,hn,⟨d0,r0⟩,hall⟩
  by_cases hil:i<g.nodes.length
  ·have hbad:rp g.nodes.length (g.nd i)=false→lI g=false:=fun h=>by
    unfold lI
    rw[Bool.and_eq_false_iff]
    right
    rw[Bool.eq_false_iff,ne_eq,List.all_eq_true]
    intro hA
    have:=hA _ (cC default hil)
    rw[show g.nodes.getD i default=g.nd i from rfl,h] at this;cases this
   have hf:=kr (g.nd i)
   have h2:=la (g.nd i)
   unfold dO at hf
   repeat' (first|((with_reducible refine aE ?_);conv=>whnf)|refine aG ?_|exact cN|with_reducible refine aD ?_ ?_|((with_reducible refine Ask.mk ?_);first|exact bw|exact br|(intro h;simp_all[bo.cells,Node.cells]<;>fail)|(simp_all[bo.cells,Node.cells]<;>fail))|(apply aA;(·(first|exact dy hil _|exact bm)))|refine aK (hf) ?_|refine aH ?_|((with_reducible refine aB ?_ ?_)<;>intro hc<;>(try simp only[List.length_map,ne_eq,cD] at hc)<;>try(exfalso;omega)))
   ·refine cg (Eq.symm (hbad ?_))
    unfold rp
    have hc:(g.nd i).kind=0∨10≤(g.nd i).kind:=hc
    by_cases h1:(g.nd i).kind<10
    ·rw[decide_eq_false (show ¬1≤(g.nd i).kind by omega)];simp
    ·rw[decide_eq_false h1];simp
   ·have hk0:0≤(g.nd i).kind:=(hg.nodes _ (cC default hil)).kind.1
    have hkk:¬(g.nd i).kind=0∧(g.nd i).kind<10:=hc
    clear hf
    simp only[List.length_map]
    refine aI (fun j:Nat=>[(1, .pt 0 1 0 0),(4, .pt (n+3) 1 0 0),(18,eU g.nodes),(19,i64 g.nodes.length),(20,i64 i),(33,dO (g.nd i).fold),(34,i64 (g.nd i).fold.length),(35,i64 j)])
     (fun j H2 n2=>j≤(g.nd i).fold.length∧n+4≤n2∧(∃d,bj H2 0=some (.row 40 4 d [g.av]))∧∀q,q<j→0≤(g.nd i).fold.getD q 0∧(g.nd i).fold.getD q 0<g.nodes.length) (fun j=>(g.nd i).fold.length - j) 0 bt ⟨Nat.zero_le _,cH,⟨_,bk⟩,fun _ h=>by omega⟩ ?_
    clear r0
    rintro j H2 n2 ⟨hj,hn2,⟨d02,r02⟩,hq⟩
    unfold dO
    by_cases hjl:j<(g.nd i).fold.length
    ·repeat' (first|((with_reducible refine aE ?_);conv=>whnf)|refine aG ?_|exact cN|with_reducible refine aD ?_ ?_|((with_reducible refine Ask.mk ?_);first|exact bw|exact br|(intro h;simp_all[bo.cells]<;>fail)|(simp_all[bo.cells]<;>fail))|(apply aA;(·(first|exact eS hjl _|exact bm)))|refine aH ?_|((with_reducible refine aB ?_ ?_)<;>intro hc<;>(try simp only[List.length_map,ne_eq,cD] at hc)<;>try(exfalso;omega)))
     ·refine cg (Eq.symm (hbad ?_))
      unfold rp
      rw[Bool.and_eq_false_iff]
      right
      rw[Bool.eq_false_iff,ne_eq,List.all_eq_true]
      intro hA
      have:=hA _ (gz.1 (cC 0 hjl))
      simp only[Bool.and_eq_true,decide_eq_true_eq] at this
      omega
     ·refine⟨j+1,by omega,bt,by omega,by omega,⟨_,bk⟩,fun q hq2=> ?_⟩
      by_cases e:q=j
      ·rw[e];omega
      ·exact hq q (by omega)
    ·have:j=(g.nd i).fold.length:=by omega
     subst this
     repeat' (first|((with_reducible refine aE ?_);conv=>whnf)|refine aG ?_|exact aC|with_reducible refine aD ?_ ?_|(apply aA;(·exact bm))|refine aH ?_|((with_reducible refine aB ?_ ?_)<;>intro hc<;>(try simp only[List.length_map,ne_eq,cD] at hc)<;>try(exfalso;omega)))
     refine⟨i+1,by omega,bt,by omega,by omega,⟨_,bk⟩,fun j hj=> ?_⟩
     by_cases e:j=i
     ·rw[e]
      unfold rp
      rw[decide_eq_true (show 1≤(g.nd i).kind by omega),decide_eq_true hkk.2]
      simp only[Bool.true_and]
      rw[List.all_eq_true]
      intro k hk
      obtain⟨q,hq1,e⟩:=List.getElem_of_mem (gz.2 hk)
      have:=hq q hq1
      rw[gd hq1,e] at this
      simp[this.1,this.2]
     ·exact hall j (by omega)
  ·have:i=g.nodes.length:=by omega
   subst this
   repeat' (first|((with_reducible refine aE ?_);conv=>whnf)|refine aG ?_|exact aC|with_reducible refine aD ?_ ?_|(apply aA;(·exact bm))|refine aH ?_|((with_reducible refine aB ?_ ?_)<;>intro hc<;>(try simp only[List.length_map,ne_eq,cD] at hc)<;>try(exfalso;omega)))
   refine cg (Eq.symm ?_)
   unfold lI
   rw[decide_eq_true (show 1≤g.nodes.length by omega),decide_eq_true (show g.nodes.length≤4096 by omega)]
   simp only[Bool.true_and]
   rw[List.all_eq_true]
   intro m hm
   obtain⟨q,hq1,rfl⟩:=List.getElem_of_mem hm
   have:=hall q hq1
   rw[show g.nd q=g.nodes[q] by simp[List.getD,hq1]] at this
   exact this
theorem oN (g:bo) (hg:g.Wf) (hw:lI g=true) (hs:Pure Tryz.prog 74 [g.av,i64 (-1)] (fun r=>r=fp (cd g (-1)))):Pure Tryz.prog 42 [g.av] (fun r=>r=fp (cd g (-1))):=by
 refine aJ D1 rfl ?_
 have h1:=sE g hg
 rw[hw] at h1
 repeat' (first|((with_reducible refine aE ?_);conv=>whnf)|refine aG ?_|exact cN|with_reducible refine aD ?_ ?_|((with_reducible refine Ask.mk ?_);first|exact bw|exact br|(intro h;simp_all[bo.cells]<;>fail)|(simp_all[bo.cells]<;>fail))|(apply aA;(·exact bm))|refine aK (h1) ?_|refine aK (hs) ?_|refine aH ?_|((with_reducible refine aB ?_ ?_)<;>intro hc<;>(try simp only[List.length_map,ne_eq,cD] at hc)<;>try(exfalso;omega)))
 exact xI.eq (by simp[cG,fp,cJ]) rfl
end Go.Proofs.YtmonponfppdgfaaGreatDoor
end
