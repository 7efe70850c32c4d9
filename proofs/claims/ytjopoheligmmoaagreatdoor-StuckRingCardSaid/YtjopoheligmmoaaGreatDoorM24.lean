import Derived.Test.YtjopoheligmmoaaGreatDoorM23
section
/- Are names and numbers right? -/
namespace Go.Proofs.YtjopoheligmmoaaGreatDoor
open Go Go.cX Go.Proofs
set_option linter.unusedSimpArgs false
set_option linter.unusedVariables false
abbrev zN (E:List (ByteArray×Bool)):List AV:=pq (fun s:ByteArray=>Value.string s) bl E
theorem Y3 (E:List (ByteArray×Bool)) (t:ByteArray):lh true (.string t) (zN E) (bl false)=some (bl ((ec E t).getD false),(ec E t).isSome):=(B5 vm bl t E (bl false)).trans (by cases ec E t<;>rfl)
theorem ZC (E:List (ByteArray×Bool)) (t:ByteArray) (v:Bool):oe true (.string t) (zN E) (bl v)=some (zN (iX E t v)):=B6 vm bl t v E
def lr (l:List ByteArray):List (ByteArray×Bool):=l.map fun s=>(s,true)
def jR:List ByteArray→ByteArray→Bool
 |[],_=>false
 |a::l,s=>if s=a then true else jR l s
theorem JQ (l:List ByteArray) (s:ByteArray):(ec (lr l) s).getD false=jR l s:=by
 induction l with
 |nil=>rfl
 |cons a l ih=>
  show((if s=a then some true else ec (lr l) s)).getD false=(if s=a then true else jR l s)
  by_cases h:s=a
  ·rw[if_pos h,if_pos h];rfl
  ·rw[if_neg h,if_neg h,ih]
theorem OU (l:List ByteArray) (s:ByteArray) (h:jR l s=false):iX (lr l) s true=lr (l++[s]):=by
 induction l with
 |nil=>rfl
 |cons a l ih=>
  rw[jR] at h
  by_cases e:s=a
  ·rw[if_pos e] at h;cases h
  ·rw[if_neg e] at h
   show(if s=a then(s,true)::lr l else(a,true)::iX (lr l) s true)=_
   rw[if_neg e,ih h];rfl
theorem rB (s:ByteArray) (hs:s.size≤140737488351232) (l:List ByteArray) (b m:Nat) (H:Hp) (nx:Nat) (e em:TypeId) (d dm:AV) (hb:br H b=some (.row e 1 d [.mp m])) (hm:br H m=some (.row em 0 dm (mapA (zN (lr l))))) (hbn:b<nx) (hmn:m<nx) (hbm:b≠m):
 cI Tryz.prog 114 [st s, .pt b 1 0 0] H nx (fun r H' n=>r=bl (lI s&& !jR l s)∧nx≤n∧(jR l s=false→br H' m=some (.row em 0 dm (mapA (zN (lr (l++[s]))))))∧∀y,y<nx→y≠m→br H' y=br H y):=by
 refine aM yC rfl ?_
 repeat' (first|((with_reducible refine aF ?_);conv=>whnf)|refine aG ?_|exact aC|with_reducible refine aD ?_ ?_|(apply aB;(·exact cN))|refine aK (I7 s hs) ?_|(apply aR (g:=some _);(·exact fun _=>Y3 _ _))|(apply aR (g:=none);(·exact fun _=>ZC _ _ _))|refine aH ?_|((with_reducible refine aA ?_ ?_)<;>intro hc<;>(try simp only[List.length_map,ne_eq,dX] at hc)<;>try(exfalso;omega)))
 refine⟨⟨?_,cZ,fun h=> ?_,fun y hy hym=> ?_⟩⟩
 ·rw[JQ]
  refine ee ?_
  cases lI s<;>cases jR l s<;>rfl
 ·rw[←OU l s h]
  exact bu
 ·exact cA
def gO:List ByteArray→List ByteArray→Bool
 |_,[]=>true
 |acc,s::r=>if(lI s&& !jR acc s)=true then gO (acc++[s]) r else false
def cm (u:bt):List ByteArray:=u.shared.map Decl.name++(u.cC.map Decl.name++u.bw.map cD.name)
def fR (u:bt):Bool:=decide (u.shared.length≤64)&&decide (u.cC.length≤16)&&decide (u.bw.length≤8)&&gO [] (cm u)&&u.cC.all (fun d=>decide (d.word=0))
theorem lR (u:bt) {k:Nat} (hk:k<(cm u).length) (h:gO ((cm u).take k) ((cm u).drop k)=gO [] (cm u)) {s:ByteArray} (hs:(cm u).getD k default=s):
 (gO [] (cm u)=if(lI s&& !jR ((cm u).take k) s)=true then gO ((cm u).take (k+1)) ((cm u).drop (k+1)) else false)∧(cm u).take (k+1)=(cm u).take k++[s]:=by
 have e:(cm u)[k]=s:=by rw[←hs];simp[List.getD,hk]
 have e2:(cm u).take (k+1)=(cm u).take k++[s]:=by rw[List.take_succ_eq_append_getElem hk,e]
 refine⟨?_,e2⟩
 rw[←h,List.drop_eq_getElem_cons hk,gO,e,e2]
theorem R7 (u:bt) {i:Nat} (h:i<u.shared.length):(cm u).getD i default=(u.shared.getD i default).name:=by
 simp[cm,List.getD,List.getElem?_append,h]
theorem R6 (u:bt) {i:Nat} (h:i<u.cC.length):(cm u).getD (u.shared.length+i) default=(u.cC.getD i default).name:=by
 unfold cm
 rw[List.getD,List.getElem?_append_right (by simp),List.length_map,Nat.add_sub_cancel_left,List.getElem?_append_left (by simpa using h)]
 simp[List.getD,h]
theorem R5 (u:bt) {i:Nat} (h:i<u.bw.length):(cm u).getD (u.shared.length+u.cC.length+i) default=(u.bw.getD i default).name:=by
 unfold cm
 rw[List.getD,List.getElem?_append_right (by simp;omega),List.getElem?_append_right (by simp;omega)]
 simp only[List.length_map]
 rw[show u.shared.length+u.cC.length+i - u.shared.length - u.cC.length=i by omega]
 simp[List.getD,h]
set_option maxHeartbeats 4000000 in
theorem B8 (u:bt) (hu:u.Wf):Pure Tryz.prog 71 [u.av] (fun r=>r=bl (fR u)):=by
 refine aI NO rfl ?_
 have h1:=hu.uf
 have h2:=hu.zC
 have h3:=hu.HZ
 by_cases hl:u.shared.length≤64∧u.cC.length≤16∧u.bw.length≤8
 ·repeat' (first|((with_reducible refine aF ?_);conv=>whnf)|refine aG ?_|exact gB|with_reducible refine aD ?_ ?_|((with_reducible refine Ask.mk ?_);first|exact dv|exact dA|(intro h;simp_all[bt.cells]<;>fail)|(simp_all[bt.cells]<;>fail))|(apply aB;(·exact cN))|refine aH ?_|((with_reducible refine aA ?_ ?_)<;>intro hc<;>(try simp only[List.length_map,ne_eq,dX] at hc)<;>try(exfalso;omega)))
  clear hc
  simp only[List.length_map]
  refine aL (fun i:Nat=>[(1, .pt 0 1 0 0),(4, .fn (.func 114) [] [.pt 19 1 0 0]),(30,cq u.shared),(31,i64 u.shared.length),(32,i64 i)]) (fun i H n=>i≤u.shared.length∧20≤n∧(∃d,br H 0=some (.row 25 3 d [u.av]))∧(∃d,br H 19=some (.row 178 1 d [.mp 18]))∧(∃d,br H 18=some (.row 9 0 d (mapA (zN (lr ((cm u).take (i)))))))∧gO ((cm u).take (i)) ((cm u).drop (i))=gO [] (cm u)) (fun i=>u.shared.length - i) 0 cF ⟨Nat.zero_le _,cZ,⟨_,bu⟩,⟨_,bu⟩,⟨_,bu⟩,rfl⟩ ?_
  rintro i H n ⟨hi,hn,⟨d0,r0⟩,⟨d19,r19⟩,⟨d18,r18⟩,hq⟩
  by_cases hil:i<u.shared.length
  ·have hk:i<(cm u).length:=by simp only[cm,List.length_append,List.length_map];omega
   have hs:(cm u).getD (i) default=(u.shared.getD i default).name:=R7 u hil
   obtain⟨ha,ht⟩:=lR u hk hq hs
   have hsz:=(hu.shared _ (cQ default hil)).name
   repeat' (first|((with_reducible refine aF ?_);conv=>whnf)|refine aG ?_|exact gB|with_reducible refine aD ?_ ?_|((with_reducible refine Ask.mk ?_);first|exact dv|exact dA|(intro h;simp_all[bt.cells,Decl.cells]<;>fail)|(simp_all[bt.cells,Decl.cells]<;>fail))|(apply aB;(·(first|exact LG|exact cN)))|refine aH ?_|((with_reducible refine aA ?_ ?_)<;>intro hc<;>(try simp only[List.length_map,ne_eq,dX] at hc)<;>try(exfalso;omega)))
   refine aJ (rB _ hsz ((cm u).take (i)) 19 18 _ _ _ _ _ _ bu bu cZ cZ (by decide)) ?_
   rintro _ H2 n2 ⟨rfl,hn2,hput,hf⟩
   have hn12:n≤n2:=Nat.le_trans cZ hn2
   have r02:br H2 0=some (.row 25 3 d0 [u.av]):=(hf 0 (Nat.lt_of_lt_of_le (by omega:0<n) cZ) (by decide)).trans bu
   have r192:br H2 19=some (.row 178 1 d19 [.mp 18]):=(hf 19 (Nat.lt_of_lt_of_le (by omega:19<n) cZ) (by decide)).trans bu
   cases hg:(lI (u.shared.getD i default).name&& !jR ((cm u).take (i)) (u.shared.getD i default).name) with
   |false=>
    rw[hg,if_neg (by decide)] at ha
    have hb:fR u=false:=by unfold fR;rw[ha];simp
    rw[hb]
    repeat' (first|((with_reducible refine aF ?_);conv=>whnf)|refine aG ?_|exact gB|with_reducible refine aD ?_ ?_|((with_reducible refine Ask.mk ?_);first|exact dv|exact dA|(intro h;simp_all[bt.cells,Decl.cells]<;>fail)|(simp_all[bt.cells,Decl.cells]<;>fail))|(apply aB;(·exact cN))|refine aH ?_|((with_reducible refine aA ?_ ?_)<;>intro hc<;>(try simp only[List.length_map,ne_eq,dX] at hc)<;>try(exfalso;omega)))
    exact rfl
   |true=>
    rw[hg,if_pos rfl] at ha
    have hnm:jR ((cm u).take (i)) (u.shared.getD i default).name=false:=by revert hg;cases jR ((cm u).take (i)) (u.shared.getD i default).name<;>simp
    have r182:=hput hnm
    rw[←ht] at r182
    clear hf hput
    repeat' (first|((with_reducible refine aF ?_);conv=>whnf)|refine aG ?_|exact gB|with_reducible refine aD ?_ ?_|((with_reducible refine Ask.mk ?_);first|exact dv|exact dA|(intro h;simp_all[bt.cells,Decl.cells]<;>fail)|(simp_all[bt.cells,Decl.cells]<;>fail))|(apply aB;(·exact cN))|refine aH ?_|((with_reducible refine aA ?_ ?_)<;>intro hc<;>(try simp only[List.length_map,ne_eq,dX] at hc)<;>try(exfalso;omega)))
    exact⟨i+1,by omega,cF,by omega,by omega,⟨_,bu⟩,⟨_,bu⟩,⟨_,bu⟩,ha.symm⟩
  ·have hie:i=u.shared.length:=by omega
   subst hie
   repeat' (first|((with_reducible refine aF ?_);conv=>whnf)|refine aG ?_|exact gB|with_reducible refine aD ?_ ?_|((with_reducible refine Ask.mk ?_);first|exact dv|exact dA|(intro h;simp_all[bt.cells]<;>fail)|(simp_all[bt.cells]<;>fail))|(apply aB;(·exact cN))|refine aH ?_|((with_reducible refine aA ?_ ?_)<;>intro hc<;>(try simp only[List.length_map,ne_eq,dX] at hc)<;>try(exfalso;omega)))
   refine aL (fun i:Nat=>[(1, .pt 0 1 0 0),(4, .fn (.func 114) [] [.pt 19 1 0 0]),(43,cq u.cC),(44,i64 u.cC.length),(45,i64 i)]) (fun i H n=>i≤u.cC.length∧20≤n∧(∃d,br H 0=some (.row 25 3 d [u.av]))∧(∃d,br H 19=some (.row 178 1 d [.mp 18]))∧(∃d,br H 18=some (.row 9 0 d (mapA (zN (lr ((cm u).take (u.shared.length+i)))))))∧gO ((cm u).take (u.shared.length+i)) ((cm u).drop (u.shared.length+i))=gO [] (cm u)∧∀j,j<i→(u.cC.getD j default).word=0) (fun i=>u.cC.length - i) 0 cF ⟨Nat.zero_le _,cZ,⟨_,bu⟩,⟨_,bu⟩,⟨_,by rw[Nat.add_zero];exact bu⟩,by rw[Nat.add_zero];exact hq,fun _ h=>by omega⟩ ?_
   clear r0 r19 r18 hq hc
   rintro i H n ⟨hi,hn,⟨d0,r0⟩,⟨d19,r19⟩,⟨d18,r18⟩,hq,hw⟩
   by_cases hil:i<u.cC.length
   ·have hk:u.shared.length+i<(cm u).length:=by simp only[cm,List.length_append,List.length_map];omega
    have hs:(cm u).getD (u.shared.length+i) default=(u.cC.getD i default).name:=R6 u hil
    obtain⟨ha,ht⟩:=lR u hk hq hs
    have hsz:=(hu.cC _ (cQ default hil)).name
    repeat' (first|((with_reducible refine aF ?_);conv=>whnf)|refine aG ?_|exact gB|with_reducible refine aD ?_ ?_|((with_reducible refine Ask.mk ?_);first|exact dv|exact dA|(intro h;simp_all[bt.cells,Decl.cells]<;>fail)|(simp_all[bt.cells,Decl.cells]<;>fail))|(apply aB;(·(first|exact LG|exact cN)))|refine aH ?_|((with_reducible refine aA ?_ ?_)<;>intro hc<;>(try simp only[List.length_map,ne_eq,dX] at hc)<;>try(exfalso;omega)))
    refine aJ (rB _ hsz ((cm u).take (u.shared.length+i)) 19 18 _ _ _ _ _ _ bu bu cZ cZ (by decide)) ?_
    rintro _ H2 n2 ⟨rfl,hn2,hput,hf⟩
    have hn12:n≤n2:=Nat.le_trans cZ hn2
    have r02:br H2 0=some (.row 25 3 d0 [u.av]):=(hf 0 (Nat.lt_of_lt_of_le (by omega:0<n) cZ) (by decide)).trans bu
    have r192:br H2 19=some (.row 178 1 d19 [.mp 18]):=(hf 19 (Nat.lt_of_lt_of_le (by omega:19<n) cZ) (by decide)).trans bu
    cases hg:(lI (u.cC.getD i default).name&& !jR ((cm u).take (u.shared.length+i)) (u.cC.getD i default).name) with
    |false=>
     rw[hg,if_neg (by decide)] at ha
     have hb:fR u=false:=by unfold fR;rw[ha];simp
     rw[hb]
     clear hf hput
     repeat' (first|((with_reducible refine aF ?_);conv=>whnf)|refine aG ?_|exact gB|with_reducible refine aD ?_ ?_|((with_reducible refine Ask.mk ?_);first|exact dv|exact dA|(intro h;simp_all[bt.cells,Decl.cells]<;>fail)|(simp_all[bt.cells,Decl.cells]<;>fail))|(apply aB;(·exact cN))|refine aH ?_|((with_reducible refine aA ?_ ?_)<;>intro hc<;>(try simp only[List.length_map,ne_eq,dX] at hc)<;>try(exfalso;omega)))
     exact rfl
    |true=>
     rw[hg,if_pos rfl] at ha
     have hnm:jR ((cm u).take (u.shared.length+i)) (u.cC.getD i default).name=false:=by revert hg;cases jR ((cm u).take (u.shared.length+i)) (u.cC.getD i default).name<;>simp
     have r182:=hput hnm
     rw[←ht] at r182
     obtain⟨d4,r4⟩:∃d,br H2 (n+3)=some (.row 85 3 d [(u.cC.getD i default).av]):=⟨_,(hf (n+3) cZ (by omega)).trans bu⟩
     clear hf hput
     repeat' (first|((with_reducible refine aF ?_);conv=>whnf)|refine aG ?_|exact gB|with_reducible refine aD ?_ ?_|((with_reducible refine Ask.mk ?_);first|exact dv|exact dA|(intro h;simp_all[bt.cells,Decl.cells]<;>fail)|(simp_all[bt.cells,Decl.cells]<;>fail))|(apply aB;(·exact cN))|refine aH ?_|((with_reducible refine aA ?_ ?_)<;>intro hc<;>(try simp only[List.length_map,ne_eq,dX] at hc)<;>try(exfalso;omega)))
     ·have hb:fR u=false:=by
       unfold fR
       rw[Bool.and_eq_false_iff]
       right
       rw[Bool.eq_false_iff,ne_eq,List.all_eq_true]
       exact fun h=>(hc.resolve_left (by decide)) (of_decide_eq_true (h _ (cQ default hil)))
      rw[hb]
     ·exact⟨i+1,by omega,cF,by omega,by omega,⟨_,bu⟩,⟨_,bu⟩,⟨_,bu⟩,ha.symm,fun j hj=>by
       by_cases hji:j=i
       ·rw[hji];exact hc.2
       ·exact hw j (by omega)⟩
   ·have hie:i=u.cC.length:=by omega
    subst hie
    repeat' (first|((with_reducible refine aF ?_);conv=>whnf)|refine aG ?_|exact gB|with_reducible refine aD ?_ ?_|((with_reducible refine Ask.mk ?_);first|exact dv|exact dA|(intro h;simp_all[bt.cells]<;>fail)|(simp_all[bt.cells]<;>fail))|(apply aB;(·exact cN))|refine aH ?_|((with_reducible refine aA ?_ ?_)<;>intro hc<;>(try simp only[List.length_map,ne_eq,dX] at hc)<;>try(exfalso;omega)))
    refine aL (fun i:Nat=>[(1, .pt 0 1 0 0),(4, .fn (.func 114) [] [.pt 19 1 0 0]),(61,db u.bw),(62,i64 u.bw.length),(63,i64 i)]) (fun i H n=>i≤u.bw.length∧20≤n∧(∃d,br H 0=some (.row 25 3 d [u.av]))∧(∃d,br H 19=some (.row 178 1 d [.mp 18]))∧(∃d,br H 18=some (.row 9 0 d (mapA (zN (lr ((cm u).take (u.shared.length+u.cC.length+i)))))))∧gO ((cm u).take (u.shared.length+u.cC.length+i)) ((cm u).drop (u.shared.length+u.cC.length+i))=gO [] (cm u)∧∀j,j<u.cC.length→(u.cC.getD j default).word=0) (fun i=>u.bw.length - i) 0 cF ⟨Nat.zero_le _,cZ,⟨_,bu⟩,⟨_,bu⟩,⟨_,by rw[Nat.add_zero];exact bu⟩,by rw[Nat.add_zero];exact hq,hw⟩ ?_
    clear r0 r19 r18 hq hc hw
    rintro i H n ⟨hi,hn,⟨d0,r0⟩,⟨d19,r19⟩,⟨d18,r18⟩,hq,hw⟩
    by_cases hil:i<u.bw.length
    ·have hk:u.shared.length+u.cC.length+i<(cm u).length:=by simp only[cm,List.length_append,List.length_map];omega
     have hs:(cm u).getD (u.shared.length+u.cC.length+i) default=(u.bw.getD i default).name:=R5 u hil
     obtain⟨ha,ht⟩:=lR u hk hq hs
     have hsz:=(hu.bw _ (cQ default hil)).name
     repeat' (first|((with_reducible refine aF ?_);conv=>whnf)|refine aG ?_|exact gB|with_reducible refine aD ?_ ?_|((with_reducible refine Ask.mk ?_);first|exact dv|exact dA|(intro h;simp_all[bt.cells,cD.cells]<;>fail)|(simp_all[bt.cells,cD.cells]<;>fail))|(apply aB;(·(first|exact U4|exact cN)))|refine aH ?_|((with_reducible refine aA ?_ ?_)<;>intro hc<;>(try simp only[List.length_map,ne_eq,dX] at hc)<;>try(exfalso;omega)))
     refine aJ (rB _ hsz ((cm u).take (u.shared.length+u.cC.length+i)) 19 18 _ _ _ _ _ _ bu bu cZ cZ (by decide)) ?_
     rintro _ H2 n2 ⟨rfl,hn2,hput,hf⟩
     have hn12:n≤n2:=Nat.le_trans cZ hn2
     have r02:br H2 0=some (.row 25 3 d0 [u.av]):=(hf 0 (Nat.lt_of_lt_of_le (by omega:0<n) cZ) (by decide)).trans bu
     have r192:br H2 19=some (.row 178 1 d19 [.mp 18]):=(hf 19 (Nat.lt_of_lt_of_le (by omega:19<n) cZ) (by decide)).trans bu
     cases hg:(lI (u.bw.getD i default).name&& !jR ((cm u).take (u.shared.length+u.cC.length+i)) (u.bw.getD i default).name) with
     |false=>
      rw[hg,if_neg (by decide)] at ha
      have hb:fR u=false:=by unfold fR;rw[ha];simp
      rw[hb]
      repeat' (first|((with_reducible refine aF ?_);conv=>whnf)|refine aG ?_|exact gB|with_reducible refine aD ?_ ?_|((with_reducible refine Ask.mk ?_);first|exact dv|exact dA|(intro h;simp_all[bt.cells,cD.cells]<;>fail)|(simp_all[bt.cells,cD.cells]<;>fail))|(apply aB;(·exact cN))|refine aH ?_|((with_reducible refine aA ?_ ?_)<;>intro hc<;>(try simp only[List.length_map,ne_eq,dX] at hc)<;>try(exfalso;omega)))
      exact rfl
     |true=>
      rw[hg,if_pos rfl] at ha
      have hnm:jR ((cm u).take (u.shared.length+u.cC.length+i)) (u.bw.getD i default).name=false:=by revert hg;cases jR ((cm u).take (u.shared.length+u.cC.length+i)) (u.bw.getD i default).name<;>simp
      have r182:=hput hnm
      rw[←ht] at r182
      clear hf hput
      repeat' (first|((with_reducible refine aF ?_);conv=>whnf)|refine aG ?_|exact gB|with_reducible refine aD ?_ ?_|((with_reducible refine Ask.mk ?_);first|exact dv|exact dA|(intro h;simp_all[bt.cells,cD.cells]<;>fail)|(simp_all[bt.cells,cD.cells]<;>fail))|(apply aB;(·exact cN))|refine aH ?_|((with_reducible refine aA ?_ ?_)<;>intro hc<;>(try simp only[List.length_map,ne_eq,dX] at hc)<;>try(exfalso;omega)))
      exact⟨i+1,by omega,cF,by omega,by omega,⟨_,bu⟩,⟨_,bu⟩,⟨_,bu⟩,ha.symm,hw⟩
    ·have hie:i=u.bw.length:=by omega
     subst hie
     repeat' (first|((with_reducible refine aF ?_);conv=>whnf)|refine aG ?_|exact gB|with_reducible refine aD ?_ ?_|((with_reducible refine Ask.mk ?_);first|exact dv|exact dA|(intro h;simp_all[bt.cells]<;>fail)|(simp_all[bt.cells]<;>fail))|(apply aB;(·exact cN))|refine aH ?_|((with_reducible refine aA ?_ ?_)<;>intro hc<;>(try simp only[List.length_map,ne_eq,dX] at hc)<;>try(exfalso;omega)))
     refine ee (Eq.symm ?_)
     have e:u.shared.length+u.cC.length+u.bw.length=(cm u).length:=by simp only[cm,List.length_append,List.length_map];omega
     have hall:gO [] (cm u)=true:=by
      rw[←hq,e,List.drop_eq_nil_of_le (Nat.le_refl _)]
      cases(cm u).take (cm u).length<;>rfl
     unfold fR
     rw[decide_eq_true hl.1,decide_eq_true hl.2.1,decide_eq_true hl.2.2,hall]
     simp only[Bool.true_and]
     rw[List.all_eq_true]
     intro d hd
     obtain⟨j,hj,rfl⟩:=List.getElem_of_mem hd
     have:=hw j hj
     rw[show u.cC.getD j default=u.cC[j] by simp[List.getD,hj]] at this
     exact decide_eq_true this
 ·have hb:fR u=false:=by
   unfold fR
   by_cases a1:u.shared.length≤64
   ·by_cases a2:u.cC.length≤16
    ·rw[decide_eq_false (fun a3=>hl ⟨a1,a2,a3⟩:¬u.bw.length≤8)];simp
    ·rw[decide_eq_false a2];simp
   ·rw[decide_eq_false a1];simp
  rw[hb]
  repeat' (first|((with_reducible refine aF ?_);conv=>whnf)|refine aG ?_|exact gB|with_reducible refine aD ?_ ?_|((with_reducible refine Ask.mk ?_);first|exact dv|exact dA|(intro h;simp_all[bt.cells]<;>fail)|(simp_all[bt.cells]<;>fail))|(apply aB;(·exact cN))|refine aH ?_|((with_reducible refine aA ?_ ?_)<;>intro hc<;>(try simp only[List.length_map,ne_eq,dX] at hc)<;>try(exfalso;omega)))
  exact rfl
end Go.Proofs.YtjopoheligmmoaaGreatDoor
end
section
/- Lists of numbers: cloned, and held one against another. -/
namespace Go.cX
open Go.RowKit
theorem Wk.X7 {H:Hp} {nx b:Nat} {e:TypeId} {sz:Nat} {d:AV} {es es2:List AV} (d2:AV) (hb:br H b=some (.row e sz d es)) (hl:es.length=es2.length) (h:∀c c2:Cx,c.le c2→c2.w=c.w→dI c c2 es es2):Wk .any H nx .any ((b,some (.row e sz d2 es2))::H) nx:=by
 refine Wk.tell (Nat.le_refl _) (fun x e' sz' d' es' he=> ?_) (fun w0 c c2 hS hU hc hc2 hw hle hnew hM=>⟨dQ.any _ _ _,fun x e' sz' d' es' d0 es0 h1 h2=> ?_⟩)
 ·by_cases hx:x=b
  ·subst hx
   rw[cn] at he
   cases he
   exact .inl ⟨d,es,hb,hl⟩
  ·rw[cV hx] at he
   exact .inl ⟨d',es',he,rfl⟩
 ·by_cases hx:x=b
  ·subst hx
   rw[cn] at h1
   rw[hb] at h2
   cases h1;cases h2
   exact h c c2 hle hw
  ·rw[cV hx] at h1
   rw[h1] at h2;cases h2
   exact dI.cP hle _
theorem dI.rep {c c2:Cx} {a b:AV} (h:dQ c c2 a b):∀n,dI c c2 (List.replicate n a) (List.replicate n b)
 |0=> .nil
 |n+1=> .cons h (dI.rep h n)
end Go.cX
namespace Go.Proofs.YtjopoheligmmoaaGreatDoor
open Go Go.cX Go.Proofs
set_option linter.unusedSimpArgs false
set_option linter.unusedVariables false
theorem oV {l:List Int} {i:Nat} (h:i<l.length) (d:AV):(l.map i64).getD i d=i64 (l.getD i 0):=cy i64 l i d h
theorem tC {es:List AV} (hsz:es.length * 8≤140737488355328):cI Tryz.prog 119 [.im 1 .any es] [] 0 (qt [] 0 3 1 es):=by
 refine qt.of (by omega) ?_
 refine aM yH rfl ?_
 cases hes:es with
 |nil=>
  repeat' (first|((with_reducible refine aF ?_);conv=>whnf)|refine aG ?_|exact aC|with_reducible refine aD ?_ ?_|(apply aB;(·exact cN))|refine aH ?_|((with_reducible refine aA ?_ ?_)<;>intro hc<;>(try simp only[List.length_map,ne_eq,dX] at hc)<;>try(exfalso;omega)))
  ·exact⟨.inl ⟨rfl,rfl,cZ,wg⟩⟩
  ·exact⟨.inr ⟨_,_,rfl,cZ,cZ,cZ,bu,wg⟩⟩
 |cons x t=>
  rw[hes] at hsz
  simp only[List.length_cons] at hsz
  repeat' (first|((with_reducible refine aF ?_);conv=>whnf)|refine aG ?_|exact aC|with_reducible refine aD ?_ ?_|(apply aB;(·exact cN))|refine aH ?_|((with_reducible refine aA ?_ ?_)<;>intro hc<;>(try simp only[List.length_map,ne_eq,dX] at hc)<;>try(exfalso;omega)))
  ·exact⟨.inr ⟨3,_,(by simp),cZ,cZ,cZ,bu,wg⟩⟩
theorem nB {es:List AV} (hsz:es.length * 8≤140737488355328):cI Tryz.prog 119 [.im 1 .any es] [] 0 (fun r1 H1 _=>∃b d0,r1= .sl b es.length∧br H1 b=some (.row 3 1 d0 es)):=
 (tC hsz).mono fun r H n ⟨b,d,h1,_,_,_,h2,_⟩=>⟨b,d,h1,h2⟩
theorem xN (l m:List Int) (hl:l.length * 8≤140737488351232) (hm:m.length * 8≤140737488351232):Pure Tryz.prog 121 [fQ l,fQ m] (fun r=>r=bl (decide (l=m))):=by
 refine aI yJ rfl ?_
 unfold fQ
 repeat' (first|((with_reducible refine aF ?_);conv=>whnf)|refine aG ?_|exact aC|with_reducible refine aD ?_ ?_|(apply aB;(·exact cN))|refine aH ?_|((with_reducible refine aA ?_ ?_)<;>intro hc<;>(try simp only[List.length_map,ne_eq,dX] at hc)<;>try(exfalso;omega)))
 ·refine ee (Eq.symm ?_)
  exact decide_eq_false fun e=>hc (by rw[e])
 ·have hlm:l.length=m.length:=by omega
  refine aL (fun i:Nat=>[(0,fQ l),(1,fQ m),(12,i64 l.length),(13,i64 i)])
   (fun i H n=>i≤l.length∧∀j,j<i→l.getD j 0=m.getD j 0) (fun i=>l.length - i) 0 cF ⟨Nat.zero_le _,fun _ h=>by omega⟩ ?_
  unfold fQ
  rintro i H n ⟨hi,hall⟩
  by_cases hil:i<l.length
  ·have e1:=oV (l:=l) hil
   have e2:=oV (l:=m) (i:=i) (by omega)
   repeat' (first|((with_reducible refine aF ?_);conv=>whnf)|refine aG ?_|exact aC|with_reducible refine aD ?_ ?_|(apply aB;(·(first|exact e1 _|exact e2 _|exact cN)))|refine aH ?_|((with_reducible refine aA ?_ ?_)<;>intro hc<;>(try simp only[List.length_map,ne_eq,dX] at hc)<;>try(exfalso;omega)))
   ·refine ee (Eq.symm ?_)
    exact decide_eq_false fun e=>hc (by rw[e])
   ·refine⟨i+1,by omega,cF,by omega,fun j hj=> ?_⟩
    by_cases hji:j=i
    ·subst hji;exact hc
    ·exact hall j (by omega)
  ·have:i=l.length:=by omega
   subst this
   repeat' (first|((with_reducible refine aF ?_);conv=>whnf)|refine aG ?_|exact aC|with_reducible refine aD ?_ ?_|(apply aB;(·exact cN))|refine aH ?_|((with_reducible refine aA ?_ ?_)<;>intro hc<;>(try simp only[List.length_map,ne_eq,dX] at hc)<;>try(exfalso;omega)))
   refine ee (Eq.symm ?_)
   refine decide_eq_true (List.ext_getElem hlm fun j h1 h2=> ?_)
   have:=hall j h1
   simpa[List.getD,h1,h2] using this
def Told (nv:AV) (l:List Int) (H:Hp) (nx:Nat):Prop:=nv=fQ l∨∃b d,nv= .sl b l.length∧b<nx∧br H b=some (.row 3 1 d (l.map i64))
theorem Told.dU {nv:AV} {l:List Int} {H:Hp} {nx:Nat} (h:Told nv l H nx) (k:Nat):cX.dU H (k+1) nv=fQ l:=by
 rcases h with rfl|⟨b,d,rfl,_,hb⟩
 ·exact du _ (by simp[cK,fQ,cB])
 ·rw[de hb (by simp),cx _ ((cB _ _).2 fun _ _=>by simp[cK])];rfl
theorem qo {nv:AV} {l:List Int} {H:Hp} {nx:Nat} (h:Told nv l H nx) (m:List Int) (hl:l.length * 8≤140737488351232) (hm:m.length * 8≤140737488351232):cI Tryz.prog 121 [fQ m,nv] H nx (fun r H' n=>r=bl (decide (m=l))∧H'=H∧n=nx):=by
 refine Pure.view (args2:=[fQ m,fQ l]) (xN m l hm hl) ?_ (by simp[cW,cK,fQ,cB]) trivial ⟨rfl,rfl,rfl⟩
 rw[List.map_cons,List.map_cons,List.map_nil,h.dU,du 6 (by simp[cK,fQ,cB])]
theorem kz {nv:AV} {l:List Int} {H:Hp} {nx:Nat} (h:Told nv l H nx) (hl:l.length * 8≤140737488351232):cI Tryz.prog 119 [nv] H nx (fun r H' n=>r=fQ l∧nx≤n∧∀b,b<nx→br H' b=br H b):=by
 refine cI.wk (cI.UX (es:=l.map i64) (args2:=[fQ l]) (nB (by rw[List.length_map];omega)) (fun i hi=>by rw[cy i64 _ _ _ (by simpa using hi)];trivial) (by rw[List.map_cons,List.map_nil,h.dU]) (by simp[cW,cK,fQ,cB])) ?_
 rintro r H' n ⟨rfl,rfl,rfl⟩
 have hw:=Wk.XD (r:= .sl nx (l.map i64).length) (H:=(nx,some (.row 3 1 .any (l.map i64)))::H) (nx:=nx+1) [(nx,some (.row 3 1 .any (l.map i64)))] 1 (fun b q hq=>by
  by_cases hb:b=nx
  ·subst hb;rw[cn] at hq ⊢;exact hq
  ·rw[cV hb] at hq;cases hq)
 refine⟨_,_,_,hw, ?_,by omega,fun b hb=> ?_⟩
 ·rw[MT (cn _ _ _) rfl,sF];rfl
 ·rw[nX,HY,cV (by omega),cV (by omega)]
end Go.Proofs.YtjopoheligmmoaaGreatDoor
end
section
/- Tables that grow till nothing changes, in plain data. -/
namespace Go.Proofs.YtjopoheligmmoaaGreatDoor
open Go Go.cX Go.Proofs
set_option linter.unusedSimpArgs false
set_option linter.unusedVariables false
abbrev AI:=List (List Bool)
def pI (T:AI) (i k:Nat):Bool:=(T.getD i []).getD k false
def J1 (T:AI) (i k:Nat):AI:=T.set i ((T.getD i []).set k true)
structure Shape (T:AI) (m n:Nat):Prop where
 len:T.length=m
 row:∀i,i<m→(T.getD i []).length=n
theorem ep {α:Type} (l:List α) (i j:Nat) (v d:α):(l.set i v).getD j d=if i=j∧i<l.length then v else l.getD j d:=by
 simp only[List.getD,List.getElem?_set]
 by_cases h:i=j
 ·subst h
  by_cases h2:i<l.length
  ·simp[h2]
  ·simp[h2]
 ·simp[h]
theorem O2 {T:AI} {m n i k:Nat} (h:Shape T m n) (hi:i<m) (hk:k<n) (i' k':Nat):pI (J1 T i k) i' k'=if i=i'∧k=k' then true else pI T i' k':=by
 unfold pI J1
 rw[ep]
 by_cases h1:i=i'
 ·subst h1
  rw[if_pos ⟨rfl,by rw[h.len];exact hi⟩,ep]
  by_cases h2:k=k'
  ·subst h2;rw[if_pos ⟨rfl,by rw[h.row i hi];exact hk⟩,if_pos ⟨rfl,rfl⟩]
  ·rw[if_neg (fun h=>h2 h.1),if_neg (fun h=>h2 h.2)]
 ·rw[if_neg (fun h=>h1 h.1),if_neg (fun h=>h1 h.1)]
theorem Shape.set {T:AI} {m n:Nat} (h:Shape T m n) (i k:Nat):Shape (J1 T i k) m n:=by
 refine⟨by simp[J1,h.len],fun j hj=> ?_⟩
 unfold J1
 rw[ep]
 split
 ·rename_i e;rw[List.length_set,e.1];exact h.row j hj
 ·exact h.row j hj
inductive V5 (g:cD) (oH cP:Node→Nat→Bool) (k:Nat):Nat→Prop where
 |oH {i:Nat}:oH (g.nd i) k=true→V5 g oH cP k i
 |on {i:Nat} {j:Int}:cP (g.nd i) k=true→j∈(g.nd i).ny→V5 g oH cP k j.toNat→V5 g oH cP k i
def UH (T:AI) (n:Node) (k:Nat):Bool:=n.ny.any fun j=>pI T j.toNat k
theorem KP (f:Int→Bool) (n:Node):n.fold.any f=n.ny.any f:=HK (fun l=>l.any f) n (fun a=>by simp)
def xD (g:cD) (oH cP:Node→Nat→Bool) (T:AI) (i k:Nat):Bool:=oH (g.nd i) k||(cP (g.nd i) k&&UH T (g.nd i) k)
structure Grow (g:cD) (oH cP:Node→Nat→Bool) (n:Nat) (T:AI):Prop where
 shape:Shape T g.nodes.length n
 sound:∀i k,pI T i k=true→V5 g oH cP k i
def vA (m n:Nat):AI:=List.replicate m (List.replicate n false)
theorem DH (m n i k:Nat):pI (vA m n) i k=false:=by
 unfold pI vA
 simp only[List.getD,List.getElem?_replicate]
 by_cases h:i<m
 ·simp only[h,if_true,Option.getD_some,List.getElem?_replicate];split<;>rfl
 ·simp[h]
theorem zh (m n:Nat):Shape (vA m n) m n:=⟨by simp[vA],fun i hi=>by simp[vA,List.getD,List.getElem?_replicate,hi]⟩
theorem Grow.start (g:cD) (oH cP:Node→Nat→Bool) (n:Nat):Grow g oH cP n (vA g.nodes.length n):=
 ⟨zh _ _,fun i k h=>by rw[DH] at h;cases h⟩
theorem wy {T:AI} {n:Node} {k:Nat}:UH T n k=true↔∃j∈n.ny,pI T j.toNat k=true:=by
 unfold UH;rw[List.any_eq_true]
theorem Grow.step {g:cD} {oH cP:Node→Nat→Bool} {n:Nat} {T:AI} (h:Grow g oH cP n T) {i k:Nat} (hi:i<g.nodes.length) (hk:k<n) (hc:xD g oH cP T i k=true):Grow g oH cP n (J1 T i k):=by
 refine⟨h.shape.set i k,fun i' k' ht=> ?_⟩
 rw[O2 h.shape hi hk] at ht
 split at ht
 ·rename_i e
  obtain⟨rfl,rfl⟩:=e
  unfold xD at hc
  rw[Bool.or_eq_true,Bool.and_eq_true] at hc
  rcases hc with h1|⟨h1,h2⟩
  ·exact .oH h1
  ·obtain⟨j,hj,h3⟩:=wy.1 h2
   exact .on h1 hj (h.sound _ _ h3)
 ·exact h.sound _ _ ht
open Classical in
noncomputable def GX (g:cD) (oH cP:Node→Nat→Bool) (n:Nat):AI:=(List.range g.nodes.length).map fun i=>(List.range n).map fun k=>decide (V5 g oH cP k i)
theorem C2 (g:cD) (oH cP:Node→Nat→Bool) (n:Nat):Shape (GX g oH cP n) g.nodes.length n:=⟨by simp[GX],fun i hi=>by simp[GX,List.getD,hi]⟩
theorem J0 (g:cD) (oH cP:Node→Nat→Bool) (n:Nat) {i k:Nat} (hi:i<g.nodes.length) (hk:k<n):pI (GX g oH cP n) i k=true↔V5 g oH cP k i:=by
 simp[pI,GX,List.getD,hi,hk]
theorem S1 {T S:AI} {m n:Nat} (hT:Shape T m n) (hS:Shape S m n) (h:∀i k,i<m→k<n→pI T i k=pI S i k):T=S:=by
 apply List.ext_getElem (hT.len.trans hS.len.symm)
 intro i h1 h2
 have hi:i<m:=by rw[←hT.len];exact h1
 have e1:T.getD i []=T[i]:=by simp[List.getD,h1]
 have e2:S.getD i []=S[i]:=by simp[List.getD,h2]
 rw[←e1,←e2]
 apply List.ext_getElem ((hT.row i hi).trans (hS.row i hi).symm)
 intro k h3 h4
 have:=h i k hi (by rw[←hT.row i hi];exact h3)
 unfold pI at this
 have g:∀(l:List Bool) (h:k<l.length),l[k]=l.getD k false:=fun l h=>by simp[List.getD,h]
 rw[g _ h3,g _ h4]
 exact this
theorem Grow.fin {g:cD} {oH cP:Node→Nat→Bool} {n:Nat} {T:AI} (hw:Whole g) (h:Grow g oH cP n T) (hc:∀i k,i<g.nodes.length→k<n→xD g oH cP T i k=true→pI T i k=true):T=GX g oH cP n:=by
 refine S1 h.shape (C2 _ _ _ _) fun i k hi hk=> ?_
 rw[Bool.eq_iff_iff,J0 g oH cP n hi hk]
 refine⟨h.sound i k,fun ha=> ?_⟩
 induction ha with
 |oH hb=>exact hc _ _ hi hk (by unfold xD;rw[hb];rfl)
 |@on i j hkp hj _ ih=>
  have hj2:=(hw.2.2 i hi).2.2 j hj
  have:=ih hj2.2
  refine hc _ _ hi hk ?_
  unfold xD
  rw[hkp,wy.2 ⟨j,hj,this⟩]
  simp
structure vB where
 kind:Int
 dZ:Int
 lock:Int
 deriving Inhabited,DecidableEq
def vB.cells (c:vB):List AV:=[u8 c.kind,i64 c.dZ,i64 c.lock]
abbrev vB.av (c:vB):AV:= .agg c.cells
end Go.Proofs.YtjopoheligmmoaaGreatDoor
end
section
/- The locks that are held, in plain data. -/
namespace Go.Proofs.YtjopoheligmmoaaGreatDoor
open Go Go.cX Go.Proofs
set_option linter.unusedSimpArgs false
set_option linter.unusedVariables false
structure ZS (now:List Int) (l:List Int) (s s':HS):Prop where
 oZ:s'.cC.length=s.cC.length
 qb:s'.found.length=s.found.length
 gJ:∀k:Int,s.f k=true→s'.f k=true∧s'.l k=s.l k
 new:∀k:Int,0≤k→s'.f k=true→s.f k=true∨k∈l
 all:∀k∈l,s'.f k=true∧s'.l k=now
 bare:∀k:Int,0≤k→s'.f k=false→s'.l k=s.l k
 more:∃t,s'.todo=s.todo++t∧(∀k∈t,k∈l∧s'.f k=true)∧(∀k:Int,0≤k→s'.f k=true→s.f k=true∨k∈t)∧s'.found.count false+t.length=s.found.count false
theorem HS.uF {s:HS} {i:Nat} {L:List (List Int)} {td:List Int} (h:i<s.found.length) (k:Int):HS.f ⟨L,s.found.set i true,td⟩ k=if k.toNat=i then true else s.f k:=kd h k
theorem HS.TQ {s:HS} {i:Nat} {now:List Int} {F:List Bool} {td:List Int} (h:i<s.cC.length) (k:Int):HS.l ⟨s.cC.set i now,F,td⟩ k=if k.toNat=i then now else s.l k:=by
 unfold HS.l
 simp only
 rw[ep]
 by_cases e:i=k.toNat
 ·rw[if_pos ⟨e,h⟩,if_pos e.symm]
 ·rw[if_neg (fun x=>e x.1),if_neg (fun x=>e x.symm)]
theorem na (now:List Int):∀(l:List Int) (s s':HS),s.cC.length=s.found.length→(∀k∈l,0≤k∧k.toNat<s.found.length)→dY now l s= .inl s'→ZS now l s s'
 |[],s,s',_,_,h=>by
  rw[dY] at h;cases h
  exact⟨rfl,rfl,fun _ h=>⟨h,rfl⟩,fun _ _ h=> .inl h,fun _ h=>by simp at h,fun _ _ _=>rfl,[],by simp,fun _ h=>by simp at h,fun _ _ h=> .inl h,by simp⟩
 |k::r,s,s',hl,hr,h=>by
  obtain⟨hk0,hk⟩:=hr k (by simp)
  have hr2:=fun x hx=>hr x (List.mem_cons_of_mem _ hx)
  rw[dY] at h
  by_cases hf:s.f k=false
  ·rw[if_pos hf] at h
   have ih:=na now r _ s' (by simp[hl]) (fun x hx=>by simpa using hr2 x hx) h
   have fs:=fun x=>HS.uF (s:=s) (i:=k.toNat) (L:=s.cC.set k.toNat now) (td:=s.todo++[k]) hk x
   have ls:=fun x=>HS.TQ (s:=s) (i:=k.toNat) (now:=now) (F:=s.found.set k.toNat true) (td:=s.todo++[k]) (by rw[hl];exact hk) x
   obtain⟨t,t1,t2,t3,t4⟩:=ih.more
   have hkk:=ih.gJ k (by rw[fs,if_pos rfl])
   refine⟨ih.oZ.trans (by simp),ih.qb.trans (by simp),fun x hx=> ?_,fun x hx0 hx=> ?_,fun x hx=> ?_,fun x hx0 hx=> ?_,k::t,by rw[t1];simp,fun x hx=> ?_,fun x hx0 hx=> ?_, ?_⟩
   ·have hne:x.toNat≠k.toNat:=fun e=>by unfold HS.f at hx hf;rw[e] at hx;rw[hx] at hf;cases hf
    have:=ih.gJ x (by rw[fs,if_neg hne];exact hx)
    rw[ls,if_neg hne] at this
    exact this
   ·rcases ih.new x hx0 hx with h2|h2
    ·rw[fs] at h2
     split at h2
     ·rename_i e;exact .inr (by rw[show x=k by omega];simp)
     ·exact .inl h2
    ·exact .inr (List.mem_cons_of_mem _ h2)
   ·rcases List.mem_cons.1 hx with rfl|hx
    ·rw[ls,if_pos rfl] at hkk;exact hkk
    ·exact ih.all x hx
   ·have hne:x.toNat≠k.toNat:=fun e=>by
     have:=hkk.1
     rw[show k=x by omega,hx] at this;cases this
    have:=ih.bare x hx0 hx
    rw[ls,if_neg hne] at this
    exact this
   ·rcases List.mem_cons.1 hx with rfl|hx
    ·exact⟨by simp,hkk.1⟩
    ·exact⟨List.mem_cons_of_mem _ (t2 x hx).1,(t2 x hx).2⟩
   ·rcases t3 x hx0 hx with h2|h2
    ·rw[fs] at h2
     split at h2
     ·rename_i e;exact .inr (by rw[show x=k by omega];simp)
     ·exact .inl h2
    ·exact .inr (List.mem_cons_of_mem _ h2)
   ·have:=count_set hk hf
    rw[List.length_cons]
    dsimp only at t4
    omega
  ·rw[if_neg hf] at h
   have hkt:s.f k=true:=by simpa using hf
   by_cases hn:s.l k=now
   ·rw[if_pos hn] at h
    have ih:=na now r s s' hl hr2 h
    obtain⟨t,t1,t2,t3,t4⟩:=ih.more
    refine⟨ih.oZ,ih.qb,ih.gJ,fun x hx0 hx=>(ih.new x hx0 hx).imp id (List.mem_cons_of_mem _),fun x hx=> ?_,ih.bare,t,t1,fun x hx=>⟨List.mem_cons_of_mem _ (t2 x hx).1,(t2 x hx).2⟩,t3,t4⟩
    rcases List.mem_cons.1 hx with rfl|hx
    ·have:=ih.gJ _ hkt;rw[hn] at this;exact this
    ·exact ih.all x hx
   ·rw[if_neg hn] at h;cases h
structure HI (g:cD) (s:HS) (k:Nat):Prop where
 oZ:s.cC.length=g.nodes.length
 qb:s.found.length=g.nodes.length
 zero:s.f 0=true
 first:s.l 0=[]
 p6:∀i:Int,0≤i→s.f i=true→lN g (-1) i
 bare:∀i:Int,0≤i→s.f i=false→s.l i=[]
 inr:∀i∈s.todo,0≤i∧i.toNat<g.nodes.length∧s.f i=true
 all:∀i:Int,0≤i→s.f i=true→i∈s.todo
 done:∀j,j<k→j<s.todo.length→∃now,dj (g.nd (s.todo.getD j 0).toNat) (s.l (s.todo.getD j 0))=some now∧∀to∈(g.nd (s.todo.getD j 0).toNat).ny,s.f to=true∧s.l to=now
 count:s.todo.length+s.found.count false=g.nodes.length
theorem HI.start {g:cD} (h:Whole g):HI g (vk g) 0:=by
 have hl:=h.1
 have hf:∀k,HS.f (vk g) k=decide (k.toNat=0):=fun k=>by
  have:=kd (l:=List.replicate g.nodes.length false) (i:=0) (by simp;omega) k
  unfold HS.f vk
  simp only
  unfold mS at this
  rw[this]
  by_cases e:k.toNat=0
  ·simp[e]
  ·rw[if_neg e,decide_eq_false e]
   simp only[List.getD,List.getElem?_replicate];split<;>rfl
 have hk:∀k,HS.l (vk g) k=[]:=fun k=>by
  unfold HS.l vk;simp only[List.getD,List.getElem?_replicate];split<;>rfl
 refine⟨by simp[vk],by simp[vk],by rw[hf];simp,hk 0,fun i h0 hi=> ?_,fun i _ _=>hk i,fun i hi=> ?_,fun i h0 hi=> ?_,fun j hj=>by omega, ?_⟩
 ·rw[hf] at hi
  rw[show i=0 by have:=of_decide_eq_true hi;omega];exact .zero
 ·simp only[vk,List.mem_cons,List.not_mem_nil,or_false] at hi
  subst hi
  exact⟨by omega,by simp;omega,by rw[hf];simp⟩
 ·rw[hf] at hi
  rw[show i=0 by have:=of_decide_eq_true hi;omega];simp[vk]
 ·have:=count_set (l:=List.replicate g.nodes.length false) (i:=0) (by simp;omega) (by simp[List.getD,List.getElem?_replicate];split<;>rfl)
  simp only[List.count_replicate_self] at this
  simp only[vk,List.length_cons,List.length_nil]
  omega
theorem HI.next {g:cD} (hw:Whole g) {s s':HS} {k:Nat} (h:HI g s k) (hk:k<s.todo.length) {now:List Int} (hn:dj (g.nd (s.todo.getD k 0).toNat) (s.l (s.todo.getD k 0))=some now) (ht:dY now (g.nd (s.todo.getD k 0).toNat).ny s= .inl s'):HI g s' (k+1):=by
 have hm:=cQ (0:Int) hk
 obtain⟨i1,i2,i3⟩:=h.inr _ hm
 have hfol:=(hw.2.2 _ i2).2.2
 have sp:=na now _ s s' (by rw[h.oZ,h.qb]) (fun x hx=>by rw[h.qb];exact hfol x hx) ht
 obtain⟨t,t1,t2,t3,t4⟩:=sp.more
 have hget:∀j,j<s.todo.length→s'.todo.getD j 0=s.todo.getD j 0:=fun j hj=>by
  rw[t1];simp[List.getD,List.getElem?_append,hj]
 refine⟨sp.oZ.trans h.oZ,sp.qb.trans h.qb,(sp.gJ 0 h.zero).1,(sp.gJ 0 h.zero).2.trans h.first,fun i h0 hi=> ?_,fun i h0 hi=> ?_,fun i hi=> ?_,fun i h0 hi=> ?_,fun j hj hjl=> ?_, ?_⟩
 ·rcases sp.new i h0 hi with h1|h1
  ·exact h.p6 i h0 h1
  ·exact .step (h.p6 _ i1 i3) (by omega) h1
 ·rw[sp.bare i h0 hi]
  refine h.bare i h0 ?_
  cases hq:s.f i with
  |false=>rfl
  |true=>rw[(sp.gJ i hq).1] at hi;cases hi
 ·rw[t1] at hi
  rcases List.mem_append.1 hi with hi|hi
  ·obtain⟨a,b,c⟩:=h.inr i hi
   exact⟨a,b,(sp.gJ i c).1⟩
  ·have:=hfol i (t2 i hi).1
   exact⟨this.1,this.2,(t2 i hi).2⟩
 ·rw[t1]
  rcases t3 i h0 hi with h1|h1
  ·exact List.mem_append_left _ (h.all i h0 h1)
  ·exact List.mem_append_right _ h1
 ·by_cases hjk:j=k
  ·subst hjk
   rw[hget _ hk]
   refine⟨now, ?_,sp.all⟩
   rw[(sp.gJ _ i3).2]
   exact hn
  ·have hj2:j<s.todo.length:=by omega
   rw[hget _ hj2]
   obtain⟨now2,d1,d2⟩:=h.done j (by omega) hj2
   have hjm:=h.inr _ (cQ (0:Int) hj2)
   refine⟨now2,by rw[(sp.gJ _ hjm.2.2).2];exact d1,fun to hto=> ?_⟩
   obtain⟨e1,e2⟩:=d2 to hto
   rw[(sp.gJ _ e1).2]
   exact⟨(sp.gJ _ e1).1,e2⟩
 ·have:=h.count
  rw[t1,List.length_append]
  omega
structure PL (g:cD) (lk:Nat→List Int):Prop where
 zero:lk 0=[]
 on:∀i:Int,lN g (-1) i→∃now,dj (g.nd i.toNat) (lk i.toNat)=some now∧∀k∈(g.nd i.toNat).ny,lk k.toNat=now
theorem HI.fin {g:cD} {s:HS} {k:Nat} (hw:Whole g) (h:HI g s k) (hk:s.todo.length≤k):PL g (fun i=>s.cC.getD i [])∧∀i,i<g.nodes.length→(s.found.getD i false=true↔lN g (-1) i):=by
 have hall:∀i:Int,lN g (-1) i→0≤i∧s.f i=true:=fun i hi=>by
  induction hi with
  |zero=>exact⟨by omega,h.zero⟩
  |@step i j hi _ hj ih=>
   obtain⟨i0,hif⟩:=ih
   have hm:=h.all i i0 hif
   obtain⟨q,hq,e⟩:=List.getElem_of_mem hm
   have e2:s.todo.getD q 0=i:=by simp[List.getD,hq,e]
   obtain⟨now,_,d⟩:=h.done q (by omega) hq
   rw[e2] at d
   have h2:=(hw.2.2 i.toNat (h.inr i hm).2.1).2.2 j hj
   exact⟨h2.1,(d j hj).1⟩
 refine⟨⟨h.first,fun i hi=> ?_⟩,fun i hi=>⟨fun hf=>h.p6 i (by omega) hf,fun hc=>(hall i hc).2⟩⟩
 obtain⟨i0,hif⟩:=hall i hi
 have hm:=h.all i i0 hif
 obtain⟨q,hq,e⟩:=List.getElem_of_mem hm
 have e2:s.todo.getD q 0=i:=by simp[List.getD,hq,e]
 obtain⟨now,d1,d⟩:=h.done q (by omega) hq
 rw[e2] at d1 d
 exact⟨now,d1,fun k hk=>(d k hk).2⟩
theorem sD {g:cD} (hw:Whole g):∀(f:Nat) (s:HS) (k:Nat),HI g s k→k+f=g.nodes.length+1→(fU g f s k).2<0→(fU g f s k).2=-1∧∃s' k',HI g s' k'∧s'.todo.length≤k'∧(fU g f s k).1=s'.cC
 |0,s,k,h,he,_=>by
  have:=h.count
  exact⟨rfl,s,k,h,by omega,rfl⟩
 |f+1,s,k,h,he,hneg=>by
  rw[fU] at hneg ⊢
  by_cases hk:k<s.todo.length
  ·rw[if_pos hk] at hneg ⊢
   have hm:=(h.inr _ (cQ (0:Int) hk))
   cases hn:dj (g.nd (s.todo.getD k 0).toNat) (s.l (s.todo.getD k 0)) with
   |none=>rw[hn] at hneg;simp only at hneg;omega
   |some now=>
    rw[hn] at hneg
    simp only at hneg ⊢
    cases ht:dY now (g.nd (s.todo.getD k 0).toNat).ny s with
    |inl s'=>
     rw[ht] at hneg
     exact sD hw f s' (k+1) (h.next hw hk hn ht) (by omega) hneg
    |inr a=>
     rw[ht] at hneg
     simp only at hneg
     exfalso
     have hfol:=(hw.2.2 _ hm.2.1).2.2
     have:∀(l:List Int) (s:HS),(∀x∈l,0≤x)→dY now l s= .inr a→0≤a:=by
      intro l
      induction l with
      |nil=>intro s _ h;rw[dY] at h;cases h
      |cons x r ih=>
       intro s hx h
       rw[dY] at h
       split at h
       ·exact ih _ (fun y hy=>hx y (List.mem_cons_of_mem _ hy)) h
       ·split at h
        ·exact ih _ (fun y hy=>hx y (List.mem_cons_of_mem _ hy)) h
        ·cases h;exact hx _ (by simp)
     have:=this _ _ (fun x hx=>(hfol x hx).1) ht
     omega
  ·rw[if_neg hk]
   exact⟨rfl,s,k,h,by omega,rfl⟩
theorem kG {g:cD} (hw:Whole g) (h:(eJ g).2<0):(eJ g).2=-1∧(eJ g).1.length=g.nodes.length∧PL g (fun i=>(eJ g).1.getD i [])∧∀i,i<g.nodes.length→¬lN g (-1) i→(eJ g).1.getD i []=[]:=by
 obtain⟨h1,s,k,hi,hk,e⟩:=sD hw _ _ _ (HI.start hw) (by omega) h
 refine⟨h1, ?_, ?_,fun i hl hc=> ?_⟩
 ·unfold eJ;rw[e];exact hi.oZ
 ·unfold eJ;rw[e];exact(hi.fin hw hk).1
 ·unfold eJ;rw[e]
  have hf:=mt ((hi.fin hw hk).2 i hl).1 hc
  have:=hi.bare i (by omega) (by simpa[HS.f] using hf)
  exact this
end Go.Proofs.YtjopoheligmmoaaGreatDoor
end
section
/- What is reached. -/
namespace Go.Proofs.YtjopoheligmmoaaGreatDoor
open Go Go.cX Go.Proofs
set_option linter.unusedSimpArgs false
set_option linter.unusedVariables false
theorem jJ {n:Node} {k:Int}:k∈n.fold↔k∈n.ny:=by
 have:=KP (fun j=>decide (j=k)) n
 rw[Bool.eq_iff_iff,List.any_eq_true,List.any_eq_true] at this
 constructor
 ·intro h;obtain⟨x,h1,h2⟩:=this.1 ⟨k,h,by simp⟩;rw[←of_decide_eq_true h2];exact h1
 ·intro h;obtain⟨x,h1,h2⟩:=this.2 ⟨k,h,by simp⟩;rw[←of_decide_eq_true h2];exact h1
theorem rl (n:Node):n.fold.length≤2:=by unfold Node.fold;split<;>(try split)<;>simp
theorem gd {α:Type} {l:List α} {q:Nat} (h:q<l.length) (d:α):l.getD q d=l[q]:=by simp[List.getD,h]
theorem LW (n:Nat) (l:List Int):cW n (l.map i64):=(cB _ _).2 fun _ _=>by simp[cK]
theorem HG (n:Nat) (l:List Bool):cW n (l.map bl):=(cB _ _).2 fun _ _=>by simp[cK]
theorem j4 {l:List Node} {i:Nat} (h:i<l.length) (d:AV):(l.map Node.av).getD ((i:Int).toNat) d=(l.getD i default).av:=by
 rw[Int.toNat_natCast];exact cy Node.av l i d h
theorem sC {l:List cD} {i:Nat} (h:i<l.length) (d:AV):(l.map cD.av).getD ((i:Int).toNat) d=(l.getD i default).av:=by
 rw[Int.toNat_natCast];exact cy cD.av l i d h
theorem kj {l:List Int} {i:Nat} (h:i<l.length) (d:AV):(l.map i64).getD ((i:Int).toNat) d=i64 (l.getD i 0):=by
 rw[Int.toNat_natCast];exact cy i64 l i d h
theorem sr (g:cD) (hg:g.Wf):Pure Tryz.prog 198 [g.av] (fun r=>r=bl (lA g)):=by
 have hl:=hg.len
 refine aI yd rfl ?_
 repeat' (first|((with_reducible refine aF ?_);conv=>whnf)|refine aG ?_|exact gB|with_reducible refine aD ?_ ?_|((with_reducible refine Ask.mk ?_);first|exact dv|exact dA|(intro h;simp_all[cD.cells]<;>fail)|(simp_all[cD.cells]<;>fail))|(apply aB;(·exact cN))|refine aH ?_|((with_reducible refine aA ?_ ?_)<;>intro hc<;>(try simp only[List.length_map,ne_eq,dX] at hc)<;>try(exfalso;omega)))
 ·refine ee (Eq.symm ?_)
  unfold lA
  by_cases h1:1≤g.nodes.length
  ·rw[decide_eq_false (show ¬g.nodes.length≤4096 by omega)];simp
  ·rw[decide_eq_false h1];simp
 ·simp only[List.length_map]
  refine aL (fun i:Nat=>[(1, .pt 0 1 0 0),(18,iW g.nodes),(19,i64 g.nodes.length),(20,i64 i)])
   (fun i H n=>i≤g.nodes.length∧16≤n∧(∃d,br H 0=some (.row 60 4 d [g.av]))∧∀j,j<i→sh g.nodes.length (g.nd j)=true) (fun i=>g.nodes.length - i) 0 cF ⟨Nat.zero_le _,cZ,⟨_,bu⟩,fun _ h=>by omega⟩ ?_
  rintro i H n ⟨hi,hn,⟨d0,r0⟩,hall⟩
  by_cases hil:i<g.nodes.length
  ·have hbad:sh g.nodes.length (g.nd i)=false→lA g=false:=fun h=>by
    unfold lA
    rw[Bool.and_eq_false_iff]
    right
    rw[Bool.eq_false_iff,ne_eq,List.all_eq_true]
    intro hA
    have:=hA _ (cQ default hil)
    rw[show g.nodes.getD i default=g.nd i from rfl,h] at this;cases this
   have hf:=kg (g.nd i)
   have h2:=rl (g.nd i)
   unfold fQ at hf
   repeat' (first|((with_reducible refine aF ?_);conv=>whnf)|refine aG ?_|exact gB|with_reducible refine aD ?_ ?_|((with_reducible refine Ask.mk ?_);first|exact dv|exact dA|(intro h;simp_all[cD.cells,Node.cells]<;>fail)|(simp_all[cD.cells,Node.cells]<;>fail))|(apply aB;(·(first|exact j4 hil _|exact cN)))|refine aK (hf) ?_|refine aH ?_|((with_reducible refine aA ?_ ?_)<;>intro hc<;>(try simp only[List.length_map,ne_eq,dX] at hc)<;>try(exfalso;omega)))
   ·refine ee (Eq.symm (hbad ?_))
    unfold sh
    have hc:(g.nd i).kind=0∨10≤(g.nd i).kind:=hc
    by_cases h1:(g.nd i).kind<10
    ·rw[decide_eq_false (show ¬1≤(g.nd i).kind by omega)];simp
    ·rw[decide_eq_false h1];simp
   ·have hk0:0≤(g.nd i).kind:=(hg.nodes _ (cQ default hil)).kind.1
    have hkk:¬(g.nd i).kind=0∧(g.nd i).kind<10:=hc
    clear hf
    simp only[List.length_map]
    refine aL (fun j:Nat=>[(1, .pt 0 1 0 0),(4, .pt (n+3) 1 0 0),(18,iW g.nodes),(19,i64 g.nodes.length),(20,i64 i),(33,fQ (g.nd i).fold),(34,i64 (g.nd i).fold.length),(35,i64 j)])
     (fun j H2 n2=>j≤(g.nd i).fold.length∧n+4≤n2∧(∃d,br H2 0=some (.row 60 4 d [g.av]))∧∀q,q<j→0≤(g.nd i).fold.getD q 0∧(g.nd i).fold.getD q 0<g.nodes.length) (fun j=>(g.nd i).fold.length - j) 0 cF ⟨Nat.zero_le _,cZ,⟨_,bu⟩,fun _ h=>by omega⟩ ?_
    clear r0
    rintro j H2 n2 ⟨hj,hn2,⟨d02,r02⟩,hq⟩
    unfold fQ
    by_cases hjl:j<(g.nd i).fold.length
    ·repeat' (first|((with_reducible refine aF ?_);conv=>whnf)|refine aG ?_|exact gB|with_reducible refine aD ?_ ?_|((with_reducible refine Ask.mk ?_);first|exact dv|exact dA|(intro h;simp_all[cD.cells]<;>fail)|(simp_all[cD.cells]<;>fail))|(apply aB;(·(first|exact kj hjl _|exact cN)))|refine aH ?_|((with_reducible refine aA ?_ ?_)<;>intro hc<;>(try simp only[List.length_map,ne_eq,dX] at hc)<;>try(exfalso;omega)))
     ·refine ee (Eq.symm (hbad ?_))
      unfold sh
      rw[Bool.and_eq_false_iff]
      right
      rw[Bool.eq_false_iff,ne_eq,List.all_eq_true]
      intro hA
      have:=hA _ (jJ.1 (cQ 0 hjl))
      simp only[Bool.and_eq_true,decide_eq_true_eq] at this
      omega
     ·refine⟨j+1,by omega,cF,by omega,by omega,⟨_,bu⟩,fun q hq2=> ?_⟩
      by_cases e:q=j
      ·rw[e];omega
      ·exact hq q (by omega)
    ·have:j=(g.nd i).fold.length:=by omega
     subst this
     repeat' (first|((with_reducible refine aF ?_);conv=>whnf)|refine aG ?_|exact aC|with_reducible refine aD ?_ ?_|(apply aB;(·exact cN))|refine aH ?_|((with_reducible refine aA ?_ ?_)<;>intro hc<;>(try simp only[List.length_map,ne_eq,dX] at hc)<;>try(exfalso;omega)))
     refine⟨i+1,by omega,cF,by omega,by omega,⟨_,bu⟩,fun j hj=> ?_⟩
     by_cases e:j=i
     ·rw[e]
      unfold sh
      rw[decide_eq_true (show 1≤(g.nd i).kind by omega),decide_eq_true hkk.2]
      simp only[Bool.true_and]
      rw[List.all_eq_true]
      intro k hk
      obtain⟨q,hq1,e⟩:=List.getElem_of_mem (jJ.2 hk)
      have:=hq q hq1
      rw[gd hq1,e] at this
      simp[this.1,this.2]
     ·exact hall j (by omega)
  ·have:i=g.nodes.length:=by omega
   subst this
   repeat' (first|((with_reducible refine aF ?_);conv=>whnf)|refine aG ?_|exact aC|with_reducible refine aD ?_ ?_|(apply aB;(·exact cN))|refine aH ?_|((with_reducible refine aA ?_ ?_)<;>intro hc<;>(try simp only[List.length_map,ne_eq,dX] at hc)<;>try(exfalso;omega)))
   refine ee (Eq.symm ?_)
   unfold lA
   rw[decide_eq_true (show 1≤g.nodes.length by omega),decide_eq_true (show g.nodes.length≤4096 by omega)]
   simp only[Bool.true_and]
   rw[List.all_eq_true]
   intro m hm
   obtain⟨q,hq1,rfl⟩:=List.getElem_of_mem hm
   have:=hall q hq1
   rw[show g.nd q=g.nodes[q] by simp[List.getD,hq1]] at this
   exact this
theorem wI (g:cD) (hg:g.Wf) (hw:lA g=true) (hs:Pure Tryz.prog 199 [g.av,i64 (-1)] (fun r=>r=EE (fS g (-1)))):Pure Tryz.prog 166 [g.av] (fun r=>r=EE (fS g (-1))):=by
 refine aI yZ rfl ?_
 have h1:=sr g hg
 rw[hw] at h1
 repeat' (first|((with_reducible refine aF ?_);conv=>whnf)|refine aG ?_|exact gB|with_reducible refine aD ?_ ?_|((with_reducible refine Ask.mk ?_);first|exact dv|exact dA|(intro h;simp_all[cD.cells]<;>fail)|(simp_all[cD.cells]<;>fail))|(apply aB;(·exact cN))|refine aK (h1) ?_|refine aK (hs) ?_|refine aH ?_|((with_reducible refine aA ?_ ?_)<;>intro hc<;>(try simp only[List.length_map,ne_eq,dX] at hc)<;>try(exfalso;omega)))
 exact PN.eq (by simp[cK,EE,cB]) rfl
end Go.Proofs.YtjopoheligmmoaaGreatDoor
end
