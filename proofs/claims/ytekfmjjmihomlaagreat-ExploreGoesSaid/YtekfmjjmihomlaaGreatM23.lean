import Derived.Test.YtekfmjjmihomlaaGreatM22
section
/- Are names and numbers right? -/
namespace Go.Proofs.YtekfmjjmihomlaaGreat
open Go Go.cO Go.Proofs
set_option linter.unusedSimpArgs false
set_option linter.unusedVariables false
abbrev ug (E:List (ByteArray×Bool)):List AV:=nF (fun s:ByteArray=>Value.string s) bl E
theorem MY (E:List (ByteArray×Bool)) (t:ByteArray):sH true (.string t) (ug E) (bl false)=some (bl ((eA E t).getD false),(eA E t).isSome):=(wT sA bl t E (bl false)).trans (by cases eA E t<;>rfl)
theorem M7 (E:List (ByteArray×Bool)) (t:ByteArray) (v:Bool):ui true (.string t) (ug E) (bl v)=some (ug (gT E t v)):=wU sA bl t v E
def kC (l:List ByteArray):List (ByteArray×Bool):=l.map fun s=>(s,true)
def iD:List ByteArray→ByteArray→Bool
 |[],_=>false
 |a::l,s=>if s=a then true else iD l s
theorem AB (l:List ByteArray) (s:ByteArray):(eA (kC l) s).getD false=iD l s:=by
 induction l with
 |nil=>rfl
 |cons a l ih=>
  show((if s=a then some true else eA (kC l) s)).getD false=(if s=a then true else iD l s)
  by_cases h:s=a
  ·rw[if_pos h,if_pos h];rfl
  ·rw[if_neg h,if_neg h,ih]
theorem D8 (l:List ByteArray) (s:ByteArray) (h:iD l s=false):gT (kC l) s true=kC (l++[s]):=by
 induction l with
 |nil=>rfl
 |cons a l ih=>
  rw[iD] at h
  by_cases e:s=a
  ·rw[if_pos e] at h;cases h
  ·rw[if_neg e] at h
   show(if s=a then(s,true)::kC l else(a,true)::gT (kC l) s true)=_
   rw[if_neg e,ih h];rfl
theorem oT (s:ByteArray) (hs:s.size≤140737488351232) (l:List ByteArray) (b m:Nat) (H:Hp) (nx:Nat) (e em:TypeId) (d dm:AV) (hb:bd H b=some (.row e 1 d [.mp m])) (hm:bd H m=some (.row em 0 dm (mapA (ug (kC l))))) (hbn:b<nx) (hmn:m<nx) (hbm:b≠m):
 cD Tryz.prog 114 [st s, .pt b 1 0 0] H nx (fun r H' n=>r=bl (jb s&& !iD l s)∧nx≤n∧(iD l s=false→bd H' m=some (.row em 0 dm (mapA (ug (kC (l++[s]))))))∧∀y,y<nx→y≠m→bd H' y=bd H y):=by
 refine aQ tm rfl ?_
 repeat' (first|((with_reducible refine aF ?_);conv=>whnf)|refine aG ?_|exact aC|with_reducible refine aD ?_ ?_|(apply aA;(·exact cI))|refine aK (zn s hs) ?_|(apply aP (g:=some _);(·exact fun _=>MY _ _))|(apply aP (g:=none);(·exact fun _=>M7 _ _ _))|refine aH ?_|((with_reducible refine aB ?_ ?_)<;>intro hc<;>(try simp only[List.length_map,ne_eq,db] at hc)<;>try(exfalso;omega)))
 refine⟨⟨?_,cW,fun h=> ?_,fun y hy hym=> ?_⟩⟩
 ·rw[AB]
  refine ee ?_
  cases jb s<;>cases iD l s<;>rfl
 ·rw[←D8 l s h]
  exact bg
 ·exact bq
def fQ:List ByteArray→List ByteArray→Bool
 |_,[]=>true
 |acc,s::r=>if(jb s&& !iD acc s)=true then fQ (acc++[s]) r else false
def cQ (u:bf):List ByteArray:=u.shared.map Decl.name++(u.cB.map Decl.name++u.bk.map cC.name)
def ed (u:bf):Bool:=decide (u.shared.length≤64)&&decide (u.cB.length≤16)&&decide (u.bk.length≤8)&&fQ [] (cQ u)&&u.cB.all (fun d=>decide (d.word=0))
theorem ji (u:bf) {k:Nat} (hk:k<(cQ u).length) (h:fQ ((cQ u).take k) ((cQ u).drop k)=fQ [] (cQ u)) {s:ByteArray} (hs:(cQ u).getD k default=s):
 (fQ [] (cQ u)=if(jb s&& !iD ((cQ u).take k) s)=true then fQ ((cQ u).take (k+1)) ((cQ u).drop (k+1)) else false)∧(cQ u).take (k+1)=(cQ u).take k++[s]:=by
 have e:(cQ u)[k]=s:=by rw[←hs];simp[List.getD,hk]
 have e2:(cQ u).take (k+1)=(cQ u).take k++[s]:=by rw[List.take_succ_eq_append_getElem hk,e]
 refine⟨?_,e2⟩
 rw[←h,List.drop_eq_getElem_cons hk,fQ,e,e2]
theorem GU (u:bf) {i:Nat} (h:i<u.shared.length):(cQ u).getD i default=(u.shared.getD i default).name:=by
 simp[cQ,List.getD,List.getElem?_append,h]
theorem GS (u:bf) {i:Nat} (h:i<u.cB.length):(cQ u).getD (u.shared.length+i) default=(u.cB.getD i default).name:=by
 unfold cQ
 rw[List.getD,List.getElem?_append_right (by simp),List.length_map,Nat.add_sub_cancel_left,List.getElem?_append_left (by simpa using h)]
 simp[List.getD,h]
theorem GR (u:bf) {i:Nat} (h:i<u.bk.length):(cQ u).getD (u.shared.length+u.cB.length+i) default=(u.bk.getD i default).name:=by
 unfold cQ
 rw[List.getD,List.getElem?_append_right (by simp;omega),List.getElem?_append_right (by simp;omega)]
 simp only[List.length_map]
 rw[show u.shared.length+u.cB.length+i - u.shared.length - u.cB.length=i by omega]
 simp[List.getD,h]
set_option maxHeartbeats 4000000 in
theorem wW (u:bf) (hu:u.Wf):Pure Tryz.prog 78 [u.av] (fun r=>r=bl (ed u)):=by
 refine aI DC rfl ?_
 have h1:=hu.qt
 have h2:=hu.u7
 have h3:=hu.zX
 by_cases hl:u.shared.length≤64∧u.cB.length≤16∧u.bk.length≤8
 ·repeat' (first|((with_reducible refine aF ?_);conv=>whnf)|refine aG ?_|exact gJ|with_reducible refine aD ?_ ?_|((with_reducible refine Ask.mk ?_);first|exact dj|exact cy|(intro h;simp_all[bf.cells]<;>fail)|(simp_all[bf.cells]<;>fail))|(apply aA;(·exact cI))|refine aH ?_|((with_reducible refine aB ?_ ?_)<;>intro hc<;>(try simp only[List.length_map,ne_eq,db] at hc)<;>try(exfalso;omega)))
  clear hc
  simp only[List.length_map]
  refine aR (fun i:Nat=>[(1, .pt 0 1 0 0),(4, .fn (.func 114) [] [.pt 19 1 0 0]),(30,cY u.shared),(31,i64 u.shared.length),(32,i64 i)]) (fun i H n=>i≤u.shared.length∧20≤n∧(∃d,bd H 0=some (.row 25 3 d [u.av]))∧(∃d,bd H 19=some (.row 174 1 d [.mp 18]))∧(∃d,bd H 18=some (.row 9 0 d (mapA (ug (kC ((cQ u).take (i)))))))∧fQ ((cQ u).take (i)) ((cQ u).drop (i))=fQ [] (cQ u)) (fun i=>u.shared.length - i) 0 cJ ⟨Nat.zero_le _,cW,⟨_,bg⟩,⟨_,bg⟩,⟨_,bg⟩,rfl⟩ ?_
  rintro i H n ⟨hi,hn,⟨d0,r0⟩,⟨d19,r19⟩,⟨d18,r18⟩,hq⟩
  by_cases hil:i<u.shared.length
  ·have hk:i<(cQ u).length:=by simp only[cQ,List.length_append,List.length_map];omega
   have hs:(cQ u).getD (i) default=(u.shared.getD i default).name:=GU u hil
   obtain⟨ha,ht⟩:=ji u hk hq hs
   have hsz:=(hu.shared _ (cU default hil)).name
   repeat' (first|((with_reducible refine aF ?_);conv=>whnf)|refine aG ?_|exact gJ|with_reducible refine aD ?_ ?_|((with_reducible refine Ask.mk ?_);first|exact dj|exact cy|(intro h;simp_all[bf.cells,Decl.cells]<;>fail)|(simp_all[bf.cells,Decl.cells]<;>fail))|(apply aA;(·(first|exact BJ|exact cI)))|refine aH ?_|((with_reducible refine aB ?_ ?_)<;>intro hc<;>(try simp only[List.length_map,ne_eq,db] at hc)<;>try(exfalso;omega)))
   refine aJ (oT _ hsz ((cQ u).take (i)) 19 18 _ _ _ _ _ _ bg bg cW cW (by decide)) ?_
   rintro _ H2 n2 ⟨rfl,hn2,hput,hf⟩
   have hn12:n≤n2:=Nat.le_trans cW hn2
   have r02:bd H2 0=some (.row 25 3 d0 [u.av]):=(hf 0 (Nat.lt_of_lt_of_le (by omega:0<n) cW) (by decide)).trans bg
   have r192:bd H2 19=some (.row 174 1 d19 [.mp 18]):=(hf 19 (Nat.lt_of_lt_of_le (by omega:19<n) cW) (by decide)).trans bg
   cases hg:(jb (u.shared.getD i default).name&& !iD ((cQ u).take (i)) (u.shared.getD i default).name) with
   |false=>
    rw[hg,if_neg (by decide)] at ha
    have hb:ed u=false:=by unfold ed;rw[ha];simp
    rw[hb]
    repeat' (first|((with_reducible refine aF ?_);conv=>whnf)|refine aG ?_|exact gJ|with_reducible refine aD ?_ ?_|((with_reducible refine Ask.mk ?_);first|exact dj|exact cy|(intro h;simp_all[bf.cells,Decl.cells]<;>fail)|(simp_all[bf.cells,Decl.cells]<;>fail))|(apply aA;(·exact cI))|refine aH ?_|((with_reducible refine aB ?_ ?_)<;>intro hc<;>(try simp only[List.length_map,ne_eq,db] at hc)<;>try(exfalso;omega)))
    exact rfl
   |true=>
    rw[hg,if_pos rfl] at ha
    have hnm:iD ((cQ u).take (i)) (u.shared.getD i default).name=false:=by revert hg;cases iD ((cQ u).take (i)) (u.shared.getD i default).name<;>simp
    have r182:=hput hnm
    rw[←ht] at r182
    clear hf hput
    repeat' (first|((with_reducible refine aF ?_);conv=>whnf)|refine aG ?_|exact gJ|with_reducible refine aD ?_ ?_|((with_reducible refine Ask.mk ?_);first|exact dj|exact cy|(intro h;simp_all[bf.cells,Decl.cells]<;>fail)|(simp_all[bf.cells,Decl.cells]<;>fail))|(apply aA;(·exact cI))|refine aH ?_|((with_reducible refine aB ?_ ?_)<;>intro hc<;>(try simp only[List.length_map,ne_eq,db] at hc)<;>try(exfalso;omega)))
    exact⟨i+1,by omega,cJ,by omega,by omega,⟨_,bg⟩,⟨_,bg⟩,⟨_,bg⟩,ha.symm⟩
  ·have hie:i=u.shared.length:=by omega
   subst hie
   repeat' (first|((with_reducible refine aF ?_);conv=>whnf)|refine aG ?_|exact gJ|with_reducible refine aD ?_ ?_|((with_reducible refine Ask.mk ?_);first|exact dj|exact cy|(intro h;simp_all[bf.cells]<;>fail)|(simp_all[bf.cells]<;>fail))|(apply aA;(·exact cI))|refine aH ?_|((with_reducible refine aB ?_ ?_)<;>intro hc<;>(try simp only[List.length_map,ne_eq,db] at hc)<;>try(exfalso;omega)))
   refine aR (fun i:Nat=>[(1, .pt 0 1 0 0),(4, .fn (.func 114) [] [.pt 19 1 0 0]),(43,cY u.cB),(44,i64 u.cB.length),(45,i64 i)]) (fun i H n=>i≤u.cB.length∧20≤n∧(∃d,bd H 0=some (.row 25 3 d [u.av]))∧(∃d,bd H 19=some (.row 174 1 d [.mp 18]))∧(∃d,bd H 18=some (.row 9 0 d (mapA (ug (kC ((cQ u).take (u.shared.length+i)))))))∧fQ ((cQ u).take (u.shared.length+i)) ((cQ u).drop (u.shared.length+i))=fQ [] (cQ u)∧∀j,j<i→(u.cB.getD j default).word=0) (fun i=>u.cB.length - i) 0 cJ ⟨Nat.zero_le _,cW,⟨_,bg⟩,⟨_,bg⟩,⟨_,by rw[Nat.add_zero];exact bg⟩,by rw[Nat.add_zero];exact hq,fun _ h=>by omega⟩ ?_
   clear r0 r19 r18 hq hc
   rintro i H n ⟨hi,hn,⟨d0,r0⟩,⟨d19,r19⟩,⟨d18,r18⟩,hq,hw⟩
   by_cases hil:i<u.cB.length
   ·have hk:u.shared.length+i<(cQ u).length:=by simp only[cQ,List.length_append,List.length_map];omega
    have hs:(cQ u).getD (u.shared.length+i) default=(u.cB.getD i default).name:=GS u hil
    obtain⟨ha,ht⟩:=ji u hk hq hs
    have hsz:=(hu.cB _ (cU default hil)).name
    repeat' (first|((with_reducible refine aF ?_);conv=>whnf)|refine aG ?_|exact gJ|with_reducible refine aD ?_ ?_|((with_reducible refine Ask.mk ?_);first|exact dj|exact cy|(intro h;simp_all[bf.cells,Decl.cells]<;>fail)|(simp_all[bf.cells,Decl.cells]<;>fail))|(apply aA;(·(first|exact BJ|exact cI)))|refine aH ?_|((with_reducible refine aB ?_ ?_)<;>intro hc<;>(try simp only[List.length_map,ne_eq,db] at hc)<;>try(exfalso;omega)))
    refine aJ (oT _ hsz ((cQ u).take (u.shared.length+i)) 19 18 _ _ _ _ _ _ bg bg cW cW (by decide)) ?_
    rintro _ H2 n2 ⟨rfl,hn2,hput,hf⟩
    have hn12:n≤n2:=Nat.le_trans cW hn2
    have r02:bd H2 0=some (.row 25 3 d0 [u.av]):=(hf 0 (Nat.lt_of_lt_of_le (by omega:0<n) cW) (by decide)).trans bg
    have r192:bd H2 19=some (.row 174 1 d19 [.mp 18]):=(hf 19 (Nat.lt_of_lt_of_le (by omega:19<n) cW) (by decide)).trans bg
    cases hg:(jb (u.cB.getD i default).name&& !iD ((cQ u).take (u.shared.length+i)) (u.cB.getD i default).name) with
    |false=>
     rw[hg,if_neg (by decide)] at ha
     have hb:ed u=false:=by unfold ed;rw[ha];simp
     rw[hb]
     clear hf hput
     repeat' (first|((with_reducible refine aF ?_);conv=>whnf)|refine aG ?_|exact gJ|with_reducible refine aD ?_ ?_|((with_reducible refine Ask.mk ?_);first|exact dj|exact cy|(intro h;simp_all[bf.cells,Decl.cells]<;>fail)|(simp_all[bf.cells,Decl.cells]<;>fail))|(apply aA;(·exact cI))|refine aH ?_|((with_reducible refine aB ?_ ?_)<;>intro hc<;>(try simp only[List.length_map,ne_eq,db] at hc)<;>try(exfalso;omega)))
     exact rfl
    |true=>
     rw[hg,if_pos rfl] at ha
     have hnm:iD ((cQ u).take (u.shared.length+i)) (u.cB.getD i default).name=false:=by revert hg;cases iD ((cQ u).take (u.shared.length+i)) (u.cB.getD i default).name<;>simp
     have r182:=hput hnm
     rw[←ht] at r182
     obtain⟨d4,r4⟩:∃d,bd H2 (n+3)=some (.row 103 3 d [(u.cB.getD i default).av]):=⟨_,(hf (n+3) cW (by omega)).trans bg⟩
     clear hf hput
     repeat' (first|((with_reducible refine aF ?_);conv=>whnf)|refine aG ?_|exact gJ|with_reducible refine aD ?_ ?_|((with_reducible refine Ask.mk ?_);first|exact dj|exact cy|(intro h;simp_all[bf.cells,Decl.cells]<;>fail)|(simp_all[bf.cells,Decl.cells]<;>fail))|(apply aA;(·exact cI))|refine aH ?_|((with_reducible refine aB ?_ ?_)<;>intro hc<;>(try simp only[List.length_map,ne_eq,db] at hc)<;>try(exfalso;omega)))
     ·have hb:ed u=false:=by
       unfold ed
       rw[Bool.and_eq_false_iff]
       right
       rw[Bool.eq_false_iff,ne_eq,List.all_eq_true]
       exact fun h=>(hc.resolve_left (by decide)) (of_decide_eq_true (h _ (cU default hil)))
      rw[hb]
     ·exact⟨i+1,by omega,cJ,by omega,by omega,⟨_,bg⟩,⟨_,bg⟩,⟨_,bg⟩,ha.symm,fun j hj=>by
       by_cases hji:j=i
       ·rw[hji];exact hc.2
       ·exact hw j (by omega)⟩
   ·have hie:i=u.cB.length:=by omega
    subst hie
    repeat' (first|((with_reducible refine aF ?_);conv=>whnf)|refine aG ?_|exact gJ|with_reducible refine aD ?_ ?_|((with_reducible refine Ask.mk ?_);first|exact dj|exact cy|(intro h;simp_all[bf.cells]<;>fail)|(simp_all[bf.cells]<;>fail))|(apply aA;(·exact cI))|refine aH ?_|((with_reducible refine aB ?_ ?_)<;>intro hc<;>(try simp only[List.length_map,ne_eq,db] at hc)<;>try(exfalso;omega)))
    refine aR (fun i:Nat=>[(1, .pt 0 1 0 0),(4, .fn (.func 114) [] [.pt 19 1 0 0]),(61,dV u.bk),(62,i64 u.bk.length),(63,i64 i)]) (fun i H n=>i≤u.bk.length∧20≤n∧(∃d,bd H 0=some (.row 25 3 d [u.av]))∧(∃d,bd H 19=some (.row 174 1 d [.mp 18]))∧(∃d,bd H 18=some (.row 9 0 d (mapA (ug (kC ((cQ u).take (u.shared.length+u.cB.length+i)))))))∧fQ ((cQ u).take (u.shared.length+u.cB.length+i)) ((cQ u).drop (u.shared.length+u.cB.length+i))=fQ [] (cQ u)∧∀j,j<u.cB.length→(u.cB.getD j default).word=0) (fun i=>u.bk.length - i) 0 cJ ⟨Nat.zero_le _,cW,⟨_,bg⟩,⟨_,bg⟩,⟨_,by rw[Nat.add_zero];exact bg⟩,by rw[Nat.add_zero];exact hq,hw⟩ ?_
    clear r0 r19 r18 hq hc hw
    rintro i H n ⟨hi,hn,⟨d0,r0⟩,⟨d19,r19⟩,⟨d18,r18⟩,hq,hw⟩
    by_cases hil:i<u.bk.length
    ·have hk:u.shared.length+u.cB.length+i<(cQ u).length:=by simp only[cQ,List.length_append,List.length_map];omega
     have hs:(cQ u).getD (u.shared.length+u.cB.length+i) default=(u.bk.getD i default).name:=GR u hil
     obtain⟨ha,ht⟩:=ji u hk hq hs
     have hsz:=(hu.bk _ (cU default hil)).name
     repeat' (first|((with_reducible refine aF ?_);conv=>whnf)|refine aG ?_|exact gJ|with_reducible refine aD ?_ ?_|((with_reducible refine Ask.mk ?_);first|exact dj|exact cy|(intro h;simp_all[bf.cells,cC.cells]<;>fail)|(simp_all[bf.cells,cC.cells]<;>fail))|(apply aA;(·(first|exact JH|exact cI)))|refine aH ?_|((with_reducible refine aB ?_ ?_)<;>intro hc<;>(try simp only[List.length_map,ne_eq,db] at hc)<;>try(exfalso;omega)))
     refine aJ (oT _ hsz ((cQ u).take (u.shared.length+u.cB.length+i)) 19 18 _ _ _ _ _ _ bg bg cW cW (by decide)) ?_
     rintro _ H2 n2 ⟨rfl,hn2,hput,hf⟩
     have hn12:n≤n2:=Nat.le_trans cW hn2
     have r02:bd H2 0=some (.row 25 3 d0 [u.av]):=(hf 0 (Nat.lt_of_lt_of_le (by omega:0<n) cW) (by decide)).trans bg
     have r192:bd H2 19=some (.row 174 1 d19 [.mp 18]):=(hf 19 (Nat.lt_of_lt_of_le (by omega:19<n) cW) (by decide)).trans bg
     cases hg:(jb (u.bk.getD i default).name&& !iD ((cQ u).take (u.shared.length+u.cB.length+i)) (u.bk.getD i default).name) with
     |false=>
      rw[hg,if_neg (by decide)] at ha
      have hb:ed u=false:=by unfold ed;rw[ha];simp
      rw[hb]
      repeat' (first|((with_reducible refine aF ?_);conv=>whnf)|refine aG ?_|exact gJ|with_reducible refine aD ?_ ?_|((with_reducible refine Ask.mk ?_);first|exact dj|exact cy|(intro h;simp_all[bf.cells,cC.cells]<;>fail)|(simp_all[bf.cells,cC.cells]<;>fail))|(apply aA;(·exact cI))|refine aH ?_|((with_reducible refine aB ?_ ?_)<;>intro hc<;>(try simp only[List.length_map,ne_eq,db] at hc)<;>try(exfalso;omega)))
      exact rfl
     |true=>
      rw[hg,if_pos rfl] at ha
      have hnm:iD ((cQ u).take (u.shared.length+u.cB.length+i)) (u.bk.getD i default).name=false:=by revert hg;cases iD ((cQ u).take (u.shared.length+u.cB.length+i)) (u.bk.getD i default).name<;>simp
      have r182:=hput hnm
      rw[←ht] at r182
      clear hf hput
      repeat' (first|((with_reducible refine aF ?_);conv=>whnf)|refine aG ?_|exact gJ|with_reducible refine aD ?_ ?_|((with_reducible refine Ask.mk ?_);first|exact dj|exact cy|(intro h;simp_all[bf.cells,cC.cells]<;>fail)|(simp_all[bf.cells,cC.cells]<;>fail))|(apply aA;(·exact cI))|refine aH ?_|((with_reducible refine aB ?_ ?_)<;>intro hc<;>(try simp only[List.length_map,ne_eq,db] at hc)<;>try(exfalso;omega)))
      exact⟨i+1,by omega,cJ,by omega,by omega,⟨_,bg⟩,⟨_,bg⟩,⟨_,bg⟩,ha.symm,hw⟩
    ·have hie:i=u.bk.length:=by omega
     subst hie
     repeat' (first|((with_reducible refine aF ?_);conv=>whnf)|refine aG ?_|exact gJ|with_reducible refine aD ?_ ?_|((with_reducible refine Ask.mk ?_);first|exact dj|exact cy|(intro h;simp_all[bf.cells]<;>fail)|(simp_all[bf.cells]<;>fail))|(apply aA;(·exact cI))|refine aH ?_|((with_reducible refine aB ?_ ?_)<;>intro hc<;>(try simp only[List.length_map,ne_eq,db] at hc)<;>try(exfalso;omega)))
     refine ee (Eq.symm ?_)
     have e:u.shared.length+u.cB.length+u.bk.length=(cQ u).length:=by simp only[cQ,List.length_append,List.length_map];omega
     have hall:fQ [] (cQ u)=true:=by
      rw[←hq,e,List.drop_eq_nil_of_le (Nat.le_refl _)]
      cases(cQ u).take (cQ u).length<;>rfl
     unfold ed
     rw[decide_eq_true hl.1,decide_eq_true hl.2.1,decide_eq_true hl.2.2,hall]
     simp only[Bool.true_and]
     rw[List.all_eq_true]
     intro d hd
     obtain⟨j,hj,rfl⟩:=List.getElem_of_mem hd
     have:=hw j hj
     rw[show u.cB.getD j default=u.cB[j] by simp[List.getD,hj]] at this
     exact decide_eq_true this
 ·have hb:ed u=false:=by
   unfold ed
   by_cases a1:u.shared.length≤64
   ·by_cases a2:u.cB.length≤16
    ·rw[decide_eq_false (fun a3=>hl ⟨a1,a2,a3⟩:¬u.bk.length≤8)];simp
    ·rw[decide_eq_false a2];simp
   ·rw[decide_eq_false a1];simp
  rw[hb]
  repeat' (first|((with_reducible refine aF ?_);conv=>whnf)|refine aG ?_|exact gJ|with_reducible refine aD ?_ ?_|((with_reducible refine Ask.mk ?_);first|exact dj|exact cy|(intro h;simp_all[bf.cells]<;>fail)|(simp_all[bf.cells]<;>fail))|(apply aA;(·exact cI))|refine aH ?_|((with_reducible refine aB ?_ ?_)<;>intro hc<;>(try simp only[List.length_map,ne_eq,db] at hc)<;>try(exfalso;omega)))
  exact rfl
end Go.Proofs.YtekfmjjmihomlaaGreat
end
section
/- Lists of numbers: cloned, and held one against another. -/
namespace Go.cO
open Go.RowKit
theorem Wk.LY {H:Hp} {nx b:Nat} {e:TypeId} {sz:Nat} {d:AV} {es es2:List AV} (d2:AV) (hb:bd H b=some (.row e sz d es)) (hl:es.length=es2.length) (h:∀c c2:Cx,c.le c2→c2.w=c.w→cm c c2 es es2):Wk .any H nx .any ((b,some (.row e sz d2 es2))::H) nx:=by
 refine Wk.tell (Nat.le_refl _) (fun x e' sz' d' es' he=> ?_) (fun w0 c c2 hS hU hc hc2 hw hle hnew hM=>⟨dA.any _ _ _,fun x e' sz' d' es' d0 es0 h1 h2=> ?_⟩)
 ·by_cases hx:x=b
  ·subst hx
   rw[cV] at he
   cases he
   exact .inl ⟨d,es,hb,hl⟩
  ·rw[cF hx] at he
   exact .inl ⟨d',es',he,rfl⟩
 ·by_cases hx:x=b
  ·subst hx
   rw[cV] at h1
   rw[hb] at h2
   cases h1;cases h2
   exact h c c2 hle hw
  ·rw[cF hx] at h1
   rw[h1] at h2;cases h2
   exact cm.cE hle _
theorem cm.rep {c c2:Cx} {a b:AV} (h:dA c c2 a b):∀n,cm c c2 (List.replicate n a) (List.replicate n b)
 |0=> .nil
 |n+1=> .cons h (cm.rep h n)
end Go.cO
namespace Go.Proofs.YtekfmjjmihomlaaGreat
open Go Go.cO Go.Proofs
set_option linter.unusedSimpArgs false
set_option linter.unusedVariables false
theorem tg {l:List Int} {i:Nat} (h:i<l.length) (d:AV):(l.map i64).getD i d=i64 (l.getD i 0):=dJ i64 l i d h
theorem po {es:List AV} (hsz:es.length * 8≤140737488355328):cD Tryz.prog 119 [.im 1 .any es] [] 0 (oK [] 0 3 1 es):=by
 refine oK.of (by omega) ?_
 refine aQ tw rfl ?_
 cases hes:es with
 |nil=>
  repeat' (first|((with_reducible refine aF ?_);conv=>whnf)|refine aG ?_|exact aC|with_reducible refine aD ?_ ?_|(apply aA;(·exact cI))|refine aH ?_|((with_reducible refine aB ?_ ?_)<;>intro hc<;>(try simp only[List.length_map,ne_eq,db] at hc)<;>try(exfalso;omega)))
  ·exact⟨.inl ⟨rfl,rfl,cW,sh⟩⟩
  ·exact⟨.inr ⟨_,_,rfl,cW,cW,cW,bg,sh⟩⟩
 |cons x t=>
  rw[hes] at hsz
  simp only[List.length_cons] at hsz
  repeat' (first|((with_reducible refine aF ?_);conv=>whnf)|refine aG ?_|exact aC|with_reducible refine aD ?_ ?_|(apply aA;(·exact cI))|refine aH ?_|((with_reducible refine aB ?_ ?_)<;>intro hc<;>(try simp only[List.length_map,ne_eq,db] at hc)<;>try(exfalso;omega)))
  ·exact⟨.inr ⟨3,_,(by simp),cW,cW,cW,bg,sh⟩⟩
theorem ko {es:List AV} (hsz:es.length * 8≤140737488355328):cD Tryz.prog 119 [.im 1 .any es] [] 0 (fun r1 H1 _=>∃b d0,r1= .sl b es.length∧bd H1 b=some (.row 3 1 d0 es)):=
 (po hsz).mono fun r H n ⟨b,d,h1,_,_,_,h2,_⟩=>⟨b,d,h1,h2⟩
theorem tH (l m:List Int) (hl:l.length * 8≤140737488351232) (hm:m.length * 8≤140737488351232):Pure Tryz.prog 121 [iC l,iC m] (fun r=>r=bl (decide (l=m))):=by
 refine aI uA rfl ?_
 unfold iC
 repeat' (first|((with_reducible refine aF ?_);conv=>whnf)|refine aG ?_|exact aC|with_reducible refine aD ?_ ?_|(apply aA;(·exact cI))|refine aH ?_|((with_reducible refine aB ?_ ?_)<;>intro hc<;>(try simp only[List.length_map,ne_eq,db] at hc)<;>try(exfalso;omega)))
 ·refine ee (Eq.symm ?_)
  exact decide_eq_false fun e=>hc (by rw[e])
 ·have hlm:l.length=m.length:=by omega
  refine aR (fun i:Nat=>[(0,iC l),(1,iC m),(12,i64 l.length),(13,i64 i)])
   (fun i H n=>i≤l.length∧∀j,j<i→l.getD j 0=m.getD j 0) (fun i=>l.length - i) 0 cJ ⟨Nat.zero_le _,fun _ h=>by omega⟩ ?_
  unfold iC
  rintro i H n ⟨hi,hall⟩
  by_cases hil:i<l.length
  ·have e1:=tg (l:=l) hil
   have e2:=tg (l:=m) (i:=i) (by omega)
   repeat' (first|((with_reducible refine aF ?_);conv=>whnf)|refine aG ?_|exact aC|with_reducible refine aD ?_ ?_|(apply aA;(·(first|exact e1 _|exact e2 _|exact cI)))|refine aH ?_|((with_reducible refine aB ?_ ?_)<;>intro hc<;>(try simp only[List.length_map,ne_eq,db] at hc)<;>try(exfalso;omega)))
   ·refine ee (Eq.symm ?_)
    exact decide_eq_false fun e=>hc (by rw[e])
   ·refine⟨i+1,by omega,cJ,by omega,fun j hj=> ?_⟩
    by_cases hji:j=i
    ·subst hji;exact hc
    ·exact hall j (by omega)
  ·have:i=l.length:=by omega
   subst this
   repeat' (first|((with_reducible refine aF ?_);conv=>whnf)|refine aG ?_|exact aC|with_reducible refine aD ?_ ?_|(apply aA;(·exact cI))|refine aH ?_|((with_reducible refine aB ?_ ?_)<;>intro hc<;>(try simp only[List.length_map,ne_eq,db] at hc)<;>try(exfalso;omega)))
   refine ee (Eq.symm ?_)
   refine decide_eq_true (List.ext_getElem hlm fun j h1 h2=> ?_)
   have:=hall j h1
   simpa[List.getD,h1,h2] using this
def Told (nv:AV) (l:List Int) (H:Hp) (nx:Nat):Prop:=nv=iC l∨∃b d,nv= .sl b l.length∧b<nx∧bd H b=some (.row 3 1 d (l.map i64))
theorem Told.dR {nv:AV} {l:List Int} {H:Hp} {nx:Nat} (h:Told nv l H nx) (k:Nat):cO.dR H (k+1) nv=iC l:=by
 rcases h with rfl|⟨b,d,rfl,_,hb⟩
 ·exact dB _ (by simp[bx,iC,bz])
 ·rw[dz hb (by simp),dG _ ((bz _ _).2 fun _ _=>by simp[bx])];rfl
theorem oI {nv:AV} {l:List Int} {H:Hp} {nx:Nat} (h:Told nv l H nx) (m:List Int) (hl:l.length * 8≤140737488351232) (hm:m.length * 8≤140737488351232):cD Tryz.prog 121 [iC m,nv] H nx (fun r H' n=>r=bl (decide (m=l))∧H'=H∧n=nx):=by
 refine Pure.view (args2:=[iC m,iC l]) (tH m l hm hl) ?_ (by simp[cN,bx,iC,bz]) trivial ⟨rfl,rfl,rfl⟩
 rw[List.map_cons,List.map_cons,List.map_nil,h.dR,dB 6 (by simp[bx,iC,bz])]
theorem j3 {nv:AV} {l:List Int} {H:Hp} {nx:Nat} (h:Told nv l H nx) (hl:l.length * 8≤140737488351232):cD Tryz.prog 119 [nv] H nx (fun r H' n=>r=iC l∧nx≤n∧∀b,b<nx→bd H' b=bd H b):=by
 refine cD.wk (cD.JE (es:=l.map i64) (args2:=[iC l]) (ko (by rw[List.length_map];omega)) (fun i hi=>by rw[dJ i64 _ _ _ (by simpa using hi)];trivial) (by rw[List.map_cons,List.map_nil,h.dR]) (by simp[cN,bx,iC,bz])) ?_
 rintro r H' n ⟨rfl,rfl,rfl⟩
 have hw:=Wk.K3 (r:= .sl nx (l.map i64).length) (H:=(nx,some (.row 3 1 .any (l.map i64)))::H) (nx:=nx+1) [(nx,some (.row 3 1 .any (l.map i64)))] 1 (fun b q hq=>by
  by_cases hb:b=nx
  ·subst hb;rw[cV] at hq ⊢;exact hq
  ·rw[cF hb] at hq;cases hq)
 refine⟨_,_,_,hw, ?_,by omega,fun b hb=> ?_⟩
 ·rw[CA (cV _ _ _) rfl,pC];rfl
 ·rw[lI,zW,cF (by omega),cF (by omega)]
end Go.Proofs.YtekfmjjmihomlaaGreat
end
section
/- Tables that grow till nothing changes, in plain data. -/
namespace Go.Proofs.YtekfmjjmihomlaaGreat
open Go Go.cO Go.Proofs
set_option linter.unusedSimpArgs false
set_option linter.unusedVariables false
abbrev vY:=List (List Bool)
def mV (T:vY) (i k:Nat):Bool:=(T.getD i []).getD k false
def AK (T:vY) (i k:Nat):vY:=T.set i ((T.getD i []).set k true)
structure Shape (T:vY) (m n:Nat):Prop where
 len:T.length=m
 row:∀i,i<m→(T.getD i []).length=n
theorem eR {α:Type} (l:List α) (i j:Nat) (v d:α):(l.set i v).getD j d=if i=j∧i<l.length then v else l.getD j d:=by
 simp only[List.getD,List.getElem?_set]
 by_cases h:i=j
 ·subst h
  by_cases h2:i<l.length
  ·simp[h2]
  ·simp[h2]
 ·simp[h]
theorem EG {T:vY} {m n i k:Nat} (h:Shape T m n) (hi:i<m) (hk:k<n) (i' k':Nat):mV (AK T i k) i' k'=if i=i'∧k=k' then true else mV T i' k':=by
 unfold mV AK
 rw[eR]
 by_cases h1:i=i'
 ·subst h1
  rw[if_pos ⟨rfl,by rw[h.len];exact hi⟩,eR]
  by_cases h2:k=k'
  ·subst h2;rw[if_pos ⟨rfl,by rw[h.row i hi];exact hk⟩,if_pos ⟨rfl,rfl⟩]
  ·rw[if_neg (fun h=>h2 h.1),if_neg (fun h=>h2 h.2)]
 ·rw[if_neg (fun h=>h1 h.1),if_neg (fun h=>h1 h.1)]
theorem Shape.set {T:vY} {m n:Nat} (h:Shape T m n) (i k:Nat):Shape (AK T i k) m n:=by
 refine⟨by simp[AK,h.len],fun j hj=> ?_⟩
 unfold AK
 rw[eR]
 split
 ·rename_i e;rw[List.length_set,e.1];exact h.row j hj
 ·exact h.row j hj
inductive J9 (g:cC) (lg cE:Node→Nat→Bool) (k:Nat):Nat→Prop where
 |lg {i:Nat}:lg (g.nd i) k=true→J9 g lg cE k i
 |on {i:Nat} {j:Int}:cE (g.nd i) k=true→j∈(g.nd i).oq→J9 g lg cE k j.toNat→J9 g lg cE k i
def I3 (T:vY) (n:Node) (k:Nat):Bool:=n.oq.any fun j=>mV T j.toNat k
theorem A2 (f:Int→Bool) (n:Node):n.fold.any f=n.oq.any f:=zI (fun l=>l.any f) n (fun a=>by simp)
def sy (g:cC) (lg cE:Node→Nat→Bool) (T:vY) (i k:Nat):Bool:=lg (g.nd i) k||(cE (g.nd i) k&&I3 T (g.nd i) k)
structure Grow (g:cC) (lg cE:Node→Nat→Bool) (n:Nat) (T:vY):Prop where
 shape:Shape T g.nodes.length n
 sound:∀i k,mV T i k=true→J9 g lg cE k i
def rF (m n:Nat):vY:=List.replicate m (List.replicate n false)
theorem xJ (m n i k:Nat):mV (rF m n) i k=false:=by
 unfold mV rF
 simp only[List.getD,List.getElem?_replicate]
 by_cases h:i<m
 ·simp only[h,if_true,Option.getD_some,List.getElem?_replicate];split<;>rfl
 ·simp[h]
theorem vE (m n:Nat):Shape (rF m n) m n:=⟨by simp[rF],fun i hi=>by simp[rF,List.getD,List.getElem?_replicate,hi]⟩
theorem Grow.start (g:cC) (lg cE:Node→Nat→Bool) (n:Nat):Grow g lg cE n (rF g.nodes.length n):=
 ⟨vE _ _,fun i k h=>by rw[xJ] at h;cases h⟩
theorem sr {T:vY} {n:Node} {k:Nat}:I3 T n k=true↔∃j∈n.oq,mV T j.toNat k=true:=by
 unfold I3;rw[List.any_eq_true]
theorem Grow.step {g:cC} {lg cE:Node→Nat→Bool} {n:Nat} {T:vY} (h:Grow g lg cE n T) {i k:Nat} (hi:i<g.nodes.length) (hk:k<n) (hc:sy g lg cE T i k=true):Grow g lg cE n (AK T i k):=by
 refine⟨h.shape.set i k,fun i' k' ht=> ?_⟩
 rw[EG h.shape hi hk] at ht
 split at ht
 ·rename_i e
  obtain⟨rfl,rfl⟩:=e
  unfold sy at hc
  rw[Bool.or_eq_true,Bool.and_eq_true] at hc
  rcases hc with h1|⟨h1,h2⟩
  ·exact .lg h1
  ·obtain⟨j,hj,h3⟩:=sr.1 h2
   exact .on h1 hj (h.sound _ _ h3)
 ·exact h.sound _ _ ht
open Classical in
noncomputable def yl (g:cC) (lg cE:Node→Nat→Bool) (n:Nat):vY:=(List.range g.nodes.length).map fun i=>(List.range n).map fun k=>decide (J9 g lg cE k i)
theorem xA (g:cC) (lg cE:Node→Nat→Bool) (n:Nat):Shape (yl g lg cE n) g.nodes.length n:=⟨by simp[yl],fun i hi=>by simp[yl,List.getD,hi]⟩
theorem AJ (g:cC) (lg cE:Node→Nat→Bool) (n:Nat) {i k:Nat} (hi:i<g.nodes.length) (hk:k<n):mV (yl g lg cE n) i k=true↔J9 g lg cE k i:=by
 simp[mV,yl,List.getD,hi,hk]
theorem HQ {T S:vY} {m n:Nat} (hT:Shape T m n) (hS:Shape S m n) (h:∀i k,i<m→k<n→mV T i k=mV S i k):T=S:=by
 apply List.ext_getElem (hT.len.trans hS.len.symm)
 intro i h1 h2
 have hi:i<m:=by rw[←hT.len];exact h1
 have e1:T.getD i []=T[i]:=by simp[List.getD,h1]
 have e2:S.getD i []=S[i]:=by simp[List.getD,h2]
 rw[←e1,←e2]
 apply List.ext_getElem ((hT.row i hi).trans (hS.row i hi).symm)
 intro k h3 h4
 have:=h i k hi (by rw[←hT.row i hi];exact h3)
 unfold mV at this
 have g:∀(l:List Bool) (h:k<l.length),l[k]=l.getD k false:=fun l h=>by simp[List.getD,h]
 rw[g _ h3,g _ h4]
 exact this
theorem Grow.fin {g:cC} {lg cE:Node→Nat→Bool} {n:Nat} {T:vY} (hw:Whole g) (h:Grow g lg cE n T) (hc:∀i k,i<g.nodes.length→k<n→sy g lg cE T i k=true→mV T i k=true):T=yl g lg cE n:=by
 refine HQ h.shape (xA _ _ _ _) fun i k hi hk=> ?_
 rw[Bool.eq_iff_iff,AJ g lg cE n hi hk]
 refine⟨h.sound i k,fun ha=> ?_⟩
 induction ha with
 |lg hb=>exact hc _ _ hi hk (by unfold sy;rw[hb];rfl)
 |@on i j hkp hj _ ih=>
  have hj2:=(hw.2.2 i hi).2.2 j hj
  have:=ih hj2.2
  refine hc _ _ hi hk ?_
  unfold sy
  rw[hkp,sr.2 ⟨j,hj,this⟩]
  simp
structure rG where
 kind:Int
 cR:Int
 lock:Int
 deriving Inhabited,DecidableEq
def rG.cells (c:rG):List AV:=[u8 c.kind,i64 c.cR,i64 c.lock]
abbrev rG.av (c:rG):AV:= .agg c.cells
end Go.Proofs.YtekfmjjmihomlaaGreat
end
section
/- The locks that are held, in plain data. -/
namespace Go.Proofs.YtekfmjjmihomlaaGreat
open Go Go.cO Go.Proofs
set_option linter.unusedSimpArgs false
set_option linter.unusedVariables false
structure NK (now:List Int) (l:List Int) (s s':HS):Prop where
 nB:s'.cB.length=s.cB.length
 nn:s'.found.length=s.found.length
 fM:∀k:Int,s.f k=true→s'.f k=true∧s'.l k=s.l k
 new:∀k:Int,0≤k→s'.f k=true→s.f k=true∨k∈l
 all:∀k∈l,s'.f k=true∧s'.l k=now
 bare:∀k:Int,0≤k→s'.f k=false→s'.l k=s.l k
 more:∃t,s'.todo=s.todo++t∧(∀k∈t,k∈l∧s'.f k=true)∧(∀k:Int,0≤k→s'.f k=true→s.f k=true∨k∈t)∧s'.found.count false+t.length=s.found.count false
theorem HS.qX {s:HS} {i:Nat} {L:List (List Int)} {td:List Int} (h:i<s.found.length) (k:Int):HS.f ⟨L,s.found.set i true,td⟩ k=if k.toNat=i then true else s.f k:=jS h k
theorem HS.II {s:HS} {i:Nat} {now:List Int} {F:List Bool} {td:List Int} (h:i<s.cB.length) (k:Int):HS.l ⟨s.cB.set i now,F,td⟩ k=if k.toNat=i then now else s.l k:=by
 unfold HS.l
 simp only
 rw[eR]
 by_cases e:i=k.toNat
 ·rw[if_pos ⟨e,h⟩,if_pos e.symm]
 ·rw[if_neg (fun x=>e x.1),if_neg (fun x=>e x.symm)]
theorem lL (now:List Int):∀(l:List Int) (s s':HS),s.cB.length=s.found.length→(∀k∈l,0≤k∧k.toNat<s.found.length)→dS now l s= .inl s'→NK now l s s'
 |[],s,s',_,_,h=>by
  rw[dS] at h;cases h
  exact⟨rfl,rfl,fun _ h=>⟨h,rfl⟩,fun _ _ h=> .inl h,fun _ h=>by simp at h,fun _ _ _=>rfl,[],by simp,fun _ h=>by simp at h,fun _ _ h=> .inl h,by simp⟩
 |k::r,s,s',hl,hr,h=>by
  obtain⟨hk0,hk⟩:=hr k (by simp)
  have hr2:=fun x hx=>hr x (List.mem_cons_of_mem _ hx)
  rw[dS] at h
  by_cases hf:s.f k=false
  ·rw[if_pos hf] at h
   have ih:=lL now r _ s' (by simp[hl]) (fun x hx=>by simpa using hr2 x hx) h
   have fs:=fun x=>HS.qX (s:=s) (i:=k.toNat) (L:=s.cB.set k.toNat now) (td:=s.todo++[k]) hk x
   have ls:=fun x=>HS.II (s:=s) (i:=k.toNat) (now:=now) (F:=s.found.set k.toNat true) (td:=s.todo++[k]) (by rw[hl];exact hk) x
   obtain⟨t,t1,t2,t3,t4⟩:=ih.more
   have hkk:=ih.fM k (by rw[fs,if_pos rfl])
   refine⟨ih.nB.trans (by simp),ih.nn.trans (by simp),fun x hx=> ?_,fun x hx0 hx=> ?_,fun x hx=> ?_,fun x hx0 hx=> ?_,k::t,by rw[t1];simp,fun x hx=> ?_,fun x hx0 hx=> ?_, ?_⟩
   ·have hne:x.toNat≠k.toNat:=fun e=>by unfold HS.f at hx hf;rw[e] at hx;rw[hx] at hf;cases hf
    have:=ih.fM x (by rw[fs,if_neg hne];exact hx)
    rw[ls,if_neg hne] at this
    exact this
   ·rcases ih.new x hx0 hx with h2|h2
    ·rw[fs] at h2
     split at h2
     ·rename_i e;exact .inr (by rw[show x=k by omega];simp)
     ·exact .inl h2
    ·exact .inr (List.mem_cons_of_mem _ h2)
   ·rcases List.mem_cons.1 hx with rfl|hx
    ·rw[ls,if_pos rfl] at hkk;exact hkk
    ·exact ih.all x hx
   ·have hne:x.toNat≠k.toNat:=fun e=>by
     have:=hkk.1
     rw[show k=x by omega,hx] at this;cases this
    have:=ih.bare x hx0 hx
    rw[ls,if_neg hne] at this
    exact this
   ·rcases List.mem_cons.1 hx with rfl|hx
    ·exact⟨by simp,hkk.1⟩
    ·exact⟨List.mem_cons_of_mem _ (t2 x hx).1,(t2 x hx).2⟩
   ·rcases t3 x hx0 hx with h2|h2
    ·rw[fs] at h2
     split at h2
     ·rename_i e;exact .inr (by rw[show x=k by omega];simp)
     ·exact .inl h2
    ·exact .inr (List.mem_cons_of_mem _ h2)
   ·have:=count_set hk hf
    rw[List.length_cons]
    dsimp only at t4
    omega
  ·rw[if_neg hf] at h
   have hkt:s.f k=true:=by simpa using hf
   by_cases hn:s.l k=now
   ·rw[if_pos hn] at h
    have ih:=lL now r s s' hl hr2 h
    obtain⟨t,t1,t2,t3,t4⟩:=ih.more
    refine⟨ih.nB,ih.nn,ih.fM,fun x hx0 hx=>(ih.new x hx0 hx).imp id (List.mem_cons_of_mem _),fun x hx=> ?_,ih.bare,t,t1,fun x hx=>⟨List.mem_cons_of_mem _ (t2 x hx).1,(t2 x hx).2⟩,t3,t4⟩
    rcases List.mem_cons.1 hx with rfl|hx
    ·have:=ih.fM _ hkt;rw[hn] at this;exact this
    ·exact ih.all x hx
   ·rw[if_neg hn] at h;cases h
structure HI (g:cC) (s:HS) (k:Nat):Prop where
 nB:s.cB.length=g.nodes.length
 nn:s.found.length=g.nodes.length
 zero:s.f 0=true
 first:s.l 0=[]
 tD:∀i:Int,0≤i→s.f i=true→oL g (-1) i
 bare:∀i:Int,0≤i→s.f i=false→s.l i=[]
 inr:∀i∈s.todo,0≤i∧i.toNat<g.nodes.length∧s.f i=true
 all:∀i:Int,0≤i→s.f i=true→i∈s.todo
 done:∀j,j<k→j<s.todo.length→∃now,du (g.nd (s.todo.getD j 0).toNat) (s.l (s.todo.getD j 0))=some now∧∀to∈(g.nd (s.todo.getD j 0).toNat).oq,s.f to=true∧s.l to=now
 count:s.todo.length+s.found.count false=g.nodes.length
theorem HI.start {g:cC} (h:Whole g):HI g (tc g) 0:=by
 have hl:=h.1
 have hf:∀k,HS.f (tc g) k=decide (k.toNat=0):=fun k=>by
  have:=jS (l:=List.replicate g.nodes.length false) (i:=0) (by simp;omega) k
  unfold HS.f tc
  simp only
  unfold mY at this
  rw[this]
  by_cases e:k.toNat=0
  ·simp[e]
  ·rw[if_neg e,decide_eq_false e]
   simp only[List.getD,List.getElem?_replicate];split<;>rfl
 have hk:∀k,HS.l (tc g) k=[]:=fun k=>by
  unfold HS.l tc;simp only[List.getD,List.getElem?_replicate];split<;>rfl
 refine⟨by simp[tc],by simp[tc],by rw[hf];simp,hk 0,fun i h0 hi=> ?_,fun i _ _=>hk i,fun i hi=> ?_,fun i h0 hi=> ?_,fun j hj=>by omega, ?_⟩
 ·rw[hf] at hi
  rw[show i=0 by have:=of_decide_eq_true hi;omega];exact .zero
 ·simp only[tc,List.mem_cons,List.not_mem_nil,or_false] at hi
  subst hi
  exact⟨by omega,by simp;omega,by rw[hf];simp⟩
 ·rw[hf] at hi
  rw[show i=0 by have:=of_decide_eq_true hi;omega];simp[tc]
 ·have:=count_set (l:=List.replicate g.nodes.length false) (i:=0) (by simp;omega) (by simp[List.getD,List.getElem?_replicate];split<;>rfl)
  simp only[List.count_replicate_self] at this
  simp only[tc,List.length_cons,List.length_nil]
  omega
theorem HI.next {g:cC} (hw:Whole g) {s s':HS} {k:Nat} (h:HI g s k) (hk:k<s.todo.length) {now:List Int} (hn:du (g.nd (s.todo.getD k 0).toNat) (s.l (s.todo.getD k 0))=some now) (ht:dS now (g.nd (s.todo.getD k 0).toNat).oq s= .inl s'):HI g s' (k+1):=by
 have hm:=cU (0:Int) hk
 obtain⟨i1,i2,i3⟩:=h.inr _ hm
 have hfol:=(hw.2.2 _ i2).2.2
 have sp:=lL now _ s s' (by rw[h.nB,h.nn]) (fun x hx=>by rw[h.nn];exact hfol x hx) ht
 obtain⟨t,t1,t2,t3,t4⟩:=sp.more
 have hget:∀j,j<s.todo.length→s'.todo.getD j 0=s.todo.getD j 0:=fun j hj=>by
  rw[t1];simp[List.getD,List.getElem?_append,hj]
 refine⟨sp.nB.trans h.nB,sp.nn.trans h.nn,(sp.fM 0 h.zero).1,(sp.fM 0 h.zero).2.trans h.first,fun i h0 hi=> ?_,fun i h0 hi=> ?_,fun i hi=> ?_,fun i h0 hi=> ?_,fun j hj hjl=> ?_, ?_⟩
 ·rcases sp.new i h0 hi with h1|h1
  ·exact h.tD i h0 h1
  ·exact .step (h.tD _ i1 i3) (by omega) h1
 ·rw[sp.bare i h0 hi]
  refine h.bare i h0 ?_
  cases hq:s.f i with
  |false=>rfl
  |true=>rw[(sp.fM i hq).1] at hi;cases hi
 ·rw[t1] at hi
  rcases List.mem_append.1 hi with hi|hi
  ·obtain⟨a,b,c⟩:=h.inr i hi
   exact⟨a,b,(sp.fM i c).1⟩
  ·have:=hfol i (t2 i hi).1
   exact⟨this.1,this.2,(t2 i hi).2⟩
 ·rw[t1]
  rcases t3 i h0 hi with h1|h1
  ·exact List.mem_append_left _ (h.all i h0 h1)
  ·exact List.mem_append_right _ h1
 ·by_cases hjk:j=k
  ·subst hjk
   rw[hget _ hk]
   refine⟨now, ?_,sp.all⟩
   rw[(sp.fM _ i3).2]
   exact hn
  ·have hj2:j<s.todo.length:=by omega
   rw[hget _ hj2]
   obtain⟨now2,d1,d2⟩:=h.done j (by omega) hj2
   have hjm:=h.inr _ (cU (0:Int) hj2)
   refine⟨now2,by rw[(sp.fM _ hjm.2.2).2];exact d1,fun to hto=> ?_⟩
   obtain⟨e1,e2⟩:=d2 to hto
   rw[(sp.fM _ e1).2]
   exact⟨(sp.fM _ e1).1,e2⟩
 ·have:=h.count
  rw[t1,List.length_append]
  omega
structure MN (g:cC) (lk:Nat→List Int):Prop where
 zero:lk 0=[]
 on:∀i:Int,oL g (-1) i→∃now,du (g.nd i.toNat) (lk i.toNat)=some now∧∀k∈(g.nd i.toNat).oq,lk k.toNat=now
theorem HI.fin {g:cC} {s:HS} {k:Nat} (hw:Whole g) (h:HI g s k) (hk:s.todo.length≤k):MN g (fun i=>s.cB.getD i [])∧∀i,i<g.nodes.length→(s.found.getD i false=true↔oL g (-1) i):=by
 have hall:∀i:Int,oL g (-1) i→0≤i∧s.f i=true:=fun i hi=>by
  induction hi with
  |zero=>exact⟨by omega,h.zero⟩
  |@step i j hi _ hj ih=>
   obtain⟨i0,hif⟩:=ih
   have hm:=h.all i i0 hif
   obtain⟨q,hq,e⟩:=List.getElem_of_mem hm
   have e2:s.todo.getD q 0=i:=by simp[List.getD,hq,e]
   obtain⟨now,_,d⟩:=h.done q (by omega) hq
   rw[e2] at d
   have h2:=(hw.2.2 i.toNat (h.inr i hm).2.1).2.2 j hj
   exact⟨h2.1,(d j hj).1⟩
 refine⟨⟨h.first,fun i hi=> ?_⟩,fun i hi=>⟨fun hf=>h.tD i (by omega) hf,fun hc=>(hall i hc).2⟩⟩
 obtain⟨i0,hif⟩:=hall i hi
 have hm:=h.all i i0 hif
 obtain⟨q,hq,e⟩:=List.getElem_of_mem hm
 have e2:s.todo.getD q 0=i:=by simp[List.getD,hq,e]
 obtain⟨now,d1,d⟩:=h.done q (by omega) hq
 rw[e2] at d1 d
 exact⟨now,d1,fun k hk=>(d k hk).2⟩
end Go.Proofs.YtekfmjjmihomlaaGreat
end
section
/- What is reached. -/
namespace Go.Proofs.YtekfmjjmihomlaaGreat
open Go Go.cO Go.Proofs
set_option linter.unusedSimpArgs false
set_option linter.unusedVariables false
theorem mB {n:Node} {k:Int}:k∈n.fold↔k∈n.oq:=by
 have:=A2 (fun j=>decide (j=k)) n
 rw[Bool.eq_iff_iff,List.any_eq_true,List.any_eq_true] at this
 constructor
 ·intro h;obtain⟨x,h1,h2⟩:=this.1 ⟨k,h,by simp⟩;rw[←of_decide_eq_true h2];exact h1
 ·intro h;obtain⟨x,h1,h2⟩:=this.2 ⟨k,h,by simp⟩;rw[←of_decide_eq_true h2];exact h1
theorem BQ (n:Node):n.fold.length≤2:=by unfold Node.fold;split<;>(try split)<;>simp
theorem gd {α:Type} {l:List α} {q:Nat} (h:q<l.length) (d:α):l.getD q d=l[q]:=by simp[List.getD,h]
theorem kr {l:List Node} {i:Nat} (h:i<l.length) (d:AV):(l.map Node.av).getD ((i:Int).toNat) d=(l.getD i default).av:=by
 rw[Int.toNat_natCast];exact dJ Node.av l i d h
theorem xe {l:List cC} {i:Nat} (h:i<l.length) (d:AV):(l.map cC.av).getD ((i:Int).toNat) d=(l.getD i default).av:=by
 rw[Int.toNat_natCast];exact dJ cC.av l i d h
theorem pE {l:List Int} {i:Nat} (h:i<l.length) (d:AV):(l.map i64).getD ((i:Int).toNat) d=i64 (l.getD i 0):=by
 rw[Int.toNat_natCast];exact dJ i64 l i d h
end Go.Proofs.YtekfmjjmihomlaaGreat
end
