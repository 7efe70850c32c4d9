import Derived.Test.YtekfmjjmihomlaaGreatM22
section
/- Are names and numbers right? -/
namespace Go.Proofs.YtekfmjjmihomlaaGreat
open Go Go.cO Go.Proofs
set_option linter.unusedSimpArgs false
set_option linter.unusedVariables false
abbrev uu (E:List (ByteArray×Bool)):List AV:=nG (fun s:ByteArray=>Value.string s) bl E
theorem ND (E:List (ByteArray×Bool)) (t:ByteArray):sK true (.string t) (uu E) (bl false)=some (bl ((eB E t).getD false),(eB E t).isSome):=(w5 sD bl t E (bl false)).trans (by cases eB E t<;>rfl)
theorem NL (E:List (ByteArray×Bool)) (t:ByteArray) (v:Bool):ux true (.string t) (uu E) (bl v)=some (uu (gQ E t v)):=w6 sD bl t v E
def jy (l:List ByteArray):List (ByteArray×Bool):=l.map fun s=>(s,true)
def hP:List ByteArray→ByteArray→Bool
 |[],_=>false
 |a::l,s=>if s=a then true else hP l s
theorem AK (l:List ByteArray) (s:ByteArray):(eB (jy l) s).getD false=hP l s:=by
 induction l with
 |nil=>rfl
 |cons a l ih=>
  show((if s=a then some true else eB (jy l) s)).getD false=(if s=a then true else hP l s)
  by_cases h:s=a
  ·rw[if_pos h,if_pos h];rfl
  ·rw[if_neg h,if_neg h,ih]
theorem EJ (l:List ByteArray) (s:ByteArray) (h:hP l s=false):gQ (jy l) s true=jy (l++[s]):=by
 induction l with
 |nil=>rfl
 |cons a l ih=>
  rw[hP] at h
  by_cases e:s=a
  ·rw[if_pos e] at h;cases h
  ·rw[if_neg e] at h
   show(if s=a then(s,true)::jy l else(a,true)::gQ (jy l) s true)=_
   rw[if_neg e,ih h];rfl
theorem oO (s:ByteArray) (hs:s.size≤140737488351232) (l:List ByteArray) (b m:Nat) (H:Hp) (nx:Nat) (e em:TypeId) (d dm:AV) (hb:bd H b=some (.row e 1 d [.mp m])) (hm:bd H m=some (.row em 0 dm (mapA (uu (jy l))))) (hbn:b<nx) (hmn:m<nx) (hbm:b≠m):
 cD Tryz.prog 114 [st s, .pt b 1 0 0] H nx (fun r H' n=>r=bl (j8 s&& !hP l s)∧nx≤n∧(hP l s=false→bd H' m=some (.row em 0 dm (mapA (uu (jy (l++[s]))))))∧∀y,y<nx→y≠m→bd H' y=bd H y):=by
 refine aQ uB rfl ?_
 repeat' (first|((with_reducible refine aF ?_);conv=>whnf)|refine aG ?_|exact aC|with_reducible refine aD ?_ ?_|(apply aA;(·exact cI))|refine aK (zy s hs) ?_|(apply aP (g:=some _);(·exact fun _=>ND _ _))|(apply aP (g:=none);(·exact fun _=>NL _ _ _))|refine aH ?_|((with_reducible refine aB ?_ ?_)<;>intro hc<;>(try simp only[List.length_map,ne_eq,da] at hc)<;>try(exfalso;omega)))
 refine⟨⟨?_,cZ,fun h=> ?_,fun y hy hym=> ?_⟩⟩
 ·rw[AK]
  refine ec ?_
  cases j8 s<;>cases hP l s<;>rfl
 ·rw[←EJ l s h]
  exact bh
 ·exact bq
def fS:List ByteArray→List ByteArray→Bool
 |_,[]=>true
 |acc,s::r=>if(j8 s&& !hP acc s)=true then fS (acc++[s]) r else false
def cP (u:bf):List ByteArray:=u.shared.map Decl.name++(u.bz.map Decl.name++u.bj.map cA.name)
def eZ (u:bf):Bool:=decide (u.shared.length≤64)&&decide (u.bz.length≤16)&&decide (u.bj.length≤8)&&fS [] (cP u)&&u.bz.all (fun d=>decide (d.word=0))
theorem jf (u:bf) {k:Nat} (hk:k<(cP u).length) (h:fS ((cP u).take k) ((cP u).drop k)=fS [] (cP u)) {s:ByteArray} (hs:(cP u).getD k default=s):
 (fS [] (cP u)=if(j8 s&& !hP ((cP u).take k) s)=true then fS ((cP u).take (k+1)) ((cP u).drop (k+1)) else false)∧(cP u).take (k+1)=(cP u).take k++[s]:=by
 have e:(cP u)[k]=s:=by rw[←hs];simp[List.getD,hk]
 have e2:(cP u).take (k+1)=(cP u).take k++[s]:=by rw[List.take_succ_eq_append_getElem hk,e]
 refine⟨?_,e2⟩
 rw[←h,List.drop_eq_getElem_cons hk,fS,e,e2]
theorem G8 (u:bf) {i:Nat} (h:i<u.shared.length):(cP u).getD i default=(u.shared.getD i default).name:=by
 simp[cP,List.getD,List.getElem?_append,h]
theorem G7 (u:bf) {i:Nat} (h:i<u.bz.length):(cP u).getD (u.shared.length+i) default=(u.bz.getD i default).name:=by
 unfold cP
 rw[List.getD,List.getElem?_append_right (by simp),List.length_map,Nat.add_sub_cancel_left,List.getElem?_append_left (by simpa using h)]
 simp[List.getD,h]
theorem G6 (u:bf) {i:Nat} (h:i<u.bj.length):(cP u).getD (u.shared.length+u.bz.length+i) default=(u.bj.getD i default).name:=by
 unfold cP
 rw[List.getD,List.getElem?_append_right (by simp;omega),List.getElem?_append_right (by simp;omega)]
 simp only[List.length_map]
 rw[show u.shared.length+u.bz.length+i - u.shared.length - u.bz.length=i by omega]
 simp[List.getD,h]
set_option maxHeartbeats 4000000 in
theorem w8 (u:bf) (hu:u.Wf):Pure Tryz.prog 78 [u.av] (fun r=>r=bl (eZ u)):=by
 refine aI DN rfl ?_
 have h1:=hu.qq
 have h2:=hu.uh
 have h3:=hu.zf
 by_cases hl:u.shared.length≤64∧u.bz.length≤16∧u.bj.length≤8
 ·repeat' (first|((with_reducible refine aF ?_);conv=>whnf)|refine aG ?_|exact gH|with_reducible refine aD ?_ ?_|((with_reducible refine Ask.mk ?_);first|exact dj|exact cy|(intro h;simp_all[bf.cells]<;>fail)|(simp_all[bf.cells]<;>fail))|(apply aA;(·exact cI))|refine aH ?_|((with_reducible refine aB ?_ ?_)<;>intro hc<;>(try simp only[List.length_map,ne_eq,da] at hc)<;>try(exfalso;omega)))
  clear hc
  simp only[List.length_map]
  refine aR (fun i:Nat=>[(1, .pt 0 1 0 0),(4, .fn (.func 114) [] [.pt 19 1 0 0]),(30,cV u.shared),(31,i64 u.shared.length),(32,i64 i)]) (fun i H n=>i≤u.shared.length∧20≤n∧(∃d,bd H 0=some (.row 25 3 d [u.av]))∧(∃d,bd H 19=some (.row 174 1 d [.mp 18]))∧(∃d,bd H 18=some (.row 9 0 d (mapA (uu (jy ((cP u).take (i)))))))∧fS ((cP u).take (i)) ((cP u).drop (i))=fS [] (cP u)) (fun i=>u.shared.length - i) 0 cM ⟨Nat.zero_le _,cZ,⟨_,bh⟩,⟨_,bh⟩,⟨_,bh⟩,rfl⟩ ?_
  rintro i H n ⟨hi,hn,⟨d0,r0⟩,⟨d19,r19⟩,⟨d18,r18⟩,hq⟩
  by_cases hil:i<u.shared.length
  ·have hk:i<(cP u).length:=by simp only[cP,List.length_append,List.length_map];omega
   have hs:(cP u).getD (i) default=(u.shared.getD i default).name:=G8 u hil
   obtain⟨ha,ht⟩:=jf u hk hq hs
   have hsz:=(hu.shared _ (cW default hil)).name
   repeat' (first|((with_reducible refine aF ?_);conv=>whnf)|refine aG ?_|exact gH|with_reducible refine aD ?_ ?_|((with_reducible refine Ask.mk ?_);first|exact dj|exact cy|(intro h;simp_all[bf.cells,Decl.cells]<;>fail)|(simp_all[bf.cells,Decl.cells]<;>fail))|(apply aA;(·(first|exact BV|exact cI)))|refine aH ?_|((with_reducible refine aB ?_ ?_)<;>intro hc<;>(try simp only[List.length_map,ne_eq,da] at hc)<;>try(exfalso;omega)))
   refine aJ (oO _ hsz ((cP u).take (i)) 19 18 _ _ _ _ _ _ bh bh cZ cZ (by decide)) ?_
   rintro _ H2 n2 ⟨rfl,hn2,hput,hf⟩
   have hn12:n≤n2:=Nat.le_trans cZ hn2
   have r02:bd H2 0=some (.row 25 3 d0 [u.av]):=(hf 0 (Nat.lt_of_lt_of_le (by omega:0<n) cZ) (by decide)).trans bh
   have r192:bd H2 19=some (.row 174 1 d19 [.mp 18]):=(hf 19 (Nat.lt_of_lt_of_le (by omega:19<n) cZ) (by decide)).trans bh
   cases hg:(j8 (u.shared.getD i default).name&& !hP ((cP u).take (i)) (u.shared.getD i default).name) with
   |false=>
    rw[hg,if_neg (by decide)] at ha
    have hb:eZ u=false:=by unfold eZ;rw[ha];simp
    rw[hb]
    repeat' (first|((with_reducible refine aF ?_);conv=>whnf)|refine aG ?_|exact gH|with_reducible refine aD ?_ ?_|((with_reducible refine Ask.mk ?_);first|exact dj|exact cy|(intro h;simp_all[bf.cells,Decl.cells]<;>fail)|(simp_all[bf.cells,Decl.cells]<;>fail))|(apply aA;(·exact cI))|refine aH ?_|((with_reducible refine aB ?_ ?_)<;>intro hc<;>(try simp only[List.length_map,ne_eq,da] at hc)<;>try(exfalso;omega)))
    exact rfl
   |true=>
    rw[hg,if_pos rfl] at ha
    have hnm:hP ((cP u).take (i)) (u.shared.getD i default).name=false:=by revert hg;cases hP ((cP u).take (i)) (u.shared.getD i default).name<;>simp
    have r182:=hput hnm
    rw[←ht] at r182
    clear hf hput
    repeat' (first|((with_reducible refine aF ?_);conv=>whnf)|refine aG ?_|exact gH|with_reducible refine aD ?_ ?_|((with_reducible refine Ask.mk ?_);first|exact dj|exact cy|(intro h;simp_all[bf.cells,Decl.cells]<;>fail)|(simp_all[bf.cells,Decl.cells]<;>fail))|(apply aA;(·exact cI))|refine aH ?_|((with_reducible refine aB ?_ ?_)<;>intro hc<;>(try simp only[List.length_map,ne_eq,da] at hc)<;>try(exfalso;omega)))
    exact⟨i+1,by omega,cM,by omega,by omega,⟨_,bh⟩,⟨_,bh⟩,⟨_,bh⟩,ha.symm⟩
  ·have hie:i=u.shared.length:=by omega
   subst hie
   repeat' (first|((with_reducible refine aF ?_);conv=>whnf)|refine aG ?_|exact gH|with_reducible refine aD ?_ ?_|((with_reducible refine Ask.mk ?_);first|exact dj|exact cy|(intro h;simp_all[bf.cells]<;>fail)|(simp_all[bf.cells]<;>fail))|(apply aA;(·exact cI))|refine aH ?_|((with_reducible refine aB ?_ ?_)<;>intro hc<;>(try simp only[List.length_map,ne_eq,da] at hc)<;>try(exfalso;omega)))
   refine aR (fun i:Nat=>[(1, .pt 0 1 0 0),(4, .fn (.func 114) [] [.pt 19 1 0 0]),(43,cV u.bz),(44,i64 u.bz.length),(45,i64 i)]) (fun i H n=>i≤u.bz.length∧20≤n∧(∃d,bd H 0=some (.row 25 3 d [u.av]))∧(∃d,bd H 19=some (.row 174 1 d [.mp 18]))∧(∃d,bd H 18=some (.row 9 0 d (mapA (uu (jy ((cP u).take (u.shared.length+i)))))))∧fS ((cP u).take (u.shared.length+i)) ((cP u).drop (u.shared.length+i))=fS [] (cP u)∧∀j,j<i→(u.bz.getD j default).word=0) (fun i=>u.bz.length - i) 0 cM ⟨Nat.zero_le _,cZ,⟨_,bh⟩,⟨_,bh⟩,⟨_,by rw[Nat.add_zero];exact bh⟩,by rw[Nat.add_zero];exact hq,fun _ h=>by omega⟩ ?_
   clear r0 r19 r18 hq hc
   rintro i H n ⟨hi,hn,⟨d0,r0⟩,⟨d19,r19⟩,⟨d18,r18⟩,hq,hw⟩
   by_cases hil:i<u.bz.length
   ·have hk:u.shared.length+i<(cP u).length:=by simp only[cP,List.length_append,List.length_map];omega
    have hs:(cP u).getD (u.shared.length+i) default=(u.bz.getD i default).name:=G7 u hil
    obtain⟨ha,ht⟩:=jf u hk hq hs
    have hsz:=(hu.bz _ (cW default hil)).name
    repeat' (first|((with_reducible refine aF ?_);conv=>whnf)|refine aG ?_|exact gH|with_reducible refine aD ?_ ?_|((with_reducible refine Ask.mk ?_);first|exact dj|exact cy|(intro h;simp_all[bf.cells,Decl.cells]<;>fail)|(simp_all[bf.cells,Decl.cells]<;>fail))|(apply aA;(·(first|exact BV|exact cI)))|refine aH ?_|((with_reducible refine aB ?_ ?_)<;>intro hc<;>(try simp only[List.length_map,ne_eq,da] at hc)<;>try(exfalso;omega)))
    refine aJ (oO _ hsz ((cP u).take (u.shared.length+i)) 19 18 _ _ _ _ _ _ bh bh cZ cZ (by decide)) ?_
    rintro _ H2 n2 ⟨rfl,hn2,hput,hf⟩
    have hn12:n≤n2:=Nat.le_trans cZ hn2
    have r02:bd H2 0=some (.row 25 3 d0 [u.av]):=(hf 0 (Nat.lt_of_lt_of_le (by omega:0<n) cZ) (by decide)).trans bh
    have r192:bd H2 19=some (.row 174 1 d19 [.mp 18]):=(hf 19 (Nat.lt_of_lt_of_le (by omega:19<n) cZ) (by decide)).trans bh
    cases hg:(j8 (u.bz.getD i default).name&& !hP ((cP u).take (u.shared.length+i)) (u.bz.getD i default).name) with
    |false=>
     rw[hg,if_neg (by decide)] at ha
     have hb:eZ u=false:=by unfold eZ;rw[ha];simp
     rw[hb]
     clear hf hput
     repeat' (first|((with_reducible refine aF ?_);conv=>whnf)|refine aG ?_|exact gH|with_reducible refine aD ?_ ?_|((with_reducible refine Ask.mk ?_);first|exact dj|exact cy|(intro h;simp_all[bf.cells,Decl.cells]<;>fail)|(simp_all[bf.cells,Decl.cells]<;>fail))|(apply aA;(·exact cI))|refine aH ?_|((with_reducible refine aB ?_ ?_)<;>intro hc<;>(try simp only[List.length_map,ne_eq,da] at hc)<;>try(exfalso;omega)))
     exact rfl
    |true=>
     rw[hg,if_pos rfl] at ha
     have hnm:hP ((cP u).take (u.shared.length+i)) (u.bz.getD i default).name=false:=by revert hg;cases hP ((cP u).take (u.shared.length+i)) (u.bz.getD i default).name<;>simp
     have r182:=hput hnm
     rw[←ht] at r182
     obtain⟨d4,r4⟩:∃d,bd H2 (n+3)=some (.row 103 3 d [(u.bz.getD i default).av]):=⟨_,(hf (n+3) cZ (by omega)).trans bh⟩
     clear hf hput
     repeat' (first|((with_reducible refine aF ?_);conv=>whnf)|refine aG ?_|exact gH|with_reducible refine aD ?_ ?_|((with_reducible refine Ask.mk ?_);first|exact dj|exact cy|(intro h;simp_all[bf.cells,Decl.cells]<;>fail)|(simp_all[bf.cells,Decl.cells]<;>fail))|(apply aA;(·exact cI))|refine aH ?_|((with_reducible refine aB ?_ ?_)<;>intro hc<;>(try simp only[List.length_map,ne_eq,da] at hc)<;>try(exfalso;omega)))
     ·have hb:eZ u=false:=by
       unfold eZ
       rw[Bool.and_eq_false_iff]
       right
       rw[Bool.eq_false_iff,ne_eq,List.all_eq_true]
       exact fun h=>(hc.resolve_left (by decide)) (of_decide_eq_true (h _ (cW default hil)))
      rw[hb]
     ·exact⟨i+1,by omega,cM,by omega,by omega,⟨_,bh⟩,⟨_,bh⟩,⟨_,bh⟩,ha.symm,fun j hj=>by
       by_cases hji:j=i
       ·rw[hji];exact hc.2
       ·exact hw j (by omega)⟩
   ·have hie:i=u.bz.length:=by omega
    subst hie
    repeat' (first|((with_reducible refine aF ?_);conv=>whnf)|refine aG ?_|exact gH|with_reducible refine aD ?_ ?_|((with_reducible refine Ask.mk ?_);first|exact dj|exact cy|(intro h;simp_all[bf.cells]<;>fail)|(simp_all[bf.cells]<;>fail))|(apply aA;(·exact cI))|refine aH ?_|((with_reducible refine aB ?_ ?_)<;>intro hc<;>(try simp only[List.length_map,ne_eq,da] at hc)<;>try(exfalso;omega)))
    refine aR (fun i:Nat=>[(1, .pt 0 1 0 0),(4, .fn (.func 114) [] [.pt 19 1 0 0]),(61,dQ u.bj),(62,i64 u.bj.length),(63,i64 i)]) (fun i H n=>i≤u.bj.length∧20≤n∧(∃d,bd H 0=some (.row 25 3 d [u.av]))∧(∃d,bd H 19=some (.row 174 1 d [.mp 18]))∧(∃d,bd H 18=some (.row 9 0 d (mapA (uu (jy ((cP u).take (u.shared.length+u.bz.length+i)))))))∧fS ((cP u).take (u.shared.length+u.bz.length+i)) ((cP u).drop (u.shared.length+u.bz.length+i))=fS [] (cP u)∧∀j,j<u.bz.length→(u.bz.getD j default).word=0) (fun i=>u.bj.length - i) 0 cM ⟨Nat.zero_le _,cZ,⟨_,bh⟩,⟨_,bh⟩,⟨_,by rw[Nat.add_zero];exact bh⟩,by rw[Nat.add_zero];exact hq,hw⟩ ?_
    clear r0 r19 r18 hq hc hw
    rintro i H n ⟨hi,hn,⟨d0,r0⟩,⟨d19,r19⟩,⟨d18,r18⟩,hq,hw⟩
    by_cases hil:i<u.bj.length
    ·have hk:u.shared.length+u.bz.length+i<(cP u).length:=by simp only[cP,List.length_append,List.length_map];omega
     have hs:(cP u).getD (u.shared.length+u.bz.length+i) default=(u.bj.getD i default).name:=G6 u hil
     obtain⟨ha,ht⟩:=jf u hk hq hs
     have hsz:=(hu.bj _ (cW default hil)).name
     repeat' (first|((with_reducible refine aF ?_);conv=>whnf)|refine aG ?_|exact gH|with_reducible refine aD ?_ ?_|((with_reducible refine Ask.mk ?_);first|exact dj|exact cy|(intro h;simp_all[bf.cells,cA.cells]<;>fail)|(simp_all[bf.cells,cA.cells]<;>fail))|(apply aA;(·(first|exact JW|exact cI)))|refine aH ?_|((with_reducible refine aB ?_ ?_)<;>intro hc<;>(try simp only[List.length_map,ne_eq,da] at hc)<;>try(exfalso;omega)))
     refine aJ (oO _ hsz ((cP u).take (u.shared.length+u.bz.length+i)) 19 18 _ _ _ _ _ _ bh bh cZ cZ (by decide)) ?_
     rintro _ H2 n2 ⟨rfl,hn2,hput,hf⟩
     have hn12:n≤n2:=Nat.le_trans cZ hn2
     have r02:bd H2 0=some (.row 25 3 d0 [u.av]):=(hf 0 (Nat.lt_of_lt_of_le (by omega:0<n) cZ) (by decide)).trans bh
     have r192:bd H2 19=some (.row 174 1 d19 [.mp 18]):=(hf 19 (Nat.lt_of_lt_of_le (by omega:19<n) cZ) (by decide)).trans bh
     cases hg:(j8 (u.bj.getD i default).name&& !hP ((cP u).take (u.shared.length+u.bz.length+i)) (u.bj.getD i default).name) with
     |false=>
      rw[hg,if_neg (by decide)] at ha
      have hb:eZ u=false:=by unfold eZ;rw[ha];simp
      rw[hb]
      repeat' (first|((with_reducible refine aF ?_);conv=>whnf)|refine aG ?_|exact gH|with_reducible refine aD ?_ ?_|((with_reducible refine Ask.mk ?_);first|exact dj|exact cy|(intro h;simp_all[bf.cells,cA.cells]<;>fail)|(simp_all[bf.cells,cA.cells]<;>fail))|(apply aA;(·exact cI))|refine aH ?_|((with_reducible refine aB ?_ ?_)<;>intro hc<;>(try simp only[List.length_map,ne_eq,da] at hc)<;>try(exfalso;omega)))
      exact rfl
     |true=>
      rw[hg,if_pos rfl] at ha
      have hnm:hP ((cP u).take (u.shared.length+u.bz.length+i)) (u.bj.getD i default).name=false:=by revert hg;cases hP ((cP u).take (u.shared.length+u.bz.length+i)) (u.bj.getD i default).name<;>simp
      have r182:=hput hnm
      rw[←ht] at r182
      clear hf hput
      repeat' (first|((with_reducible refine aF ?_);conv=>whnf)|refine aG ?_|exact gH|with_reducible refine aD ?_ ?_|((with_reducible refine Ask.mk ?_);first|exact dj|exact cy|(intro h;simp_all[bf.cells,cA.cells]<;>fail)|(simp_all[bf.cells,cA.cells]<;>fail))|(apply aA;(·exact cI))|refine aH ?_|((with_reducible refine aB ?_ ?_)<;>intro hc<;>(try simp only[List.length_map,ne_eq,da] at hc)<;>try(exfalso;omega)))
      exact⟨i+1,by omega,cM,by omega,by omega,⟨_,bh⟩,⟨_,bh⟩,⟨_,bh⟩,ha.symm,hw⟩
    ·have hie:i=u.bj.length:=by omega
     subst hie
     repeat' (first|((with_reducible refine aF ?_);conv=>whnf)|refine aG ?_|exact gH|with_reducible refine aD ?_ ?_|((with_reducible refine Ask.mk ?_);first|exact dj|exact cy|(intro h;simp_all[bf.cells]<;>fail)|(simp_all[bf.cells]<;>fail))|(apply aA;(·exact cI))|refine aH ?_|((with_reducible refine aB ?_ ?_)<;>intro hc<;>(try simp only[List.length_map,ne_eq,da] at hc)<;>try(exfalso;omega)))
     refine ec (Eq.symm ?_)
     have e:u.shared.length+u.bz.length+u.bj.length=(cP u).length:=by simp only[cP,List.length_append,List.length_map];omega
     have hall:fS [] (cP u)=true:=by
      rw[←hq,e,List.drop_eq_nil_of_le (Nat.le_refl _)]
      cases(cP u).take (cP u).length<;>rfl
     unfold eZ
     rw[decide_eq_true hl.1,decide_eq_true hl.2.1,decide_eq_true hl.2.2,hall]
     simp only[Bool.true_and]
     rw[List.all_eq_true]
     intro d hd
     obtain⟨j,hj,rfl⟩:=List.getElem_of_mem hd
     have:=hw j hj
     rw[show u.bz.getD j default=u.bz[j] by simp[List.getD,hj]] at this
     exact decide_eq_true this
 ·have hb:eZ u=false:=by
   unfold eZ
   by_cases a1:u.shared.length≤64
   ·by_cases a2:u.bz.length≤16
    ·rw[decide_eq_false (fun a3=>hl ⟨a1,a2,a3⟩:¬u.bj.length≤8)];simp
    ·rw[decide_eq_false a2];simp
   ·rw[decide_eq_false a1];simp
  rw[hb]
  repeat' (first|((with_reducible refine aF ?_);conv=>whnf)|refine aG ?_|exact gH|with_reducible refine aD ?_ ?_|((with_reducible refine Ask.mk ?_);first|exact dj|exact cy|(intro h;simp_all[bf.cells]<;>fail)|(simp_all[bf.cells]<;>fail))|(apply aA;(·exact cI))|refine aH ?_|((with_reducible refine aB ?_ ?_)<;>intro hc<;>(try simp only[List.length_map,ne_eq,da] at hc)<;>try(exfalso;omega)))
  exact rfl
end Go.Proofs.YtekfmjjmihomlaaGreat
end
section
/- Lists of numbers: cloned, and held one against another. -/
namespace Go.cO
open Go.RowKit
theorem Wk.MC {H:Hp} {nx b:Nat} {e:TypeId} {sz:Nat} {d:AV} {es es2:List AV} (d2:AV) (hb:bd H b=some (.row e sz d es)) (hl:es.length=es2.length) (h:∀c c2:Cx,c.le c2→c2.w=c.w→cj c c2 es es2):Wk .any H nx .any ((b,some (.row e sz d2 es2))::H) nx:=by
 refine Wk.tell (Nat.le_refl _) (fun x e' sz' d' es' he=> ?_) (fun w0 c c2 hS hU hc hc2 hw hle hnew hM=>⟨dA.any _ _ _,fun x e' sz' d' es' d0 es0 h1 h2=> ?_⟩)
 ·by_cases hx:x=b
  ·subst hx
   rw[cT] at he
   cases he
   exact .inl ⟨d,es,hb,hl⟩
  ·rw[cF hx] at he
   exact .inl ⟨d',es',he,rfl⟩
 ·by_cases hx:x=b
  ·subst hx
   rw[cT] at h1
   rw[hb] at h2
   cases h1;cases h2
   exact h c c2 hle hw
  ·rw[cF hx] at h1
   rw[h1] at h2;cases h2
   exact cj.cE hle _
theorem cj.rep {c c2:Cx} {a b:AV} (h:dA c c2 a b):∀n,cj c c2 (List.replicate n a) (List.replicate n b)
 |0=> .nil
 |n+1=> .cons h (cj.rep h n)
end Go.cO
namespace Go.Proofs.YtekfmjjmihomlaaGreat
open Go Go.cO Go.Proofs
set_option linter.unusedSimpArgs false
set_option linter.unusedVariables false
theorem tw {l:List Int} {i:Nat} (h:i<l.length) (d:AV):(l.map i64).getD i d=i64 (l.getD i 0):=dP i64 l i d h
theorem ph {es:List AV} (hsz:es.length * 8≤140737488355328):cD Tryz.prog 119 [.im 1 .any es] [] 0 (oG [] 0 3 1 es):=by
 refine oG.of (by omega) ?_
 refine aQ uG rfl ?_
 cases hes:es with
 |nil=>
  repeat' (first|((with_reducible refine aF ?_);conv=>whnf)|refine aG ?_|exact aC|with_reducible refine aD ?_ ?_|(apply aA;(·exact cI))|refine aH ?_|((with_reducible refine aB ?_ ?_)<;>intro hc<;>(try simp only[List.length_map,ne_eq,da] at hc)<;>try(exfalso;omega)))
  ·exact⟨.inl ⟨rfl,rfl,cZ,sr⟩⟩
  ·exact⟨.inr ⟨_,_,rfl,cZ,cZ,cZ,bh,sr⟩⟩
 |cons x t=>
  rw[hes] at hsz
  simp only[List.length_cons] at hsz
  repeat' (first|((with_reducible refine aF ?_);conv=>whnf)|refine aG ?_|exact aC|with_reducible refine aD ?_ ?_|(apply aA;(·exact cI))|refine aH ?_|((with_reducible refine aB ?_ ?_)<;>intro hc<;>(try simp only[List.length_map,ne_eq,da] at hc)<;>try(exfalso;omega)))
  ·exact⟨.inr ⟨3,_,(by simp),cZ,cZ,cZ,bh,sr⟩⟩
theorem kj {es:List AV} (hsz:es.length * 8≤140737488355328):cD Tryz.prog 119 [.im 1 .any es] [] 0 (fun r1 H1 _=>∃b d0,r1= .sl b es.length∧bd H1 b=some (.row 3 1 d0 es)):=
 (ph hsz).mono fun r H n ⟨b,d,h1,_,_,_,h2,_⟩=>⟨b,d,h1,h2⟩
theorem tO (l m:List Int) (hl:l.length * 8≤140737488351232) (hm:m.length * 8≤140737488351232):Pure Tryz.prog 121 [hC l,hC m] (fun r=>r=bl (decide (l=m))):=by
 refine aI uI rfl ?_
 unfold hC
 repeat' (first|((with_reducible refine aF ?_);conv=>whnf)|refine aG ?_|exact aC|with_reducible refine aD ?_ ?_|(apply aA;(·exact cI))|refine aH ?_|((with_reducible refine aB ?_ ?_)<;>intro hc<;>(try simp only[List.length_map,ne_eq,da] at hc)<;>try(exfalso;omega)))
 ·refine ec (Eq.symm ?_)
  exact decide_eq_false fun e=>hc (by rw[e])
 ·have hlm:l.length=m.length:=by omega
  refine aR (fun i:Nat=>[(0,hC l),(1,hC m),(12,i64 l.length),(13,i64 i)])
   (fun i H n=>i≤l.length∧∀j,j<i→l.getD j 0=m.getD j 0) (fun i=>l.length - i) 0 cM ⟨Nat.zero_le _,fun _ h=>by omega⟩ ?_
  unfold hC
  rintro i H n ⟨hi,hall⟩
  by_cases hil:i<l.length
  ·have e1:=tw (l:=l) hil
   have e2:=tw (l:=m) (i:=i) (by omega)
   repeat' (first|((with_reducible refine aF ?_);conv=>whnf)|refine aG ?_|exact aC|with_reducible refine aD ?_ ?_|(apply aA;(·(first|exact e1 _|exact e2 _|exact cI)))|refine aH ?_|((with_reducible refine aB ?_ ?_)<;>intro hc<;>(try simp only[List.length_map,ne_eq,da] at hc)<;>try(exfalso;omega)))
   ·refine ec (Eq.symm ?_)
    exact decide_eq_false fun e=>hc (by rw[e])
   ·refine⟨i+1,by omega,cM,by omega,fun j hj=> ?_⟩
    by_cases hji:j=i
    ·subst hji;exact hc
    ·exact hall j (by omega)
  ·have:i=l.length:=by omega
   subst this
   repeat' (first|((with_reducible refine aF ?_);conv=>whnf)|refine aG ?_|exact aC|with_reducible refine aD ?_ ?_|(apply aA;(·exact cI))|refine aH ?_|((with_reducible refine aB ?_ ?_)<;>intro hc<;>(try simp only[List.length_map,ne_eq,da] at hc)<;>try(exfalso;omega)))
   refine ec (Eq.symm ?_)
   refine decide_eq_true (List.ext_getElem hlm fun j h1 h2=> ?_)
   have:=hall j h1
   simpa[List.getD,h1,h2] using this
def Told (nv:AV) (l:List Int) (H:Hp) (nx:Nat):Prop:=nv=hC l∨∃b d,nv= .sl b l.length∧b<nx∧bd H b=some (.row 3 1 d (l.map i64))
theorem Told.dM {nv:AV} {l:List Int} {H:Hp} {nx:Nat} (h:Told nv l H nx) (k:Nat):cO.dM H (k+1) nv=hC l:=by
 rcases h with rfl|⟨b,d,rfl,_,hb⟩
 ·exact dY _ (by simp[bx,hC,cB])
 ·rw[eA hb (by simp),dE _ ((cB _ _).2 fun _ _=>by simp[bx])];rfl
theorem oE {nv:AV} {l:List Int} {H:Hp} {nx:Nat} (h:Told nv l H nx) (m:List Int) (hl:l.length * 8≤140737488351232) (hm:m.length * 8≤140737488351232):cD Tryz.prog 121 [hC m,nv] H nx (fun r H' n=>r=bl (decide (m=l))∧H'=H∧n=nx):=by
 refine Pure.view (args2:=[hC m,hC l]) (tO m l hm hl) ?_ (by simp[cK,bx,hC,cB]) trivial ⟨rfl,rfl,rfl⟩
 rw[List.map_cons,List.map_cons,List.map_nil,h.dM,dY 6 (by simp[bx,hC,cB])]
theorem j1 {nv:AV} {l:List Int} {H:Hp} {nx:Nat} (h:Told nv l H nx) (hl:l.length * 8≤140737488351232):cD Tryz.prog 119 [nv] H nx (fun r H' n=>r=hC l∧nx≤n∧∀b,b<nx→bd H' b=bd H b):=by
 refine cD.wk (cD.JT (es:=l.map i64) (args2:=[hC l]) (kj (by rw[List.length_map];omega)) (fun i hi=>by rw[dP i64 _ _ _ (by simpa using hi)];trivial) (by rw[List.map_cons,List.map_nil,h.dM]) (by simp[cK,bx,hC,cB])) ?_
 rintro r H' n ⟨rfl,rfl,rfl⟩
 have hw:=Wk.LI (r:= .sl nx (l.map i64).length) (H:=(nx,some (.row 3 1 .any (l.map i64)))::H) (nx:=nx+1) [(nx,some (.row 3 1 .any (l.map i64)))] 1 (fun b q hq=>by
  by_cases hb:b=nx
  ·subst hb;rw[cT] at hq ⊢;exact hq
  ·rw[cF hb] at hq;cases hq)
 refine⟨_,_,_,hw, ?_,by omega,fun b hb=> ?_⟩
 ·rw[CN (cT _ _ _) rfl,pA];rfl
 ·rw[lH,ze,cF (by omega),cF (by omega)]
end Go.Proofs.YtekfmjjmihomlaaGreat
end
section
/- Tables that grow till nothing changes, in plain data. -/
namespace Go.Proofs.YtekfmjjmihomlaaGreat
open Go Go.cO Go.Proofs
set_option linter.unusedSimpArgs false
set_option linter.unusedVariables false
abbrev vh:=List (List Bool)
def mW (T:vh) (i k:Nat):Bool:=(T.getD i []).getD k false
def AS (T:vh) (i k:Nat):vh:=T.set i ((T.getD i []).set k true)
structure Shape (T:vh) (m n:Nat):Prop where
 len:T.length=m
 row:∀i,i<m→(T.getD i []).length=n
theorem eQ {α:Type} (l:List α) (i j:Nat) (v d:α):(l.set i v).getD j d=if i=j∧i<l.length then v else l.getD j d:=by
 simp only[List.getD,List.getElem?_set]
 by_cases h:i=j
 ·subst h
  by_cases h2:i<l.length
  ·simp[h2]
  ·simp[h2]
 ·simp[h]
theorem ER {T:vh} {m n i k:Nat} (h:Shape T m n) (hi:i<m) (hk:k<n) (i' k':Nat):mW (AS T i k) i' k'=if i=i'∧k=k' then true else mW T i' k':=by
 unfold mW AS
 rw[eQ]
 by_cases h1:i=i'
 ·subst h1
  rw[if_pos ⟨rfl,by rw[h.len];exact hi⟩,eQ]
  by_cases h2:k=k'
  ·subst h2;rw[if_pos ⟨rfl,by rw[h.row i hi];exact hk⟩,if_pos ⟨rfl,rfl⟩]
  ·rw[if_neg (fun h=>h2 h.1),if_neg (fun h=>h2 h.2)]
 ·rw[if_neg (fun h=>h1 h.1),if_neg (fun h=>h1 h.1)]
theorem Shape.set {T:vh} {m n:Nat} (h:Shape T m n) (i k:Nat):Shape (AS T i k) m n:=by
 refine⟨by simp[AS,h.len],fun j hj=> ?_⟩
 unfold AS
 rw[eQ]
 split
 ·rename_i e;rw[List.length_set,e.1];exact h.row j hj
 ·exact h.row j hj
inductive KO (g:cA) (lg cE:Node→Nat→Bool) (k:Nat):Nat→Prop where
 |lg {i:Nat}:lg (g.nd i) k=true→KO g lg cE k i
 |on {i:Nat} {j:Int}:cE (g.nd i) k=true→j∈(g.nd i).om→KO g lg cE k j.toNat→KO g lg cE k i
def JH (T:vh) (n:Node) (k:Nat):Bool:=n.om.any fun j=>mW T j.toNat k
theorem BB (f:Int→Bool) (n:Node):n.fold.any f=n.om.any f:=zV (fun l=>l.any f) n (fun a=>by simp)
def tF (g:cA) (lg cE:Node→Nat→Bool) (T:vh) (i k:Nat):Bool:=lg (g.nd i) k||(cE (g.nd i) k&&JH T (g.nd i) k)
structure Grow (g:cA) (lg cE:Node→Nat→Bool) (n:Nat) (T:vh):Prop where
 shape:Shape T g.nodes.length n
 sound:∀i k,mW T i k=true→KO g lg cE k i
def rG (m n:Nat):vh:=List.replicate m (List.replicate n false)
theorem xW (m n i k:Nat):mW (rG m n) i k=false:=by
 unfold mW rG
 simp only[List.getD,List.getElem?_replicate]
 by_cases h:i<m
 ·simp only[h,if_true,Option.getD_some,List.getElem?_replicate];split<;>rfl
 ·simp[h]
theorem vM (m n:Nat):Shape (rG m n) m n:=⟨by simp[rG],fun i hi=>by simp[rG,List.getD,List.getElem?_replicate,hi]⟩
theorem Grow.start (g:cA) (lg cE:Node→Nat→Bool) (n:Nat):Grow g lg cE n (rG g.nodes.length n):=
 ⟨vM _ _,fun i k h=>by rw[xW] at h;cases h⟩
theorem tB {T:vh} {n:Node} {k:Nat}:JH T n k=true↔∃j∈n.om,mW T j.toNat k=true:=by
 unfold JH;rw[List.any_eq_true]
theorem Grow.step {g:cA} {lg cE:Node→Nat→Bool} {n:Nat} {T:vh} (h:Grow g lg cE n T) {i k:Nat} (hi:i<g.nodes.length) (hk:k<n) (hc:tF g lg cE T i k=true):Grow g lg cE n (AS T i k):=by
 refine⟨h.shape.set i k,fun i' k' ht=> ?_⟩
 rw[ER h.shape hi hk] at ht
 split at ht
 ·rename_i e
  obtain⟨rfl,rfl⟩:=e
  unfold tF at hc
  rw[Bool.or_eq_true,Bool.and_eq_true] at hc
  rcases hc with h1|⟨h1,h2⟩
  ·exact .lg h1
  ·obtain⟨j,hj,h3⟩:=tB.1 h2
   exact .on h1 hj (h.sound _ _ h3)
 ·exact h.sound _ _ ht
open Classical in
noncomputable def zA (g:cA) (lg cE:Node→Nat→Bool) (n:Nat):vh:=(List.range g.nodes.length).map fun i=>(List.range n).map fun k=>decide (KO g lg cE k i)
theorem xK (g:cA) (lg cE:Node→Nat→Bool) (n:Nat):Shape (zA g lg cE n) g.nodes.length n:=⟨by simp[zA],fun i hi=>by simp[zA,List.getD,hi]⟩
theorem AR (g:cA) (lg cE:Node→Nat→Bool) (n:Nat) {i k:Nat} (hi:i<g.nodes.length) (hk:k<n):mW (zA g lg cE n) i k=true↔KO g lg cE k i:=by
 simp[mW,zA,List.getD,hi,hk]
theorem H8 {T S:vh} {m n:Nat} (hT:Shape T m n) (hS:Shape S m n) (h:∀i k,i<m→k<n→mW T i k=mW S i k):T=S:=by
 apply List.ext_getElem (hT.len.trans hS.len.symm)
 intro i h1 h2
 have hi:i<m:=by rw[←hT.len];exact h1
 have e1:T.getD i []=T[i]:=by simp[List.getD,h1]
 have e2:S.getD i []=S[i]:=by simp[List.getD,h2]
 rw[←e1,←e2]
 apply List.ext_getElem ((hT.row i hi).trans (hS.row i hi).symm)
 intro k h3 h4
 have:=h i k hi (by rw[←hT.row i hi];exact h3)
 unfold mW at this
 have g:∀(l:List Bool) (h:k<l.length),l[k]=l.getD k false:=fun l h=>by simp[List.getD,h]
 rw[g _ h3,g _ h4]
 exact this
theorem Grow.fin {g:cA} {lg cE:Node→Nat→Bool} {n:Nat} {T:vh} (hw:Whole g) (h:Grow g lg cE n T) (hc:∀i k,i<g.nodes.length→k<n→tF g lg cE T i k=true→mW T i k=true):T=zA g lg cE n:=by
 refine H8 h.shape (xK _ _ _ _) fun i k hi hk=> ?_
 rw[Bool.eq_iff_iff,AR g lg cE n hi hk]
 refine⟨h.sound i k,fun ha=> ?_⟩
 induction ha with
 |lg hb=>exact hc _ _ hi hk (by unfold tF;rw[hb];rfl)
 |@on i j hkp hj _ ih=>
  have hj2:=(hw.2.2 i hi).2.2 j hj
  have:=ih hj2.2
  refine hc _ _ hi hk ?_
  unfold tF
  rw[hkp,tB.2 ⟨j,hj,this⟩]
  simp
structure rI where
 kind:Int
 cL:Int
 lock:Int
 deriving Inhabited,DecidableEq
def rI.cells (c:rI):List AV:=[u8 c.kind,i64 c.cL,i64 c.lock]
abbrev rI.av (c:rI):AV:= .agg c.cells
end Go.Proofs.YtekfmjjmihomlaaGreat
end
section
/- The locks that are held, in plain data. -/
namespace Go.Proofs.YtekfmjjmihomlaaGreat
open Go Go.cO Go.Proofs
set_option linter.unusedSimpArgs false
set_option linter.unusedVariables false
structure NX (now:List Int) (l:List Int) (s s':HS):Prop where
 nC:s'.bz.length=s.bz.length
 nh:s'.found.length=s.found.length
 fN:∀k:Int,s.f k=true→s'.f k=true∧s'.l k=s.l k
 new:∀k:Int,0≤k→s'.f k=true→s.f k=true∨k∈l
 all:∀k∈l,s'.f k=true∧s'.l k=now
 bare:∀k:Int,0≤k→s'.f k=false→s'.l k=s.l k
 more:∃t,s'.todo=s.todo++t∧(∀k∈t,k∈l∧s'.f k=true)∧(∀k:Int,0≤k→s'.f k=true→s.f k=true∨k∈t)∧s'.found.count false+t.length=s.found.count false
theorem HS.qV {s:HS} {i:Nat} {L:List (List Int)} {td:List Int} (h:i<s.found.length) (k:Int):HS.f ⟨L,s.found.set i true,td⟩ k=if k.toNat=i then true else s.f k:=jR h k
theorem HS.IW {s:HS} {i:Nat} {now:List Int} {F:List Bool} {td:List Int} (h:i<s.bz.length) (k:Int):HS.l ⟨s.bz.set i now,F,td⟩ k=if k.toNat=i then now else s.l k:=by
 unfold HS.l
 simp only
 rw[eQ]
 by_cases e:i=k.toNat
 ·rw[if_pos ⟨e,h⟩,if_pos e.symm]
 ·rw[if_neg (fun x=>e x.1),if_neg (fun x=>e x.symm)]
theorem lK (now:List Int):∀(l:List Int) (s s':HS),s.bz.length=s.found.length→(∀k∈l,0≤k∧k.toNat<s.found.length)→dN now l s= .inl s'→NX now l s s'
 |[],s,s',_,_,h=>by
  rw[dN] at h;cases h
  exact⟨rfl,rfl,fun _ h=>⟨h,rfl⟩,fun _ _ h=> .inl h,fun _ h=>by simp at h,fun _ _ _=>rfl,[],by simp,fun _ h=>by simp at h,fun _ _ h=> .inl h,by simp⟩
 |k::r,s,s',hl,hr,h=>by
  obtain⟨hk0,hk⟩:=hr k (by simp)
  have hr2:=fun x hx=>hr x (List.mem_cons_of_mem _ hx)
  rw[dN] at h
  by_cases hf:s.f k=false
  ·rw[if_pos hf] at h
   have ih:=lK now r _ s' (by simp[hl]) (fun x hx=>by simpa using hr2 x hx) h
   have fs:=fun x=>HS.qV (s:=s) (i:=k.toNat) (L:=s.bz.set k.toNat now) (td:=s.todo++[k]) hk x
   have ls:=fun x=>HS.IW (s:=s) (i:=k.toNat) (now:=now) (F:=s.found.set k.toNat true) (td:=s.todo++[k]) (by rw[hl];exact hk) x
   obtain⟨t,t1,t2,t3,t4⟩:=ih.more
   have hkk:=ih.fN k (by rw[fs,if_pos rfl])
   refine⟨ih.nC.trans (by simp),ih.nh.trans (by simp),fun x hx=> ?_,fun x hx0 hx=> ?_,fun x hx=> ?_,fun x hx0 hx=> ?_,k::t,by rw[t1];simp,fun x hx=> ?_,fun x hx0 hx=> ?_, ?_⟩
   ·have hne:x.toNat≠k.toNat:=fun e=>by unfold HS.f at hx hf;rw[e] at hx;rw[hx] at hf;cases hf
    have:=ih.fN x (by rw[fs,if_neg hne];exact hx)
    rw[ls,if_neg hne] at this
    exact this
   ·rcases ih.new x hx0 hx with h2|h2
    ·rw[fs] at h2
     split at h2
     ·rename_i e;exact .inr (by rw[show x=k by omega];simp)
     ·exact .inl h2
    ·exact .inr (List.mem_cons_of_mem _ h2)
   ·rcases List.mem_cons.1 hx with rfl|hx
    ·rw[ls,if_pos rfl] at hkk;exact hkk
    ·exact ih.all x hx
   ·have hne:x.toNat≠k.toNat:=fun e=>by
     have:=hkk.1
     rw[show k=x by omega,hx] at this;cases this
    have:=ih.bare x hx0 hx
    rw[ls,if_neg hne] at this
    exact this
   ·rcases List.mem_cons.1 hx with rfl|hx
    ·exact⟨by simp,hkk.1⟩
    ·exact⟨List.mem_cons_of_mem _ (t2 x hx).1,(t2 x hx).2⟩
   ·rcases t3 x hx0 hx with h2|h2
    ·rw[fs] at h2
     split at h2
     ·rename_i e;exact .inr (by rw[show x=k by omega];simp)
     ·exact .inl h2
    ·exact .inr (List.mem_cons_of_mem _ h2)
   ·have:=count_set hk hf
    rw[List.length_cons]
    dsimp only at t4
    omega
  ·rw[if_neg hf] at h
   have hkt:s.f k=true:=by simpa using hf
   by_cases hn:s.l k=now
   ·rw[if_pos hn] at h
    have ih:=lK now r s s' hl hr2 h
    obtain⟨t,t1,t2,t3,t4⟩:=ih.more
    refine⟨ih.nC,ih.nh,ih.fN,fun x hx0 hx=>(ih.new x hx0 hx).imp id (List.mem_cons_of_mem _),fun x hx=> ?_,ih.bare,t,t1,fun x hx=>⟨List.mem_cons_of_mem _ (t2 x hx).1,(t2 x hx).2⟩,t3,t4⟩
    rcases List.mem_cons.1 hx with rfl|hx
    ·have:=ih.fN _ hkt;rw[hn] at this;exact this
    ·exact ih.all x hx
   ·rw[if_neg hn] at h;cases h
structure HI (g:cA) (s:HS) (k:Nat):Prop where
 nC:s.bz.length=g.nodes.length
 nh:s.found.length=g.nodes.length
 zero:s.f 0=true
 first:s.l 0=[]
 tJ:∀i:Int,0≤i→s.f i=true→oH g (-1) i
 bare:∀i:Int,0≤i→s.f i=false→s.l i=[]
 inr:∀i∈s.todo,0≤i∧i.toNat<g.nodes.length∧s.f i=true
 all:∀i:Int,0≤i→s.f i=true→i∈s.todo
 done:∀j,j<k→j<s.todo.length→∃now,du (g.nd (s.todo.getD j 0).toNat) (s.l (s.todo.getD j 0))=some now∧∀to∈(g.nd (s.todo.getD j 0).toNat).om,s.f to=true∧s.l to=now
 count:s.todo.length+s.found.count false=g.nodes.length
theorem HI.start {g:cA} (h:Whole g):HI g (tu g) 0:=by
 have hl:=h.1
 have hf:∀k,HS.f (tu g) k=decide (k.toNat=0):=fun k=>by
  have:=jR (l:=List.replicate g.nodes.length false) (i:=0) (by simp;omega) k
  unfold HS.f tu
  simp only
  unfold mb at this
  rw[this]
  by_cases e:k.toNat=0
  ·simp[e]
  ·rw[if_neg e,decide_eq_false e]
   simp only[List.getD,List.getElem?_replicate];split<;>rfl
 have hk:∀k,HS.l (tu g) k=[]:=fun k=>by
  unfold HS.l tu;simp only[List.getD,List.getElem?_replicate];split<;>rfl
 refine⟨by simp[tu],by simp[tu],by rw[hf];simp,hk 0,fun i h0 hi=> ?_,fun i _ _=>hk i,fun i hi=> ?_,fun i h0 hi=> ?_,fun j hj=>by omega, ?_⟩
 ·rw[hf] at hi
  rw[show i=0 by have:=of_decide_eq_true hi;omega];exact .zero
 ·simp only[tu,List.mem_cons,List.not_mem_nil,or_false] at hi
  subst hi
  exact⟨by omega,by simp;omega,by rw[hf];simp⟩
 ·rw[hf] at hi
  rw[show i=0 by have:=of_decide_eq_true hi;omega];simp[tu]
 ·have:=count_set (l:=List.replicate g.nodes.length false) (i:=0) (by simp;omega) (by simp[List.getD,List.getElem?_replicate];split<;>rfl)
  simp only[List.count_replicate_self] at this
  simp only[tu,List.length_cons,List.length_nil]
  omega
theorem HI.next {g:cA} (hw:Whole g) {s s':HS} {k:Nat} (h:HI g s k) (hk:k<s.todo.length) {now:List Int} (hn:du (g.nd (s.todo.getD k 0).toNat) (s.l (s.todo.getD k 0))=some now) (ht:dN now (g.nd (s.todo.getD k 0).toNat).om s= .inl s'):HI g s' (k+1):=by
 have hm:=cW (0:Int) hk
 obtain⟨i1,i2,i3⟩:=h.inr _ hm
 have hfol:=(hw.2.2 _ i2).2.2
 have sp:=lK now _ s s' (by rw[h.nC,h.nh]) (fun x hx=>by rw[h.nh];exact hfol x hx) ht
 obtain⟨t,t1,t2,t3,t4⟩:=sp.more
 have hget:∀j,j<s.todo.length→s'.todo.getD j 0=s.todo.getD j 0:=fun j hj=>by
  rw[t1];simp[List.getD,List.getElem?_append,hj]
 refine⟨sp.nC.trans h.nC,sp.nh.trans h.nh,(sp.fN 0 h.zero).1,(sp.fN 0 h.zero).2.trans h.first,fun i h0 hi=> ?_,fun i h0 hi=> ?_,fun i hi=> ?_,fun i h0 hi=> ?_,fun j hj hjl=> ?_, ?_⟩
 ·rcases sp.new i h0 hi with h1|h1
  ·exact h.tJ i h0 h1
  ·exact .step (h.tJ _ i1 i3) (by omega) h1
 ·rw[sp.bare i h0 hi]
  refine h.bare i h0 ?_
  cases hq:s.f i with
  |false=>rfl
  |true=>rw[(sp.fN i hq).1] at hi;cases hi
 ·rw[t1] at hi
  rcases List.mem_append.1 hi with hi|hi
  ·obtain⟨a,b,c⟩:=h.inr i hi
   exact⟨a,b,(sp.fN i c).1⟩
  ·have:=hfol i (t2 i hi).1
   exact⟨this.1,this.2,(t2 i hi).2⟩
 ·rw[t1]
  rcases t3 i h0 hi with h1|h1
  ·exact List.mem_append_left _ (h.all i h0 h1)
  ·exact List.mem_append_right _ h1
 ·by_cases hjk:j=k
  ·subst hjk
   rw[hget _ hk]
   refine⟨now, ?_,sp.all⟩
   rw[(sp.fN _ i3).2]
   exact hn
  ·have hj2:j<s.todo.length:=by omega
   rw[hget _ hj2]
   obtain⟨now2,d1,d2⟩:=h.done j (by omega) hj2
   have hjm:=h.inr _ (cW (0:Int) hj2)
   refine⟨now2,by rw[(sp.fN _ hjm.2.2).2];exact d1,fun to hto=> ?_⟩
   obtain⟨e1,e2⟩:=d2 to hto
   rw[(sp.fN _ e1).2]
   exact⟨(sp.fN _ e1).1,e2⟩
 ·have:=h.count
  rw[t1,List.length_append]
  omega
structure M3 (g:cA) (lk:Nat→List Int):Prop where
 zero:lk 0=[]
 on:∀i:Int,oH g (-1) i→∃now,du (g.nd i.toNat) (lk i.toNat)=some now∧∀k∈(g.nd i.toNat).om,lk k.toNat=now
theorem HI.fin {g:cA} {s:HS} {k:Nat} (hw:Whole g) (h:HI g s k) (hk:s.todo.length≤k):M3 g (fun i=>s.bz.getD i [])∧∀i,i<g.nodes.length→(s.found.getD i false=true↔oH g (-1) i):=by
 have hall:∀i:Int,oH g (-1) i→0≤i∧s.f i=true:=fun i hi=>by
  induction hi with
  |zero=>exact⟨by omega,h.zero⟩
  |@step i j hi _ hj ih=>
   obtain⟨i0,hif⟩:=ih
   have hm:=h.all i i0 hif
   obtain⟨q,hq,e⟩:=List.getElem_of_mem hm
   have e2:s.todo.getD q 0=i:=by simp[List.getD,hq,e]
   obtain⟨now,_,d⟩:=h.done q (by omega) hq
   rw[e2] at d
   have h2:=(hw.2.2 i.toNat (h.inr i hm).2.1).2.2 j hj
   exact⟨h2.1,(d j hj).1⟩
 refine⟨⟨h.first,fun i hi=> ?_⟩,fun i hi=>⟨fun hf=>h.tJ i (by omega) hf,fun hc=>(hall i hc).2⟩⟩
 obtain⟨i0,hif⟩:=hall i hi
 have hm:=h.all i i0 hif
 obtain⟨q,hq,e⟩:=List.getElem_of_mem hm
 have e2:s.todo.getD q 0=i:=by simp[List.getD,hq,e]
 obtain⟨now,d1,d⟩:=h.done q (by omega) hq
 rw[e2] at d1 d
 exact⟨now,d1,fun k hk=>(d k hk).2⟩
end Go.Proofs.YtekfmjjmihomlaaGreat
end
section
/- What is reached. -/
namespace Go.Proofs.YtekfmjjmihomlaaGreat
open Go Go.cO Go.Proofs
set_option linter.unusedSimpArgs false
set_option linter.unusedVariables false
theorem mC {n:Node} {k:Int}:k∈n.fold↔k∈n.om:=by
 have:=BB (fun j=>decide (j=k)) n
 rw[Bool.eq_iff_iff,List.any_eq_true,List.any_eq_true] at this
 constructor
 ·intro h;obtain⟨x,h1,h2⟩:=this.1 ⟨k,h,by simp⟩;rw[←of_decide_eq_true h2];exact h1
 ·intro h;obtain⟨x,h1,h2⟩:=this.2 ⟨k,h,by simp⟩;rw[←of_decide_eq_true h2];exact h1
theorem B3 (n:Node):n.fold.length≤2:=by unfold Node.fold;split<;>(try split)<;>simp
theorem gd {α:Type} {l:List α} {q:Nat} (h:q<l.length) (d:α):l.getD q d=l[q]:=by simp[List.getD,h]
theorem ko {l:List Node} {i:Nat} (h:i<l.length) (d:AV):(l.map Node.av).getD ((i:Int).toNat) d=(l.getD i default).av:=by
 rw[Int.toNat_natCast];exact dP Node.av l i d h
theorem xn {l:List cA} {i:Nat} (h:i<l.length) (d:AV):(l.map cA.av).getD ((i:Int).toNat) d=(l.getD i default).av:=by
 rw[Int.toNat_natCast];exact dP cA.av l i d h
theorem pC {l:List Int} {i:Nat} (h:i<l.length) (d:AV):(l.map i64).getD ((i:Int).toNat) d=i64 (l.getD i 0):=by
 rw[Int.toNat_natCast];exact dP i64 l i d h
end Go.Proofs.YtekfmjjmihomlaaGreat
end
