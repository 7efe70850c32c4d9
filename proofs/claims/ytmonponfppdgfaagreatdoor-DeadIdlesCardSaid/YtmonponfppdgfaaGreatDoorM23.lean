import Derived.Test.YtmonponfppdgfaaGreatDoorM22
section
/- Are names and numbers right? -/
namespace Go.Proofs.YtmonponfppdgfaaGreatDoor
open Go Go.ck Go.Proofs
set_option linter.unusedSimpArgs false
set_option linter.unusedVariables false
abbrev wQ (E:List (ByteArray×Bool)):List AV:=lW (fun s:ByteArray=>Value.string s) bl E
theorem MK (E:List (ByteArray×Bool)) (t:ByteArray):pq true (.string t) (wQ E) (bl false)=some (bl ((c8 E t).getD false),(c8 E t).isSome):=(uO C9 bl t E (bl false)).trans (by cases c8 E t<;>rfl)
theorem MQ (E:List (ByteArray×Bool)) (t:ByteArray) (v:Bool):sM true (.string t) (wQ E) (bl v)=some (wQ (gE E t v)):=uP C9 bl t v E
def mD (l:List ByteArray):List (ByteArray×Bool):=l.map fun s=>(s,true)
def gQ:List ByteArray→ByteArray→Bool
 |[],_=>false
 |a::l,s=>if s=a then true else gQ l s
theorem wS (l:List ByteArray) (s:ByteArray):gQ l s=true↔s∈l:=by
 induction l with
 |nil=>simp[gQ]
 |cons a l ih=>
  rw[gQ]
  by_cases h:s=a
  ·simp[h]
  ·simp[h,ih]
theorem A5 (l:List ByteArray) (s:ByteArray):(c8 (mD l) s).getD false=gQ l s:=by
 induction l with
 |nil=>rfl
 |cons a l ih=>
  show((if s=a then some true else c8 (mD l) s)).getD false=(if s=a then true else gQ l s)
  by_cases h:s=a
  ·rw[if_pos h,if_pos h];rfl
  ·rw[if_neg h,if_neg h,ih]
theorem GB (l:List ByteArray) (s:ByteArray) (h:gQ l s=false):gE (mD l) s true=mD (l++[s]):=by
 induction l with
 |nil=>rfl
 |cons a l ih=>
  rw[gQ] at h
  by_cases e:s=a
  ·rw[if_pos e] at h;cases h
  ·rw[if_neg e] at h
   show(if s=a then(s,true)::mD l else(a,true)::gE (mD l) s true)=_
   rw[if_neg e,ih h];rfl
theorem qU (s:ByteArray) (hs:s.size≤140737488351232) (l:List ByteArray) (b m:Nat) (H:Hp) (nx:Nat) (e em:TypeId) (d dm:AV) (hb:bj H b=some (.row e 1 d [.mp m])) (hm:bj H m=some (.row em 0 dm (mapA (wQ (mD l))))) (hbn:b<nx) (hmn:m<nx) (hbm:b≠m):
 cM Tryz.prog 84 [st s, .pt b 1 0 0] H nx (fun r H' n=>r=bl (fR s&& !gQ l s)∧nx≤n∧(gQ l s=false→bj H' m=some (.row em 0 dm (mapA (wQ (mD (l++[s]))))))∧∀y,y<nx→y≠m→bj H' y=bj H y):=by
 refine aL E1 rfl ?_
 repeat' (first|((with_reducible refine aE ?_);conv=>whnf)|refine aG ?_|exact aC|with_reducible refine aD ?_ ?_|(apply aA;(·exact bm))|refine aK (AR s hs) ?_|(apply aF (g:=some _);(·exact fun _=>MK _ _))|(apply aF (g:=none);(·exact fun _=>MQ _ _ _))|refine aH ?_|((with_reducible refine aB ?_ ?_)<;>intro hc<;>(try simp only[List.length_map,ne_eq,cD] at hc)<;>try(exfalso;omega)))
 refine⟨⟨?_,cI,fun h=> ?_,fun y hy hym=> ?_⟩⟩
 ·rw[A5]
  refine cf ?_
  cases fR s<;>cases gQ l s<;>rfl
 ·rw[←GB l s h]
  exact bk
 ·exact bu
def eE:List ByteArray→List ByteArray→Bool
 |_,[]=>true
 |acc,s::r=>if(fR s&& !gQ acc s)=true then eE (acc++[s]) r else false
def cU (u:bq):List ByteArray:=u.shared.map Decl.name++(u.bx.map Decl.name++u.bp.map bo.name)
def eK (u:bq):Bool:=decide (u.shared.length≤64)&&decide (u.bx.length≤16)&&decide (u.bp.length≤8)&&eE [] (cU u)&&u.bx.all (fun d=>decide (d.word=0))
theorem l4 (u:bq) {k:Nat} (hk:k<(cU u).length) (h:eE ((cU u).take k) ((cU u).drop k)=eE [] (cU u)) {s:ByteArray} (hs:(cU u).getD k default=s):
 (eE [] (cU u)=if(fR s&& !gQ ((cU u).take k) s)=true then eE ((cU u).take (k+1)) ((cU u).drop (k+1)) else false)∧(cU u).take (k+1)=(cU u).take k++[s]:=by
 have e:(cU u)[k]=s:=by rw[←hs];simp[List.getD,hk]
 have e2:(cU u).take (k+1)=(cU u).take k++[s]:=by rw[List.take_succ_eq_append_getElem hk,e]
 refine⟨?_,e2⟩
 rw[←h,List.drop_eq_getElem_cons hk,eE,e,e2]
theorem H6 (u:bq) {i:Nat} (h:i<u.shared.length):(cU u).getD i default=(u.shared.getD i default).name:=by
 simp[cU,List.getD,List.getElem?_append,h]
theorem HZ (u:bq) {i:Nat} (h:i<u.bx.length):(cU u).getD (u.shared.length+i) default=(u.bx.getD i default).name:=by
 unfold cU
 rw[List.getD,List.getElem?_append_right (by simp),List.length_map,Nat.add_sub_cancel_left,List.getElem?_append_left (by simpa using h)]
 simp[List.getD,h]
theorem HY (u:bq) {i:Nat} (h:i<u.bp.length):(cU u).getD (u.shared.length+u.bx.length+i) default=(u.bp.getD i default).name:=by
 unfold cU
 rw[List.getD,List.getElem?_append_right (by simp;omega),List.getElem?_append_right (by simp;omega)]
 simp only[List.length_map]
 rw[show u.shared.length+u.bx.length+i - u.shared.length - u.bx.length=i by omega]
 simp[List.getD,h]
set_option maxHeartbeats 4000000 in
theorem xx (u:bq) (hu:u.Wf):Pure Tryz.prog 51 [u.av] (fun r=>r=bl (eK u)):=by
 refine aI D6 rfl ?_
 have h1:=hu.gM
 have h2:=hu.gv
 have h3:=hu.gL
 by_cases hl:u.shared.length≤64∧u.bx.length≤16∧u.bp.length≤8
 ·repeat' (first|((with_reducible refine aE ?_);conv=>whnf)|refine aG ?_|exact cN|with_reducible refine aD ?_ ?_|((with_reducible refine Ask.mk ?_);first|exact bw|exact br|(intro h;simp_all[bq.cells]<;>fail)|(simp_all[bq.cells]<;>fail))|(apply aA;(·exact bm))|refine aH ?_|((with_reducible refine aB ?_ ?_)<;>intro hc<;>(try simp only[List.length_map,ne_eq,cD] at hc)<;>try(exfalso;omega)))
  clear hc
  simp only[List.length_map]
  refine aJ (fun i:Nat=>[(1, .pt 0 1 0 0),(4, .fn (.func 84) [] [.pt 19 1 0 0]),(30,dL u.shared),(31,i64 u.shared.length),(32,i64 i)]) (fun i H n=>i≤u.shared.length∧20≤n∧(∃d,bj H 0=some (.row 25 3 d [u.av]))∧(∃d,bj H 19=some (.row 122 1 d [.mp 18]))∧(∃d,bj H 18=some (.row 9 0 d (mapA (wQ (mD ((cU u).take (i)))))))∧eE ((cU u).take (i)) ((cU u).drop (i))=eE [] (cU u)) (fun i=>u.shared.length - i) 0 bt ⟨Nat.zero_le _,cI,⟨_,bk⟩,⟨_,bk⟩,⟨_,bk⟩,rfl⟩ ?_
  rintro i H n ⟨hi,hn,⟨d0,r0⟩,⟨d19,r19⟩,⟨d18,r18⟩,hq⟩
  by_cases hil:i<u.shared.length
  ·have hk:i<(cU u).length:=by simp only[cU,List.length_append,List.length_map];omega
   have hs:(cU u).getD (i) default=(u.shared.getD i default).name:=H6 u hil
   obtain⟨ha,ht⟩:=l4 u hk hq hs
   have hsz:=(hu.shared _ (cC default hil)).name
   repeat' (first|((with_reducible refine aE ?_);conv=>whnf)|refine aG ?_|exact cN|with_reducible refine aD ?_ ?_|((with_reducible refine Ask.mk ?_);first|exact bw|exact br|(intro h;simp_all[bq.cells,Decl.cells]<;>fail)|(simp_all[bq.cells,Decl.cells]<;>fail))|(apply aA;(·(first|exact B1|exact bm)))|refine aH ?_|((with_reducible refine aB ?_ ?_)<;>intro hc<;>(try simp only[List.length_map,ne_eq,cD] at hc)<;>try(exfalso;omega)))
   refine aN (qU _ hsz ((cU u).take (i)) 19 18 _ _ _ _ _ _ bk bk cI cI (by decide)) ?_
   rintro _ H2 n2 ⟨rfl,hn2,hput,hf⟩
   have hn12:n≤n2:=Nat.le_trans cI hn2
   have r02:bj H2 0=some (.row 25 3 d0 [u.av]):=(hf 0 (Nat.lt_of_lt_of_le (by omega:0<n) cI) (by decide)).trans bk
   have r192:bj H2 19=some (.row 122 1 d19 [.mp 18]):=(hf 19 (Nat.lt_of_lt_of_le (by omega:19<n) cI) (by decide)).trans bk
   cases hg:(fR (u.shared.getD i default).name&& !gQ ((cU u).take (i)) (u.shared.getD i default).name) with
   |false=>
    rw[hg,if_neg (by decide)] at ha
    have hb:eK u=false:=by unfold eK;rw[ha];simp
    rw[hb]
    repeat' (first|((with_reducible refine aE ?_);conv=>whnf)|refine aG ?_|exact cN|with_reducible refine aD ?_ ?_|((with_reducible refine Ask.mk ?_);first|exact bw|exact br|(intro h;simp_all[bq.cells,Decl.cells]<;>fail)|(simp_all[bq.cells,Decl.cells]<;>fail))|(apply aA;(·exact bm))|refine aH ?_|((with_reducible refine aB ?_ ?_)<;>intro hc<;>(try simp only[List.length_map,ne_eq,cD] at hc)<;>try(exfalso;omega)))
    exact rfl
   |true=>
    rw[hg,if_pos rfl] at ha
    have hnm:gQ ((cU u).take (i)) (u.shared.getD i default).name=false:=by revert hg;cases gQ ((cU u).take (i)) (u.shared.getD i default).name<;>simp
    have r182:=hput hnm
    rw[←ht] at r182
    clear hf hput
    repeat' (first|((with_reducible refine aE ?_);conv=>whnf)|refine aG ?_|exact cN|with_reducible refine aD ?_ ?_|((with_reducible refine Ask.mk ?_);first|exact bw|exact br|(intro h;simp_all[bq.cells,Decl.cells]<;>fail)|(simp_all[bq.cells,Decl.cells]<;>fail))|(apply aA;(·exact bm))|refine aH ?_|((with_reducible refine aB ?_ ?_)<;>intro hc<;>(try simp only[List.length_map,ne_eq,cD] at hc)<;>try(exfalso;omega)))
    exact⟨i+1,by omega,bt,by omega,by omega,⟨_,bk⟩,⟨_,bk⟩,⟨_,bk⟩,ha.symm⟩
  ·have hie:i=u.shared.length:=by omega
   subst hie
   repeat' (first|((with_reducible refine aE ?_);conv=>whnf)|refine aG ?_|exact cN|with_reducible refine aD ?_ ?_|((with_reducible refine Ask.mk ?_);first|exact bw|exact br|(intro h;simp_all[bq.cells]<;>fail)|(simp_all[bq.cells]<;>fail))|(apply aA;(·exact bm))|refine aH ?_|((with_reducible refine aB ?_ ?_)<;>intro hc<;>(try simp only[List.length_map,ne_eq,cD] at hc)<;>try(exfalso;omega)))
   refine aJ (fun i:Nat=>[(1, .pt 0 1 0 0),(4, .fn (.func 84) [] [.pt 19 1 0 0]),(43,dL u.bx),(44,i64 u.bx.length),(45,i64 i)]) (fun i H n=>i≤u.bx.length∧20≤n∧(∃d,bj H 0=some (.row 25 3 d [u.av]))∧(∃d,bj H 19=some (.row 122 1 d [.mp 18]))∧(∃d,bj H 18=some (.row 9 0 d (mapA (wQ (mD ((cU u).take (u.shared.length+i)))))))∧eE ((cU u).take (u.shared.length+i)) ((cU u).drop (u.shared.length+i))=eE [] (cU u)∧∀j,j<i→(u.bx.getD j default).word=0) (fun i=>u.bx.length - i) 0 bt ⟨Nat.zero_le _,cI,⟨_,bk⟩,⟨_,bk⟩,⟨_,by rw[Nat.add_zero];exact bk⟩,by rw[Nat.add_zero];exact hq,fun _ h=>by omega⟩ ?_
   clear r0 r19 r18 hq hc
   rintro i H n ⟨hi,hn,⟨d0,r0⟩,⟨d19,r19⟩,⟨d18,r18⟩,hq,hw⟩
   by_cases hil:i<u.bx.length
   ·have hk:u.shared.length+i<(cU u).length:=by simp only[cU,List.length_append,List.length_map];omega
    have hs:(cU u).getD (u.shared.length+i) default=(u.bx.getD i default).name:=HZ u hil
    obtain⟨ha,ht⟩:=l4 u hk hq hs
    have hsz:=(hu.bx _ (cC default hil)).name
    repeat' (first|((with_reducible refine aE ?_);conv=>whnf)|refine aG ?_|exact cN|with_reducible refine aD ?_ ?_|((with_reducible refine Ask.mk ?_);first|exact bw|exact br|(intro h;simp_all[bq.cells,Decl.cells]<;>fail)|(simp_all[bq.cells,Decl.cells]<;>fail))|(apply aA;(·(first|exact B1|exact bm)))|refine aH ?_|((with_reducible refine aB ?_ ?_)<;>intro hc<;>(try simp only[List.length_map,ne_eq,cD] at hc)<;>try(exfalso;omega)))
    refine aN (qU _ hsz ((cU u).take (u.shared.length+i)) 19 18 _ _ _ _ _ _ bk bk cI cI (by decide)) ?_
    rintro _ H2 n2 ⟨rfl,hn2,hput,hf⟩
    have hn12:n≤n2:=Nat.le_trans cI hn2
    have r02:bj H2 0=some (.row 25 3 d0 [u.av]):=(hf 0 (Nat.lt_of_lt_of_le (by omega:0<n) cI) (by decide)).trans bk
    have r192:bj H2 19=some (.row 122 1 d19 [.mp 18]):=(hf 19 (Nat.lt_of_lt_of_le (by omega:19<n) cI) (by decide)).trans bk
    cases hg:(fR (u.bx.getD i default).name&& !gQ ((cU u).take (u.shared.length+i)) (u.bx.getD i default).name) with
    |false=>
     rw[hg,if_neg (by decide)] at ha
     have hb:eK u=false:=by unfold eK;rw[ha];simp
     rw[hb]
     clear hf hput
     repeat' (first|((with_reducible refine aE ?_);conv=>whnf)|refine aG ?_|exact cN|with_reducible refine aD ?_ ?_|((with_reducible refine Ask.mk ?_);first|exact bw|exact br|(intro h;simp_all[bq.cells,Decl.cells]<;>fail)|(simp_all[bq.cells,Decl.cells]<;>fail))|(apply aA;(·exact bm))|refine aH ?_|((with_reducible refine aB ?_ ?_)<;>intro hc<;>(try simp only[List.length_map,ne_eq,cD] at hc)<;>try(exfalso;omega)))
     exact rfl
    |true=>
     rw[hg,if_pos rfl] at ha
     have hnm:gQ ((cU u).take (u.shared.length+i)) (u.bx.getD i default).name=false:=by revert hg;cases gQ ((cU u).take (u.shared.length+i)) (u.bx.getD i default).name<;>simp
     have r182:=hput hnm
     rw[←ht] at r182
     obtain⟨d4,r4⟩:∃d,bj H2 (n+3)=some (.row 48 3 d [(u.bx.getD i default).av]):=⟨_,(hf (n+3) cI (by omega)).trans bk⟩
     clear hf hput
     repeat' (first|((with_reducible refine aE ?_);conv=>whnf)|refine aG ?_|exact cN|with_reducible refine aD ?_ ?_|((with_reducible refine Ask.mk ?_);first|exact bw|exact br|(intro h;simp_all[bq.cells,Decl.cells]<;>fail)|(simp_all[bq.cells,Decl.cells]<;>fail))|(apply aA;(·exact bm))|refine aH ?_|((with_reducible refine aB ?_ ?_)<;>intro hc<;>(try simp only[List.length_map,ne_eq,cD] at hc)<;>try(exfalso;omega)))
     ·have hb:eK u=false:=by
       unfold eK
       rw[Bool.and_eq_false_iff]
       right
       rw[Bool.eq_false_iff,ne_eq,List.all_eq_true]
       exact fun h=>(hc.resolve_left (by decide)) (of_decide_eq_true (h _ (cC default hil)))
      rw[hb]
     ·exact⟨i+1,by omega,bt,by omega,by omega,⟨_,bk⟩,⟨_,bk⟩,⟨_,bk⟩,ha.symm,fun j hj=>by
       by_cases hji:j=i
       ·rw[hji];exact hc.2
       ·exact hw j (by omega)⟩
   ·have hie:i=u.bx.length:=by omega
    subst hie
    repeat' (first|((with_reducible refine aE ?_);conv=>whnf)|refine aG ?_|exact cN|with_reducible refine aD ?_ ?_|((with_reducible refine Ask.mk ?_);first|exact bw|exact br|(intro h;simp_all[bq.cells]<;>fail)|(simp_all[bq.cells]<;>fail))|(apply aA;(·exact bm))|refine aH ?_|((with_reducible refine aB ?_ ?_)<;>intro hc<;>(try simp only[List.length_map,ne_eq,cD] at hc)<;>try(exfalso;omega)))
    refine aJ (fun i:Nat=>[(1, .pt 0 1 0 0),(4, .fn (.func 84) [] [.pt 19 1 0 0]),(61,fG u.bp),(62,i64 u.bp.length),(63,i64 i)]) (fun i H n=>i≤u.bp.length∧20≤n∧(∃d,bj H 0=some (.row 25 3 d [u.av]))∧(∃d,bj H 19=some (.row 122 1 d [.mp 18]))∧(∃d,bj H 18=some (.row 9 0 d (mapA (wQ (mD ((cU u).take (u.shared.length+u.bx.length+i)))))))∧eE ((cU u).take (u.shared.length+u.bx.length+i)) ((cU u).drop (u.shared.length+u.bx.length+i))=eE [] (cU u)∧∀j,j<u.bx.length→(u.bx.getD j default).word=0) (fun i=>u.bp.length - i) 0 bt ⟨Nat.zero_le _,cI,⟨_,bk⟩,⟨_,bk⟩,⟨_,by rw[Nat.add_zero];exact bk⟩,by rw[Nat.add_zero];exact hq,hw⟩ ?_
    clear r0 r19 r18 hq hc hw
    rintro i H n ⟨hi,hn,⟨d0,r0⟩,⟨d19,r19⟩,⟨d18,r18⟩,hq,hw⟩
    by_cases hil:i<u.bp.length
    ·have hk:u.shared.length+u.bx.length+i<(cU u).length:=by simp only[cU,List.length_append,List.length_map];omega
     have hs:(cU u).getD (u.shared.length+u.bx.length+i) default=(u.bp.getD i default).name:=HY u hil
     obtain⟨ha,ht⟩:=l4 u hk hq hs
     have hsz:=(hu.bp _ (cC default hil)).name
     repeat' (first|((with_reducible refine aE ?_);conv=>whnf)|refine aG ?_|exact cN|with_reducible refine aD ?_ ?_|((with_reducible refine Ask.mk ?_);first|exact bw|exact br|(intro h;simp_all[bq.cells,bo.cells]<;>fail)|(simp_all[bq.cells,bo.cells]<;>fail))|(apply aA;(·(first|exact JO|exact bm)))|refine aH ?_|((with_reducible refine aB ?_ ?_)<;>intro hc<;>(try simp only[List.length_map,ne_eq,cD] at hc)<;>try(exfalso;omega)))
     refine aN (qU _ hsz ((cU u).take (u.shared.length+u.bx.length+i)) 19 18 _ _ _ _ _ _ bk bk cI cI (by decide)) ?_
     rintro _ H2 n2 ⟨rfl,hn2,hput,hf⟩
     have hn12:n≤n2:=Nat.le_trans cI hn2
     have r02:bj H2 0=some (.row 25 3 d0 [u.av]):=(hf 0 (Nat.lt_of_lt_of_le (by omega:0<n) cI) (by decide)).trans bk
     have r192:bj H2 19=some (.row 122 1 d19 [.mp 18]):=(hf 19 (Nat.lt_of_lt_of_le (by omega:19<n) cI) (by decide)).trans bk
     cases hg:(fR (u.bp.getD i default).name&& !gQ ((cU u).take (u.shared.length+u.bx.length+i)) (u.bp.getD i default).name) with
     |false=>
      rw[hg,if_neg (by decide)] at ha
      have hb:eK u=false:=by unfold eK;rw[ha];simp
      rw[hb]
      repeat' (first|((with_reducible refine aE ?_);conv=>whnf)|refine aG ?_|exact cN|with_reducible refine aD ?_ ?_|((with_reducible refine Ask.mk ?_);first|exact bw|exact br|(intro h;simp_all[bq.cells,bo.cells]<;>fail)|(simp_all[bq.cells,bo.cells]<;>fail))|(apply aA;(·exact bm))|refine aH ?_|((with_reducible refine aB ?_ ?_)<;>intro hc<;>(try simp only[List.length_map,ne_eq,cD] at hc)<;>try(exfalso;omega)))
      exact rfl
     |true=>
      rw[hg,if_pos rfl] at ha
      have hnm:gQ ((cU u).take (u.shared.length+u.bx.length+i)) (u.bp.getD i default).name=false:=by revert hg;cases gQ ((cU u).take (u.shared.length+u.bx.length+i)) (u.bp.getD i default).name<;>simp
      have r182:=hput hnm
      rw[←ht] at r182
      clear hf hput
      repeat' (first|((with_reducible refine aE ?_);conv=>whnf)|refine aG ?_|exact cN|with_reducible refine aD ?_ ?_|((with_reducible refine Ask.mk ?_);first|exact bw|exact br|(intro h;simp_all[bq.cells,bo.cells]<;>fail)|(simp_all[bq.cells,bo.cells]<;>fail))|(apply aA;(·exact bm))|refine aH ?_|((with_reducible refine aB ?_ ?_)<;>intro hc<;>(try simp only[List.length_map,ne_eq,cD] at hc)<;>try(exfalso;omega)))
      exact⟨i+1,by omega,bt,by omega,by omega,⟨_,bk⟩,⟨_,bk⟩,⟨_,bk⟩,ha.symm,hw⟩
    ·have hie:i=u.bp.length:=by omega
     subst hie
     repeat' (first|((with_reducible refine aE ?_);conv=>whnf)|refine aG ?_|exact cN|with_reducible refine aD ?_ ?_|((with_reducible refine Ask.mk ?_);first|exact bw|exact br|(intro h;simp_all[bq.cells]<;>fail)|(simp_all[bq.cells]<;>fail))|(apply aA;(·exact bm))|refine aH ?_|((with_reducible refine aB ?_ ?_)<;>intro hc<;>(try simp only[List.length_map,ne_eq,cD] at hc)<;>try(exfalso;omega)))
     refine cf (Eq.symm ?_)
     have e:u.shared.length+u.bx.length+u.bp.length=(cU u).length:=by simp only[cU,List.length_append,List.length_map];omega
     have hall:eE [] (cU u)=true:=by
      rw[←hq,e,List.drop_eq_nil_of_le (Nat.le_refl _)]
      cases(cU u).take (cU u).length<;>rfl
     unfold eK
     rw[decide_eq_true hl.1,decide_eq_true hl.2.1,decide_eq_true hl.2.2,hall]
     simp only[Bool.true_and]
     rw[List.all_eq_true]
     intro d hd
     obtain⟨j,hj,rfl⟩:=List.getElem_of_mem hd
     have:=hw j hj
     rw[show u.bx.getD j default=u.bx[j] by simp[List.getD,hj]] at this
     exact decide_eq_true this
 ·have hb:eK u=false:=by
   unfold eK
   by_cases a1:u.shared.length≤64
   ·by_cases a2:u.bx.length≤16
    ·rw[decide_eq_false (fun a3=>hl ⟨a1,a2,a3⟩:¬u.bp.length≤8)];simp
    ·rw[decide_eq_false a2];simp
   ·rw[decide_eq_false a1];simp
  rw[hb]
  repeat' (first|((with_reducible refine aE ?_);conv=>whnf)|refine aG ?_|exact cN|with_reducible refine aD ?_ ?_|((with_reducible refine Ask.mk ?_);first|exact bw|exact br|(intro h;simp_all[bq.cells]<;>fail)|(simp_all[bq.cells]<;>fail))|(apply aA;(·exact bm))|refine aH ?_|((with_reducible refine aB ?_ ?_)<;>intro hc<;>(try simp only[List.length_map,ne_eq,cD] at hc)<;>try(exfalso;omega)))
  exact rfl
end Go.Proofs.YtmonponfppdgfaaGreatDoor
end
section
/- What is so of right units, in plain data. -/
namespace Go.Proofs.YtmonponfppdgfaaGreatDoor
open Go Go.ck Go.Proofs
set_option linter.unusedSimpArgs false
set_option linter.unusedVariables false
def gC (u:bq):Int×Int×Int:=if eK u=true then eR u u.bp 0 else(60,0,0)
structure mq (u:bq) (g:bo) (n:Node):Prop where
 kind:1≤n.kind∧n.kind<10
 origin:0≤n.origin∧n.origin<4096
 op:(n.kind=1→n.op<19)∧(n.kind≠1→n.op=0)
 slot:(gI n.kind=true→0≤n.slot∧n.slot<g.cd)∧(gI n.kind=false→n.slot=0)
 cP:(fV n.kind=true→0≤n.cP∧n.cP<(if n.kind=5∨n.kind=6 then u.bx.length else u.shared.length:Nat))∧(fV n.kind=false→n.cP=0)
 a:pF n.a (lR n.kind) g.cd=true
 b:pF n.b (decide (n.kind=1)&&dr n.op) g.cd=true
 next:(eG n.kind=true→0≤n.next∧n.next<g.nodes.length)∧(eG n.kind=false→n.next=0)
 jS:(n.kind=8→0≤n.jS∧n.jS<g.nodes.length)∧(n.kind≠8→n.jS=0)
theorem FU {n most:Int} {b:Bool}:nN n b most=true↔(b=true→0≤n∧n<most)∧(b=false→n=0):=by
 unfold nN
 cases b<;>simp
theorem mP {u:bq} {g:bo} {n:Node}:iD u g n=true↔mq u g n:=by
 unfold iD
 simp only[Bool.and_eq_true,decide_eq_true_eq,FU,Bool.ite_eq_true_distrib]
 constructor
 ·rintro⟨⟨⟨⟨⟨⟨⟨⟨h1,h2,h3,h4⟩,h5⟩,h6⟩,h7⟩,h8⟩,h9⟩,h10⟩,h11⟩
  refine⟨⟨h1,h2⟩,⟨h3,h4⟩, ?_,h6, ?_,h8,h9,h10, ?_⟩
  ·by_cases h:n.kind=1
   ·rw[if_pos h] at h5;exact⟨fun _=>h5,fun e=>absurd h e⟩
   ·rw[if_neg h] at h5;exact⟨fun e=>absurd e h,fun _=>h5⟩
  ·refine⟨fun e=> ?_,h7.2⟩
   have:=h7.1 e
   split at this<;>rename_i hh
   ·rw[if_pos hh];exact this
   ·rw[if_neg hh];exact this
  ·exact⟨fun e=>h11.1 (by simp[e]),fun e=>h11.2 (by simp[e])⟩
 ·intro h
  refine⟨⟨⟨⟨⟨⟨⟨⟨h.kind.1,h.kind.2,h.origin.1,h.origin.2⟩, ?_⟩,h.slot⟩,⟨fun e=> ?_,h.cP.2⟩⟩,h.a⟩,h.b⟩,h.next⟩, ?_⟩
  ·by_cases e:n.kind=1
   ·rw[if_pos e];exact h.op.1 e
   ·rw[if_neg e];exact h.op.2 e
  ·have:=h.cP.1 e
   split at this<;>rename_i hh
   ·rw[if_pos hh];exact this
   ·rw[if_neg hh];exact this
  ·exact⟨fun e=>h.jS.1 (by simpa using e),fun e=>h.jS.2 (by simpa using e)⟩
theorem iY {α:Type} {p:α→Bool}:∀{l:List α} {i:Nat},fe p l i=none↔∀x∈l,p x=true
 |[],i=>by simp[fe]
 |x::l,i=>by
  rw[fe]
  by_cases h:p x=true
  ·rw[if_pos h,iY];simp[h]
  ·rw[if_neg h];simp[h]
structure dK (u:bq) (g:bo):Prop where
 locals:0≤g.locals∧g.locals≤64
 cd:g.locals≤g.cd∧g.cd≤4160
 len:1≤g.nodes.length∧g.nodes.length≤4096
 nodes:∀n∈g.nodes,mq u g n
 held:(ct g).2<0
theorem CD {u:bq} {g:bo} {n:Node} (h:mq u g n) {k:Int} (hk:k∈n.dJ):0≤k∧k<g.nodes.length:=by
 unfold Node.dJ at hk
 have hkd:=h.kind
 split at hk
 ·simp at hk
 ·rename_i h9
  have hn:=h.next.1 (by unfold eG;exact decide_eq_true (by omega))
  split at hk
  ·rename_i h8
   have he:=h.jS.1 h8
   simp only[List.mem_cons,List.not_mem_nil,or_false] at hk
   rcases hk with rfl|rfl
   ·exact hn
   ·exact he
  ·simp only[List.mem_cons,List.not_mem_nil,or_false] at hk
   subst hk;exact hn
theorem oS {u:bq} {g:bo} (hl:1≤g.nodes.length∧g.nodes.length≤4096) (h:∀n∈g.nodes,mq u g n):Whole g:=
 ⟨hl.1,hl.2,fun i hi=>by
  have hn:=h _ (cC default hi)
  exact⟨hn.kind.1,hn.kind.2,fun k hk=>by have:=CD hn hk;omega⟩⟩
theorem dK.whole {u:bq} {g:bo} (h:dK u g):Whole g:=oS h.len h.nodes
theorem dK.node {u:bq} {g:bo} (h:dK u g) {i:Nat} (hi:i<g.nodes.length):mq u g (g.nd i):=h.nodes _ (cC default hi)
theorem jo {u:bq} {g:bo}:lh u g=none↔dK u g:=by
 unfold lh
 constructor
 ·intro h
  split at h
  ·cases h
  ·rename_i h1
   cases hf:fe (iD u g) g.nodes 0 with
   |some i=>rw[hf] at h;cases h
   |none=>
    rw[hf] at h
    simp only at h
    split at h
    ·cases h
    ·rename_i h2
     exact⟨by omega,by omega,by omega,fun n hn=>mP.1 (iY.1 hf n hn),by omega⟩
 ·intro h
  have h1:=h.locals
  have h2:=h.cd
  have h3:=h.len
  have h4:=h.held
  rw[if_neg (by omega),iY.2 fun n hn=>mP.2 (h.nodes n hn)]
  simp only
  rw[if_neg (by omega)]
theorem nE {u:bq}:∀{l:List bo} {t:Nat},eR u l t=(0,0,0)↔∀g∈l,dK u g
 |[],t=>by simp[eR]
 |g::r,t=>by
  rw[eR]
  cases h:lh u g with
  |some k=>
   have:¬dK u g:=fun e=>by rw[jo.2 e] at h;cases h
   simp[this]
  |none=>
   have:=jo.1 h
   simp[nE,this]
theorem pT {u:bq}:∀{l:List bo} {t:Nat},eR u l t≠(0,0,0)→(eR u l t).1=60
 |[],t,h=>absurd rfl h
 |g::r,t,h=>by
  rw[eR] at h ⊢
  cases hg:lh u g with
  |some k=>rfl
  |none=>rw[hg] at h;exact pT h
structure cp (u:bq):Prop where
 named:eK u=true
 bp:∀g∈u.bp,dK u g
theorem jR {u:bq}:gC u=(0,0,0)↔cp u:=by
 unfold gC
 constructor
 ·intro h
  split at h
  ·rename_i hn;exact⟨hn,nE.1 h⟩
  ·cases h
 ·intro h;rw[if_pos h.named,nE.2 h.bp]
theorem jY {u:bq} (h:¬cp u):(gC u).1=60:=by
 have h2:=mt jR.1 h
 unfold gC at h2 ⊢
 split
 ·rename_i hn;rw[if_pos hn] at h2;exact pT h2
 ·rfl
open Classical in
noncomputable def kK (u:bq):Bool:=decide (cp u)
open Classical in
theorem cT {u:bq}:kK u=true↔cp u:=by unfold kK;rw[decide_eq_true_eq]
theorem cp.BH {u:bq} (h:cp u):u.shared.length≤64∧u.bx.length≤16∧u.bp.length≤8:=by
 have:=h.named
 unfold eK at this
 simp only[Bool.and_eq_true,decide_eq_true_eq] at this
 exact⟨this.1.1.1.1,this.1.1.1.2,this.1.1.2⟩
theorem cp.gr {u:bq} (h:cp u) {t:Nat} (ht:t<u.bp.length):dK u (u.gr t):=h.bp _ (cC default ht)
theorem LL {u:bq} {g:bo} (hg:dK u g) {lk:Nat→List Int} (hlk:xJ g lk):∀i:Int,fY g (-1) i→∀k∈lk i.toNat,0≤k∧k<u.bx.length:=by
 have hw:=hg.whole
 have hin:∀i:Int,fY g (-1) i→0≤i∧i.toNat<g.nodes.length:=fun i hi=>by
  induction hi with
  |zero=>exact⟨by omega,by have:=hw.1;simp;omega⟩
  |@step i k _ _ hk ih=>
   exact(hw.2.2 i.toNat ih.2).2.2 k hk
 intro i hi
 induction hi with
 |zero=>intro k hk;rw[show(0:Int).toNat=0 by rfl,hlk.zero] at hk;simp at hk
 |@step i j hi hc hj ih=>
  obtain⟨now,h1,h2⟩:=hlk.on i hi
  have hn:=hg.node (hin i hi).2
  rw[h2 j hj]
  intro k hk
  unfold cr at h1
  split at h1
  ·rename_i h5
   cases h1
   rcases List.mem_append.1 hk with hk|hk
   ·exact ih k hk
   ·simp only[List.mem_cons,List.not_mem_nil,or_false] at hk
    subst hk
    have:=hn.cP.1 (by unfold fV;exact decide_eq_true (by omega))
    rw[if_pos (.inl h5)] at this
    exact this
  ·split at h1
   ·split at h1
    ·cases h1
     exact ih k (List.dropLast_subset _ hk)
    ·cases h1
   ·split at h1
    ·split at h1
     ·cases h1;exact ih k hk
     ·cases h1
    ·cases h1;exact ih k hk
theorem uI {u:bq} {g:bo} (hg:dK u g) (i:Nat):∀k∈(ct g).1.getD i [],0≤k∧k<u.bx.length:=by
 obtain⟨h1,h2,h3,h4⟩:=kV hg.whole hg.held
 by_cases hi:i<g.nodes.length
 ·by_cases hc:fY g (-1) i
  ·exact LL hg h3 i hc
  ·rw[h4 i hi hc];intro k hk;simp at hk
 ·rw[List.getD,List.getElem?_eq_none (by omega)];intro k hk;simp at hk
theorem JD {u:bq} (hu:cp u) {m:Nat} (hm:m≤u.bp.length):∀x∈gn u m,x.1<m∧(∃i,i<(u.gr x.1).nodes.length∧x.2.1=(u.gr x.1).nd i)∧∀k∈x.2.2,0≤k∧k<u.bx.length:=by
 intro x hx
 unfold gn at hx
 rw[List.mem_flatMap] at hx
 obtain⟨t,ht,hx⟩:=hx
 have htl:=List.mem_range.1 ht
 unfold mw at hx
 rw[List.mem_filterMap] at hx
 obtain⟨i,hi,hx⟩:=hx
 unfold sF at hx
 split at hx
 ·cases hx
  exact⟨htl,⟨i,List.mem_range.1 hi,rfl⟩,uI (hu.gr (by omega)) i⟩
 ·cases hx
theorem GP {u:bq} (hu:cp u) (v:Int):∀x∈ew (gn u u.bp.length) v,x.1<8∧∀k∈x.2,0≤k∧k<u.bx.length:=by
 intro x hx
 unfold ew at hx
 rw[List.mem_map] at hx
 obtain⟨y,hy,rfl⟩:=hx
 have:=JD hu (Nat.le_refl _) y (List.mem_filter.1 hy).1
 have hf:=hu.BH
 exact⟨by dsimp only;omega,this.2.2⟩
theorem BZ {u:bq} (hu:cp u) (v:Int):qb ((c8 (ij (gn u u.bp.length)) v).getD (0,0))=l7 u.bx.length (ew (gn u u.bp.length) v):=by
 rw[←z6 hu.BH.2.1 (GP hu v),ry]
 split<;>rfl
end Go.Proofs.YtmonponfppdgfaaGreatDoor
end
section
/- The document's small questions of units: the walk. -/
namespace Go.Proofs.YtmonponfppdgfaaGreatDoor
open Go Go.ck Go.Proofs
set_option linter.unusedSimpArgs false
set_option linter.unusedVariables false
theorem lK.K3 {a b:lK} (h1:a.dk=b.dk) (h2:a.slot=b.slot) (h3:a.word=b.word):a=b:=by
 obtain⟨a1,a2,a3⟩:=a
 obtain⟨b1,b2,b3⟩:=b
 simp only at h1 h2 h3
 subst h1;subst h2;subst h3;rfl
theorem eA (c:Int):Pure Tryz.prog 107 [u8 c] (fun r=>r=bl (fC c)):=by
 refine aI vy rfl ?_
 repeat' (first|((with_reducible refine aE ?_);conv=>whnf)|refine aG ?_|exact aC|with_reducible refine aD ?_ ?_|(apply aA;(·exact bm))|refine aH ?_|((with_reducible refine aB ?_ ?_)<;>intro hc<;>(try simp only[List.length_map,ne_eq,cD] at hc)<;>try(exfalso;omega)))
 refine cf ?_
 unfold fC
 by_cases h1:48≤c<;>by_cases h2:c≤57<;>simp[h1,h2]
theorem dV (c:Int):Pure Tryz.prog 109 [u8 c] (fun r=>r=bl (gu c)):=by
 refine aI wA rfl ?_
 repeat' (first|((with_reducible refine aE ?_);conv=>whnf)|refine aG ?_|exact aC|with_reducible refine aD ?_ ?_|(apply aA;(·exact bm))|refine aH ?_|((with_reducible refine aB ?_ ?_)<;>intro hc<;>(try simp only[List.length_map,ne_eq,cD] at hc)<;>try(exfalso;omega)))
 refine cf ?_
 unfold gu
 by_cases h1:97≤c<;>by_cases h2:c≤122<;>by_cases h3:65≤c<;>by_cases h4:c≤90<;>by_cases h5:c=95<;>simp[h1,h2,h3,h4,h5]
theorem gG (s:ByteArray):Pure Tryz.prog 108 [st s] (fun r=>r=bl (lS s)):=by
 refine aI vz rfl ?_
 repeat' (first|((with_reducible refine aE ?_);conv=>whnf)|refine aG ?_|exact aC|with_reducible refine aD ?_ ?_|(apply aA;(·exact bm))|refine aH ?_|((with_reducible refine aB ?_ ?_)<;>intro hc<;>(try simp only[List.length_map,ne_eq,cD] at hc)<;>try(exfalso;omega)))
 all_goals refine cf ?_
 all_goals simp_all[lS,yi]
theorem yZ (s:ByteArray) (hs:s.size≤140737488351232):Pure Tryz.prog 92 [st s] (fun r=>r=bl (fR s)):=by
 refine aI FA rfl ?_
 by_cases hz:(s.size:Int)<1
 ·have hb:fR s=false:=by unfold fR;rw[decide_eq_false (by omega)];simp
  rw[hb]
  repeat' (first|((with_reducible refine aE ?_);conv=>whnf)|refine aG ?_|exact aC|with_reducible refine aD ?_ ?_|(apply aA;(·exact bm))|((with_reducible refine aQ (eA _) ?_ ?_);(·exact cO))|((with_reducible refine aM (fun _=>eA _) ?_ ?_);(·exact cO))|((with_reducible refine aO (eA _) ?_ ?_);(·exact cO))|((with_reducible refine aP (fun _=>eA _) ?_ ?_);(·exact cO))|((with_reducible refine aQ (gG _) ?_ ?_);(·exact cO))|((with_reducible refine aM (fun _=>gG _) ?_ ?_);(·exact cO))|((with_reducible refine aO (gG _) ?_ ?_);(·exact cO))|((with_reducible refine aP (fun _=>gG _) ?_ ?_);(·exact cO))|((with_reducible refine aQ (dV _) ?_ ?_);(·exact cO))|((with_reducible refine aM (fun _=>dV _) ?_ ?_);(·exact cO))|((with_reducible refine aO (dV _) ?_ ?_);(·exact cO))|((with_reducible refine aP (fun _=>dV _) ?_ ?_);(·exact cO))|(simp only[hz,decide_true])|refine aH ?_|((with_reducible refine aB ?_ ?_)<;>intro hc<;>(try simp only[List.length_map,ne_eq,cD] at hc)<;>try(exfalso;omega)))
 ·repeat' (first|((with_reducible refine aE ?_);conv=>whnf)|refine aG ?_|exact cN|with_reducible refine aD ?_ ?_|((with_reducible refine Ask.mk ?_);first|exact bw|((refine Ask.mk ?_);intro h;exact⟨by omega,by omega⟩)|exact br)|(apply aA;(·exact bm))|((with_reducible refine aQ (eA _) ?_ ?_);(·exact cO))|((with_reducible refine aM (fun _=>eA _) ?_ ?_);(·exact cO))|((with_reducible refine aO (eA _) ?_ ?_);(·exact cO))|((with_reducible refine aP (fun _=>eA _) ?_ ?_);(·exact cO))|((with_reducible refine aQ (gG _) ?_ ?_);(·exact cO))|((with_reducible refine aM (fun _=>gG _) ?_ ?_);(·exact cO))|((with_reducible refine aO (gG _) ?_ ?_);(·exact cO))|((with_reducible refine aP (fun _=>gG _) ?_ ?_);(·exact cO))|((with_reducible refine aQ (dV _) ?_ ?_);(·exact cO))|((with_reducible refine aM (fun _=>dV _) ?_ ?_);(·exact cO))|((with_reducible refine aO (dV _) ?_ ?_);(·exact cO))|((with_reducible refine aP (fun _=>dV _) ?_ ?_);(·exact cO))|(simp only[hz,decide_false])|refine aH ?_|((with_reducible refine aB ?_ ?_)<;>intro hc<;>(try simp only[List.length_map,ne_eq,cD] at hc)<;>try(exfalso;omega)))
  ·refine cf (Eq.symm ?_)
   unfold fR
   have hp:(decide (1≤s.size)&&decide (s.size≤32)&& !fC (eX s 0)&& !lS s)=false:=by
    rcases hc with((h|h)|h)|h
    ·exact absurd h (by decide)
    ·simp[show ¬s.size≤32 by omega]
    ·have h:fC (eX s 0)=true:=h
     simp[h]
    ·simp[h]
   rw[hp,Bool.false_and]
  ·have hp:(decide (1≤s.size)&&decide (s.size≤32)&& !fC (eX s 0)&& !lS s)=true:=by
    have h1:s.size≤32:=by
     have:¬(32:Int)<s.size:=fun h=>hc.1 (.inl (.inr h))
     omega
    have h2:fC (eX s 0)=false:=by
     cases hd:fC (eX s 0) with
     |false=>rfl
     |true=>exact absurd (.inr hd) hc.1
    have h3:lS s=false:=hc.2
    rw[decide_eq_true (by omega:1≤s.size),decide_eq_true h1,h2,h3];rfl
   have hb:∀R,(decide (1≤s.size)&&decide (s.size≤32)&& !fC (eX s 0)&& !lS s&&R)=R:=fun R=>by rw[hp,Bool.true_and]
   unfold fR
   rw[hb]
   clear hc hp hb
   refine aJ (fun i:Nat=>[(0,st s),(3,i64 i)]) (fun i H n=>i≤s.size∧∀j,j<i→(gu (eX s j)||fC (eX s j))=true) (fun i=>s.size - i) 0 bt ⟨Nat.zero_le _,fun _ h=>by omega⟩ ?_
   rintro i H n ⟨hi,hall⟩
   by_cases his:i<s.size
   ·repeat' (first|((with_reducible refine aE ?_);conv=>whnf)|refine aG ?_|exact cN|with_reducible refine aD ?_ ?_|((with_reducible refine Ask.mk ?_);first|exact bw|((refine Ask.mk ?_);intro h;exact⟨by omega,by omega⟩)|exact br)|(apply aA;(·exact bm))|((with_reducible refine aQ (eA _) ?_ ?_);(·exact cO))|((with_reducible refine aM (fun _=>eA _) ?_ ?_);(·exact cO))|((with_reducible refine aO (eA _) ?_ ?_);(·exact cO))|((with_reducible refine aP (fun _=>eA _) ?_ ?_);(·exact cO))|((with_reducible refine aQ (dV _) ?_ ?_);(·exact cO))|((with_reducible refine aM (fun _=>dV _) ?_ ?_);(·exact cO))|((with_reducible refine aO (dV _) ?_ ?_);(·exact cO))|((with_reducible refine aP (fun _=>dV _) ?_ ?_);(·exact cO))|refine aH ?_|((with_reducible refine aB ?_ ?_)<;>intro hc<;>(try simp only[List.length_map,ne_eq,cD] at hc)<;>try(exfalso;omega)))
    ·refine cf (Eq.symm ?_)
     rw[Bool.eq_false_iff,ne_eq,List.all_eq_true]
     intro hA
     have h1:=hA i (List.mem_range.2 his)
     have hc:gu (eX s i)=false∧fC (eX s i)=false:=hc
     rw[hc.1,hc.2] at h1
     cases h1
    ·refine⟨i+1,by omega,bt,by omega,fun j hj=> ?_⟩
     by_cases hji:j=i
     ·have hc:¬gu (eX s i)=false∨fC (eX s i)=true:=hc
      rw[hji]
      rcases hc with h|h
      ·rw[Bool.not_eq_false] at h
       rw[h,Bool.true_or]
      ·rw[h,Bool.or_true]
     ·exact hall j (by omega)
   ·have:i=s.size:=by omega
    subst this
    repeat' (first|((with_reducible refine aE ?_);conv=>whnf)|refine aG ?_|exact aC|with_reducible refine aD ?_ ?_|(apply aA;(·exact bm))|refine aH ?_|((with_reducible refine aB ?_ ?_)<;>intro hc<;>(try simp only[List.length_map,ne_eq,cD] at hc)<;>try(exfalso;omega)))
    refine cf (Eq.symm ?_)
    rw[List.all_eq_true]
    intro j hj
    exact hall j (List.mem_range.1 hj)
theorem gF (k:Int):Pure Tryz.prog 93 [u8 k] (fun r=>r= .dI [bl (gI k),bl (fV k),bl (lR k),bl (eG k)]):=by
 refine aI FB rfl ?_
 repeat' (first|((with_reducible refine aE ?_);conv=>whnf)|refine aG ?_|exact aC|with_reducible refine aD ?_ ?_|(apply aA;(·exact bm))|refine aH ?_|((with_reducible refine aB ?_ ?_)<;>intro hc<;>(try simp only[List.length_map,ne_eq,cD] at hc)<;>try(exfalso;omega)))
 all_goals first
  |(subst hc;exact rfl)
  |(have h1:gI k=false:=decide_eq_false (by omega)
    have h2:fV k=false:=decide_eq_false (by omega)
    have h3:lR k=false:=decide_eq_false (by omega)
    have h4:eG k=false:=decide_eq_false (by omega)
    rw[h1,h2,h3,h4])
theorem fJ (n most:Int) (b:Bool):Pure Tryz.prog 95 [i64 n,bl b,i64 most] (fun r=>r=bl (nN n b most)):=by
 refine aI FD rfl ?_
 cases b with
 |false=>
  repeat' (first|((with_reducible refine aE ?_);conv=>whnf)|refine aG ?_|exact aC|with_reducible refine aD ?_ ?_|(apply aA;(·exact bm))|refine aH ?_|((with_reducible refine aB ?_ ?_)<;>intro hc<;>(try simp only[List.length_map,ne_eq,cD] at hc)<;>try(exfalso;omega)))
  exact rfl
 |true=>
  repeat' (first|((with_reducible refine aE ?_);conv=>whnf)|refine aG ?_|exact aC|with_reducible refine aD ?_ ?_|(apply aA;(·exact bm))|refine aH ?_|((with_reducible refine aB ?_ ?_)<;>intro hc<;>(try simp only[List.length_map,ne_eq,cD] at hc)<;>try(exfalso;omega)))
  refine cf ?_
  unfold nN
  by_cases h1:0≤n<;>by_cases h2:n<most<;>simp[h1,h2]
theorem pb (v:lK) (b:Bool) (cd:Int):Pure Tryz.prog 96 [v.av,bl b,i64 cd] (fun r=>r=bl (pF v b cd)):=by
 refine aI FE rfl ?_
 cases b with
 |false=>
  repeat' (first|((with_reducible refine aE ?_);conv=>whnf)|refine aG ?_|exact cN|with_reducible refine aD ?_ ?_|((with_reducible refine Ask.mk ?_);first|exact bw|exact br|(intro h;simp_all[lK.cells]<;>fail)|(simp_all[lK.cells]<;>fail))|(apply aA;(·exact bm))|refine aH ?_|((with_reducible refine aB ?_ ?_)<;>intro hc<;>(try simp only[List.length_map,ne_eq,cD] at hc)<;>try(exfalso;omega)))
  refine cf ?_
  unfold pF
  rw[if_neg (by decide),Bool.eq_iff_iff,decide_eq_true_eq]
  constructor
  ·intro h
   simp at h
   exact lK.K3 h.1 h.2.1 h.2.2
  ·intro h
   rw[h];rfl
 |true=>
  repeat' (first|((with_reducible refine aE ?_);conv=>whnf)|refine aG ?_|exact cN|with_reducible refine aD ?_ ?_|((with_reducible refine Ask.mk ?_);first|exact bw|exact br|(intro h;simp_all[lK.cells]<;>fail)|(simp_all[lK.cells]<;>fail))|(apply aA;(·exact bm))|refine aH ?_|((with_reducible refine aB ?_ ?_)<;>intro hc<;>(try simp only[List.length_map,ne_eq,cD] at hc)<;>try(exfalso;omega)))
  all_goals refine cf ?_
  all_goals unfold pF
  ·rw[if_pos rfl,if_pos hc]
   by_cases h1:0≤v.slot<;>by_cases h2:v.slot<cd<;>by_cases h3:v.word=0<;>simp[h1,h2,h3]
  ·rw[if_pos rfl,if_neg (by rw[hc];decide)]
set_option maxRecDepth 4000 in
set_option maxHeartbeats 4000000 in
theorem y3 (u:bq) (g:bo) (n:Node) (hn:n.Wf):Pure Tryz.prog 56 [u.av,g.av,n.av] (fun r=>r=bl (iD u g n)):=by
 have h0:=hn.kind
 have ho:=hn.op
 refine aI EB rfl ?_
 have hva:Pure Tryz.prog 96 [.agg (List.take 3 (List.drop (0+4) n.cells)),bl (lR n.kind),i64 g.cd] (fun r=>r=bl (pF n.a (lR n.kind) g.cd)):=pb n.a _ _
 have hvb:∀b,Pure Tryz.prog 96 [.agg (List.take 3 (List.drop (0+7) n.cells)),bl b,i64 g.cd] (fun r=>r=bl (pF n.b b g.cd)):=fun b=>pb n.b b _
 have hfa:cL 0 [.agg (List.take 3 (List.drop (0+4) n.cells)),bl (lR n.kind),i64 g.cd]:=by simp[cL,cG,Node.cells]
 have hfb:∀b,cL 0 [.agg (List.take 3 (List.drop (0+7) n.cells)),bl b,i64 g.cd]:=fun b=>by simp[cL,cG,Node.cells]
 have hif:∀a b:Bool,(if a=true then b else false)=(a&&b):=fun a b=>by cases a<;>rfl
 by_cases hk:1≤n.kind∧n.kind<10∧0≤n.origin∧n.origin<4096
 ·repeat' (first|((with_reducible refine aE ?_);conv=>whnf)|refine aG ?_|exact cN|with_reducible refine aD ?_ ?_|((with_reducible refine Ask.mk ?_);first|exact bw|exact br|(intro h;simp_all[bq.cells,bo.cells,Node.cells]<;>fail)|(simp_all[bq.cells,bo.cells,Node.cells]<;>fail))|(apply aA;(·exact bm))|((with_reducible refine aQ (gF _) ?_ ?_);(·exact cO))|((with_reducible refine aM (fun _=>gF _) ?_ ?_);(·exact cO))|((with_reducible refine aO (gF _) ?_ ?_);(·exact cO))|((with_reducible refine aP (fun _=>gF _) ?_ ?_);(·exact cO))|((with_reducible refine aQ (fJ _ _ _) ?_ ?_);(·exact cO))|((with_reducible refine aM (fun _=>fJ _ _ _) ?_ ?_);(·exact cO))|((with_reducible refine aO (fJ _ _ _) ?_ ?_);(·exact cO))|((with_reducible refine aP (fun _=>fJ _ _ _) ?_ ?_);(·exact cO))|((with_reducible refine aQ (fF _) ?_ ?_);(·exact cO))|((with_reducible refine aM (fun _=>fF _) ?_ ?_);(·exact cO))|((with_reducible refine aO (fF _) ?_ ?_);(·exact cO))|((with_reducible refine aP (fun _=>fF _) ?_ ?_);(·exact cO))|(refine aM (fun _=>hva) hfa ?_)|(refine aM (fun _=>hvb _) (hfb _) ?_)|refine aH ?_|((with_reducible refine aB ?_ ?_)<;>intro hc<;>(try simp only[List.length_map,ne_eq,cD] at hc)<;>try(exfalso;omega)))
  all_goals rename_i h56
  all_goals refine cf (Eq.symm ?_)
  all_goals unfold iD
  all_goals rw[decide_eq_true hk,Bool.true_and]
  ·have hop:(if n.kind=1 then decide (n.op<19) else decide (n.op=0))=false:=by split<;>exact decide_eq_false (by omega)
   rw[hop];simp
  ·have hop:(if n.kind=1 then decide (n.op<19) else decide (n.op=0))=true:=by split<;>exact decide_eq_true (by omega)
   rw[hop,Bool.true_and,if_pos h56]
   simp only[hif,List.length_map]
  ·have hop:(if n.kind=1 then decide (n.op<19) else decide (n.op=0))=false:=by split<;>exact decide_eq_false (by omega)
   rw[hop];simp
  ·have hop:(if n.kind=1 then decide (n.op<19) else decide (n.op=0))=true:=by split<;>exact decide_eq_true (by omega)
   rw[hop,Bool.true_and,if_neg (by omega)]
   simp only[hif,List.length_map]
 ·have hb:iD u g n=false:=by unfold iD;rw[decide_eq_false hk];simp
  rw[hb]
  repeat' (first|((with_reducible refine aE ?_);conv=>whnf)|refine aG ?_|exact cN|with_reducible refine aD ?_ ?_|((with_reducible refine Ask.mk ?_);first|exact bw|exact br|(intro h;simp_all[bq.cells,bo.cells,Node.cells]<;>fail)|(simp_all[bq.cells,bo.cells,Node.cells]<;>fail))|(apply aA;(·exact bm))|((with_reducible refine aQ (gF _) ?_ ?_);(·exact cO))|((with_reducible refine aM (fun _=>gF _) ?_ ?_);(·exact cO))|((with_reducible refine aO (gF _) ?_ ?_);(·exact cO))|((with_reducible refine aP (fun _=>gF _) ?_ ?_);(·exact cO))|((with_reducible refine aQ (fJ _ _ _) ?_ ?_);(·exact cO))|((with_reducible refine aM (fun _=>fJ _ _ _) ?_ ?_);(·exact cO))|((with_reducible refine aO (fJ _ _ _) ?_ ?_);(·exact cO))|((with_reducible refine aP (fun _=>fJ _ _ _) ?_ ?_);(·exact cO))|((with_reducible refine aQ (fF _) ?_ ?_);(·exact cO))|((with_reducible refine aM (fun _=>fF _) ?_ ?_);(·exact cO))|((with_reducible refine aO (fF _) ?_ ?_);(·exact cO))|((with_reducible refine aP (fun _=>fF _) ?_ ?_);(·exact cO))|(refine aM (fun _=>hva) hfa ?_)|(refine aM (fun _=>hvb _) (hfb _) ?_)|refine aH ?_|((with_reducible refine aB ?_ ?_)<;>intro hc<;>(try simp only[List.length_map,ne_eq,cD] at hc)<;>try(exfalso;omega)))
  all_goals first|exact rfl|(exfalso;omega)
end Go.Proofs.YtmonponfppdgfaaGreatDoor
end
section
/- Lists of numbers: cloned, and held one against another. -/
namespace Go.ck
open Go.RowKit
theorem Wk.KG {H:Hp} {nx b:Nat} {e:TypeId} {sz:Nat} {d:AV} {es es2:List AV} (d2:AV) (hb:bj H b=some (.row e sz d es)) (hl:es.length=es2.length) (h:∀c c2:Cx,c.le c2→c2.w=c.w→dA c c2 es es2):Wk .any H nx .any ((b,some (.row e sz d2 es2))::H) nx:=by
 refine Wk.tell (Nat.le_refl _) (fun x e' sz' d' es' he=> ?_) (fun w0 c c2 hS hU hc hc2 hw hle hnew hM=>⟨dZ.any _ _ _,fun x e' sz' d' es' d0 es0 h1 h2=> ?_⟩)
 ·by_cases hx:x=b
  ·subst hx
   rw[cj] at he
   cases he
   exact .inl ⟨d,es,hb,hl⟩
  ·rw[cS hx] at he
   exact .inl ⟨d',es',he,rfl⟩
 ·by_cases hx:x=b
  ·subst hx
   rw[cj] at h1
   rw[hb] at h2
   cases h1;cases h2
   exact h c c2 hle hw
  ·rw[cS hx] at h1
   rw[h1] at h2;cases h2
   exact dA.cE hle _
theorem dA.rep {c c2:Cx} {a b:AV} (h:dZ c c2 a b):∀n,dA c c2 (List.replicate n a) (List.replicate n b)
 |0=> .nil
 |n+1=> .cons h (dA.rep h n)
end Go.ck
namespace Go.Proofs.YtmonponfppdgfaaGreatDoor
open Go Go.ck Go.Proofs
set_option linter.unusedSimpArgs false
set_option linter.unusedVariables false
theorem nz {l:List Int} {i:Nat} (h:i<l.length) (d:AV):(l.map i64).getD i d=i64 (l.getD i 0):=dH i64 l i d h
theorem sG {es:List AV} (hsz:es.length * 8≤140737488355328):cM Tryz.prog 89 [.im 1 .any es] [] 0 (mo [] 0 3 1 es):=by
 refine mo.of (by omega) ?_
 refine aL E7 rfl ?_
 cases hes:es with
 |nil=>
  repeat' (first|((with_reducible refine aE ?_);conv=>whnf)|refine aG ?_|exact aC|with_reducible refine aD ?_ ?_|(apply aA;(·exact bm))|refine aH ?_|((with_reducible refine aB ?_ ?_)<;>intro hc<;>(try simp only[List.length_map,ne_eq,cD] at hc)<;>try(exfalso;omega)))
  ·exact⟨.inl ⟨rfl,rfl,cI,jk⟩⟩
  ·exact⟨.inr ⟨_,_,rfl,cI,cI,cI,bk,jk⟩⟩
 |cons x t=>
  rw[hes] at hsz
  simp only[List.length_cons] at hsz
  repeat' (first|((with_reducible refine aE ?_);conv=>whnf)|refine aG ?_|exact aC|with_reducible refine aD ?_ ?_|(apply aA;(·exact bm))|refine aH ?_|((with_reducible refine aB ?_ ?_)<;>intro hc<;>(try simp only[List.length_map,ne_eq,cD] at hc)<;>try(exfalso;omega)))
  ·exact⟨.inr ⟨3,_,(by simp),cI,cI,cI,bk,jk⟩⟩
theorem mb {es:List AV} (hsz:es.length * 8≤140737488355328):cM Tryz.prog 89 [.im 1 .any es] [] 0 (fun r1 H1 _=>∃b d0,r1= .sl b es.length∧bj H1 b=some (.row 3 1 d0 es)):=
 (sG hsz).mono fun r H n ⟨b,d,h1,_,_,_,h2,_⟩=>⟨b,d,h1,h2⟩
theorem vH (l m:List Int) (hl:l.length * 8≤140737488351232) (hm:m.length * 8≤140737488351232):Pure Tryz.prog 91 [dN l,dN m] (fun r=>r=bl (decide (l=m))):=by
 refine aI E9 rfl ?_
 unfold dN
 repeat' (first|((with_reducible refine aE ?_);conv=>whnf)|refine aG ?_|exact aC|with_reducible refine aD ?_ ?_|(apply aA;(·exact bm))|refine aH ?_|((with_reducible refine aB ?_ ?_)<;>intro hc<;>(try simp only[List.length_map,ne_eq,cD] at hc)<;>try(exfalso;omega)))
 ·refine cf (Eq.symm ?_)
  exact decide_eq_false fun e=>hc (by rw[e])
 ·have hlm:l.length=m.length:=by omega
  refine aJ (fun i:Nat=>[(0,dN l),(1,dN m),(12,i64 l.length),(13,i64 i)])
   (fun i H n=>i≤l.length∧∀j,j<i→l.getD j 0=m.getD j 0) (fun i=>l.length - i) 0 bt ⟨Nat.zero_le _,fun _ h=>by omega⟩ ?_
  unfold dN
  rintro i H n ⟨hi,hall⟩
  by_cases hil:i<l.length
  ·have e1:=nz (l:=l) hil
   have e2:=nz (l:=m) (i:=i) (by omega)
   repeat' (first|((with_reducible refine aE ?_);conv=>whnf)|refine aG ?_|exact aC|with_reducible refine aD ?_ ?_|(apply aA;(·(first|exact e1 _|exact e2 _|exact bm)))|refine aH ?_|((with_reducible refine aB ?_ ?_)<;>intro hc<;>(try simp only[List.length_map,ne_eq,cD] at hc)<;>try(exfalso;omega)))
   ·refine cf (Eq.symm ?_)
    exact decide_eq_false fun e=>hc (by rw[e])
   ·refine⟨i+1,by omega,bt,by omega,fun j hj=> ?_⟩
    by_cases hji:j=i
    ·subst hji;exact hc
    ·exact hall j (by omega)
  ·have:i=l.length:=by omega
   subst this
   repeat' (first|((with_reducible refine aE ?_);conv=>whnf)|refine aG ?_|exact aC|with_reducible refine aD ?_ ?_|(apply aA;(·exact bm))|refine aH ?_|((with_reducible refine aB ?_ ?_)<;>intro hc<;>(try simp only[List.length_map,ne_eq,cD] at hc)<;>try(exfalso;omega)))
   refine cf (Eq.symm ?_)
   refine decide_eq_true (List.ext_getElem hlm fun j h1 h2=> ?_)
   have:=hall j h1
   simpa[List.getD,h1,h2] using this
def Told (nv:AV) (l:List Int) (H:Hp) (nx:Nat):Prop:=nv=dN l∨∃b d,nv= .sl b l.length∧b<nx∧bj H b=some (.row 3 1 d (l.map i64))
theorem Told.dw {nv:AV} {l:List Int} {H:Hp} {nx:Nat} (h:Told nv l H nx) (k:Nat):ck.dw H (k+1) nv=dN l:=by
 rcases h with rfl|⟨b,d,rfl,_,hb⟩
 ·exact dB _ (by simp[cG,dN,cJ])
 ·rw[dG hb (by simp),cc _ ((cJ _ _).2 fun _ _=>by simp[cG])];rfl
theorem qN {nv:AV} {l:List Int} {H:Hp} {nx:Nat} (h:Told nv l H nx) (m:List Int) (hl:l.length * 8≤140737488351232) (hm:m.length * 8≤140737488351232):cM Tryz.prog 91 [dN m,nv] H nx (fun r H' n=>r=bl (decide (m=l))∧H'=H∧n=nx):=by
 refine Pure.view (args2:=[dN m,dN l]) (vH m l hm hl) ?_ (by simp[cL,cG,dN,cJ]) trivial ⟨rfl,rfl,rfl⟩
 rw[List.map_cons,List.map_cons,List.map_nil,h.dw,dB 6 (by simp[cG,dN,cJ])]
theorem lF {nv:AV} {l:List Int} {H:Hp} {nx:Nat} (h:Told nv l H nx) (hl:l.length * 8≤140737488351232):cM Tryz.prog 89 [nv] H nx (fun r H' n=>r=dN l∧nx≤n∧∀b,b<nx→bj H' b=bj H b):=by
 refine cM.wk (cM.JM (es:=l.map i64) (args2:=[dN l]) (mb (by rw[List.length_map];omega)) (fun i hi=>by rw[dH i64 _ _ _ (by simpa using hi)];trivial) (by rw[List.map_cons,List.map_nil,h.dw]) (by simp[cL,cG,dN,cJ])) ?_
 rintro r H' n ⟨rfl,rfl,rfl⟩
 have hw:=Wk.LA (r:= .sl nx (l.map i64).length) (H:=(nx,some (.row 3 1 .any (l.map i64)))::H) (nx:=nx+1) [(nx,some (.row 3 1 .any (l.map i64)))] 1 (fun b q hq=>by
  by_cases hb:b=nx
  ·subst hb;rw[cj] at hq ⊢;exact hq
  ·rw[cS hb] at hq;cases hq)
 refine⟨_,_,_,hw, ?_,by omega,fun b hb=> ?_⟩
 ·rw[oo (cj _ _ _) rfl,vj];rfl
 ·rw[kx,tE,cS (by omega),cS (by omega)]
end Go.Proofs.YtmonponfppdgfaaGreatDoor
end
