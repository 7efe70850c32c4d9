import Derived.Test.YtmonponfppdgfaaGreatDoorM22
section
/- Are names and numbers right? -/
namespace Go.Proofs.YtmonponfppdgfaaGreatDoor
open Go Go.ch Go.Proofs
set_option linter.unusedSimpArgs false
set_option linter.unusedVariables false
abbrev wU (E:List (ByteArray×Bool)):List AV:=lX (fun s:ByteArray=>Value.string s) bl E
theorem MN (E:List (ByteArray×Bool)) (t:ByteArray):pz true (.string t) (wU E) (bl false)=some (bl ((c9 E t).getD false),(c9 E t).isSome):=(uT DE bl t E (bl false)).trans (by cases c9 E t<;>rfl)
theorem MT (E:List (ByteArray×Bool)) (t:ByteArray) (v:Bool):sP true (.string t) (wU E) (bl v)=some (wU (gE E t v)):=uU DE bl t v E
def mF (l:List ByteArray):List (ByteArray×Bool):=l.map fun s=>(s,true)
def gQ:List ByteArray→ByteArray→Bool
 |[],_=>false
 |a::l,s=>if s=a then true else gQ l s
theorem wW (l:List ByteArray) (s:ByteArray):gQ l s=true↔s∈l:=by
 induction l with
 |nil=>simp[gQ]
 |cons a l ih=>
  rw[gQ]
  by_cases h:s=a
  ·simp[h]
  ·simp[h,ih]
theorem BB (l:List ByteArray) (s:ByteArray):(c9 (mF l) s).getD false=gQ l s:=by
 induction l with
 |nil=>rfl
 |cons a l ih=>
  show((if s=a then some true else c9 (mF l) s)).getD false=(if s=a then true else gQ l s)
  by_cases h:s=a
  ·rw[if_pos h,if_pos h];rfl
  ·rw[if_neg h,if_neg h,ih]
theorem GG (l:List ByteArray) (s:ByteArray) (h:gQ l s=false):gE (mF l) s true=mF (l++[s]):=by
 induction l with
 |nil=>rfl
 |cons a l ih=>
  rw[gQ] at h
  by_cases e:s=a
  ·rw[if_pos e] at h;cases h
  ·rw[if_neg e] at h
   show(if s=a then(s,true)::mF l else(a,true)::gE (mF l) s true)=_
   rw[if_neg e,ih h];rfl
theorem qY (s:ByteArray) (hs:s.size≤140737488351232) (l:List ByteArray) (b m:Nat) (H:Hp) (nx:Nat) (e em:TypeId) (d dm:AV) (hb:bj H b=some (.row e 1 d [.mp m])) (hm:bj H m=some (.row em 0 dm (mapA (wU (mF l))))) (hbn:b<nx) (hmn:m<nx) (hbm:b≠m):
 cM Tryz.prog 84 [st s, .pt b 1 0 0] H nx (fun r H' n=>r=bl (fS s&& !gQ l s)∧nx≤n∧(gQ l s=false→bj H' m=some (.row em 0 dm (mapA (wU (mF (l++[s]))))))∧∀y,y<nx→y≠m→bj H' y=bj H y):=by
 refine aL E6 rfl ?_
 repeat' (first|((with_reducible refine aE ?_);conv=>whnf)|refine aG ?_|exact aC|with_reducible refine aD ?_ ?_|(apply aA;(·exact bm))|refine aK (AY s hs) ?_|(apply aF (g:=some _);(·exact fun _=>MN _ _))|(apply aF (g:=none);(·exact fun _=>MT _ _ _))|refine aH ?_|((with_reducible refine aB ?_ ?_)<;>intro hc<;>(try simp only[List.length_map,ne_eq,cD] at hc)<;>try(exfalso;omega)))
 refine⟨⟨?_,cH,fun h=> ?_,fun y hy hym=> ?_⟩⟩
 ·rw[BB]
  refine cg ?_
  cases fS s<;>cases gQ l s<;>rfl
 ·rw[←GG l s h]
  exact bk
 ·exact bu
def eC:List ByteArray→List ByteArray→Bool
 |_,[]=>true
 |acc,s::r=>if(fS s&& !gQ acc s)=true then eC (acc++[s]) r else false
def cU (u:bp):List ByteArray:=u.shared.map Decl.name++(u.bx.map Decl.name++u.bq.map bo.name)
def eK (u:bp):Bool:=decide (u.shared.length≤64)&&decide (u.bx.length≤16)&&decide (u.bq.length≤8)&&eC [] (cU u)&&u.bx.all (fun d=>decide (d.word=0))
theorem l5 (u:bp) {k:Nat} (hk:k<(cU u).length) (h:eC ((cU u).take k) ((cU u).drop k)=eC [] (cU u)) {s:ByteArray} (hs:(cU u).getD k default=s):
 (eC [] (cU u)=if(fS s&& !gQ ((cU u).take k) s)=true then eC ((cU u).take (k+1)) ((cU u).drop (k+1)) else false)∧(cU u).take (k+1)=(cU u).take k++[s]:=by
 have e:(cU u)[k]=s:=by rw[←hs];simp[List.getD,hk]
 have e2:(cU u).take (k+1)=(cU u).take k++[s]:=by rw[List.take_succ_eq_append_getElem hk,e]
 refine⟨?_,e2⟩
 rw[←h,List.drop_eq_getElem_cons hk,eC,e,e2]
theorem IA (u:bp) {i:Nat} (h:i<u.shared.length):(cU u).getD i default=(u.shared.getD i default).name:=by
 simp[cU,List.getD,List.getElem?_append,h]
theorem H8 (u:bp) {i:Nat} (h:i<u.bx.length):(cU u).getD (u.shared.length+i) default=(u.bx.getD i default).name:=by
 unfold cU
 rw[List.getD,List.getElem?_append_right (by simp),List.length_map,Nat.add_sub_cancel_left,List.getElem?_append_left (by simpa using h)]
 simp[List.getD,h]
theorem H7 (u:bp) {i:Nat} (h:i<u.bq.length):(cU u).getD (u.shared.length+u.bx.length+i) default=(u.bq.getD i default).name:=by
 unfold cU
 rw[List.getD,List.getElem?_append_right (by simp;omega),List.getElem?_append_right (by simp;omega)]
 simp only[List.length_map]
 rw[show u.shared.length+u.bx.length+i - u.shared.length - u.bx.length=i by omega]
 simp[List.getD,h]
set_option maxHeartbeats 4000000 in
theorem yB (u:bp) (hu:u.Wf):Pure Tryz.prog 51 [u.av] (fun r=>r=bl (eK u)):=by
 refine aJ EA rfl ?_
 have h1:=hu.gL
 have h2:=hu.gw
 have h3:=hu.gb
 by_cases hl:u.shared.length≤64∧u.bx.length≤16∧u.bq.length≤8
 ·repeat' (first|((with_reducible refine aE ?_);conv=>whnf)|refine aG ?_|exact cN|with_reducible refine aD ?_ ?_|((with_reducible refine Ask.mk ?_);first|exact bw|exact br|(intro h;simp_all[bp.cells]<;>fail)|(simp_all[bp.cells]<;>fail))|(apply aA;(·exact bm))|refine aH ?_|((with_reducible refine aB ?_ ?_)<;>intro hc<;>(try simp only[List.length_map,ne_eq,cD] at hc)<;>try(exfalso;omega)))
  clear hc
  simp only[List.length_map]
  refine aI (fun i:Nat=>[(1, .pt 0 1 0 0),(4, .fn (.func 84) [] [.pt 19 1 0 0]),(30,dM u.shared),(31,i64 u.shared.length),(32,i64 i)]) (fun i H n=>i≤u.shared.length∧20≤n∧(∃d,bj H 0=some (.row 25 3 d [u.av]))∧(∃d,bj H 19=some (.row 122 1 d [.mp 18]))∧(∃d,bj H 18=some (.row 9 0 d (mapA (wU (mF ((cU u).take (i)))))))∧eC ((cU u).take (i)) ((cU u).drop (i))=eC [] (cU u)) (fun i=>u.shared.length - i) 0 bt ⟨Nat.zero_le _,cH,⟨_,bk⟩,⟨_,bk⟩,⟨_,bk⟩,rfl⟩ ?_
  rintro i H n ⟨hi,hn,⟨d0,r0⟩,⟨d19,r19⟩,⟨d18,r18⟩,hq⟩
  by_cases hil:i<u.shared.length
  ·have hk:i<(cU u).length:=by simp only[cU,List.length_append,List.length_map];omega
   have hs:(cU u).getD (i) default=(u.shared.getD i default).name:=IA u hil
   obtain⟨ha,ht⟩:=l5 u hk hq hs
   have hsz:=(hu.shared _ (cC default hil)).name
   repeat' (first|((with_reducible refine aE ?_);conv=>whnf)|refine aG ?_|exact cN|with_reducible refine aD ?_ ?_|((with_reducible refine Ask.mk ?_);first|exact bw|exact br|(intro h;simp_all[bp.cells,Decl.cells]<;>fail)|(simp_all[bp.cells,Decl.cells]<;>fail))|(apply aA;(·(first|exact B6|exact bm)))|refine aH ?_|((with_reducible refine aB ?_ ?_)<;>intro hc<;>(try simp only[List.length_map,ne_eq,cD] at hc)<;>try(exfalso;omega)))
   refine aN (qY _ hsz ((cU u).take (i)) 19 18 _ _ _ _ _ _ bk bk cH cH (by decide)) ?_
   rintro _ H2 n2 ⟨rfl,hn2,hput,hf⟩
   have hn12:n≤n2:=Nat.le_trans cH hn2
   have r02:bj H2 0=some (.row 25 3 d0 [u.av]):=(hf 0 (Nat.lt_of_lt_of_le (by omega:0<n) cH) (by decide)).trans bk
   have r192:bj H2 19=some (.row 122 1 d19 [.mp 18]):=(hf 19 (Nat.lt_of_lt_of_le (by omega:19<n) cH) (by decide)).trans bk
   cases hg:(fS (u.shared.getD i default).name&& !gQ ((cU u).take (i)) (u.shared.getD i default).name) with
   |false=>
    rw[hg,if_neg (by decide)] at ha
    have hb:eK u=false:=by unfold eK;rw[ha];simp
    rw[hb]
    repeat' (first|((with_reducible refine aE ?_);conv=>whnf)|refine aG ?_|exact cN|with_reducible refine aD ?_ ?_|((with_reducible refine Ask.mk ?_);first|exact bw|exact br|(intro h;simp_all[bp.cells,Decl.cells]<;>fail)|(simp_all[bp.cells,Decl.cells]<;>fail))|(apply aA;(·exact bm))|refine aH ?_|((with_reducible refine aB ?_ ?_)<;>intro hc<;>(try simp only[List.length_map,ne_eq,cD] at hc)<;>try(exfalso;omega)))
    exact rfl
   |true=>
    rw[hg,if_pos rfl] at ha
    have hnm:gQ ((cU u).take (i)) (u.shared.getD i default).name=false:=by revert hg;cases gQ ((cU u).take (i)) (u.shared.getD i default).name<;>simp
    have r182:=hput hnm
    rw[←ht] at r182
    clear hf hput
    repeat' (first|((with_reducible refine aE ?_);conv=>whnf)|refine aG ?_|exact cN|with_reducible refine aD ?_ ?_|((with_reducible refine Ask.mk ?_);first|exact bw|exact br|(intro h;simp_all[bp.cells,Decl.cells]<;>fail)|(simp_all[bp.cells,Decl.cells]<;>fail))|(apply aA;(·exact bm))|refine aH ?_|((with_reducible refine aB ?_ ?_)<;>intro hc<;>(try simp only[List.length_map,ne_eq,cD] at hc)<;>try(exfalso;omega)))
    exact⟨i+1,by omega,bt,by omega,by omega,⟨_,bk⟩,⟨_,bk⟩,⟨_,bk⟩,ha.symm⟩
  ·have hie:i=u.shared.length:=by omega
   subst hie
   repeat' (first|((with_reducible refine aE ?_);conv=>whnf)|refine aG ?_|exact cN|with_reducible refine aD ?_ ?_|((with_reducible refine Ask.mk ?_);first|exact bw|exact br|(intro h;simp_all[bp.cells]<;>fail)|(simp_all[bp.cells]<;>fail))|(apply aA;(·exact bm))|refine aH ?_|((with_reducible refine aB ?_ ?_)<;>intro hc<;>(try simp only[List.length_map,ne_eq,cD] at hc)<;>try(exfalso;omega)))
   refine aI (fun i:Nat=>[(1, .pt 0 1 0 0),(4, .fn (.func 84) [] [.pt 19 1 0 0]),(43,dM u.bx),(44,i64 u.bx.length),(45,i64 i)]) (fun i H n=>i≤u.bx.length∧20≤n∧(∃d,bj H 0=some (.row 25 3 d [u.av]))∧(∃d,bj H 19=some (.row 122 1 d [.mp 18]))∧(∃d,bj H 18=some (.row 9 0 d (mapA (wU (mF ((cU u).take (u.shared.length+i)))))))∧eC ((cU u).take (u.shared.length+i)) ((cU u).drop (u.shared.length+i))=eC [] (cU u)∧∀j,j<i→(u.bx.getD j default).word=0) (fun i=>u.bx.length - i) 0 bt ⟨Nat.zero_le _,cH,⟨_,bk⟩,⟨_,bk⟩,⟨_,by rw[Nat.add_zero];exact bk⟩,by rw[Nat.add_zero];exact hq,fun _ h=>by omega⟩ ?_
   clear r0 r19 r18 hq hc
   rintro i H n ⟨hi,hn,⟨d0,r0⟩,⟨d19,r19⟩,⟨d18,r18⟩,hq,hw⟩
   by_cases hil:i<u.bx.length
   ·have hk:u.shared.length+i<(cU u).length:=by simp only[cU,List.length_append,List.length_map];omega
    have hs:(cU u).getD (u.shared.length+i) default=(u.bx.getD i default).name:=H8 u hil
    obtain⟨ha,ht⟩:=l5 u hk hq hs
    have hsz:=(hu.bx _ (cC default hil)).name
    repeat' (first|((with_reducible refine aE ?_);conv=>whnf)|refine aG ?_|exact cN|with_reducible refine aD ?_ ?_|((with_reducible refine Ask.mk ?_);first|exact bw|exact br|(intro h;simp_all[bp.cells,Decl.cells]<;>fail)|(simp_all[bp.cells,Decl.cells]<;>fail))|(apply aA;(·(first|exact B6|exact bm)))|refine aH ?_|((with_reducible refine aB ?_ ?_)<;>intro hc<;>(try simp only[List.length_map,ne_eq,cD] at hc)<;>try(exfalso;omega)))
    refine aN (qY _ hsz ((cU u).take (u.shared.length+i)) 19 18 _ _ _ _ _ _ bk bk cH cH (by decide)) ?_
    rintro _ H2 n2 ⟨rfl,hn2,hput,hf⟩
    have hn12:n≤n2:=Nat.le_trans cH hn2
    have r02:bj H2 0=some (.row 25 3 d0 [u.av]):=(hf 0 (Nat.lt_of_lt_of_le (by omega:0<n) cH) (by decide)).trans bk
    have r192:bj H2 19=some (.row 122 1 d19 [.mp 18]):=(hf 19 (Nat.lt_of_lt_of_le (by omega:19<n) cH) (by decide)).trans bk
    cases hg:(fS (u.bx.getD i default).name&& !gQ ((cU u).take (u.shared.length+i)) (u.bx.getD i default).name) with
    |false=>
     rw[hg,if_neg (by decide)] at ha
     have hb:eK u=false:=by unfold eK;rw[ha];simp
     rw[hb]
     clear hf hput
     repeat' (first|((with_reducible refine aE ?_);conv=>whnf)|refine aG ?_|exact cN|with_reducible refine aD ?_ ?_|((with_reducible refine Ask.mk ?_);first|exact bw|exact br|(intro h;simp_all[bp.cells,Decl.cells]<;>fail)|(simp_all[bp.cells,Decl.cells]<;>fail))|(apply aA;(·exact bm))|refine aH ?_|((with_reducible refine aB ?_ ?_)<;>intro hc<;>(try simp only[List.length_map,ne_eq,cD] at hc)<;>try(exfalso;omega)))
     exact rfl
    |true=>
     rw[hg,if_pos rfl] at ha
     have hnm:gQ ((cU u).take (u.shared.length+i)) (u.bx.getD i default).name=false:=by revert hg;cases gQ ((cU u).take (u.shared.length+i)) (u.bx.getD i default).name<;>simp
     have r182:=hput hnm
     rw[←ht] at r182
     obtain⟨d4,r4⟩:∃d,bj H2 (n+3)=some (.row 48 3 d [(u.bx.getD i default).av]):=⟨_,(hf (n+3) cH (by omega)).trans bk⟩
     clear hf hput
     repeat' (first|((with_reducible refine aE ?_);conv=>whnf)|refine aG ?_|exact cN|with_reducible refine aD ?_ ?_|((with_reducible refine Ask.mk ?_);first|exact bw|exact br|(intro h;simp_all[bp.cells,Decl.cells]<;>fail)|(simp_all[bp.cells,Decl.cells]<;>fail))|(apply aA;(·exact bm))|refine aH ?_|((with_reducible refine aB ?_ ?_)<;>intro hc<;>(try simp only[List.length_map,ne_eq,cD] at hc)<;>try(exfalso;omega)))
     ·have hb:eK u=false:=by
       unfold eK
       rw[Bool.and_eq_false_iff]
       right
       rw[Bool.eq_false_iff,ne_eq,List.all_eq_true]
       exact fun h=>(hc.resolve_left (by decide)) (of_decide_eq_true (h _ (cC default hil)))
      rw[hb]
     ·exact⟨i+1,by omega,bt,by omega,by omega,⟨_,bk⟩,⟨_,bk⟩,⟨_,bk⟩,ha.symm,fun j hj=>by
       by_cases hji:j=i
       ·rw[hji];exact hc.2
       ·exact hw j (by omega)⟩
   ·have hie:i=u.bx.length:=by omega
    subst hie
    repeat' (first|((with_reducible refine aE ?_);conv=>whnf)|refine aG ?_|exact cN|with_reducible refine aD ?_ ?_|((with_reducible refine Ask.mk ?_);first|exact bw|exact br|(intro h;simp_all[bp.cells]<;>fail)|(simp_all[bp.cells]<;>fail))|(apply aA;(·exact bm))|refine aH ?_|((with_reducible refine aB ?_ ?_)<;>intro hc<;>(try simp only[List.length_map,ne_eq,cD] at hc)<;>try(exfalso;omega)))
    refine aI (fun i:Nat=>[(1, .pt 0 1 0 0),(4, .fn (.func 84) [] [.pt 19 1 0 0]),(61,fG u.bq),(62,i64 u.bq.length),(63,i64 i)]) (fun i H n=>i≤u.bq.length∧20≤n∧(∃d,bj H 0=some (.row 25 3 d [u.av]))∧(∃d,bj H 19=some (.row 122 1 d [.mp 18]))∧(∃d,bj H 18=some (.row 9 0 d (mapA (wU (mF ((cU u).take (u.shared.length+u.bx.length+i)))))))∧eC ((cU u).take (u.shared.length+u.bx.length+i)) ((cU u).drop (u.shared.length+u.bx.length+i))=eC [] (cU u)∧∀j,j<u.bx.length→(u.bx.getD j default).word=0) (fun i=>u.bq.length - i) 0 bt ⟨Nat.zero_le _,cH,⟨_,bk⟩,⟨_,bk⟩,⟨_,by rw[Nat.add_zero];exact bk⟩,by rw[Nat.add_zero];exact hq,hw⟩ ?_
    clear r0 r19 r18 hq hc hw
    rintro i H n ⟨hi,hn,⟨d0,r0⟩,⟨d19,r19⟩,⟨d18,r18⟩,hq,hw⟩
    by_cases hil:i<u.bq.length
    ·have hk:u.shared.length+u.bx.length+i<(cU u).length:=by simp only[cU,List.length_append,List.length_map];omega
     have hs:(cU u).getD (u.shared.length+u.bx.length+i) default=(u.bq.getD i default).name:=H7 u hil
     obtain⟨ha,ht⟩:=l5 u hk hq hs
     have hsz:=(hu.bq _ (cC default hil)).name
     repeat' (first|((with_reducible refine aE ?_);conv=>whnf)|refine aG ?_|exact cN|with_reducible refine aD ?_ ?_|((with_reducible refine Ask.mk ?_);first|exact bw|exact br|(intro h;simp_all[bp.cells,bo.cells]<;>fail)|(simp_all[bp.cells,bo.cells]<;>fail))|(apply aA;(·(first|exact JR|exact bm)))|refine aH ?_|((with_reducible refine aB ?_ ?_)<;>intro hc<;>(try simp only[List.length_map,ne_eq,cD] at hc)<;>try(exfalso;omega)))
     refine aN (qY _ hsz ((cU u).take (u.shared.length+u.bx.length+i)) 19 18 _ _ _ _ _ _ bk bk cH cH (by decide)) ?_
     rintro _ H2 n2 ⟨rfl,hn2,hput,hf⟩
     have hn12:n≤n2:=Nat.le_trans cH hn2
     have r02:bj H2 0=some (.row 25 3 d0 [u.av]):=(hf 0 (Nat.lt_of_lt_of_le (by omega:0<n) cH) (by decide)).trans bk
     have r192:bj H2 19=some (.row 122 1 d19 [.mp 18]):=(hf 19 (Nat.lt_of_lt_of_le (by omega:19<n) cH) (by decide)).trans bk
     cases hg:(fS (u.bq.getD i default).name&& !gQ ((cU u).take (u.shared.length+u.bx.length+i)) (u.bq.getD i default).name) with
     |false=>
      rw[hg,if_neg (by decide)] at ha
      have hb:eK u=false:=by unfold eK;rw[ha];simp
      rw[hb]
      repeat' (first|((with_reducible refine aE ?_);conv=>whnf)|refine aG ?_|exact cN|with_reducible refine aD ?_ ?_|((with_reducible refine Ask.mk ?_);first|exact bw|exact br|(intro h;simp_all[bp.cells,bo.cells]<;>fail)|(simp_all[bp.cells,bo.cells]<;>fail))|(apply aA;(·exact bm))|refine aH ?_|((with_reducible refine aB ?_ ?_)<;>intro hc<;>(try simp only[List.length_map,ne_eq,cD] at hc)<;>try(exfalso;omega)))
      exact rfl
     |true=>
      rw[hg,if_pos rfl] at ha
      have hnm:gQ ((cU u).take (u.shared.length+u.bx.length+i)) (u.bq.getD i default).name=false:=by revert hg;cases gQ ((cU u).take (u.shared.length+u.bx.length+i)) (u.bq.getD i default).name<;>simp
      have r182:=hput hnm
      rw[←ht] at r182
      clear hf hput
      repeat' (first|((with_reducible refine aE ?_);conv=>whnf)|refine aG ?_|exact cN|with_reducible refine aD ?_ ?_|((with_reducible refine Ask.mk ?_);first|exact bw|exact br|(intro h;simp_all[bp.cells,bo.cells]<;>fail)|(simp_all[bp.cells,bo.cells]<;>fail))|(apply aA;(·exact bm))|refine aH ?_|((with_reducible refine aB ?_ ?_)<;>intro hc<;>(try simp only[List.length_map,ne_eq,cD] at hc)<;>try(exfalso;omega)))
      exact⟨i+1,by omega,bt,by omega,by omega,⟨_,bk⟩,⟨_,bk⟩,⟨_,bk⟩,ha.symm,hw⟩
    ·have hie:i=u.bq.length:=by omega
     subst hie
     repeat' (first|((with_reducible refine aE ?_);conv=>whnf)|refine aG ?_|exact cN|with_reducible refine aD ?_ ?_|((with_reducible refine Ask.mk ?_);first|exact bw|exact br|(intro h;simp_all[bp.cells]<;>fail)|(simp_all[bp.cells]<;>fail))|(apply aA;(·exact bm))|refine aH ?_|((with_reducible refine aB ?_ ?_)<;>intro hc<;>(try simp only[List.length_map,ne_eq,cD] at hc)<;>try(exfalso;omega)))
     refine cg (Eq.symm ?_)
     have e:u.shared.length+u.bx.length+u.bq.length=(cU u).length:=by simp only[cU,List.length_append,List.length_map];omega
     have hall:eC [] (cU u)=true:=by
      rw[←hq,e,List.drop_eq_nil_of_le (Nat.le_refl _)]
      cases(cU u).take (cU u).length<;>rfl
     unfold eK
     rw[decide_eq_true hl.1,decide_eq_true hl.2.1,decide_eq_true hl.2.2,hall]
     simp only[Bool.true_and]
     rw[List.all_eq_true]
     intro d hd
     obtain⟨j,hj,rfl⟩:=List.getElem_of_mem hd
     have:=hw j hj
     rw[show u.bx.getD j default=u.bx[j] by simp[List.getD,hj]] at this
     exact decide_eq_true this
 ·have hb:eK u=false:=by
   unfold eK
   by_cases a1:u.shared.length≤64
   ·by_cases a2:u.bx.length≤16
    ·rw[decide_eq_false (fun a3=>hl ⟨a1,a2,a3⟩:¬u.bq.length≤8)];simp
    ·rw[decide_eq_false a2];simp
   ·rw[decide_eq_false a1];simp
  rw[hb]
  repeat' (first|((with_reducible refine aE ?_);conv=>whnf)|refine aG ?_|exact cN|with_reducible refine aD ?_ ?_|((with_reducible refine Ask.mk ?_);first|exact bw|exact br|(intro h;simp_all[bp.cells]<;>fail)|(simp_all[bp.cells]<;>fail))|(apply aA;(·exact bm))|refine aH ?_|((with_reducible refine aB ?_ ?_)<;>intro hc<;>(try simp only[List.length_map,ne_eq,cD] at hc)<;>try(exfalso;omega)))
  exact rfl
end Go.Proofs.YtmonponfppdgfaaGreatDoor
end
section
/- What is so of right units, in plain data. -/
namespace Go.Proofs.YtmonponfppdgfaaGreatDoor
open Go Go.ch Go.Proofs
set_option linter.unusedSimpArgs false
set_option linter.unusedVariables false
def gO (u:bp):Int×Int×Int:=if eK u=true then eR u u.bq 0 else(60,0,0)
structure mq (u:bp) (g:bo) (n:Node):Prop where
 kind:1≤n.kind∧n.kind<10
 origin:0≤n.origin∧n.origin<4096
 op:(n.kind=1→n.op<19)∧(n.kind≠1→n.op=0)
 slot:(gH n.kind=true→0≤n.slot∧n.slot<g.cf)∧(gH n.kind=false→n.slot=0)
 cP:(fX n.kind=true→0≤n.cP∧n.cP<(if n.kind=5∨n.kind=6 then u.bx.length else u.shared.length:Nat))∧(fX n.kind=false→n.cP=0)
 a:pG n.a (lS n.kind) g.cf=true
 b:pG n.b (decide (n.kind=1)&&du n.op) g.cf=true
 next:(eF n.kind=true→0≤n.next∧n.next<g.nodes.length)∧(eF n.kind=false→n.next=0)
 jT:(n.kind=8→0≤n.jT∧n.jT<g.nodes.length)∧(n.kind≠8→n.jT=0)
theorem FY {n most:Int} {b:Bool}:nM n b most=true↔(b=true→0≤n∧n<most)∧(b=false→n=0):=by
 unfold nM
 cases b<;>simp
theorem mR {u:bp} {g:bo} {n:Node}:iE u g n=true↔mq u g n:=by
 unfold iE
 simp only[Bool.and_eq_true,decide_eq_true_eq,FY,Bool.ite_eq_true_distrib]
 constructor
 ·rintro⟨⟨⟨⟨⟨⟨⟨⟨h1,h2,h3,h4⟩,h5⟩,h6⟩,h7⟩,h8⟩,h9⟩,h10⟩,h11⟩
  refine⟨⟨h1,h2⟩,⟨h3,h4⟩, ?_,h6, ?_,h8,h9,h10, ?_⟩
  ·by_cases h:n.kind=1
   ·rw[if_pos h] at h5;exact⟨fun _=>h5,fun e=>absurd h e⟩
   ·rw[if_neg h] at h5;exact⟨fun e=>absurd e h,fun _=>h5⟩
  ·refine⟨fun e=> ?_,h7.2⟩
   have:=h7.1 e
   split at this<;>rename_i hh
   ·rw[if_pos hh];exact this
   ·rw[if_neg hh];exact this
  ·exact⟨fun e=>h11.1 (by simp[e]),fun e=>h11.2 (by simp[e])⟩
 ·intro h
  refine⟨⟨⟨⟨⟨⟨⟨⟨h.kind.1,h.kind.2,h.origin.1,h.origin.2⟩, ?_⟩,h.slot⟩,⟨fun e=> ?_,h.cP.2⟩⟩,h.a⟩,h.b⟩,h.next⟩, ?_⟩
  ·by_cases e:n.kind=1
   ·rw[if_pos e];exact h.op.1 e
   ·rw[if_neg e];exact h.op.2 e
  ·have:=h.cP.1 e
   split at this<;>rename_i hh
   ·rw[if_pos hh];exact this
   ·rw[if_neg hh];exact this
  ·exact⟨fun e=>h.jT.1 (by simpa using e),fun e=>h.jT.2 (by simpa using e)⟩
theorem ic {α:Type} {p:α→Bool}:∀{l:List α} {i:Nat},fg p l i=none↔∀x∈l,p x=true
 |[],i=>by simp[fg]
 |x::l,i=>by
  rw[fg]
  by_cases h:p x=true
  ·rw[if_pos h,ic];simp[h]
  ·rw[if_neg h];simp[h]
structure dL (u:bp) (g:bo):Prop where
 locals:0≤g.locals∧g.locals≤64
 cf:g.locals≤g.cf∧g.cf≤4160
 len:1≤g.nodes.length∧g.nodes.length≤4096
 nodes:∀n∈g.nodes,mq u g n
 held:(cr g).2<0
theorem CJ {u:bp} {g:bo} {n:Node} (h:mq u g n) {k:Int} (hk:k∈n.dK):0≤k∧k<g.nodes.length:=by
 unfold Node.dK at hk
 have hkd:=h.kind
 split at hk
 ·simp at hk
 ·rename_i h9
  have hn:=h.next.1 (by unfold eF;exact decide_eq_true (by omega))
  split at hk
  ·rename_i h8
   have he:=h.jT.1 h8
   simp only[List.mem_cons,List.not_mem_nil,or_false] at hk
   rcases hk with rfl|rfl
   ·exact hn
   ·exact he
  ·simp only[List.mem_cons,List.not_mem_nil,or_false] at hk
   subst hk;exact hn
theorem oU {u:bp} {g:bo} (hl:1≤g.nodes.length∧g.nodes.length≤4096) (h:∀n∈g.nodes,mq u g n):Whole g:=
 ⟨hl.1,hl.2,fun i hi=>by
  have hn:=h _ (cC default hi)
  exact⟨hn.kind.1,hn.kind.2,fun k hk=>by have:=CJ hn hk;omega⟩⟩
theorem dL.whole {u:bp} {g:bo} (h:dL u g):Whole g:=oU h.len h.nodes
theorem dL.node {u:bp} {g:bo} (h:dL u g) {i:Nat} (hi:i<g.nodes.length):mq u g (g.nd i):=h.nodes _ (cC default hi)
theorem jo {u:bp} {g:bo}:lj u g=none↔dL u g:=by
 unfold lj
 constructor
 ·intro h
  split at h
  ·cases h
  ·rename_i h1
   cases hf:fg (iE u g) g.nodes 0 with
   |some i=>rw[hf] at h;cases h
   |none=>
    rw[hf] at h
    simp only at h
    split at h
    ·cases h
    ·rename_i h2
     exact⟨by omega,by omega,by omega,fun n hn=>mR.1 (ic.1 hf n hn),by omega⟩
 ·intro h
  have h1:=h.locals
  have h2:=h.cf
  have h3:=h.len
  have h4:=h.held
  rw[if_neg (by omega),ic.2 fun n hn=>mR.2 (h.nodes n hn)]
  simp only
  rw[if_neg (by omega)]
theorem nE {u:bp}:∀{l:List bo} {t:Nat},eR u l t=(0,0,0)↔∀g∈l,dL u g
 |[],t=>by simp[eR]
 |g::r,t=>by
  rw[eR]
  cases h:lj u g with
  |some k=>
   have:¬dL u g:=fun e=>by rw[jo.2 e] at h;cases h
   simp[this]
  |none=>
   have:=jo.1 h
   simp[nE,this]
theorem pV {u:bp}:∀{l:List bo} {t:Nat},eR u l t≠(0,0,0)→(eR u l t).1=60
 |[],t,h=>absurd rfl h
 |g::r,t,h=>by
  rw[eR] at h ⊢
  cases hg:lj u g with
  |some k=>rfl
  |none=>rw[hg] at h;exact pV h
structure c8 (u:bp):Prop where
 named:eK u=true
 bq:∀g∈u.bq,dL u g
theorem kN {u:bp}:gO u=(0,0,0)↔c8 u:=by
 unfold gO
 constructor
 ·intro h
  split at h
  ·rename_i hn;exact⟨hn,nE.1 h⟩
  ·cases h
 ·intro h;rw[if_pos h.named,nE.2 h.bq]
theorem kj {u:bp} (h:¬c8 u):(gO u).1=60:=by
 have h2:=mt kN.1 h
 unfold gO at h2 ⊢
 split
 ·rename_i hn;rw[if_pos hn] at h2;exact pV h2
 ·rfl
open Classical in
noncomputable def lD (u:bp):Bool:=decide (c8 u)
open Classical in
theorem cV {u:bp}:lD u=true↔c8 u:=by unfold lD;rw[decide_eq_true_eq]
theorem c8.CD {u:bp} (h:c8 u):u.shared.length≤64∧u.bx.length≤16∧u.bq.length≤8:=by
 have:=h.named
 unfold eK at this
 simp only[Bool.and_eq_true,decide_eq_true_eq] at this
 exact⟨this.1.1.1.1,this.1.1.1.2,this.1.1.2⟩
theorem c8.gr {u:bp} (h:c8 u) {t:Nat} (ht:t<u.bq.length):dL u (u.gr t):=h.bq _ (cC default ht)
theorem LN {u:bp} {g:bo} (hg:dL u g) {lk:Nat→List Int} (hlk:xL g lk):∀i:Int,fc g (-1) i→∀k∈lk i.toNat,0≤k∧k<u.bx.length:=by
 have hw:=hg.whole
 have hin:∀i:Int,fc g (-1) i→0≤i∧i.toNat<g.nodes.length:=fun i hi=>by
  induction hi with
  |zero=>exact⟨by omega,by have:=hw.1;simp;omega⟩
  |@step i k _ _ hk ih=>
   exact(hw.2.2 i.toNat ih.2).2.2 k hk
 intro i hi
 induction hi with
 |zero=>intro k hk;rw[show(0:Int).toNat=0 by rfl,hlk.zero] at hk;simp at hk
 |@step i j hi hc hj ih=>
  obtain⟨now,h1,h2⟩:=hlk.on i hi
  have hn:=hg.node (hin i hi).2
  rw[h2 j hj]
  intro k hk
  unfold cq at h1
  split at h1
  ·rename_i h5
   cases h1
   rcases List.mem_append.1 hk with hk|hk
   ·exact ih k hk
   ·simp only[List.mem_cons,List.not_mem_nil,or_false] at hk
    subst hk
    have:=hn.cP.1 (by unfold fX;exact decide_eq_true (by omega))
    rw[if_pos (.inl h5)] at this
    exact this
  ·split at h1
   ·split at h1
    ·cases h1
     exact ih k (List.dropLast_subset _ hk)
    ·cases h1
   ·split at h1
    ·split at h1
     ·cases h1;exact ih k hk
     ·cases h1
    ·cases h1;exact ih k hk
theorem uO {u:bp} {g:bo} (hg:dL u g) (i:Nat):∀k∈(cr g).1.getD i [],0≤k∧k<u.bx.length:=by
 obtain⟨h1,h2,h3,h4⟩:=kU hg.whole hg.held
 by_cases hi:i<g.nodes.length
 ·by_cases hc:fc g (-1) i
  ·exact LN hg h3 i hc
  ·rw[h4 i hi hc];intro k hk;simp at hk
 ·rw[List.getD,List.getElem?_eq_none (by omega)];intro k hk;simp at hk
theorem JG {u:bp} (hu:c8 u) {m:Nat} (hm:m≤u.bq.length):∀x∈gq u m,x.1<m∧(∃i,i<(u.gr x.1).nodes.length∧x.2.1=(u.gr x.1).nd i)∧∀k∈x.2.2,0≤k∧k<u.bx.length:=by
 intro x hx
 unfold gq at hx
 rw[List.mem_flatMap] at hx
 obtain⟨t,ht,hx⟩:=hx
 have htl:=List.mem_range.1 ht
 unfold mw at hx
 rw[List.mem_filterMap] at hx
 obtain⟨i,hi,hx⟩:=hx
 unfold sJ at hx
 split at hx
 ·cases hx
  exact⟨htl,⟨i,List.mem_range.1 hi,rfl⟩,uO (hu.gr (by omega)) i⟩
 ·cases hx
theorem GS {u:bp} (hu:c8 u) (v:Int):∀x∈ew (gq u u.bq.length) v,x.1<8∧∀k∈x.2,0≤k∧k<u.bx.length:=by
 intro x hx
 unfold ew at hx
 rw[List.mem_map] at hx
 obtain⟨y,hy,rfl⟩:=hx
 have:=JG hu (Nat.le_refl _) y (List.mem_filter.1 hy).1
 have hf:=hu.CD
 exact⟨by dsimp only;omega,this.2.2⟩
theorem B4 {u:bp} (hu:c8 u) (v:Int):qe ((c9 (ir (gq u u.bq.length)) v).getD (0,0))=l8 u.bx.length (ew (gq u u.bq.length) v):=by
 rw[←zb hu.CD.2.1 (GS hu v),sC]
 split<;>rfl
end Go.Proofs.YtmonponfppdgfaaGreatDoor
end
section
/- The document's small questions of units: the walk. -/
namespace Go.Proofs.YtmonponfppdgfaaGreatDoor
open Go Go.ch Go.Proofs
set_option linter.unusedSimpArgs false
set_option linter.unusedVariables false
theorem lL.K5 {a b:lL} (h1:a.dr=b.dr) (h2:a.slot=b.slot) (h3:a.word=b.word):a=b:=by
 obtain⟨a1,a2,a3⟩:=a
 obtain⟨b1,b2,b3⟩:=b
 simp only at h1 h2 h3
 subst h1;subst h2;subst h3;rfl
theorem dz (c:Int):Pure Tryz.prog 107 [u8 c] (fun r=>r=bl (fC c)):=by
 refine aJ wC rfl ?_
 repeat' (first|((with_reducible refine aE ?_);conv=>whnf)|refine aG ?_|exact aC|with_reducible refine aD ?_ ?_|(apply aA;(·exact bm))|refine aH ?_|((with_reducible refine aB ?_ ?_)<;>intro hc<;>(try simp only[List.length_map,ne_eq,cD] at hc)<;>try(exfalso;omega)))
 refine cg ?_
 unfold fC
 by_cases h1:48≤c<;>by_cases h2:c≤57<;>simp[h1,h2]
theorem dV (c:Int):Pure Tryz.prog 109 [u8 c] (fun r=>r=bl (gv c)):=by
 refine aJ wE rfl ?_
 repeat' (first|((with_reducible refine aE ?_);conv=>whnf)|refine aG ?_|exact aC|with_reducible refine aD ?_ ?_|(apply aA;(·exact bm))|refine aH ?_|((with_reducible refine aB ?_ ?_)<;>intro hc<;>(try simp only[List.length_map,ne_eq,cD] at hc)<;>try(exfalso;omega)))
 refine cg ?_
 unfold gv
 by_cases h1:97≤c<;>by_cases h2:c≤122<;>by_cases h3:65≤c<;>by_cases h4:c≤90<;>by_cases h5:c=95<;>simp[h1,h2,h3,h4,h5]
theorem gG (s:ByteArray):Pure Tryz.prog 108 [st s] (fun r=>r=bl (lT s)):=by
 refine aJ wD rfl ?_
 repeat' (first|((with_reducible refine aE ?_);conv=>whnf)|refine aG ?_|exact aC|with_reducible refine aD ?_ ?_|(apply aA;(·exact bm))|refine aH ?_|((with_reducible refine aB ?_ ?_)<;>intro hc<;>(try simp only[List.length_map,ne_eq,cD] at hc)<;>try(exfalso;omega)))
 all_goals refine cg ?_
 all_goals simp_all[lT,yk]
theorem y5 (s:ByteArray) (hs:s.size≤140737488351232):Pure Tryz.prog 92 [st s] (fun r=>r=bl (fS s)):=by
 refine aJ FE rfl ?_
 by_cases hz:(s.size:Int)<1
 ·have hb:fS s=false:=by unfold fS;rw[decide_eq_false (by omega)];simp
  rw[hb]
  repeat' (first|((with_reducible refine aE ?_);conv=>whnf)|refine aG ?_|exact aC|with_reducible refine aD ?_ ?_|(apply aA;(·exact bm))|((with_reducible refine aQ (dz _) ?_ ?_);(·exact cO))|((with_reducible refine aM (fun _=>dz _) ?_ ?_);(·exact cO))|((with_reducible refine aO (dz _) ?_ ?_);(·exact cO))|((with_reducible refine aP (fun _=>dz _) ?_ ?_);(·exact cO))|((with_reducible refine aQ (gG _) ?_ ?_);(·exact cO))|((with_reducible refine aM (fun _=>gG _) ?_ ?_);(·exact cO))|((with_reducible refine aO (gG _) ?_ ?_);(·exact cO))|((with_reducible refine aP (fun _=>gG _) ?_ ?_);(·exact cO))|((with_reducible refine aQ (dV _) ?_ ?_);(·exact cO))|((with_reducible refine aM (fun _=>dV _) ?_ ?_);(·exact cO))|((with_reducible refine aO (dV _) ?_ ?_);(·exact cO))|((with_reducible refine aP (fun _=>dV _) ?_ ?_);(·exact cO))|(simp only[hz,decide_true])|refine aH ?_|((with_reducible refine aB ?_ ?_)<;>intro hc<;>(try simp only[List.length_map,ne_eq,cD] at hc)<;>try(exfalso;omega)))
 ·repeat' (first|((with_reducible refine aE ?_);conv=>whnf)|refine aG ?_|exact cN|with_reducible refine aD ?_ ?_|((with_reducible refine Ask.mk ?_);first|exact bw|((refine Ask.mk ?_);intro h;exact⟨by omega,by omega⟩)|exact br)|(apply aA;(·exact bm))|((with_reducible refine aQ (dz _) ?_ ?_);(·exact cO))|((with_reducible refine aM (fun _=>dz _) ?_ ?_);(·exact cO))|((with_reducible refine aO (dz _) ?_ ?_);(·exact cO))|((with_reducible refine aP (fun _=>dz _) ?_ ?_);(·exact cO))|((with_reducible refine aQ (gG _) ?_ ?_);(·exact cO))|((with_reducible refine aM (fun _=>gG _) ?_ ?_);(·exact cO))|((with_reducible refine aO (gG _) ?_ ?_);(·exact cO))|((with_reducible refine aP (fun _=>gG _) ?_ ?_);(·exact cO))|((with_reducible refine aQ (dV _) ?_ ?_);(·exact cO))|((with_reducible refine aM (fun _=>dV _) ?_ ?_);(·exact cO))|((with_reducible refine aO (dV _) ?_ ?_);(·exact cO))|((with_reducible refine aP (fun _=>dV _) ?_ ?_);(·exact cO))|(simp only[hz,decide_false])|refine aH ?_|((with_reducible refine aB ?_ ?_)<;>intro hc<;>(try simp only[List.length_map,ne_eq,cD] at hc)<;>try(exfalso;omega)))
  ·refine cg (Eq.symm ?_)
   unfold fS
   have hp:(decide (1≤s.size)&&decide (s.size≤32)&& !fC (eX s 0)&& !lT s)=false:=by
    rcases hc with((h|h)|h)|h
    ·exact absurd h (by decide)
    ·simp[show ¬s.size≤32 by omega]
    ·have h:fC (eX s 0)=true:=h
     simp[h]
    ·simp[h]
   rw[hp,Bool.false_and]
  ·have hp:(decide (1≤s.size)&&decide (s.size≤32)&& !fC (eX s 0)&& !lT s)=true:=by
    have h1:s.size≤32:=by
     have:¬(32:Int)<s.size:=fun h=>hc.1 (.inl (.inr h))
     omega
    have h2:fC (eX s 0)=false:=by
     cases hd:fC (eX s 0) with
     |false=>rfl
     |true=>exact absurd (.inr hd) hc.1
    have h3:lT s=false:=hc.2
    rw[decide_eq_true (by omega:1≤s.size),decide_eq_true h1,h2,h3];rfl
   have hb:∀R,(decide (1≤s.size)&&decide (s.size≤32)&& !fC (eX s 0)&& !lT s&&R)=R:=fun R=>by rw[hp,Bool.true_and]
   unfold fS
   rw[hb]
   clear hc hp hb
   refine aI (fun i:Nat=>[(0,st s),(3,i64 i)]) (fun i H n=>i≤s.size∧∀j,j<i→(gv (eX s j)||fC (eX s j))=true) (fun i=>s.size - i) 0 bt ⟨Nat.zero_le _,fun _ h=>by omega⟩ ?_
   rintro i H n ⟨hi,hall⟩
   by_cases his:i<s.size
   ·repeat' (first|((with_reducible refine aE ?_);conv=>whnf)|refine aG ?_|exact cN|with_reducible refine aD ?_ ?_|((with_reducible refine Ask.mk ?_);first|exact bw|((refine Ask.mk ?_);intro h;exact⟨by omega,by omega⟩)|exact br)|(apply aA;(·exact bm))|((with_reducible refine aQ (dz _) ?_ ?_);(·exact cO))|((with_reducible refine aM (fun _=>dz _) ?_ ?_);(·exact cO))|((with_reducible refine aO (dz _) ?_ ?_);(·exact cO))|((with_reducible refine aP (fun _=>dz _) ?_ ?_);(·exact cO))|((with_reducible refine aQ (dV _) ?_ ?_);(·exact cO))|((with_reducible refine aM (fun _=>dV _) ?_ ?_);(·exact cO))|((with_reducible refine aO (dV _) ?_ ?_);(·exact cO))|((with_reducible refine aP (fun _=>dV _) ?_ ?_);(·exact cO))|refine aH ?_|((with_reducible refine aB ?_ ?_)<;>intro hc<;>(try simp only[List.length_map,ne_eq,cD] at hc)<;>try(exfalso;omega)))
    ·refine cg (Eq.symm ?_)
     rw[Bool.eq_false_iff,ne_eq,List.all_eq_true]
     intro hA
     have h1:=hA i (List.mem_range.2 his)
     have hc:gv (eX s i)=false∧fC (eX s i)=false:=hc
     rw[hc.1,hc.2] at h1
     cases h1
    ·refine⟨i+1,by omega,bt,by omega,fun j hj=> ?_⟩
     by_cases hji:j=i
     ·have hc:¬gv (eX s i)=false∨fC (eX s i)=true:=hc
      rw[hji]
      rcases hc with h|h
      ·rw[Bool.not_eq_false] at h
       rw[h,Bool.true_or]
      ·rw[h,Bool.or_true]
     ·exact hall j (by omega)
   ·have:i=s.size:=by omega
    subst this
    repeat' (first|((with_reducible refine aE ?_);conv=>whnf)|refine aG ?_|exact aC|with_reducible refine aD ?_ ?_|(apply aA;(·exact bm))|refine aH ?_|((with_reducible refine aB ?_ ?_)<;>intro hc<;>(try simp only[List.length_map,ne_eq,cD] at hc)<;>try(exfalso;omega)))
    refine cg (Eq.symm ?_)
    rw[List.all_eq_true]
    intro j hj
    exact hall j (List.mem_range.1 hj)
theorem gF (k:Int):Pure Tryz.prog 93 [u8 k] (fun r=>r= .dI [bl (gH k),bl (fX k),bl (lS k),bl (eF k)]):=by
 refine aJ FF rfl ?_
 repeat' (first|((with_reducible refine aE ?_);conv=>whnf)|refine aG ?_|exact aC|with_reducible refine aD ?_ ?_|(apply aA;(·exact bm))|refine aH ?_|((with_reducible refine aB ?_ ?_)<;>intro hc<;>(try simp only[List.length_map,ne_eq,cD] at hc)<;>try(exfalso;omega)))
 all_goals first
  |(subst hc;exact rfl)
  |(have h1:gH k=false:=decide_eq_false (by omega)
    have h2:fX k=false:=decide_eq_false (by omega)
    have h3:lS k=false:=decide_eq_false (by omega)
    have h4:eF k=false:=decide_eq_false (by omega)
    rw[h1,h2,h3,h4])
theorem fJ (n most:Int) (b:Bool):Pure Tryz.prog 95 [i64 n,bl b,i64 most] (fun r=>r=bl (nM n b most)):=by
 refine aJ FH rfl ?_
 cases b with
 |false=>
  repeat' (first|((with_reducible refine aE ?_);conv=>whnf)|refine aG ?_|exact aC|with_reducible refine aD ?_ ?_|(apply aA;(·exact bm))|refine aH ?_|((with_reducible refine aB ?_ ?_)<;>intro hc<;>(try simp only[List.length_map,ne_eq,cD] at hc)<;>try(exfalso;omega)))
  exact rfl
 |true=>
  repeat' (first|((with_reducible refine aE ?_);conv=>whnf)|refine aG ?_|exact aC|with_reducible refine aD ?_ ?_|(apply aA;(·exact bm))|refine aH ?_|((with_reducible refine aB ?_ ?_)<;>intro hc<;>(try simp only[List.length_map,ne_eq,cD] at hc)<;>try(exfalso;omega)))
  refine cg ?_
  unfold nM
  by_cases h1:0≤n<;>by_cases h2:n<most<;>simp[h1,h2]
theorem pe (v:lL) (b:Bool) (cf:Int):Pure Tryz.prog 96 [v.av,bl b,i64 cf] (fun r=>r=bl (pG v b cf)):=by
 refine aJ FI rfl ?_
 cases b with
 |false=>
  repeat' (first|((with_reducible refine aE ?_);conv=>whnf)|refine aG ?_|exact cN|with_reducible refine aD ?_ ?_|((with_reducible refine Ask.mk ?_);first|exact bw|exact br|(intro h;simp_all[lL.cells]<;>fail)|(simp_all[lL.cells]<;>fail))|(apply aA;(·exact bm))|refine aH ?_|((with_reducible refine aB ?_ ?_)<;>intro hc<;>(try simp only[List.length_map,ne_eq,cD] at hc)<;>try(exfalso;omega)))
  refine cg ?_
  unfold pG
  rw[if_neg (by decide),Bool.eq_iff_iff,decide_eq_true_eq]
  constructor
  ·intro h
   simp at h
   exact lL.K5 h.1 h.2.1 h.2.2
  ·intro h
   rw[h];rfl
 |true=>
  repeat' (first|((with_reducible refine aE ?_);conv=>whnf)|refine aG ?_|exact cN|with_reducible refine aD ?_ ?_|((with_reducible refine Ask.mk ?_);first|exact bw|exact br|(intro h;simp_all[lL.cells]<;>fail)|(simp_all[lL.cells]<;>fail))|(apply aA;(·exact bm))|refine aH ?_|((with_reducible refine aB ?_ ?_)<;>intro hc<;>(try simp only[List.length_map,ne_eq,cD] at hc)<;>try(exfalso;omega)))
  all_goals refine cg ?_
  all_goals unfold pG
  ·rw[if_pos rfl,if_pos hc]
   by_cases h1:0≤v.slot<;>by_cases h2:v.slot<cf<;>by_cases h3:v.word=0<;>simp[h1,h2,h3]
  ·rw[if_pos rfl,if_neg (by rw[hc];decide)]
set_option maxRecDepth 4000 in
set_option maxHeartbeats 4000000 in
theorem y6 (u:bp) (g:bo) (n:Node) (hn:n.Wf):Pure Tryz.prog 56 [u.av,g.av,n.av] (fun r=>r=bl (iE u g n)):=by
 have h0:=hn.kind
 have ho:=hn.op
 refine aJ EF rfl ?_
 have hva:Pure Tryz.prog 96 [.agg (List.take 3 (List.drop (0+4) n.cells)),bl (lS n.kind),i64 g.cf] (fun r=>r=bl (pG n.a (lS n.kind) g.cf)):=pe n.a _ _
 have hvb:∀b,Pure Tryz.prog 96 [.agg (List.take 3 (List.drop (0+7) n.cells)),bl b,i64 g.cf] (fun r=>r=bl (pG n.b b g.cf)):=fun b=>pe n.b b _
 have hfa:cL 0 [.agg (List.take 3 (List.drop (0+4) n.cells)),bl (lS n.kind),i64 g.cf]:=by simp[cL,cG,Node.cells]
 have hfb:∀b,cL 0 [.agg (List.take 3 (List.drop (0+7) n.cells)),bl b,i64 g.cf]:=fun b=>by simp[cL,cG,Node.cells]
 have hif:∀a b:Bool,(if a=true then b else false)=(a&&b):=fun a b=>by cases a<;>rfl
 by_cases hk:1≤n.kind∧n.kind<10∧0≤n.origin∧n.origin<4096
 ·repeat' (first|((with_reducible refine aE ?_);conv=>whnf)|refine aG ?_|exact cN|with_reducible refine aD ?_ ?_|((with_reducible refine Ask.mk ?_);first|exact bw|exact br|(intro h;simp_all[bp.cells,bo.cells,Node.cells]<;>fail)|(simp_all[bp.cells,bo.cells,Node.cells]<;>fail))|(apply aA;(·exact bm))|((with_reducible refine aQ (gF _) ?_ ?_);(·exact cO))|((with_reducible refine aM (fun _=>gF _) ?_ ?_);(·exact cO))|((with_reducible refine aO (gF _) ?_ ?_);(·exact cO))|((with_reducible refine aP (fun _=>gF _) ?_ ?_);(·exact cO))|((with_reducible refine aQ (fJ _ _ _) ?_ ?_);(·exact cO))|((with_reducible refine aM (fun _=>fJ _ _ _) ?_ ?_);(·exact cO))|((with_reducible refine aO (fJ _ _ _) ?_ ?_);(·exact cO))|((with_reducible refine aP (fun _=>fJ _ _ _) ?_ ?_);(·exact cO))|((with_reducible refine aQ (fF _) ?_ ?_);(·exact cO))|((with_reducible refine aM (fun _=>fF _) ?_ ?_);(·exact cO))|((with_reducible refine aO (fF _) ?_ ?_);(·exact cO))|((with_reducible refine aP (fun _=>fF _) ?_ ?_);(·exact cO))|(refine aM (fun _=>hva) hfa ?_)|(refine aM (fun _=>hvb _) (hfb _) ?_)|refine aH ?_|((with_reducible refine aB ?_ ?_)<;>intro hc<;>(try simp only[List.length_map,ne_eq,cD] at hc)<;>try(exfalso;omega)))
  all_goals rename_i h56
  all_goals refine cg (Eq.symm ?_)
  all_goals unfold iE
  all_goals rw[decide_eq_true hk,Bool.true_and]
  ·have hop:(if n.kind=1 then decide (n.op<19) else decide (n.op=0))=false:=by split<;>exact decide_eq_false (by omega)
   rw[hop];simp
  ·have hop:(if n.kind=1 then decide (n.op<19) else decide (n.op=0))=true:=by split<;>exact decide_eq_true (by omega)
   rw[hop,Bool.true_and,if_pos h56]
   simp only[hif,List.length_map]
  ·have hop:(if n.kind=1 then decide (n.op<19) else decide (n.op=0))=false:=by split<;>exact decide_eq_false (by omega)
   rw[hop];simp
  ·have hop:(if n.kind=1 then decide (n.op<19) else decide (n.op=0))=true:=by split<;>exact decide_eq_true (by omega)
   rw[hop,Bool.true_and,if_neg (by omega)]
   simp only[hif,List.length_map]
 ·have hb:iE u g n=false:=by unfold iE;rw[decide_eq_false hk];simp
  rw[hb]
  repeat' (first|((with_reducible refine aE ?_);conv=>whnf)|refine aG ?_|exact cN|with_reducible refine aD ?_ ?_|((with_reducible refine Ask.mk ?_);first|exact bw|exact br|(intro h;simp_all[bp.cells,bo.cells,Node.cells]<;>fail)|(simp_all[bp.cells,bo.cells,Node.cells]<;>fail))|(apply aA;(·exact bm))|((with_reducible refine aQ (gF _) ?_ ?_);(·exact cO))|((with_reducible refine aM (fun _=>gF _) ?_ ?_);(·exact cO))|((with_reducible refine aO (gF _) ?_ ?_);(·exact cO))|((with_reducible refine aP (fun _=>gF _) ?_ ?_);(·exact cO))|((with_reducible refine aQ (fJ _ _ _) ?_ ?_);(·exact cO))|((with_reducible refine aM (fun _=>fJ _ _ _) ?_ ?_);(·exact cO))|((with_reducible refine aO (fJ _ _ _) ?_ ?_);(·exact cO))|((with_reducible refine aP (fun _=>fJ _ _ _) ?_ ?_);(·exact cO))|((with_reducible refine aQ (fF _) ?_ ?_);(·exact cO))|((with_reducible refine aM (fun _=>fF _) ?_ ?_);(·exact cO))|((with_reducible refine aO (fF _) ?_ ?_);(·exact cO))|((with_reducible refine aP (fun _=>fF _) ?_ ?_);(·exact cO))|(refine aM (fun _=>hva) hfa ?_)|(refine aM (fun _=>hvb _) (hfb _) ?_)|refine aH ?_|((with_reducible refine aB ?_ ?_)<;>intro hc<;>(try simp only[List.length_map,ne_eq,cD] at hc)<;>try(exfalso;omega)))
  all_goals first|exact rfl|(exfalso;omega)
end Go.Proofs.YtmonponfppdgfaaGreatDoor
end
section
/- Lists of numbers: cloned, and held one against another. -/
namespace Go.ch
open Go.RowKit
theorem Wk.KI {H:Hp} {nx b:Nat} {e:TypeId} {sz:Nat} {d:AV} {es es2:List AV} (d2:AV) (hb:bj H b=some (.row e sz d es)) (hl:es.length=es2.length) (h:∀c c2:Cx,c.le c2→c2.w=c.w→dA c c2 es es2):Wk .any H nx .any ((b,some (.row e sz d2 es2))::H) nx:=by
 refine Wk.tell (Nat.le_refl _) (fun x e' sz' d' es' he=> ?_) (fun w0 c c2 hS hU hc hc2 hw hle hnew hM=>⟨dZ.any _ _ _,fun x e' sz' d' es' d0 es0 h1 h2=> ?_⟩)
 ·by_cases hx:x=b
  ·subst hx
   rw[ck] at he
   cases he
   exact .inl ⟨d,es,hb,hl⟩
  ·rw[cS hx] at he
   exact .inl ⟨d',es',he,rfl⟩
 ·by_cases hx:x=b
  ·subst hx
   rw[ck] at h1
   rw[hb] at h2
   cases h1;cases h2
   exact h c c2 hle hw
  ·rw[cS hx] at h1
   rw[h1] at h2;cases h2
   exact dA.cE hle _
theorem dA.rep {c c2:Cx} {a b:AV} (h:dZ c c2 a b):∀n,dA c c2 (List.replicate n a) (List.replicate n b)
 |0=> .nil
 |n+1=> .cons h (dA.rep h n)
end Go.ch
namespace Go.Proofs.YtmonponfppdgfaaGreatDoor
open Go Go.ch Go.Proofs
set_option linter.unusedSimpArgs false
set_option linter.unusedVariables false
theorem oB {l:List Int} {i:Nat} (h:i<l.length) (d:AV):(l.map i64).getD i d=i64 (l.getD i 0):=dJ i64 l i d h
theorem sK {es:List AV} (hsz:es.length * 8≤140737488355328):cM Tryz.prog 89 [.im 1 .any es] [] 0 (mo [] 0 3 1 es):=by
 refine mo.of (by omega) ?_
 refine aL FB rfl ?_
 cases hes:es with
 |nil=>
  repeat' (first|((with_reducible refine aE ?_);conv=>whnf)|refine aG ?_|exact aC|with_reducible refine aD ?_ ?_|(apply aA;(·exact bm))|refine aH ?_|((with_reducible refine aB ?_ ?_)<;>intro hc<;>(try simp only[List.length_map,ne_eq,cD] at hc)<;>try(exfalso;omega)))
  ·exact⟨.inl ⟨rfl,rfl,cH,jk⟩⟩
  ·exact⟨.inr ⟨_,_,rfl,cH,cH,cH,bk,jk⟩⟩
 |cons x t=>
  rw[hes] at hsz
  simp only[List.length_cons] at hsz
  repeat' (first|((with_reducible refine aE ?_);conv=>whnf)|refine aG ?_|exact aC|with_reducible refine aD ?_ ?_|(apply aA;(·exact bm))|refine aH ?_|((with_reducible refine aB ?_ ?_)<;>intro hc<;>(try simp only[List.length_map,ne_eq,cD] at hc)<;>try(exfalso;omega)))
  ·exact⟨.inr ⟨3,_,(by simp),cH,cH,cH,bk,jk⟩⟩
theorem me {es:List AV} (hsz:es.length * 8≤140737488355328):cM Tryz.prog 89 [.im 1 .any es] [] 0 (fun r1 H1 _=>∃b d0,r1= .sl b es.length∧bj H1 b=some (.row 3 1 d0 es)):=
 (sK hsz).mono fun r H n ⟨b,d,h1,_,_,_,h2,_⟩=>⟨b,d,h1,h2⟩
theorem vK (l m:List Int) (hl:l.length * 8≤140737488351232) (hm:m.length * 8≤140737488351232):Pure Tryz.prog 91 [dO l,dO m] (fun r=>r=bl (decide (l=m))):=by
 refine aJ FD rfl ?_
 unfold dO
 repeat' (first|((with_reducible refine aE ?_);conv=>whnf)|refine aG ?_|exact aC|with_reducible refine aD ?_ ?_|(apply aA;(·exact bm))|refine aH ?_|((with_reducible refine aB ?_ ?_)<;>intro hc<;>(try simp only[List.length_map,ne_eq,cD] at hc)<;>try(exfalso;omega)))
 ·refine cg (Eq.symm ?_)
  exact decide_eq_false fun e=>hc (by rw[e])
 ·have hlm:l.length=m.length:=by omega
  refine aI (fun i:Nat=>[(0,dO l),(1,dO m),(12,i64 l.length),(13,i64 i)])
   (fun i H n=>i≤l.length∧∀j,j<i→l.getD j 0=m.getD j 0) (fun i=>l.length - i) 0 bt ⟨Nat.zero_le _,fun _ h=>by omega⟩ ?_
  unfold dO
  rintro i H n ⟨hi,hall⟩
  by_cases hil:i<l.length
  ·have e1:=oB (l:=l) hil
   have e2:=oB (l:=m) (i:=i) (by omega)
   repeat' (first|((with_reducible refine aE ?_);conv=>whnf)|refine aG ?_|exact aC|with_reducible refine aD ?_ ?_|(apply aA;(·(first|exact e1 _|exact e2 _|exact bm)))|refine aH ?_|((with_reducible refine aB ?_ ?_)<;>intro hc<;>(try simp only[List.length_map,ne_eq,cD] at hc)<;>try(exfalso;omega)))
   ·refine cg (Eq.symm ?_)
    exact decide_eq_false fun e=>hc (by rw[e])
   ·refine⟨i+1,by omega,bt,by omega,fun j hj=> ?_⟩
    by_cases hji:j=i
    ·subst hji;exact hc
    ·exact hall j (by omega)
  ·have:i=l.length:=by omega
   subst this
   repeat' (first|((with_reducible refine aE ?_);conv=>whnf)|refine aG ?_|exact aC|with_reducible refine aD ?_ ?_|(apply aA;(·exact bm))|refine aH ?_|((with_reducible refine aB ?_ ?_)<;>intro hc<;>(try simp only[List.length_map,ne_eq,cD] at hc)<;>try(exfalso;omega)))
   refine cg (Eq.symm ?_)
   refine decide_eq_true (List.ext_getElem hlm fun j h1 h2=> ?_)
   have:=hall j h1
   simpa[List.getD,h1,h2] using this
def Told (nv:AV) (l:List Int) (H:Hp) (nx:Nat):Prop:=nv=dO l∨∃b d,nv= .sl b l.length∧b<nx∧bj H b=some (.row 3 1 d (l.map i64))
theorem Told.dk {nv:AV} {l:List Int} {H:Hp} {nx:Nat} (h:Told nv l H nx) (k:Nat):ch.dk H (k+1) nv=dO l:=by
 rcases h with rfl|⟨b,d,rfl,_,hb⟩
 ·exact dB _ (by simp[cG,dO,cJ])
 ·rw[dH hb (by simp),ca _ ((cJ _ _).2 fun _ _=>by simp[cG])];rfl
theorem qR {nv:AV} {l:List Int} {H:Hp} {nx:Nat} (h:Told nv l H nx) (m:List Int) (hl:l.length * 8≤140737488351232) (hm:m.length * 8≤140737488351232):cM Tryz.prog 91 [dO m,nv] H nx (fun r H' n=>r=bl (decide (m=l))∧H'=H∧n=nx):=by
 refine Pure.view (args2:=[dO m,dO l]) (vK m l hm hl) ?_ (by simp[cL,cG,dO,cJ]) trivial ⟨rfl,rfl,rfl⟩
 rw[List.map_cons,List.map_cons,List.map_nil,h.dk,dB 6 (by simp[cG,dO,cJ])]
theorem lG {nv:AV} {l:List Int} {H:Hp} {nx:Nat} (h:Told nv l H nx) (hl:l.length * 8≤140737488351232):cM Tryz.prog 89 [nv] H nx (fun r H' n=>r=dO l∧nx≤n∧∀b,b<nx→bj H' b=bj H b):=by
 refine cM.wk (cM.JP (es:=l.map i64) (args2:=[dO l]) (me (by rw[List.length_map];omega)) (fun i hi=>by rw[dJ i64 _ _ _ (by simpa using hi)];trivial) (by rw[List.map_cons,List.map_nil,h.dk]) (by simp[cL,cG,dO,cJ])) ?_
 rintro r H' n ⟨rfl,rfl,rfl⟩
 have hw:=Wk.LD (r:= .sl nx (l.map i64).length) (H:=(nx,some (.row 3 1 .any (l.map i64)))::H) (nx:=nx+1) [(nx,some (.row 3 1 .any (l.map i64)))] 1 (fun b q hq=>by
  by_cases hb:b=nx
  ·subst hb;rw[ck] at hq ⊢;exact hq
  ·rw[cS hb] at hq;cases hq)
 refine⟨_,_,_,hw, ?_,by omega,fun b hb=> ?_⟩
 ·rw[oq (ck _ _ _) rfl,vn];rfl
 ·rw[ku,tL,cS (by omega),cS (by omega)]
end Go.Proofs.YtmonponfppdgfaaGreatDoor
end
