import Derived.Test.YtekfmjjmihomlaaGreatM22
section
/- Are names and numbers right? -/
namespace Go.Proofs.YtekfmjjmihomlaaGreat
open Go Go.cZ Go.Proofs
set_option linter.unusedSimpArgs false
set_option linter.unusedVariables false
abbrev x9 (E:List (ByteArray×Bool)):List AV:=pI (fun s:ByteArray=>Value.string s) bl E
theorem R7 (E:List (ByteArray×Bool)) (t:ByteArray):ur true (.string t) (x9 E) (bl false)=some (bl ((ef E t).getD false),(ef E t).isSome):=(zP ug bl t E (bl false)).trans (by cases ef E t<;>rfl)
theorem SF (E:List (ByteArray×Bool)) (t:ByteArray) (v:Bool):xc true (.string t) (x9 E) (bl v)=some (x9 (ej E t v)):=zQ ug bl t v E
def l7 (l:List ByteArray):List (ByteArray×Bool):=l.map fun s=>(s,true)
def fV:List ByteArray→ByteArray→Bool
 |[],_=>false
 |a::l,s=>if s=a then true else fV l s
theorem xb (l:List ByteArray) (s:ByteArray):fV l s=true↔s∈l:=by
 induction l with
 |nil=>simp[fV]
 |cons a l ih=>
  rw[fV]
  by_cases h:s=a
  ·simp[h]
  ·simp[h,ih]
theorem EJ (l:List ByteArray) (s:ByteArray):(ef (l7 l) s).getD false=fV l s:=by
 induction l with
 |nil=>rfl
 |cons a l ih=>
  show((if s=a then some true else ef (l7 l) s)).getD false=(if s=a then true else fV l s)
  by_cases h:s=a
  ·rw[if_pos h,if_pos h];rfl
  ·rw[if_neg h,if_neg h,ih]
theorem JQ (l:List ByteArray) (s:ByteArray) (h:fV l s=false):ej (l7 l) s true=l7 (l++[s]):=by
 induction l with
 |nil=>rfl
 |cons a l ih=>
  rw[fV] at h
  by_cases e:s=a
  ·rw[if_pos e] at h;cases h
  ·rw[if_neg e] at h
   show(if s=a then(s,true)::l7 l else(a,true)::ej (l7 l) s true)=_
   rw[if_neg e,ih h];rfl
theorem qa (s:ByteArray) (hs:s.size≤140737488351232) (l:List ByteArray) (b m:Nat) (H:Hp) (nx:Nat) (e em:TypeId) (d dm:AV) (hb:bn H b=some (.row e 1 d [.mp m])) (hm:bn H m=some (.row em 0 dm (mapA (x9 (l7 l))))) (hbn:b<nx) (hmn:m<nx) (hbm:b≠m):
 cP Tryz.prog 114 [st s, .pt b 1 0 0] H nx (fun r H' n=>r=bl (fI s&& !fV l s)∧nx≤n∧(fV l s=false→bn H' m=some (.row em 0 dm (mapA (x9 (l7 (l++[s]))))))∧∀y,y<nx→y≠m→bn H' y=bn H y):=by
 refine aQ wV rfl ?_
 repeat' (first|((with_reducible refine aF ?_);conv=>whnf)|refine aG ?_|exact aC|with_reducible refine aD ?_ ?_|(apply aA;(·exact cF))|refine aK (D3 s hs) ?_|(apply aR (g:=some _);(·exact fun _=>R7 _ _))|(apply aR (g:=none);(·exact fun _=>SF _ _ _))|refine aH ?_|((with_reducible refine aB ?_ ?_)<;>intro hc<;>(try simp only[List.length_map,ne_eq,dE] at hc)<;>try(exfalso;omega)))
 refine⟨⟨?_,c8,fun h=> ?_,fun y hy hym=> ?_⟩⟩
 ·rw[EJ]
  refine db ?_
  cases fI s<;>cases fV l s<;>rfl
 ·rw[←JQ l s h]
  exact bq
 ·exact cB
def eO:List ByteArray→List ByteArray→Bool
 |_,[]=>true
 |acc,s::r=>if(fI s&& !fV acc s)=true then eO (acc++[s]) r else false
def cp (u:bt):List ByteArray:=u.shared.map Decl.name++(u.bx.map Decl.name++u.bo.map cA.name)
def eY (u:bt):Bool:=decide (u.shared.length≤64)&&decide (u.bx.length≤16)&&decide (u.bo.length≤8)&&eO [] (cp u)&&u.bx.all (fun d=>decide (d.word=0))
theorem lL (u:bt) {k:Nat} (hk:k<(cp u).length) (h:eO ((cp u).take k) ((cp u).drop k)=eO [] (cp u)) {s:ByteArray} (hs:(cp u).getD k default=s):
 (eO [] (cp u)=if(fI s&& !fV ((cp u).take k) s)=true then eO ((cp u).take (k+1)) ((cp u).drop (k+1)) else false)∧(cp u).take (k+1)=(cp u).take k++[s]:=by
 have e:(cp u)[k]=s:=by rw[←hs];simp[List.getD,hk]
 have e2:(cp u).take (k+1)=(cp u).take k++[s]:=by rw[List.take_succ_eq_append_getElem hk,e]
 refine⟨?_,e2⟩
 rw[←h,List.drop_eq_getElem_cons hk,eO,e,e2]
theorem L6 (u:bt) {i:Nat} (h:i<u.shared.length):(cp u).getD i default=(u.shared.getD i default).name:=by
 simp[cp,List.getD,List.getElem?_append,h]
theorem L5 (u:bt) {i:Nat} (h:i<u.bx.length):(cp u).getD (u.shared.length+i) default=(u.bx.getD i default).name:=by
 unfold cp
 rw[List.getD,List.getElem?_append_right (by simp),List.length_map,Nat.add_sub_cancel_left,List.getElem?_append_left (by simpa using h)]
 simp[List.getD,h]
theorem L4 (u:bt) {i:Nat} (h:i<u.bo.length):(cp u).getD (u.shared.length+u.bx.length+i) default=(u.bo.getD i default).name:=by
 unfold cp
 rw[List.getD,List.getElem?_append_right (by simp;omega),List.getElem?_append_right (by simp;omega)]
 simp only[List.length_map]
 rw[show u.shared.length+u.bx.length+i - u.shared.length - u.bx.length=i by omega]
 simp[List.getD,h]
set_option maxHeartbeats 4000000 in
theorem zV (u:bt) (hu:u.Wf):Pure Tryz.prog 78 [u.av] (fun r=>r=bl (eY u)):=by
 refine aI IG rfl ?_
 have h1:=hu.jJ
 have h2:=hu.kH
 have h3:=hu.kE
 by_cases hl:u.shared.length≤64∧u.bx.length≤16∧u.bo.length≤8
 ·repeat' (first|((with_reducible refine aF ?_);conv=>whnf)|refine aG ?_|exact eK|with_reducible refine aD ?_ ?_|((with_reducible refine Ask.mk ?_);first|exact cz|exact cU|(intro h;simp_all[bt.cells]<;>fail)|(simp_all[bt.cells]<;>fail))|(apply aA;(·exact cF))|refine aH ?_|((with_reducible refine aB ?_ ?_)<;>intro hc<;>(try simp only[List.length_map,ne_eq,dE] at hc)<;>try(exfalso;omega)))
  clear hc
  simp only[List.length_map]
  refine aP (fun i:Nat=>[(1, .pt 0 1 0 0),(4, .fn (.func 114) [] [.pt 19 1 0 0]),(30,bw u.shared),(31,i64 u.shared.length),(32,i64 i)]) (fun i H n=>i≤u.shared.length∧20≤n∧(∃d,bn H 0=some (.row 25 3 d [u.av]))∧(∃d,bn H 19=some (.row 174 1 d [.mp 18]))∧(∃d,bn H 18=some (.row 9 0 d (mapA (x9 (l7 ((cp u).take (i)))))))∧eO ((cp u).take (i)) ((cp u).drop (i))=eO [] (cp u)) (fun i=>u.shared.length - i) 0 cI ⟨Nat.zero_le _,c8,⟨_,bq⟩,⟨_,bq⟩,⟨_,bq⟩,rfl⟩ ?_
  rintro i H n ⟨hi,hn,⟨d0,r0⟩,⟨d19,r19⟩,⟨d18,r18⟩,hq⟩
  by_cases hil:i<u.shared.length
  ·have hk:i<(cp u).length:=by simp only[cp,List.length_append,List.length_map];omega
   have hs:(cp u).getD (i) default=(u.shared.getD i default).name:=L6 u hil
   obtain⟨ha,ht⟩:=lL u hk hq hs
   have hsz:=(hu.shared _ (cW default hil)).name
   repeat' (first|((with_reducible refine aF ?_);conv=>whnf)|refine aG ?_|exact eK|with_reducible refine aD ?_ ?_|((with_reducible refine Ask.mk ?_);first|exact cz|exact cU|(intro h;simp_all[bt.cells,Decl.cells]<;>fail)|(simp_all[bt.cells,Decl.cells]<;>fail))|(apply aA;(·(first|exact FW|exact cF)))|refine aH ?_|((with_reducible refine aB ?_ ?_)<;>intro hc<;>(try simp only[List.length_map,ne_eq,dE] at hc)<;>try(exfalso;omega)))
   refine aO (qa _ hsz ((cp u).take (i)) 19 18 _ _ _ _ _ _ bq bq c8 c8 (by decide)) ?_
   rintro _ H2 n2 ⟨rfl,hn2,hput,hf⟩
   have hn12:n≤n2:=Nat.le_trans c8 hn2
   have r02:bn H2 0=some (.row 25 3 d0 [u.av]):=(hf 0 (Nat.lt_of_lt_of_le (by omega:0<n) c8) (by decide)).trans bq
   have r192:bn H2 19=some (.row 174 1 d19 [.mp 18]):=(hf 19 (Nat.lt_of_lt_of_le (by omega:19<n) c8) (by decide)).trans bq
   cases hg:(fI (u.shared.getD i default).name&& !fV ((cp u).take (i)) (u.shared.getD i default).name) with
   |false=>
    rw[hg,if_neg (by decide)] at ha
    have hb:eY u=false:=by unfold eY;rw[ha];simp
    rw[hb]
    repeat' (first|((with_reducible refine aF ?_);conv=>whnf)|refine aG ?_|exact eK|with_reducible refine aD ?_ ?_|((with_reducible refine Ask.mk ?_);first|exact cz|exact cU|(intro h;simp_all[bt.cells,Decl.cells]<;>fail)|(simp_all[bt.cells,Decl.cells]<;>fail))|(apply aA;(·exact cF))|refine aH ?_|((with_reducible refine aB ?_ ?_)<;>intro hc<;>(try simp only[List.length_map,ne_eq,dE] at hc)<;>try(exfalso;omega)))
    exact rfl
   |true=>
    rw[hg,if_pos rfl] at ha
    have hnm:fV ((cp u).take (i)) (u.shared.getD i default).name=false:=by revert hg;cases fV ((cp u).take (i)) (u.shared.getD i default).name<;>simp
    have r182:=hput hnm
    rw[←ht] at r182
    clear hf hput
    repeat' (first|((with_reducible refine aF ?_);conv=>whnf)|refine aG ?_|exact eK|with_reducible refine aD ?_ ?_|((with_reducible refine Ask.mk ?_);first|exact cz|exact cU|(intro h;simp_all[bt.cells,Decl.cells]<;>fail)|(simp_all[bt.cells,Decl.cells]<;>fail))|(apply aA;(·exact cF))|refine aH ?_|((with_reducible refine aB ?_ ?_)<;>intro hc<;>(try simp only[List.length_map,ne_eq,dE] at hc)<;>try(exfalso;omega)))
    exact⟨i+1,by omega,cI,by omega,by omega,⟨_,bq⟩,⟨_,bq⟩,⟨_,bq⟩,ha.symm⟩
  ·have hie:i=u.shared.length:=by omega
   subst hie
   repeat' (first|((with_reducible refine aF ?_);conv=>whnf)|refine aG ?_|exact eK|with_reducible refine aD ?_ ?_|((with_reducible refine Ask.mk ?_);first|exact cz|exact cU|(intro h;simp_all[bt.cells]<;>fail)|(simp_all[bt.cells]<;>fail))|(apply aA;(·exact cF))|refine aH ?_|((with_reducible refine aB ?_ ?_)<;>intro hc<;>(try simp only[List.length_map,ne_eq,dE] at hc)<;>try(exfalso;omega)))
   refine aP (fun i:Nat=>[(1, .pt 0 1 0 0),(4, .fn (.func 114) [] [.pt 19 1 0 0]),(43,bw u.bx),(44,i64 u.bx.length),(45,i64 i)]) (fun i H n=>i≤u.bx.length∧20≤n∧(∃d,bn H 0=some (.row 25 3 d [u.av]))∧(∃d,bn H 19=some (.row 174 1 d [.mp 18]))∧(∃d,bn H 18=some (.row 9 0 d (mapA (x9 (l7 ((cp u).take (u.shared.length+i)))))))∧eO ((cp u).take (u.shared.length+i)) ((cp u).drop (u.shared.length+i))=eO [] (cp u)∧∀j,j<i→(u.bx.getD j default).word=0) (fun i=>u.bx.length - i) 0 cI ⟨Nat.zero_le _,c8,⟨_,bq⟩,⟨_,bq⟩,⟨_,by rw[Nat.add_zero];exact bq⟩,by rw[Nat.add_zero];exact hq,fun _ h=>by omega⟩ ?_
   clear r0 r19 r18 hq hc
   rintro i H n ⟨hi,hn,⟨d0,r0⟩,⟨d19,r19⟩,⟨d18,r18⟩,hq,hw⟩
   by_cases hil:i<u.bx.length
   ·have hk:u.shared.length+i<(cp u).length:=by simp only[cp,List.length_append,List.length_map];omega
    have hs:(cp u).getD (u.shared.length+i) default=(u.bx.getD i default).name:=L5 u hil
    obtain⟨ha,ht⟩:=lL u hk hq hs
    have hsz:=(hu.bx _ (cW default hil)).name
    repeat' (first|((with_reducible refine aF ?_);conv=>whnf)|refine aG ?_|exact eK|with_reducible refine aD ?_ ?_|((with_reducible refine Ask.mk ?_);first|exact cz|exact cU|(intro h;simp_all[bt.cells,Decl.cells]<;>fail)|(simp_all[bt.cells,Decl.cells]<;>fail))|(apply aA;(·(first|exact FW|exact cF)))|refine aH ?_|((with_reducible refine aB ?_ ?_)<;>intro hc<;>(try simp only[List.length_map,ne_eq,dE] at hc)<;>try(exfalso;omega)))
    refine aO (qa _ hsz ((cp u).take (u.shared.length+i)) 19 18 _ _ _ _ _ _ bq bq c8 c8 (by decide)) ?_
    rintro _ H2 n2 ⟨rfl,hn2,hput,hf⟩
    have hn12:n≤n2:=Nat.le_trans c8 hn2
    have r02:bn H2 0=some (.row 25 3 d0 [u.av]):=(hf 0 (Nat.lt_of_lt_of_le (by omega:0<n) c8) (by decide)).trans bq
    have r192:bn H2 19=some (.row 174 1 d19 [.mp 18]):=(hf 19 (Nat.lt_of_lt_of_le (by omega:19<n) c8) (by decide)).trans bq
    cases hg:(fI (u.bx.getD i default).name&& !fV ((cp u).take (u.shared.length+i)) (u.bx.getD i default).name) with
    |false=>
     rw[hg,if_neg (by decide)] at ha
     have hb:eY u=false:=by unfold eY;rw[ha];simp
     rw[hb]
     clear hf hput
     repeat' (first|((with_reducible refine aF ?_);conv=>whnf)|refine aG ?_|exact eK|with_reducible refine aD ?_ ?_|((with_reducible refine Ask.mk ?_);first|exact cz|exact cU|(intro h;simp_all[bt.cells,Decl.cells]<;>fail)|(simp_all[bt.cells,Decl.cells]<;>fail))|(apply aA;(·exact cF))|refine aH ?_|((with_reducible refine aB ?_ ?_)<;>intro hc<;>(try simp only[List.length_map,ne_eq,dE] at hc)<;>try(exfalso;omega)))
     exact rfl
    |true=>
     rw[hg,if_pos rfl] at ha
     have hnm:fV ((cp u).take (u.shared.length+i)) (u.bx.getD i default).name=false:=by revert hg;cases fV ((cp u).take (u.shared.length+i)) (u.bx.getD i default).name<;>simp
     have r182:=hput hnm
     rw[←ht] at r182
     obtain⟨d4,r4⟩:∃d,bn H2 (n+3)=some (.row 103 3 d [(u.bx.getD i default).av]):=⟨_,(hf (n+3) c8 (by omega)).trans bq⟩
     clear hf hput
     repeat' (first|((with_reducible refine aF ?_);conv=>whnf)|refine aG ?_|exact eK|with_reducible refine aD ?_ ?_|((with_reducible refine Ask.mk ?_);first|exact cz|exact cU|(intro h;simp_all[bt.cells,Decl.cells]<;>fail)|(simp_all[bt.cells,Decl.cells]<;>fail))|(apply aA;(·exact cF))|refine aH ?_|((with_reducible refine aB ?_ ?_)<;>intro hc<;>(try simp only[List.length_map,ne_eq,dE] at hc)<;>try(exfalso;omega)))
     ·have hb:eY u=false:=by
       unfold eY
       rw[Bool.and_eq_false_iff]
       right
       rw[Bool.eq_false_iff,ne_eq,List.all_eq_true]
       exact fun h=>(hc.resolve_left (by decide)) (of_decide_eq_true (h _ (cW default hil)))
      rw[hb]
     ·exact⟨i+1,by omega,cI,by omega,by omega,⟨_,bq⟩,⟨_,bq⟩,⟨_,bq⟩,ha.symm,fun j hj=>by
       by_cases hji:j=i
       ·rw[hji];exact hc.2
       ·exact hw j (by omega)⟩
   ·have hie:i=u.bx.length:=by omega
    subst hie
    repeat' (first|((with_reducible refine aF ?_);conv=>whnf)|refine aG ?_|exact eK|with_reducible refine aD ?_ ?_|((with_reducible refine Ask.mk ?_);first|exact cz|exact cU|(intro h;simp_all[bt.cells]<;>fail)|(simp_all[bt.cells]<;>fail))|(apply aA;(·exact cF))|refine aH ?_|((with_reducible refine aB ?_ ?_)<;>intro hc<;>(try simp only[List.length_map,ne_eq,dE] at hc)<;>try(exfalso;omega)))
    refine aP (fun i:Nat=>[(1, .pt 0 1 0 0),(4, .fn (.func 114) [] [.pt 19 1 0 0]),(61,cR u.bo),(62,i64 u.bo.length),(63,i64 i)]) (fun i H n=>i≤u.bo.length∧20≤n∧(∃d,bn H 0=some (.row 25 3 d [u.av]))∧(∃d,bn H 19=some (.row 174 1 d [.mp 18]))∧(∃d,bn H 18=some (.row 9 0 d (mapA (x9 (l7 ((cp u).take (u.shared.length+u.bx.length+i)))))))∧eO ((cp u).take (u.shared.length+u.bx.length+i)) ((cp u).drop (u.shared.length+u.bx.length+i))=eO [] (cp u)∧∀j,j<u.bx.length→(u.bx.getD j default).word=0) (fun i=>u.bo.length - i) 0 cI ⟨Nat.zero_le _,c8,⟨_,bq⟩,⟨_,bq⟩,⟨_,by rw[Nat.add_zero];exact bq⟩,by rw[Nat.add_zero];exact hq,hw⟩ ?_
    clear r0 r19 r18 hq hc hw
    rintro i H n ⟨hi,hn,⟨d0,r0⟩,⟨d19,r19⟩,⟨d18,r18⟩,hq,hw⟩
    by_cases hil:i<u.bo.length
    ·have hk:u.shared.length+u.bx.length+i<(cp u).length:=by simp only[cp,List.length_append,List.length_map];omega
     have hs:(cp u).getD (u.shared.length+u.bx.length+i) default=(u.bo.getD i default).name:=L4 u hil
     obtain⟨ha,ht⟩:=lL u hk hq hs
     have hsz:=(hu.bo _ (cW default hil)).name
     repeat' (first|((with_reducible refine aF ?_);conv=>whnf)|refine aG ?_|exact eK|with_reducible refine aD ?_ ?_|((with_reducible refine Ask.mk ?_);first|exact cz|exact cU|(intro h;simp_all[bt.cells,cA.cells]<;>fail)|(simp_all[bt.cells,cA.cells]<;>fail))|(apply aA;(·(first|exact OT|exact cF)))|refine aH ?_|((with_reducible refine aB ?_ ?_)<;>intro hc<;>(try simp only[List.length_map,ne_eq,dE] at hc)<;>try(exfalso;omega)))
     refine aO (qa _ hsz ((cp u).take (u.shared.length+u.bx.length+i)) 19 18 _ _ _ _ _ _ bq bq c8 c8 (by decide)) ?_
     rintro _ H2 n2 ⟨rfl,hn2,hput,hf⟩
     have hn12:n≤n2:=Nat.le_trans c8 hn2
     have r02:bn H2 0=some (.row 25 3 d0 [u.av]):=(hf 0 (Nat.lt_of_lt_of_le (by omega:0<n) c8) (by decide)).trans bq
     have r192:bn H2 19=some (.row 174 1 d19 [.mp 18]):=(hf 19 (Nat.lt_of_lt_of_le (by omega:19<n) c8) (by decide)).trans bq
     cases hg:(fI (u.bo.getD i default).name&& !fV ((cp u).take (u.shared.length+u.bx.length+i)) (u.bo.getD i default).name) with
     |false=>
      rw[hg,if_neg (by decide)] at ha
      have hb:eY u=false:=by unfold eY;rw[ha];simp
      rw[hb]
      repeat' (first|((with_reducible refine aF ?_);conv=>whnf)|refine aG ?_|exact eK|with_reducible refine aD ?_ ?_|((with_reducible refine Ask.mk ?_);first|exact cz|exact cU|(intro h;simp_all[bt.cells,cA.cells]<;>fail)|(simp_all[bt.cells,cA.cells]<;>fail))|(apply aA;(·exact cF))|refine aH ?_|((with_reducible refine aB ?_ ?_)<;>intro hc<;>(try simp only[List.length_map,ne_eq,dE] at hc)<;>try(exfalso;omega)))
      exact rfl
     |true=>
      rw[hg,if_pos rfl] at ha
      have hnm:fV ((cp u).take (u.shared.length+u.bx.length+i)) (u.bo.getD i default).name=false:=by revert hg;cases fV ((cp u).take (u.shared.length+u.bx.length+i)) (u.bo.getD i default).name<;>simp
      have r182:=hput hnm
      rw[←ht] at r182
      clear hf hput
      repeat' (first|((with_reducible refine aF ?_);conv=>whnf)|refine aG ?_|exact eK|with_reducible refine aD ?_ ?_|((with_reducible refine Ask.mk ?_);first|exact cz|exact cU|(intro h;simp_all[bt.cells,cA.cells]<;>fail)|(simp_all[bt.cells,cA.cells]<;>fail))|(apply aA;(·exact cF))|refine aH ?_|((with_reducible refine aB ?_ ?_)<;>intro hc<;>(try simp only[List.length_map,ne_eq,dE] at hc)<;>try(exfalso;omega)))
      exact⟨i+1,by omega,cI,by omega,by omega,⟨_,bq⟩,⟨_,bq⟩,⟨_,bq⟩,ha.symm,hw⟩
    ·have hie:i=u.bo.length:=by omega
     subst hie
     repeat' (first|((with_reducible refine aF ?_);conv=>whnf)|refine aG ?_|exact eK|with_reducible refine aD ?_ ?_|((with_reducible refine Ask.mk ?_);first|exact cz|exact cU|(intro h;simp_all[bt.cells]<;>fail)|(simp_all[bt.cells]<;>fail))|(apply aA;(·exact cF))|refine aH ?_|((with_reducible refine aB ?_ ?_)<;>intro hc<;>(try simp only[List.length_map,ne_eq,dE] at hc)<;>try(exfalso;omega)))
     refine db (Eq.symm ?_)
     have e:u.shared.length+u.bx.length+u.bo.length=(cp u).length:=by simp only[cp,List.length_append,List.length_map];omega
     have hall:eO [] (cp u)=true:=by
      rw[←hq,e,List.drop_eq_nil_of_le (Nat.le_refl _)]
      cases(cp u).take (cp u).length<;>rfl
     unfold eY
     rw[decide_eq_true hl.1,decide_eq_true hl.2.1,decide_eq_true hl.2.2,hall]
     simp only[Bool.true_and]
     rw[List.all_eq_true]
     intro d hd
     obtain⟨j,hj,rfl⟩:=List.getElem_of_mem hd
     have:=hw j hj
     rw[show u.bx.getD j default=u.bx[j] by simp[List.getD,hj]] at this
     exact decide_eq_true this
 ·have hb:eY u=false:=by
   unfold eY
   by_cases a1:u.shared.length≤64
   ·by_cases a2:u.bx.length≤16
    ·rw[decide_eq_false (fun a3=>hl ⟨a1,a2,a3⟩:¬u.bo.length≤8)];simp
    ·rw[decide_eq_false a2];simp
   ·rw[decide_eq_false a1];simp
  rw[hb]
  repeat' (first|((with_reducible refine aF ?_);conv=>whnf)|refine aG ?_|exact eK|with_reducible refine aD ?_ ?_|((with_reducible refine Ask.mk ?_);first|exact cz|exact cU|(intro h;simp_all[bt.cells]<;>fail)|(simp_all[bt.cells]<;>fail))|(apply aA;(·exact cF))|refine aH ?_|((with_reducible refine aB ?_ ?_)<;>intro hc<;>(try simp only[List.length_map,ne_eq,dE] at hc)<;>try(exfalso;omega)))
  exact rfl
end Go.Proofs.YtekfmjjmihomlaaGreat
end
section
/- Lists of numbers: cloned, and held one against another. -/
namespace Go.cZ
open Go.RowKit
theorem Wk.PM {H:Hp} {nx b:Nat} {e:TypeId} {sz:Nat} {d:AV} {es es2:List AV} (d2:AV) (hb:bn H b=some (.row e sz d es)) (hl:es.length=es2.length) (h:∀c c2:Cx,c.le c2→c2.w=c.w→dI c c2 es es2):Wk .any H nx .any ((b,some (.row e sz d2 es2))::H) nx:=by
 refine Wk.tell (Nat.le_refl _) (fun x e' sz' d' es' he=> ?_) (fun w0 c c2 hS hU hc hc2 hw hle hnew hM=>⟨dZ.any _ _ _,fun x e' sz' d' es' d0 es0 h1 h2=> ?_⟩)
 ·by_cases hx:x=b
  ·subst hx
   rw[cO] at he
   cases he
   exact .inl ⟨d,es,hb,hl⟩
  ·rw[cG hx] at he
   exact .inl ⟨d',es',he,rfl⟩
 ·by_cases hx:x=b
  ·subst hx
   rw[cO] at h1
   rw[hb] at h2
   cases h1;cases h2
   exact h c c2 hle hw
  ·rw[cG hx] at h1
   rw[h1] at h2;cases h2
   exact dI.cS hle _
theorem dI.rep {c c2:Cx} {a b:AV} (h:dZ c c2 a b):∀n,dI c c2 (List.replicate n a) (List.replicate n b)
 |0=> .nil
 |n+1=> .cons h (dI.rep h n)
end Go.cZ
namespace Go.Proofs.YtekfmjjmihomlaaGreat
open Go Go.cZ Go.Proofs
set_option linter.unusedSimpArgs false
set_option linter.unusedVariables false
theorem oH {l:List Int} {i:Nat} (h:i<l.length) (d:AV):(l.map i64).getD i d=i64 (l.getD i 0):=dB i64 l i d h
theorem sQ {es:List AV} (hsz:es.length * 8≤140737488355328):cP Tryz.prog 119 [.im 1 .any es] [] 0 (qV [] 0 3 1 es):=by
 refine qV.of (by omega) ?_
 refine aQ w3 rfl ?_
 cases hes:es with
 |nil=>
  repeat' (first|((with_reducible refine aF ?_);conv=>whnf)|refine aG ?_|exact aC|with_reducible refine aD ?_ ?_|(apply aA;(·exact cF))|refine aH ?_|((with_reducible refine aB ?_ ?_)<;>intro hc<;>(try simp only[List.length_map,ne_eq,dE] at hc)<;>try(exfalso;omega)))
  ·exact⟨.inl ⟨rfl,rfl,c8,v7⟩⟩
  ·exact⟨.inr ⟨_,_,rfl,c8,c8,c8,bq,v7⟩⟩
 |cons x t=>
  rw[hes] at hsz
  simp only[List.length_cons] at hsz
  repeat' (first|((with_reducible refine aF ?_);conv=>whnf)|refine aG ?_|exact aC|with_reducible refine aD ?_ ?_|(apply aA;(·exact cF))|refine aH ?_|((with_reducible refine aB ?_ ?_)<;>intro hc<;>(try simp only[List.length_map,ne_eq,dE] at hc)<;>try(exfalso;omega)))
  ·exact⟨.inr ⟨3,_,(by simp),c8,c8,c8,bq,v7⟩⟩
theorem mY {es:List AV} (hsz:es.length * 8≤140737488355328):cP Tryz.prog 119 [.im 1 .any es] [] 0 (fun r1 H1 _=>∃b d0,r1= .sl b es.length∧bn H1 b=some (.row 3 1 d0 es)):=
 (sQ hsz).mono fun r H n ⟨b,d,h1,_,_,_,h2,_⟩=>⟨b,d,h1,h2⟩
theorem vu (l m:List Int) (hl:l.length * 8≤140737488351232) (hm:m.length * 8≤140737488351232):Pure Tryz.prog 121 [fc l,fc m] (fun r=>r=bl (decide (l=m))):=by
 refine aI w5 rfl ?_
 unfold fc
 repeat' (first|((with_reducible refine aF ?_);conv=>whnf)|refine aG ?_|exact aC|with_reducible refine aD ?_ ?_|(apply aA;(·exact cF))|refine aH ?_|((with_reducible refine aB ?_ ?_)<;>intro hc<;>(try simp only[List.length_map,ne_eq,dE] at hc)<;>try(exfalso;omega)))
 ·refine db (Eq.symm ?_)
  exact decide_eq_false fun e=>hc (by rw[e])
 ·have hlm:l.length=m.length:=by omega
  refine aP (fun i:Nat=>[(0,fc l),(1,fc m),(12,i64 l.length),(13,i64 i)])
   (fun i H n=>i≤l.length∧∀j,j<i→l.getD j 0=m.getD j 0) (fun i=>l.length - i) 0 cI ⟨Nat.zero_le _,fun _ h=>by omega⟩ ?_
  unfold fc
  rintro i H n ⟨hi,hall⟩
  by_cases hil:i<l.length
  ·have e1:=oH (l:=l) hil
   have e2:=oH (l:=m) (i:=i) (by omega)
   repeat' (first|((with_reducible refine aF ?_);conv=>whnf)|refine aG ?_|exact aC|with_reducible refine aD ?_ ?_|(apply aA;(·(first|exact e1 _|exact e2 _|exact cF)))|refine aH ?_|((with_reducible refine aB ?_ ?_)<;>intro hc<;>(try simp only[List.length_map,ne_eq,dE] at hc)<;>try(exfalso;omega)))
   ·refine db (Eq.symm ?_)
    exact decide_eq_false fun e=>hc (by rw[e])
   ·refine⟨i+1,by omega,cI,by omega,fun j hj=> ?_⟩
    by_cases hji:j=i
    ·subst hji;exact hc
    ·exact hall j (by omega)
  ·have:i=l.length:=by omega
   subst this
   repeat' (first|((with_reducible refine aF ?_);conv=>whnf)|refine aG ?_|exact aC|with_reducible refine aD ?_ ?_|(apply aA;(·exact cF))|refine aH ?_|((with_reducible refine aB ?_ ?_)<;>intro hc<;>(try simp only[List.length_map,ne_eq,dE] at hc)<;>try(exfalso;omega)))
   refine db (Eq.symm ?_)
   refine decide_eq_true (List.ext_getElem hlm fun j h1 h2=> ?_)
   have:=hall j h1
   simpa[List.getD,h1,h2] using this
def Told (nv:AV) (l:List Int) (H:Hp) (nx:Nat):Prop:=nv=fc l∨∃b d,nv= .sl b l.length∧b<nx∧bn H b=some (.row 3 1 d (l.map i64))
theorem Told.dX {nv:AV} {l:List Int} {H:Hp} {nx:Nat} (h:Told nv l H nx) (k:Nat):cZ.dX H (k+1) nv=fc l:=by
 rcases h with rfl|⟨b,d,rfl,_,hb⟩
 ·exact cx _ (by simp[cE,fc,cC])
 ·rw[dF hb (by simp),cc _ ((cC _ _).2 fun _ _=>by simp[cE])];rfl
theorem qU {nv:AV} {l:List Int} {H:Hp} {nx:Nat} (h:Told nv l H nx) (m:List Int) (hl:l.length * 8≤140737488351232) (hm:m.length * 8≤140737488351232):cP Tryz.prog 121 [fc m,nv] H nx (fun r H' n=>r=bl (decide (m=l))∧H'=H∧n=nx):=by
 refine Pure.view (args2:=[fc m,fc l]) (vu m l hm hl) ?_ (by simp[cT,cE,fc,cC]) trivial ⟨rfl,rfl,rfl⟩
 rw[List.map_cons,List.map_cons,List.map_nil,h.dX,cx 6 (by simp[cE,fc,cC])]
theorem lA {nv:AV} {l:List Int} {H:Hp} {nx:Nat} (h:Told nv l H nx) (hl:l.length * 8≤140737488351232):cP Tryz.prog 119 [nv] H nx (fun r H' n=>r=fc l∧nx≤n∧∀b,b<nx→bn H' b=bn H b):=by
 refine cP.wk (cP.OQ (es:=l.map i64) (args2:=[fc l]) (mY (by rw[List.length_map];omega)) (fun i hi=>by rw[dB i64 _ _ _ (by simpa using hi)];trivial) (by rw[List.map_cons,List.map_nil,h.dX]) (by simp[cT,cE,fc,cC])) ?_
 rintro r H' n ⟨rfl,rfl,rfl⟩
 have hw:=Wk.OU (r:= .sl nx (l.map i64).length) (H:=(nx,some (.row 3 1 .any (l.map i64)))::H) (nx:=nx+1) [(nx,some (.row 3 1 .any (l.map i64)))] 1 (fun b q hq=>by
  by_cases hb:b=nx
  ·subst hb;rw[cO] at hq ⊢;exact hq
  ·rw[cG hb] at hq;cases hq)
 refine⟨_,_,_,hw, ?_,by omega,fun b hb=> ?_⟩
 ·rw[nG (cO _ _ _) rfl,oF];rfl
 ·rw[k7,tZ,cG (by omega),cG (by omega)]
end Go.Proofs.YtekfmjjmihomlaaGreat
end
section
/- Tables that grow till nothing changes, in plain data. -/
namespace Go.Proofs.YtekfmjjmihomlaaGreat
open Go Go.cZ Go.Proofs
set_option linter.unusedSimpArgs false
set_option linter.unusedVariables false
abbrev yV:=List (List Bool)
def o8 (T:yV) (i k:Nat):Bool:=(T.getD i []).getD k false
def EY (T:yV) (i k:Nat):yV:=T.set i ((T.getD i []).set k true)
structure Shape (T:yV) (m n:Nat):Prop where
 len:T.length=m
 row:∀i,i<m→(T.getD i []).length=n
theorem eE {α:Type} (l:List α) (i j:Nat) (v d:α):(l.set i v).getD j d=if i=j∧i<l.length then v else l.getD j d:=by
 simp only[List.getD,List.getElem?_set]
 by_cases h:i=j
 ·subst h
  by_cases h2:i<l.length
  ·simp[h2]
  ·simp[h2]
 ·simp[h]
theorem J1 {T:yV} {m n i k:Nat} (h:Shape T m n) (hi:i<m) (hk:k<n) (i' k':Nat):o8 (EY T i k) i' k'=if i=i'∧k=k' then true else o8 T i' k':=by
 unfold o8 EY
 rw[eE]
 by_cases h1:i=i'
 ·subst h1
  rw[if_pos ⟨rfl,by rw[h.len];exact hi⟩,eE]
  by_cases h2:k=k'
  ·subst h2;rw[if_pos ⟨rfl,by rw[h.row i hi];exact hk⟩,if_pos ⟨rfl,rfl⟩]
  ·rw[if_neg (fun h=>h2 h.1),if_neg (fun h=>h2 h.2)]
 ·rw[if_neg (fun h=>h1 h.1),if_neg (fun h=>h1 h.1)]
theorem Shape.set {T:yV} {m n:Nat} (h:Shape T m n) (i k:Nat):Shape (EY T i k) m n:=by
 refine⟨by simp[EY,h.len],fun j hj=> ?_⟩
 unfold EY
 rw[eE]
 split
 ·rename_i e;rw[List.length_set,e.1];exact h.row j hj
 ·exact h.row j hj
inductive PS (g:cA) (ni cS:Node→Nat→Bool) (k:Nat):Nat→Prop where
 |ni {i:Nat}:ni (g.nd i) k=true→PS g ni cS k i
 |on {i:Nat} {j:Int}:cS (g.nd i) k=true→j∈(g.nd i).gK→PS g ni cS k j.toNat→PS g ni cS k i
def OE (T:yV) (n:Node) (k:Nat):Bool:=n.gK.any fun j=>o8 T j.toNat k
theorem FD (f:Int→Bool) (n:Node):n.fold.any f=n.gK.any f:=C9 (fun l=>l.any f) n (fun a=>by simp)
def vk (g:cA) (ni cS:Node→Nat→Bool) (T:yV) (i k:Nat):Bool:=ni (g.nd i) k||(cS (g.nd i) k&&OE T (g.nd i) k)
structure Grow (g:cA) (ni cS:Node→Nat→Bool) (n:Nat) (T:yV):Prop where
 shape:Shape T g.nodes.length n
 sound:∀i k,o8 T i k=true→PS g ni cS k i
def uG (m n:Nat):yV:=List.replicate m (List.replicate n false)
theorem AN (m n i k:Nat):o8 (uG m n) i k=false:=by
 unfold o8 uG
 simp only[List.getD,List.getElem?_replicate]
 by_cases h:i<m
 ·simp only[h,if_true,Option.getD_some,List.getElem?_replicate];split<;>rfl
 ·simp[h]
theorem yB (m n:Nat):Shape (uG m n) m n:=⟨by simp[uG],fun i hi=>by simp[uG,List.getD,List.getElem?_replicate,hi]⟩
theorem Grow.start (g:cA) (ni cS:Node→Nat→Bool) (n:Nat):Grow g ni cS n (uG g.nodes.length n):=
 ⟨yB _ _,fun i k h=>by rw[AN] at h;cases h⟩
theorem vg {T:yV} {n:Node} {k:Nat}:OE T n k=true↔∃j∈n.gK,o8 T j.toNat k=true:=by
 unfold OE;rw[List.any_eq_true]
theorem Grow.step {g:cA} {ni cS:Node→Nat→Bool} {n:Nat} {T:yV} (h:Grow g ni cS n T) {i k:Nat} (hi:i<g.nodes.length) (hk:k<n) (hc:vk g ni cS T i k=true):Grow g ni cS n (EY T i k):=by
 refine⟨h.shape.set i k,fun i' k' ht=> ?_⟩
 rw[J1 h.shape hi hk] at ht
 split at ht
 ·rename_i e
  obtain⟨rfl,rfl⟩:=e
  unfold vk at hc
  rw[Bool.or_eq_true,Bool.and_eq_true] at hc
  rcases hc with h1|⟨h1,h2⟩
  ·exact .ni h1
  ·obtain⟨j,hj,h3⟩:=vg.1 h2
   exact .on h1 hj (h.sound _ _ h3)
 ·exact h.sound _ _ ht
open Classical in
noncomputable def CN (g:cA) (ni cS:Node→Nat→Bool) (n:Nat):yV:=(List.range g.nodes.length).map fun i=>(List.range n).map fun k=>decide (PS g ni cS k i)
theorem AE (g:cA) (ni cS:Node→Nat→Bool) (n:Nat):Shape (CN g ni cS n) g.nodes.length n:=⟨by simp[CN],fun i hi=>by simp[CN,List.getD,hi]⟩
theorem EV (g:cA) (ni cS:Node→Nat→Bool) (n:Nat) {i k:Nat} (hi:i<g.nodes.length) (hk:k<n):o8 (CN g ni cS n) i k=true↔PS g ni cS k i:=by
 simp[o8,CN,List.getD,hi,hk]
theorem M1 {T S:yV} {m n:Nat} (hT:Shape T m n) (hS:Shape S m n) (h:∀i k,i<m→k<n→o8 T i k=o8 S i k):T=S:=by
 apply List.ext_getElem (hT.len.trans hS.len.symm)
 intro i h1 h2
 have hi:i<m:=by rw[←hT.len];exact h1
 have e1:T.getD i []=T[i]:=by simp[List.getD,h1]
 have e2:S.getD i []=S[i]:=by simp[List.getD,h2]
 rw[←e1,←e2]
 apply List.ext_getElem ((hT.row i hi).trans (hS.row i hi).symm)
 intro k h3 h4
 have:=h i k hi (by rw[←hT.row i hi];exact h3)
 unfold o8 at this
 have g:∀(l:List Bool) (h:k<l.length),l[k]=l.getD k false:=fun l h=>by simp[List.getD,h]
 rw[g _ h3,g _ h4]
 exact this
theorem Grow.fin {g:cA} {ni cS:Node→Nat→Bool} {n:Nat} {T:yV} (hw:Whole g) (h:Grow g ni cS n T) (hc:∀i k,i<g.nodes.length→k<n→vk g ni cS T i k=true→o8 T i k=true):T=CN g ni cS n:=by
 refine M1 h.shape (AE _ _ _ _) fun i k hi hk=> ?_
 rw[Bool.eq_iff_iff,EV g ni cS n hi hk]
 refine⟨h.sound i k,fun ha=> ?_⟩
 induction ha with
 |ni hb=>exact hc _ _ hi hk (by unfold vk;rw[hb];rfl)
 |@on i j hkp hj _ ih=>
  have hj2:=(hw.2.2 i hi).2.2 j hj
  have:=ih hj2.2
  refine hc _ _ hi hk ?_
  unfold vk
  rw[hkp,vg.2 ⟨j,hj,this⟩]
  simp
structure uH where
 kind:Int
 ch:Int
 lock:Int
 deriving Inhabited,DecidableEq
def uH.cells (c:uH):List AV:=[u8 c.kind,i64 c.ch,i64 c.lock]
abbrev uH.av (c:uH):AV:= .agg c.cells
end Go.Proofs.YtekfmjjmihomlaaGreat
end
section
/- The locks that are held, in plain data. -/
namespace Go.Proofs.YtekfmjjmihomlaaGreat
open Go Go.cZ Go.Proofs
set_option linter.unusedSimpArgs false
set_option linter.unusedVariables false
structure SQ (now:List Int) (l:List Int) (s s':HS):Prop where
 kj:s'.bx.length=s.bx.length
 mR:s'.found.length=s.found.length
 gU:∀k:Int,s.f k=true→s'.f k=true∧s'.l k=s.l k
 new:∀k:Int,0≤k→s'.f k=true→s.f k=true∨k∈l
 all:∀k∈l,s'.f k=true∧s'.l k=now
 bare:∀k:Int,0≤k→s'.f k=false→s'.l k=s.l k
 more:∃t,s'.todo=s.todo++t∧(∀k∈t,k∈l∧s'.f k=true)∧(∀k:Int,0≤k→s'.f k=true→s.f k=true∨k∈t)∧s'.found.count false+t.length=s.found.count false
theorem HS.tK {s:HS} {i:Nat} {L:List (List Int)} {td:List Int} (h:i<s.found.length) (k:Int):HS.f ⟨L,s.found.set i true,td⟩ k=if k.toNat=i then true else s.f k:=kY h k
theorem HS.NR {s:HS} {i:Nat} {now:List Int} {F:List Bool} {td:List Int} (h:i<s.bx.length) (k:Int):HS.l ⟨s.bx.set i now,F,td⟩ k=if k.toNat=i then now else s.l k:=by
 unfold HS.l
 simp only
 rw[eE]
 by_cases e:i=k.toNat
 ·rw[if_pos ⟨e,h⟩,if_pos e.symm]
 ·rw[if_neg (fun x=>e x.1),if_neg (fun x=>e x.symm)]
theorem nF (now:List Int):∀(l:List Int) (s s':HS),s.bx.length=s.found.length→(∀k∈l,0≤k∧k.toNat<s.found.length)→dS now l s= .inl s'→SQ now l s s'
 |[],s,s',_,_,h=>by
  rw[dS] at h;cases h
  exact⟨rfl,rfl,fun _ h=>⟨h,rfl⟩,fun _ _ h=> .inl h,fun _ h=>by simp at h,fun _ _ _=>rfl,[],by simp,fun _ h=>by simp at h,fun _ _ h=> .inl h,by simp⟩
 |k::r,s,s',hl,hr,h=>by
  obtain⟨hk0,hk⟩:=hr k (by simp)
  have hr2:=fun x hx=>hr x (List.mem_cons_of_mem _ hx)
  rw[dS] at h
  by_cases hf:s.f k=false
  ·rw[if_pos hf] at h
   have ih:=nF now r _ s' (by simp[hl]) (fun x hx=>by simpa using hr2 x hx) h
   have fs:=fun x=>HS.tK (s:=s) (i:=k.toNat) (L:=s.bx.set k.toNat now) (td:=s.todo++[k]) hk x
   have ls:=fun x=>HS.NR (s:=s) (i:=k.toNat) (now:=now) (F:=s.found.set k.toNat true) (td:=s.todo++[k]) (by rw[hl];exact hk) x
   obtain⟨t,t1,t2,t3,t4⟩:=ih.more
   have hkk:=ih.gU k (by rw[fs,if_pos rfl])
   refine⟨ih.kj.trans (by simp),ih.mR.trans (by simp),fun x hx=> ?_,fun x hx0 hx=> ?_,fun x hx=> ?_,fun x hx0 hx=> ?_,k::t,by rw[t1];simp,fun x hx=> ?_,fun x hx0 hx=> ?_, ?_⟩
   ·have hne:x.toNat≠k.toNat:=fun e=>by unfold HS.f at hx hf;rw[e] at hx;rw[hx] at hf;cases hf
    have:=ih.gU x (by rw[fs,if_neg hne];exact hx)
    rw[ls,if_neg hne] at this
    exact this
   ·rcases ih.new x hx0 hx with h2|h2
    ·rw[fs] at h2
     split at h2
     ·rename_i e;exact .inr (by rw[show x=k by omega];simp)
     ·exact .inl h2
    ·exact .inr (List.mem_cons_of_mem _ h2)
   ·rcases List.mem_cons.1 hx with rfl|hx
    ·rw[ls,if_pos rfl] at hkk;exact hkk
    ·exact ih.all x hx
   ·have hne:x.toNat≠k.toNat:=fun e=>by
     have:=hkk.1
     rw[show k=x by omega,hx] at this;cases this
    have:=ih.bare x hx0 hx
    rw[ls,if_neg hne] at this
    exact this
   ·rcases List.mem_cons.1 hx with rfl|hx
    ·exact⟨by simp,hkk.1⟩
    ·exact⟨List.mem_cons_of_mem _ (t2 x hx).1,(t2 x hx).2⟩
   ·rcases t3 x hx0 hx with h2|h2
    ·rw[fs] at h2
     split at h2
     ·rename_i e;exact .inr (by rw[show x=k by omega];simp)
     ·exact .inl h2
    ·exact .inr (List.mem_cons_of_mem _ h2)
   ·have:=count_set hk hf
    rw[List.length_cons]
    dsimp only at t4
    omega
  ·rw[if_neg hf] at h
   have hkt:s.f k=true:=by simpa using hf
   by_cases hn:s.l k=now
   ·rw[if_pos hn] at h
    have ih:=nF now r s s' hl hr2 h
    obtain⟨t,t1,t2,t3,t4⟩:=ih.more
    refine⟨ih.kj,ih.mR,ih.gU,fun x hx0 hx=>(ih.new x hx0 hx).imp id (List.mem_cons_of_mem _),fun x hx=> ?_,ih.bare,t,t1,fun x hx=>⟨List.mem_cons_of_mem _ (t2 x hx).1,(t2 x hx).2⟩,t3,t4⟩
    rcases List.mem_cons.1 hx with rfl|hx
    ·have:=ih.gU _ hkt;rw[hn] at this;exact this
    ·exact ih.all x hx
   ·rw[if_neg hn] at h;cases h
structure HI (g:cA) (s:HS) (k:Nat):Prop where
 kj:s.bx.length=g.nodes.length
 mR:s.found.length=g.nodes.length
 zero:s.f 0=true
 first:s.l 0=[]
 vp:∀i:Int,0≤i→s.f i=true→qW g (-1) i
 bare:∀i:Int,0≤i→s.f i=false→s.l i=[]
 inr:∀i∈s.todo,0≤i∧i.toNat<g.nodes.length∧s.f i=true
 all:∀i:Int,0≤i→s.f i=true→i∈s.todo
 done:∀j,j<k→j<s.todo.length→∃now,dU (g.nd (s.todo.getD j 0).toNat) (s.l (s.todo.getD j 0))=some now∧∀to∈(g.nd (s.todo.getD j 0).toNat).gK,s.f to=true∧s.l to=now
 count:s.todo.length+s.found.count false=g.nodes.length
theorem HI.start {g:cA} (h:Whole g):HI g (qM g) 0:=by
 have hl:=h.1
 have hf:∀k,HS.f (qM g) k=decide (k.toNat=0):=fun k=>by
  have:=kY (l:=List.replicate g.nodes.length false) (i:=0) (by simp;omega) k
  unfold HS.f qM
  simp only
  unfold lD at this
  rw[this]
  by_cases e:k.toNat=0
  ·simp[e]
  ·rw[if_neg e,decide_eq_false e]
   simp only[List.getD,List.getElem?_replicate];split<;>rfl
 have hk:∀k,HS.l (qM g) k=[]:=fun k=>by
  unfold HS.l qM;simp only[List.getD,List.getElem?_replicate];split<;>rfl
 refine⟨by simp[qM],by simp[qM],by rw[hf];simp,hk 0,fun i h0 hi=> ?_,fun i _ _=>hk i,fun i hi=> ?_,fun i h0 hi=> ?_,fun j hj=>by omega, ?_⟩
 ·rw[hf] at hi
  rw[show i=0 by have:=of_decide_eq_true hi;omega];exact .zero
 ·simp only[qM,List.mem_cons,List.not_mem_nil,or_false] at hi
  subst hi
  exact⟨by omega,by simp;omega,by rw[hf];simp⟩
 ·rw[hf] at hi
  rw[show i=0 by have:=of_decide_eq_true hi;omega];simp[qM]
 ·have:=count_set (l:=List.replicate g.nodes.length false) (i:=0) (by simp;omega) (by simp[List.getD,List.getElem?_replicate];split<;>rfl)
  simp only[List.count_replicate_self] at this
  simp only[qM,List.length_cons,List.length_nil]
  omega
theorem HI.next {g:cA} (hw:Whole g) {s s':HS} {k:Nat} (h:HI g s k) (hk:k<s.todo.length) {now:List Int} (hn:dU (g.nd (s.todo.getD k 0).toNat) (s.l (s.todo.getD k 0))=some now) (ht:dS now (g.nd (s.todo.getD k 0).toNat).gK s= .inl s'):HI g s' (k+1):=by
 have hm:=cW (0:Int) hk
 obtain⟨i1,i2,i3⟩:=h.inr _ hm
 have hfol:=(hw.2.2 _ i2).2.2
 have sp:=nF now _ s s' (by rw[h.kj,h.mR]) (fun x hx=>by rw[h.mR];exact hfol x hx) ht
 obtain⟨t,t1,t2,t3,t4⟩:=sp.more
 have hget:∀j,j<s.todo.length→s'.todo.getD j 0=s.todo.getD j 0:=fun j hj=>by
  rw[t1];simp[List.getD,List.getElem?_append,hj]
 refine⟨sp.kj.trans h.kj,sp.mR.trans h.mR,(sp.gU 0 h.zero).1,(sp.gU 0 h.zero).2.trans h.first,fun i h0 hi=> ?_,fun i h0 hi=> ?_,fun i hi=> ?_,fun i h0 hi=> ?_,fun j hj hjl=> ?_, ?_⟩
 ·rcases sp.new i h0 hi with h1|h1
  ·exact h.vp i h0 h1
  ·exact .step (h.vp _ i1 i3) (by omega) h1
 ·rw[sp.bare i h0 hi]
  refine h.bare i h0 ?_
  cases hq:s.f i with
  |false=>rfl
  |true=>rw[(sp.gU i hq).1] at hi;cases hi
 ·rw[t1] at hi
  rcases List.mem_append.1 hi with hi|hi
  ·obtain⟨a,b,c⟩:=h.inr i hi
   exact⟨a,b,(sp.gU i c).1⟩
  ·have:=hfol i (t2 i hi).1
   exact⟨this.1,this.2,(t2 i hi).2⟩
 ·rw[t1]
  rcases t3 i h0 hi with h1|h1
  ·exact List.mem_append_left _ (h.all i h0 h1)
  ·exact List.mem_append_right _ h1
 ·by_cases hjk:j=k
  ·subst hjk
   rw[hget _ hk]
   refine⟨now, ?_,sp.all⟩
   rw[(sp.gU _ i3).2]
   exact hn
  ·have hj2:j<s.todo.length:=by omega
   rw[hget _ hj2]
   obtain⟨now2,d1,d2⟩:=h.done j (by omega) hj2
   have hjm:=h.inr _ (cW (0:Int) hj2)
   refine⟨now2,by rw[(sp.gU _ hjm.2.2).2];exact d1,fun to hto=> ?_⟩
   obtain⟨e1,e2⟩:=d2 to hto
   rw[(sp.gU _ e1).2]
   exact⟨(sp.gU _ e1).1,e2⟩
 ·have:=h.count
  rw[t1,List.length_append]
  omega
structure RS (g:cA) (lk:Nat→List Int):Prop where
 zero:lk 0=[]
 on:∀i:Int,qW g (-1) i→∃now,dU (g.nd i.toNat) (lk i.toNat)=some now∧∀k∈(g.nd i.toNat).gK,lk k.toNat=now
theorem HI.fin {g:cA} {s:HS} {k:Nat} (hw:Whole g) (h:HI g s k) (hk:s.todo.length≤k):RS g (fun i=>s.bx.getD i [])∧∀i,i<g.nodes.length→(s.found.getD i false=true↔qW g (-1) i):=by
 have hall:∀i:Int,qW g (-1) i→0≤i∧s.f i=true:=fun i hi=>by
  induction hi with
  |zero=>exact⟨by omega,h.zero⟩
  |@step i j hi _ hj ih=>
   obtain⟨i0,hif⟩:=ih
   have hm:=h.all i i0 hif
   obtain⟨q,hq,e⟩:=List.getElem_of_mem hm
   have e2:s.todo.getD q 0=i:=by simp[List.getD,hq,e]
   obtain⟨now,_,d⟩:=h.done q (by omega) hq
   rw[e2] at d
   have h2:=(hw.2.2 i.toNat (h.inr i hm).2.1).2.2 j hj
   exact⟨h2.1,(d j hj).1⟩
 refine⟨⟨h.first,fun i hi=> ?_⟩,fun i hi=>⟨fun hf=>h.vp i (by omega) hf,fun hc=>(hall i hc).2⟩⟩
 obtain⟨i0,hif⟩:=hall i hi
 have hm:=h.all i i0 hif
 obtain⟨q,hq,e⟩:=List.getElem_of_mem hm
 have e2:s.todo.getD q 0=i:=by simp[List.getD,hq,e]
 obtain⟨now,d1,d⟩:=h.done q (by omega) hq
 rw[e2] at d1 d
 exact⟨now,d1,fun k hk=>(d k hk).2⟩
end Go.Proofs.YtekfmjjmihomlaaGreat
end
section
/- What is reached. -/
namespace Go.Proofs.YtekfmjjmihomlaaGreat
open Go Go.cZ Go.Proofs
set_option linter.unusedSimpArgs false
set_option linter.unusedVariables false
theorem oL {n:Node} {k:Int}:k∈n.fold↔k∈n.gK:=by
 have:=FD (fun j=>decide (j=k)) n
 rw[Bool.eq_iff_iff,List.any_eq_true,List.any_eq_true] at this
 constructor
 ·intro h;obtain⟨x,h1,h2⟩:=this.1 ⟨k,h,by simp⟩;rw[←of_decide_eq_true h2];exact h1
 ·intro h;obtain⟨x,h1,h2⟩:=this.2 ⟨k,h,by simp⟩;rw[←of_decide_eq_true h2];exact h1
theorem F7 (n:Node):n.fold.length≤2:=by unfold Node.fold;split<;>(try split)<;>simp
theorem K5 (n:Node):n.gK.length≤2:=by unfold Node.gK;split<;>(try split)<;>simp
theorem gd {α:Type} {l:List α} {q:Nat} (h:q<l.length) (d:α):l.getD q d=l[q]:=by simp[List.getD,h]
theorem gG {l:List Node} {i:Nat} (h:i<l.length) (d:AV):(l.map Node.av).getD ((i:Int).toNat) d=(l.getD i default).av:=by
 rw[Int.toNat_natCast];exact dB Node.av l i d h
theorem lV {l:List cA} {i:Nat} (h:i<l.length) (d:AV):(l.map cA.av).getD ((i:Int).toNat) d=(l.getD i default).av:=by
 rw[Int.toNat_natCast];exact dB cA.av l i d h
theorem k9 {l:List Int} {i:Nat} (h:i<l.length) (d:AV):(l.map i64).getD ((i:Int).toNat) d=i64 (l.getD i 0):=by
 rw[Int.toNat_natCast];exact dB i64 l i d h
end Go.Proofs.YtekfmjjmihomlaaGreat
end
