import Derived.Test.YtekfmjjmihomlaaGreatM22
section
/- Are names and numbers right? -/
namespace Go.Proofs.YtekfmjjmihomlaaGreat
open Go Go.cV Go.Proofs
set_option linter.unusedSimpArgs false
set_option linter.unusedVariables false
abbrev wm (E:List (ByteArray×Bool)):List AV:=oc (fun s:ByteArray=>Value.string s) bl E
theorem QW (E:List (ByteArray×Bool)) (t:ByteArray):uH true (.string t) (wm E) (bl false)=some (bl ((eX E t).getD false),(eX E t).isSome):=(ye uB bl t E (bl false)).trans (by cases eX E t<;>rfl)
theorem Q3 (E:List (ByteArray×Bool)) (t:ByteArray) (v:Bool):wu true (.string t) (wm E) (bl v)=some (wm (iM E t v)):=yf uB bl t v E
def lO (l:List ByteArray):List (ByteArray×Bool):=l.map fun s=>(s,true)
def fQ:List ByteArray→ByteArray→Bool
 |[],_=>false
 |a::l,s=>if s=a then true else fQ l s
theorem wq (l:List ByteArray) (s:ByteArray):fQ l s=true↔s∈l:=by
 induction l with
 |nil=>simp[fQ]
 |cons a l ih=>
  rw[fQ]
  by_cases h:s=a
  ·simp[h]
  ·simp[h,ih]
theorem DJ (l:List ByteArray) (s:ByteArray):(eX (lO l) s).getD false=fQ l s:=by
 induction l with
 |nil=>rfl
 |cons a l ih=>
  show((if s=a then some true else eX (lO l) s)).getD false=(if s=a then true else fQ l s)
  by_cases h:s=a
  ·rw[if_pos h,if_pos h];rfl
  ·rw[if_neg h,if_neg h,ih]
theorem IJ (l:List ByteArray) (s:ByteArray) (h:fQ l s=false):iM (lO l) s true=lO (l++[s]):=by
 induction l with
 |nil=>rfl
 |cons a l ih=>
  rw[fQ] at h
  by_cases e:s=a
  ·rw[if_pos e] at h;cases h
  ·rw[if_neg e] at h
   show(if s=a then(s,true)::lO l else(a,true)::iM (lO l) s true)=_
   rw[if_neg e,ih h];rfl
theorem pz (s:ByteArray) (hs:s.size≤140737488351232) (l:List ByteArray) (b m:Nat) (H:Hp) (nx:Nat) (e em:TypeId) (d dm:AV) (hb:bd H b=some (.row e 1 d [.mp m])) (hm:bd H m=some (.row em 0 dm (mapA (wm (lO l))))) (hbn:b<nx) (hmn:m<nx) (hbm:b≠m):
 cJ Tryz.prog 114 [st s, .pt b 1 0 0] H nx (fun r H' n=>r=bl (fB s&& !fQ l s)∧nx≤n∧(fQ l s=false→bd H' m=some (.row em 0 dm (mapA (wm (lO (l++[s]))))))∧∀y,y<nx→y≠m→bd H' y=bd H y):=by
 refine aQ vk rfl ?_
 repeat' (first|((with_reducible refine aF ?_);conv=>whnf)|refine aG ?_|exact aC|with_reducible refine aD ?_ ?_|(apply aA;(·exact cA))|refine aK (C2 s hs) ?_|(apply aR (g:=some _);(·exact fun _=>QW _ _))|(apply aR (g:=none);(·exact fun _=>Q3 _ _ _))|refine aH ?_|((with_reducible refine aB ?_ ?_)<;>intro hc<;>(try simp only[List.length_map,ne_eq,dC] at hc)<;>try(exfalso;omega)))
 refine⟨⟨?_,cU,fun h=> ?_,fun y hy hym=> ?_⟩⟩
 ·rw[DJ]
  refine dW ?_
  cases fB s<;>cases fQ l s<;>rfl
 ·rw[←IJ l s h]
  exact bf
 ·exact br
def eI:List ByteArray→List ByteArray→Bool
 |_,[]=>true
 |acc,s::r=>if(fB s&& !fQ acc s)=true then eI (acc++[s]) r else false
def cd (u:bj):List ByteArray:=u.shared.map Decl.name++(u.bo.map Decl.name++u.bh.map cB.name)
def eQ (u:bj):Bool:=decide (u.shared.length≤64)&&decide (u.bo.length≤16)&&decide (u.bh.length≤8)&&eI [] (cd u)&&u.bo.all (fun d=>decide (d.word=0))
theorem ky (u:bj) {k:Nat} (hk:k<(cd u).length) (h:eI ((cd u).take k) ((cd u).drop k)=eI [] (cd u)) {s:ByteArray} (hs:(cd u).getD k default=s):
 (eI [] (cd u)=if(fB s&& !fQ ((cd u).take k) s)=true then eI ((cd u).take (k+1)) ((cd u).drop (k+1)) else false)∧(cd u).take (k+1)=(cd u).take k++[s]:=by
 have e:(cd u)[k]=s:=by rw[←hs];simp[List.getD,hk]
 have e2:(cd u).take (k+1)=(cd u).take k++[s]:=by rw[List.take_succ_eq_append_getElem hk,e]
 refine⟨?_,e2⟩
 rw[←h,List.drop_eq_getElem_cons hk,eI,e,e2]
theorem KU (u:bj) {i:Nat} (h:i<u.shared.length):(cd u).getD i default=(u.shared.getD i default).name:=by
 simp[cd,List.getD,List.getElem?_append,h]
theorem KT (u:bj) {i:Nat} (h:i<u.bo.length):(cd u).getD (u.shared.length+i) default=(u.bo.getD i default).name:=by
 unfold cd
 rw[List.getD,List.getElem?_append_right (by simp),List.length_map,Nat.add_sub_cancel_left,List.getElem?_append_left (by simpa using h)]
 simp[List.getD,h]
theorem KS (u:bj) {i:Nat} (h:i<u.bh.length):(cd u).getD (u.shared.length+u.bo.length+i) default=(u.bh.getD i default).name:=by
 unfold cd
 rw[List.getD,List.getElem?_append_right (by simp;omega),List.getElem?_append_right (by simp;omega)]
 simp only[List.length_map]
 rw[show u.shared.length+u.bo.length+i - u.shared.length - u.bo.length=i by omega]
 simp[List.getD,h]
set_option maxHeartbeats 4000000 in
theorem yh (u:bj) (hu:u.Wf):Pure Tryz.prog 78 [u.av] (fun r=>r=bl (eQ u)):=by
 refine aI G4 rfl ?_
 have h1:=hu.og
 have h2:=hu.qf
 have h3:=hu.sn
 by_cases hl:u.shared.length≤64∧u.bo.length≤16∧u.bh.length≤8
 ·repeat' (first|((with_reducible refine aF ?_);conv=>whnf)|refine aG ?_|exact eO|with_reducible refine aD ?_ ?_|((with_reducible refine Ask.mk ?_);first|exact cw|exact cT|(intro h;simp_all[bj.cells]<;>fail)|(simp_all[bj.cells]<;>fail))|(apply aA;(·exact cA))|refine aH ?_|((with_reducible refine aB ?_ ?_)<;>intro hc<;>(try simp only[List.length_map,ne_eq,dC] at hc)<;>try(exfalso;omega)))
  clear hc
  simp only[List.length_map]
  refine aP (fun i:Nat=>[(1, .pt 0 1 0 0),(4, .fn (.func 114) [] [.pt 19 1 0 0]),(30,bn u.shared),(31,i64 u.shared.length),(32,i64 i)]) (fun i H n=>i≤u.shared.length∧20≤n∧(∃d,bd H 0=some (.row 25 3 d [u.av]))∧(∃d,bd H 19=some (.row 174 1 d [.mp 18]))∧(∃d,bd H 18=some (.row 9 0 d (mapA (wm (lO ((cd u).take (i)))))))∧eI ((cd u).take (i)) ((cd u).drop (i))=eI [] (cd u)) (fun i=>u.shared.length - i) 0 cC ⟨Nat.zero_le _,cU,⟨_,bf⟩,⟨_,bf⟩,⟨_,bf⟩,rfl⟩ ?_
  rintro i H n ⟨hi,hn,⟨d0,r0⟩,⟨d19,r19⟩,⟨d18,r18⟩,hq⟩
  by_cases hil:i<u.shared.length
  ·have hk:i<(cd u).length:=by simp only[cd,List.length_append,List.length_map];omega
   have hs:(cd u).getD (i) default=(u.shared.getD i default).name:=KU u hil
   obtain⟨ha,ht⟩:=ky u hk hq hs
   have hsz:=(hu.shared _ (cX default hil)).name
   repeat' (first|((with_reducible refine aF ?_);conv=>whnf)|refine aG ?_|exact eO|with_reducible refine aD ?_ ?_|((with_reducible refine Ask.mk ?_);first|exact cw|exact cT|(intro h;simp_all[bj.cells,Decl.cells]<;>fail)|(simp_all[bj.cells,Decl.cells]<;>fail))|(apply aA;(·(first|exact EU|exact cA)))|refine aH ?_|((with_reducible refine aB ?_ ?_)<;>intro hc<;>(try simp only[List.length_map,ne_eq,dC] at hc)<;>try(exfalso;omega)))
   refine aL (pz _ hsz ((cd u).take (i)) 19 18 _ _ _ _ _ _ bf bf cU cU (by decide)) ?_
   rintro _ H2 n2 ⟨rfl,hn2,hput,hf⟩
   have hn12:n≤n2:=Nat.le_trans cU hn2
   have r02:bd H2 0=some (.row 25 3 d0 [u.av]):=(hf 0 (Nat.lt_of_lt_of_le (by omega:0<n) cU) (by decide)).trans bf
   have r192:bd H2 19=some (.row 174 1 d19 [.mp 18]):=(hf 19 (Nat.lt_of_lt_of_le (by omega:19<n) cU) (by decide)).trans bf
   cases hg:(fB (u.shared.getD i default).name&& !fQ ((cd u).take (i)) (u.shared.getD i default).name) with
   |false=>
    rw[hg,if_neg (by decide)] at ha
    have hb:eQ u=false:=by unfold eQ;rw[ha];simp
    rw[hb]
    repeat' (first|((with_reducible refine aF ?_);conv=>whnf)|refine aG ?_|exact eO|with_reducible refine aD ?_ ?_|((with_reducible refine Ask.mk ?_);first|exact cw|exact cT|(intro h;simp_all[bj.cells,Decl.cells]<;>fail)|(simp_all[bj.cells,Decl.cells]<;>fail))|(apply aA;(·exact cA))|refine aH ?_|((with_reducible refine aB ?_ ?_)<;>intro hc<;>(try simp only[List.length_map,ne_eq,dC] at hc)<;>try(exfalso;omega)))
    exact rfl
   |true=>
    rw[hg,if_pos rfl] at ha
    have hnm:fQ ((cd u).take (i)) (u.shared.getD i default).name=false:=by revert hg;cases fQ ((cd u).take (i)) (u.shared.getD i default).name<;>simp
    have r182:=hput hnm
    rw[←ht] at r182
    clear hf hput
    repeat' (first|((with_reducible refine aF ?_);conv=>whnf)|refine aG ?_|exact eO|with_reducible refine aD ?_ ?_|((with_reducible refine Ask.mk ?_);first|exact cw|exact cT|(intro h;simp_all[bj.cells,Decl.cells]<;>fail)|(simp_all[bj.cells,Decl.cells]<;>fail))|(apply aA;(·exact cA))|refine aH ?_|((with_reducible refine aB ?_ ?_)<;>intro hc<;>(try simp only[List.length_map,ne_eq,dC] at hc)<;>try(exfalso;omega)))
    exact⟨i+1,by omega,cC,by omega,by omega,⟨_,bf⟩,⟨_,bf⟩,⟨_,bf⟩,ha.symm⟩
  ·have hie:i=u.shared.length:=by omega
   subst hie
   repeat' (first|((with_reducible refine aF ?_);conv=>whnf)|refine aG ?_|exact eO|with_reducible refine aD ?_ ?_|((with_reducible refine Ask.mk ?_);first|exact cw|exact cT|(intro h;simp_all[bj.cells]<;>fail)|(simp_all[bj.cells]<;>fail))|(apply aA;(·exact cA))|refine aH ?_|((with_reducible refine aB ?_ ?_)<;>intro hc<;>(try simp only[List.length_map,ne_eq,dC] at hc)<;>try(exfalso;omega)))
   refine aP (fun i:Nat=>[(1, .pt 0 1 0 0),(4, .fn (.func 114) [] [.pt 19 1 0 0]),(43,bn u.bo),(44,i64 u.bo.length),(45,i64 i)]) (fun i H n=>i≤u.bo.length∧20≤n∧(∃d,bd H 0=some (.row 25 3 d [u.av]))∧(∃d,bd H 19=some (.row 174 1 d [.mp 18]))∧(∃d,bd H 18=some (.row 9 0 d (mapA (wm (lO ((cd u).take (u.shared.length+i)))))))∧eI ((cd u).take (u.shared.length+i)) ((cd u).drop (u.shared.length+i))=eI [] (cd u)∧∀j,j<i→(u.bo.getD j default).word=0) (fun i=>u.bo.length - i) 0 cC ⟨Nat.zero_le _,cU,⟨_,bf⟩,⟨_,bf⟩,⟨_,by rw[Nat.add_zero];exact bf⟩,by rw[Nat.add_zero];exact hq,fun _ h=>by omega⟩ ?_
   clear r0 r19 r18 hq hc
   rintro i H n ⟨hi,hn,⟨d0,r0⟩,⟨d19,r19⟩,⟨d18,r18⟩,hq,hw⟩
   by_cases hil:i<u.bo.length
   ·have hk:u.shared.length+i<(cd u).length:=by simp only[cd,List.length_append,List.length_map];omega
    have hs:(cd u).getD (u.shared.length+i) default=(u.bo.getD i default).name:=KT u hil
    obtain⟨ha,ht⟩:=ky u hk hq hs
    have hsz:=(hu.bo _ (cX default hil)).name
    repeat' (first|((with_reducible refine aF ?_);conv=>whnf)|refine aG ?_|exact eO|with_reducible refine aD ?_ ?_|((with_reducible refine Ask.mk ?_);first|exact cw|exact cT|(intro h;simp_all[bj.cells,Decl.cells]<;>fail)|(simp_all[bj.cells,Decl.cells]<;>fail))|(apply aA;(·(first|exact EU|exact cA)))|refine aH ?_|((with_reducible refine aB ?_ ?_)<;>intro hc<;>(try simp only[List.length_map,ne_eq,dC] at hc)<;>try(exfalso;omega)))
    refine aL (pz _ hsz ((cd u).take (u.shared.length+i)) 19 18 _ _ _ _ _ _ bf bf cU cU (by decide)) ?_
    rintro _ H2 n2 ⟨rfl,hn2,hput,hf⟩
    have hn12:n≤n2:=Nat.le_trans cU hn2
    have r02:bd H2 0=some (.row 25 3 d0 [u.av]):=(hf 0 (Nat.lt_of_lt_of_le (by omega:0<n) cU) (by decide)).trans bf
    have r192:bd H2 19=some (.row 174 1 d19 [.mp 18]):=(hf 19 (Nat.lt_of_lt_of_le (by omega:19<n) cU) (by decide)).trans bf
    cases hg:(fB (u.bo.getD i default).name&& !fQ ((cd u).take (u.shared.length+i)) (u.bo.getD i default).name) with
    |false=>
     rw[hg,if_neg (by decide)] at ha
     have hb:eQ u=false:=by unfold eQ;rw[ha];simp
     rw[hb]
     clear hf hput
     repeat' (first|((with_reducible refine aF ?_);conv=>whnf)|refine aG ?_|exact eO|with_reducible refine aD ?_ ?_|((with_reducible refine Ask.mk ?_);first|exact cw|exact cT|(intro h;simp_all[bj.cells,Decl.cells]<;>fail)|(simp_all[bj.cells,Decl.cells]<;>fail))|(apply aA;(·exact cA))|refine aH ?_|((with_reducible refine aB ?_ ?_)<;>intro hc<;>(try simp only[List.length_map,ne_eq,dC] at hc)<;>try(exfalso;omega)))
     exact rfl
    |true=>
     rw[hg,if_pos rfl] at ha
     have hnm:fQ ((cd u).take (u.shared.length+i)) (u.bo.getD i default).name=false:=by revert hg;cases fQ ((cd u).take (u.shared.length+i)) (u.bo.getD i default).name<;>simp
     have r182:=hput hnm
     rw[←ht] at r182
     obtain⟨d4,r4⟩:∃d,bd H2 (n+3)=some (.row 103 3 d [(u.bo.getD i default).av]):=⟨_,(hf (n+3) cU (by omega)).trans bf⟩
     clear hf hput
     repeat' (first|((with_reducible refine aF ?_);conv=>whnf)|refine aG ?_|exact eO|with_reducible refine aD ?_ ?_|((with_reducible refine Ask.mk ?_);first|exact cw|exact cT|(intro h;simp_all[bj.cells,Decl.cells]<;>fail)|(simp_all[bj.cells,Decl.cells]<;>fail))|(apply aA;(·exact cA))|refine aH ?_|((with_reducible refine aB ?_ ?_)<;>intro hc<;>(try simp only[List.length_map,ne_eq,dC] at hc)<;>try(exfalso;omega)))
     ·have hb:eQ u=false:=by
       unfold eQ
       rw[Bool.and_eq_false_iff]
       right
       rw[Bool.eq_false_iff,ne_eq,List.all_eq_true]
       exact fun h=>(hc.resolve_left (by decide)) (of_decide_eq_true (h _ (cX default hil)))
      rw[hb]
     ·exact⟨i+1,by omega,cC,by omega,by omega,⟨_,bf⟩,⟨_,bf⟩,⟨_,bf⟩,ha.symm,fun j hj=>by
       by_cases hji:j=i
       ·rw[hji];exact hc.2
       ·exact hw j (by omega)⟩
   ·have hie:i=u.bo.length:=by omega
    subst hie
    repeat' (first|((with_reducible refine aF ?_);conv=>whnf)|refine aG ?_|exact eO|with_reducible refine aD ?_ ?_|((with_reducible refine Ask.mk ?_);first|exact cw|exact cT|(intro h;simp_all[bj.cells]<;>fail)|(simp_all[bj.cells]<;>fail))|(apply aA;(·exact cA))|refine aH ?_|((with_reducible refine aB ?_ ?_)<;>intro hc<;>(try simp only[List.length_map,ne_eq,dC] at hc)<;>try(exfalso;omega)))
    refine aP (fun i:Nat=>[(1, .pt 0 1 0 0),(4, .fn (.func 114) [] [.pt 19 1 0 0]),(61,cL u.bh),(62,i64 u.bh.length),(63,i64 i)]) (fun i H n=>i≤u.bh.length∧20≤n∧(∃d,bd H 0=some (.row 25 3 d [u.av]))∧(∃d,bd H 19=some (.row 174 1 d [.mp 18]))∧(∃d,bd H 18=some (.row 9 0 d (mapA (wm (lO ((cd u).take (u.shared.length+u.bo.length+i)))))))∧eI ((cd u).take (u.shared.length+u.bo.length+i)) ((cd u).drop (u.shared.length+u.bo.length+i))=eI [] (cd u)∧∀j,j<u.bo.length→(u.bo.getD j default).word=0) (fun i=>u.bh.length - i) 0 cC ⟨Nat.zero_le _,cU,⟨_,bf⟩,⟨_,bf⟩,⟨_,by rw[Nat.add_zero];exact bf⟩,by rw[Nat.add_zero];exact hq,hw⟩ ?_
    clear r0 r19 r18 hq hc hw
    rintro i H n ⟨hi,hn,⟨d0,r0⟩,⟨d19,r19⟩,⟨d18,r18⟩,hq,hw⟩
    by_cases hil:i<u.bh.length
    ·have hk:u.shared.length+u.bo.length+i<(cd u).length:=by simp only[cd,List.length_append,List.length_map];omega
     have hs:(cd u).getD (u.shared.length+u.bo.length+i) default=(u.bh.getD i default).name:=KS u hil
     obtain⟨ha,ht⟩:=ky u hk hq hs
     have hsz:=(hu.bh _ (cX default hil)).name
     repeat' (first|((with_reducible refine aF ?_);conv=>whnf)|refine aG ?_|exact eO|with_reducible refine aD ?_ ?_|((with_reducible refine Ask.mk ?_);first|exact cw|exact cT|(intro h;simp_all[bj.cells,cB.cells]<;>fail)|(simp_all[bj.cells,cB.cells]<;>fail))|(apply aA;(·(first|exact NL|exact cA)))|refine aH ?_|((with_reducible refine aB ?_ ?_)<;>intro hc<;>(try simp only[List.length_map,ne_eq,dC] at hc)<;>try(exfalso;omega)))
     refine aL (pz _ hsz ((cd u).take (u.shared.length+u.bo.length+i)) 19 18 _ _ _ _ _ _ bf bf cU cU (by decide)) ?_
     rintro _ H2 n2 ⟨rfl,hn2,hput,hf⟩
     have hn12:n≤n2:=Nat.le_trans cU hn2
     have r02:bd H2 0=some (.row 25 3 d0 [u.av]):=(hf 0 (Nat.lt_of_lt_of_le (by omega:0<n) cU) (by decide)).trans bf
     have r192:bd H2 19=some (.row 174 1 d19 [.mp 18]):=(hf 19 (Nat.lt_of_lt_of_le (by omega:19<n) cU) (by decide)).trans bf
     cases hg:(fB (u.bh.getD i default).name&& !fQ ((cd u).take (u.shared.length+u.bo.length+i)) (u.bh.getD i default).name) with
     |false=>
      rw[hg,if_neg (by decide)] at ha
      have hb:eQ u=false:=by unfold eQ;rw[ha];simp
      rw[hb]
      repeat' (first|((with_reducible refine aF ?_);conv=>whnf)|refine aG ?_|exact eO|with_reducible refine aD ?_ ?_|((with_reducible refine Ask.mk ?_);first|exact cw|exact cT|(intro h;simp_all[bj.cells,cB.cells]<;>fail)|(simp_all[bj.cells,cB.cells]<;>fail))|(apply aA;(·exact cA))|refine aH ?_|((with_reducible refine aB ?_ ?_)<;>intro hc<;>(try simp only[List.length_map,ne_eq,dC] at hc)<;>try(exfalso;omega)))
      exact rfl
     |true=>
      rw[hg,if_pos rfl] at ha
      have hnm:fQ ((cd u).take (u.shared.length+u.bo.length+i)) (u.bh.getD i default).name=false:=by revert hg;cases fQ ((cd u).take (u.shared.length+u.bo.length+i)) (u.bh.getD i default).name<;>simp
      have r182:=hput hnm
      rw[←ht] at r182
      clear hf hput
      repeat' (first|((with_reducible refine aF ?_);conv=>whnf)|refine aG ?_|exact eO|with_reducible refine aD ?_ ?_|((with_reducible refine Ask.mk ?_);first|exact cw|exact cT|(intro h;simp_all[bj.cells,cB.cells]<;>fail)|(simp_all[bj.cells,cB.cells]<;>fail))|(apply aA;(·exact cA))|refine aH ?_|((with_reducible refine aB ?_ ?_)<;>intro hc<;>(try simp only[List.length_map,ne_eq,dC] at hc)<;>try(exfalso;omega)))
      exact⟨i+1,by omega,cC,by omega,by omega,⟨_,bf⟩,⟨_,bf⟩,⟨_,bf⟩,ha.symm,hw⟩
    ·have hie:i=u.bh.length:=by omega
     subst hie
     repeat' (first|((with_reducible refine aF ?_);conv=>whnf)|refine aG ?_|exact eO|with_reducible refine aD ?_ ?_|((with_reducible refine Ask.mk ?_);first|exact cw|exact cT|(intro h;simp_all[bj.cells]<;>fail)|(simp_all[bj.cells]<;>fail))|(apply aA;(·exact cA))|refine aH ?_|((with_reducible refine aB ?_ ?_)<;>intro hc<;>(try simp only[List.length_map,ne_eq,dC] at hc)<;>try(exfalso;omega)))
     refine dW (Eq.symm ?_)
     have e:u.shared.length+u.bo.length+u.bh.length=(cd u).length:=by simp only[cd,List.length_append,List.length_map];omega
     have hall:eI [] (cd u)=true:=by
      rw[←hq,e,List.drop_eq_nil_of_le (Nat.le_refl _)]
      cases(cd u).take (cd u).length<;>rfl
     unfold eQ
     rw[decide_eq_true hl.1,decide_eq_true hl.2.1,decide_eq_true hl.2.2,hall]
     simp only[Bool.true_and]
     rw[List.all_eq_true]
     intro d hd
     obtain⟨j,hj,rfl⟩:=List.getElem_of_mem hd
     have:=hw j hj
     rw[show u.bo.getD j default=u.bo[j] by simp[List.getD,hj]] at this
     exact decide_eq_true this
 ·have hb:eQ u=false:=by
   unfold eQ
   by_cases a1:u.shared.length≤64
   ·by_cases a2:u.bo.length≤16
    ·rw[decide_eq_false (fun a3=>hl ⟨a1,a2,a3⟩:¬u.bh.length≤8)];simp
    ·rw[decide_eq_false a2];simp
   ·rw[decide_eq_false a1];simp
  rw[hb]
  repeat' (first|((with_reducible refine aF ?_);conv=>whnf)|refine aG ?_|exact eO|with_reducible refine aD ?_ ?_|((with_reducible refine Ask.mk ?_);first|exact cw|exact cT|(intro h;simp_all[bj.cells]<;>fail)|(simp_all[bj.cells]<;>fail))|(apply aA;(·exact cA))|refine aH ?_|((with_reducible refine aB ?_ ?_)<;>intro hc<;>(try simp only[List.length_map,ne_eq,dC] at hc)<;>try(exfalso;omega)))
  exact rfl
end Go.Proofs.YtekfmjjmihomlaaGreat
end
section
/- Lists of numbers: cloned, and held one against another. -/
namespace Go.cV
open Go.RowKit
theorem Wk.OC {H:Hp} {nx b:Nat} {e:TypeId} {sz:Nat} {d:AV} {es es2:List AV} (d2:AV) (hb:bd H b=some (.row e sz d es)) (hl:es.length=es2.length) (h:∀c c2:Cx,c.le c2→c2.w=c.w→dA c c2 es es2):Wk .any H nx .any ((b,some (.row e sz d2 es2))::H) nx:=by
 refine Wk.tell (Nat.le_refl _) (fun x e' sz' d' es' he=> ?_) (fun w0 c c2 hS hU hc hc2 hw hle hnew hM=>⟨dQ.any _ _ _,fun x e' sz' d' es' d0 es0 h1 h2=> ?_⟩)
 ·by_cases hx:x=b
  ·subst hx
   rw[cI] at he
   cases he
   exact .inl ⟨d,es,hb,hl⟩
  ·rw[bz hx] at he
   exact .inl ⟨d',es',he,rfl⟩
 ·by_cases hx:x=b
  ·subst hx
   rw[cI] at h1
   rw[hb] at h2
   cases h1;cases h2
   exact h c c2 hle hw
  ·rw[bz hx] at h1
   rw[h1] at h2;cases h2
   exact dA.cO hle _
theorem dA.rep {c c2:Cx} {a b:AV} (h:dQ c c2 a b):∀n,dA c c2 (List.replicate n a) (List.replicate n b)
 |0=> .nil
 |n+1=> .cons h (dA.rep h n)
end Go.cV
namespace Go.Proofs.YtekfmjjmihomlaaGreat
open Go Go.cV Go.Proofs
set_option linter.unusedSimpArgs false
set_option linter.unusedVariables false
theorem ng {l:List Int} {i:Nat} (h:i<l.length) (d:AV):(l.map i64).getD i d=i64 (l.getD i 0):=cu i64 l i d h
theorem rZ {es:List AV} (hsz:es.length * 8≤140737488355328):cJ Tryz.prog 119 [.im 1 .any es] [] 0 (pg [] 0 3 1 es):=by
 refine pg.of (by omega) ?_
 refine aQ vq rfl ?_
 cases hes:es with
 |nil=>
  repeat' (first|((with_reducible refine aF ?_);conv=>whnf)|refine aG ?_|exact aC|with_reducible refine aD ?_ ?_|(apply aA;(·exact cA))|refine aH ?_|((with_reducible refine aB ?_ ?_)<;>intro hc<;>(try simp only[List.length_map,ne_eq,dC] at hc)<;>try(exfalso;omega)))
  ·exact⟨.inl ⟨rfl,rfl,cU,uj⟩⟩
  ·exact⟨.inr ⟨_,_,rfl,cU,cU,cU,bf,uj⟩⟩
 |cons x t=>
  rw[hes] at hsz
  simp only[List.length_cons] at hsz
  repeat' (first|((with_reducible refine aF ?_);conv=>whnf)|refine aG ?_|exact aC|with_reducible refine aD ?_ ?_|(apply aA;(·exact cA))|refine aH ?_|((with_reducible refine aB ?_ ?_)<;>intro hc<;>(try simp only[List.length_map,ne_eq,dC] at hc)<;>try(exfalso;omega)))
  ·exact⟨.inr ⟨3,_,(by simp),cU,cU,cU,bf,uj⟩⟩
theorem mJ {es:List AV} (hsz:es.length * 8≤140737488355328):cJ Tryz.prog 119 [.im 1 .any es] [] 0 (fun r1 H1 _=>∃b d0,r1= .sl b es.length∧bd H1 b=some (.row 3 1 d0 es)):=
 (rZ hsz).mono fun r H n ⟨b,d,h1,_,_,_,h2,_⟩=>⟨b,d,h1,h2⟩
theorem vJ (l m:List Int) (hl:l.length * 8≤140737488351232) (hm:m.length * 8≤140737488351232):Pure Tryz.prog 121 [fX l,fX m] (fun r=>r=bl (decide (l=m))):=by
 refine aI vt rfl ?_
 unfold fX
 repeat' (first|((with_reducible refine aF ?_);conv=>whnf)|refine aG ?_|exact aC|with_reducible refine aD ?_ ?_|(apply aA;(·exact cA))|refine aH ?_|((with_reducible refine aB ?_ ?_)<;>intro hc<;>(try simp only[List.length_map,ne_eq,dC] at hc)<;>try(exfalso;omega)))
 ·refine dW (Eq.symm ?_)
  exact decide_eq_false fun e=>hc (by rw[e])
 ·have hlm:l.length=m.length:=by omega
  refine aP (fun i:Nat=>[(0,fX l),(1,fX m),(12,i64 l.length),(13,i64 i)])
   (fun i H n=>i≤l.length∧∀j,j<i→l.getD j 0=m.getD j 0) (fun i=>l.length - i) 0 cC ⟨Nat.zero_le _,fun _ h=>by omega⟩ ?_
  unfold fX
  rintro i H n ⟨hi,hall⟩
  by_cases hil:i<l.length
  ·have e1:=ng (l:=l) hil
   have e2:=ng (l:=m) (i:=i) (by omega)
   repeat' (first|((with_reducible refine aF ?_);conv=>whnf)|refine aG ?_|exact aC|with_reducible refine aD ?_ ?_|(apply aA;(·(first|exact e1 _|exact e2 _|exact cA)))|refine aH ?_|((with_reducible refine aB ?_ ?_)<;>intro hc<;>(try simp only[List.length_map,ne_eq,dC] at hc)<;>try(exfalso;omega)))
   ·refine dW (Eq.symm ?_)
    exact decide_eq_false fun e=>hc (by rw[e])
   ·refine⟨i+1,by omega,cC,by omega,fun j hj=> ?_⟩
    by_cases hji:j=i
    ·subst hji;exact hc
    ·exact hall j (by omega)
  ·have:i=l.length:=by omega
   subst this
   repeat' (first|((with_reducible refine aF ?_);conv=>whnf)|refine aG ?_|exact aC|with_reducible refine aD ?_ ?_|(apply aA;(·exact cA))|refine aH ?_|((with_reducible refine aB ?_ ?_)<;>intro hc<;>(try simp only[List.length_map,ne_eq,dC] at hc)<;>try(exfalso;omega)))
   refine dW (Eq.symm ?_)
   refine decide_eq_true (List.ext_getElem hlm fun j h1 h2=> ?_)
   have:=hall j h1
   simpa[List.getD,h1,h2] using this
def Told (nv:AV) (l:List Int) (H:Hp) (nx:Nat):Prop:=nv=fX l∨∃b d,nv= .sl b l.length∧b<nx∧bd H b=some (.row 3 1 d (l.map i64))
theorem Told.dR {nv:AV} {l:List Int} {H:Hp} {nx:Nat} (h:Told nv l H nx) (k:Nat):cV.dR H (k+1) nv=fX l:=by
 rcases h with rfl|⟨b,d,rfl,_,hb⟩
 ·exact cr _ (by simp[bw,fX,bu])
 ·rw[dG hb (by simp),cc _ ((bu _ _).2 fun _ _=>by simp[bw])];rfl
theorem pf {nv:AV} {l:List Int} {H:Hp} {nx:Nat} (h:Told nv l H nx) (m:List Int) (hl:l.length * 8≤140737488351232) (hm:m.length * 8≤140737488351232):cJ Tryz.prog 121 [fX m,nv] H nx (fun r H' n=>r=bl (decide (m=l))∧H'=H∧n=nx):=by
 refine Pure.view (args2:=[fX m,fX l]) (vJ m l hm hl) ?_ (by simp[cP,bw,fX,bu]) trivial ⟨rfl,rfl,rfl⟩
 rw[List.map_cons,List.map_cons,List.map_nil,h.dR,cr 6 (by simp[bw,fX,bu])]
theorem k7 {nv:AV} {l:List Int} {H:Hp} {nx:Nat} (h:Told nv l H nx) (hl:l.length * 8≤140737488351232):cJ Tryz.prog 119 [nv] H nx (fun r H' n=>r=fX l∧nx≤n∧∀b,b<nx→bd H' b=bd H b):=by
 refine cJ.wk (cJ.NI (es:=l.map i64) (args2:=[fX l]) (mJ (by rw[List.length_map];omega)) (fun i hi=>by rw[cu i64 _ _ _ (by simpa using hi)];trivial) (by rw[List.map_cons,List.map_nil,h.dR]) (by simp[cP,bw,fX,bu])) ?_
 rintro r H' n ⟨rfl,rfl,rfl⟩
 have hw:=Wk.NM (r:= .sl nx (l.map i64).length) (H:=(nx,some (.row 3 1 .any (l.map i64)))::H) (nx:=nx+1) [(nx,some (.row 3 1 .any (l.map i64)))] 1 (fun b q hq=>by
  by_cases hb:b=nx
  ·subst hb;rw[cI] at hq ⊢;exact hq
  ·rw[bz hb] at hq;cases hq)
 refine⟨_,_,_,hw, ?_,by omega,fun b hb=> ?_⟩
 ·rw[yU (cI _ _ _) rfl,nc];rfl
 ·rw[kN,sk,bz (by omega),bz (by omega)]
end Go.Proofs.YtekfmjjmihomlaaGreat
end
section
/- Tables that grow till nothing changes, in plain data. -/
namespace Go.Proofs.YtekfmjjmihomlaaGreat
open Go Go.cV Go.Proofs
set_option linter.unusedSimpArgs false
set_option linter.unusedVariables false
abbrev xm:=List (List Bool)
def oJ (T:xm) (i k:Nat):Bool:=(T.getD i []).getD k false
def DX (T:xm) (i k:Nat):xm:=T.set i ((T.getD i []).set k true)
structure Shape (T:xm) (m n:Nat):Prop where
 len:T.length=m
 row:∀i,i<m→(T.getD i []).length=n
theorem eA {α:Type} (l:List α) (i j:Nat) (v d:α):(l.set i v).getD j d=if i=j∧i<l.length then v else l.getD j d:=by
 simp only[List.getD,List.getElem?_set]
 by_cases h:i=j
 ·subst h
  by_cases h2:i<l.length
  ·simp[h2]
  ·simp[h2]
 ·simp[h]
theorem IV {T:xm} {m n i k:Nat} (h:Shape T m n) (hi:i<m) (hk:k<n) (i' k':Nat):oJ (DX T i k) i' k'=if i=i'∧k=k' then true else oJ T i' k':=by
 unfold oJ DX
 rw[eA]
 by_cases h1:i=i'
 ·subst h1
  rw[if_pos ⟨rfl,by rw[h.len];exact hi⟩,eA]
  by_cases h2:k=k'
  ·subst h2;rw[if_pos ⟨rfl,by rw[h.row i hi];exact hk⟩,if_pos ⟨rfl,rfl⟩]
  ·rw[if_neg (fun h=>h2 h.1),if_neg (fun h=>h2 h.2)]
 ·rw[if_neg (fun h=>h1 h.1),if_neg (fun h=>h1 h.1)]
theorem Shape.set {T:xm} {m n:Nat} (h:Shape T m n) (i k:Nat):Shape (DX T i k) m n:=by
 refine⟨by simp[DX,h.len],fun j hj=> ?_⟩
 unfold DX
 rw[eA]
 split
 ·rename_i e;rw[List.length_set,e.1];exact h.row j hj
 ·exact h.row j hj
inductive OG (g:cB) (nP cO:Node→Nat→Bool) (k:Nat):Nat→Prop where
 |nP {i:Nat}:nP (g.nd i) k=true→OG g nP cO k i
 |on {i:Nat} {j:Int}:cO (g.nd i) k=true→j∈(g.nd i).gC→OG g nP cO k j.toNat→OG g nP cO k i
def M6 (T:xm) (n:Node) (k:Nat):Bool:=n.gC.any fun j=>oJ T j.toNat k
theorem ED (f:Int→Bool) (n:Node):n.fold.any f=n.gC.any f:=B6 (fun l=>l.any f) n (fun a=>by simp)
def vA (g:cB) (nP cO:Node→Nat→Bool) (T:xm) (i k:Nat):Bool:=nP (g.nd i) k||(cO (g.nd i) k&&M6 T (g.nd i) k)
structure Grow (g:cB) (nP cO:Node→Nat→Bool) (n:Nat) (T:xm):Prop where
 shape:Shape T g.nodes.length n
 sound:∀i k,oJ T i k=true→OG g nP cO k i
def tO (m n:Nat):xm:=List.replicate m (List.replicate n false)
theorem zd (m n i k:Nat):oJ (tO m n) i k=false:=by
 unfold oJ tO
 simp only[List.getD,List.getElem?_replicate]
 by_cases h:i<m
 ·simp only[h,if_true,Option.getD_some,List.getElem?_replicate];split<;>rfl
 ·simp[h]
theorem xT (m n:Nat):Shape (tO m n) m n:=⟨by simp[tO],fun i hi=>by simp[tO,List.getD,List.getElem?_replicate,hi]⟩
theorem Grow.start (g:cB) (nP cO:Node→Nat→Bool) (n:Nat):Grow g nP cO n (tO g.nodes.length n):=
 ⟨xT _ _,fun i k h=>by rw[zd] at h;cases h⟩
theorem uw {T:xm} {n:Node} {k:Nat}:M6 T n k=true↔∃j∈n.gC,oJ T j.toNat k=true:=by
 unfold M6;rw[List.any_eq_true]
theorem Grow.step {g:cB} {nP cO:Node→Nat→Bool} {n:Nat} {T:xm} (h:Grow g nP cO n T) {i k:Nat} (hi:i<g.nodes.length) (hk:k<n) (hc:vA g nP cO T i k=true):Grow g nP cO n (DX T i k):=by
 refine⟨h.shape.set i k,fun i' k' ht=> ?_⟩
 rw[IV h.shape hi hk] at ht
 split at ht
 ·rename_i e
  obtain⟨rfl,rfl⟩:=e
  unfold vA at hc
  rw[Bool.or_eq_true,Bool.and_eq_true] at hc
  rcases hc with h1|⟨h1,h2⟩
  ·exact .nP h1
  ·obtain⟨j,hj,h3⟩:=uw.1 h2
   exact .on h1 hj (h.sound _ _ h3)
 ·exact h.sound _ _ ht
open Classical in
noncomputable def BN (g:cB) (nP cO:Node→Nat→Bool) (n:Nat):xm:=(List.range g.nodes.length).map fun i=>(List.range n).map fun k=>decide (OG g nP cO k i)
theorem zV (g:cB) (nP cO:Node→Nat→Bool) (n:Nat):Shape (BN g nP cO n) g.nodes.length n:=⟨by simp[BN],fun i hi=>by simp[BN,List.getD,hi]⟩
theorem DU (g:cB) (nP cO:Node→Nat→Bool) (n:Nat) {i k:Nat} (hi:i<g.nodes.length) (hk:k<n):oJ (BN g nP cO n) i k=true↔OG g nP cO k i:=by
 simp[oJ,BN,List.getD,hi,hk]
theorem LP {T S:xm} {m n:Nat} (hT:Shape T m n) (hS:Shape S m n) (h:∀i k,i<m→k<n→oJ T i k=oJ S i k):T=S:=by
 apply List.ext_getElem (hT.len.trans hS.len.symm)
 intro i h1 h2
 have hi:i<m:=by rw[←hT.len];exact h1
 have e1:T.getD i []=T[i]:=by simp[List.getD,h1]
 have e2:S.getD i []=S[i]:=by simp[List.getD,h2]
 rw[←e1,←e2]
 apply List.ext_getElem ((hT.row i hi).trans (hS.row i hi).symm)
 intro k h3 h4
 have:=h i k hi (by rw[←hT.row i hi];exact h3)
 unfold oJ at this
 have g:∀(l:List Bool) (h:k<l.length),l[k]=l.getD k false:=fun l h=>by simp[List.getD,h]
 rw[g _ h3,g _ h4]
 exact this
theorem Grow.fin {g:cB} {nP cO:Node→Nat→Bool} {n:Nat} {T:xm} (hw:Whole g) (h:Grow g nP cO n T) (hc:∀i k,i<g.nodes.length→k<n→vA g nP cO T i k=true→oJ T i k=true):T=BN g nP cO n:=by
 refine LP h.shape (zV _ _ _ _) fun i k hi hk=> ?_
 rw[Bool.eq_iff_iff,DU g nP cO n hi hk]
 refine⟨h.sound i k,fun ha=> ?_⟩
 induction ha with
 |nP hb=>exact hc _ _ hi hk (by unfold vA;rw[hb];rfl)
 |@on i j hkp hj _ ih=>
  have hj2:=(hw.2.2 i hi).2.2 j hj
  have:=ih hj2.2
  refine hc _ _ hi hk ?_
  unfold vA
  rw[hkp,uw.2 ⟨j,hj,this⟩]
  simp
structure tP where
 kind:Int
 cS:Int
 lock:Int
 deriving Inhabited,DecidableEq
def tP.cells (c:tP):List AV:=[u8 c.kind,i64 c.cS,i64 c.lock]
abbrev tP.av (c:tP):AV:= .agg c.cells
end Go.Proofs.YtekfmjjmihomlaaGreat
end
section
/- The locks that are held, in plain data. -/
namespace Go.Proofs.YtekfmjjmihomlaaGreat
open Go Go.cV Go.Proofs
set_option linter.unusedSimpArgs false
set_option linter.unusedVariables false
structure RE (now:List Int) (l:List Int) (s s':HS):Prop where
 kS:s'.bo.length=s.bo.length
 mD:s'.found.length=s.found.length
 gK:∀k:Int,s.f k=true→s'.f k=true∧s'.l k=s.l k
 new:∀k:Int,0≤k→s'.f k=true→s.f k=true∨k∈l
 all:∀k∈l,s'.f k=true∧s'.l k=now
 bare:∀k:Int,0≤k→s'.f k=false→s'.l k=s.l k
 more:∃t,s'.todo=s.todo++t∧(∀k∈t,k∈l∧s'.f k=true)∧(∀k:Int,0≤k→s'.f k=true→s.f k=true∨k∈t)∧s'.found.count false+t.length=s.found.count false
theorem HS.sW {s:HS} {i:Nat} {L:List (List Int)} {td:List Int} (h:i<s.found.length) (k:Int):HS.f ⟨L,s.found.set i true,td⟩ k=if k.toNat=i then true else s.f k:=kM h k
theorem HS.MH {s:HS} {i:Nat} {now:List Int} {F:List Bool} {td:List Int} (h:i<s.bo.length) (k:Int):HS.l ⟨s.bo.set i now,F,td⟩ k=if k.toNat=i then now else s.l k:=by
 unfold HS.l
 simp only
 rw[eA]
 by_cases e:i=k.toNat
 ·rw[if_pos ⟨e,h⟩,if_pos e.symm]
 ·rw[if_neg (fun x=>e x.1),if_neg (fun x=>e x.symm)]
theorem ma (now:List Int):∀(l:List Int) (s s':HS),s.bo.length=s.found.length→(∀k∈l,0≤k∧k.toNat<s.found.length)→dL now l s= .inl s'→RE now l s s'
 |[],s,s',_,_,h=>by
  rw[dL] at h;cases h
  exact⟨rfl,rfl,fun _ h=>⟨h,rfl⟩,fun _ _ h=> .inl h,fun _ h=>by simp at h,fun _ _ _=>rfl,[],by simp,fun _ h=>by simp at h,fun _ _ h=> .inl h,by simp⟩
 |k::r,s,s',hl,hr,h=>by
  obtain⟨hk0,hk⟩:=hr k (by simp)
  have hr2:=fun x hx=>hr x (List.mem_cons_of_mem _ hx)
  rw[dL] at h
  by_cases hf:s.f k=false
  ·rw[if_pos hf] at h
   have ih:=ma now r _ s' (by simp[hl]) (fun x hx=>by simpa using hr2 x hx) h
   have fs:=fun x=>HS.sW (s:=s) (i:=k.toNat) (L:=s.bo.set k.toNat now) (td:=s.todo++[k]) hk x
   have ls:=fun x=>HS.MH (s:=s) (i:=k.toNat) (now:=now) (F:=s.found.set k.toNat true) (td:=s.todo++[k]) (by rw[hl];exact hk) x
   obtain⟨t,t1,t2,t3,t4⟩:=ih.more
   have hkk:=ih.gK k (by rw[fs,if_pos rfl])
   refine⟨ih.kS.trans (by simp),ih.mD.trans (by simp),fun x hx=> ?_,fun x hx0 hx=> ?_,fun x hx=> ?_,fun x hx0 hx=> ?_,k::t,by rw[t1];simp,fun x hx=> ?_,fun x hx0 hx=> ?_, ?_⟩
   ·have hne:x.toNat≠k.toNat:=fun e=>by unfold HS.f at hx hf;rw[e] at hx;rw[hx] at hf;cases hf
    have:=ih.gK x (by rw[fs,if_neg hne];exact hx)
    rw[ls,if_neg hne] at this
    exact this
   ·rcases ih.new x hx0 hx with h2|h2
    ·rw[fs] at h2
     split at h2
     ·rename_i e;exact .inr (by rw[show x=k by omega];simp)
     ·exact .inl h2
    ·exact .inr (List.mem_cons_of_mem _ h2)
   ·rcases List.mem_cons.1 hx with rfl|hx
    ·rw[ls,if_pos rfl] at hkk;exact hkk
    ·exact ih.all x hx
   ·have hne:x.toNat≠k.toNat:=fun e=>by
     have:=hkk.1
     rw[show k=x by omega,hx] at this;cases this
    have:=ih.bare x hx0 hx
    rw[ls,if_neg hne] at this
    exact this
   ·rcases List.mem_cons.1 hx with rfl|hx
    ·exact⟨by simp,hkk.1⟩
    ·exact⟨List.mem_cons_of_mem _ (t2 x hx).1,(t2 x hx).2⟩
   ·rcases t3 x hx0 hx with h2|h2
    ·rw[fs] at h2
     split at h2
     ·rename_i e;exact .inr (by rw[show x=k by omega];simp)
     ·exact .inl h2
    ·exact .inr (List.mem_cons_of_mem _ h2)
   ·have:=count_set hk hf
    rw[List.length_cons]
    dsimp only at t4
    omega
  ·rw[if_neg hf] at h
   have hkt:s.f k=true:=by simpa using hf
   by_cases hn:s.l k=now
   ·rw[if_pos hn] at h
    have ih:=ma now r s s' hl hr2 h
    obtain⟨t,t1,t2,t3,t4⟩:=ih.more
    refine⟨ih.kS,ih.mD,ih.gK,fun x hx0 hx=>(ih.new x hx0 hx).imp id (List.mem_cons_of_mem _),fun x hx=> ?_,ih.bare,t,t1,fun x hx=>⟨List.mem_cons_of_mem _ (t2 x hx).1,(t2 x hx).2⟩,t3,t4⟩
    rcases List.mem_cons.1 hx with rfl|hx
    ·have:=ih.gK _ hkt;rw[hn] at this;exact this
    ·exact ih.all x hx
   ·rw[if_neg hn] at h;cases h
structure HI (g:cB) (s:HS) (k:Nat):Prop where
 kS:s.bo.length=g.nodes.length
 mD:s.found.length=g.nodes.length
 zero:s.f 0=true
 first:s.l 0=[]
 vE:∀i:Int,0≤i→s.f i=true→ph g (-1) i
 bare:∀i:Int,0≤i→s.f i=false→s.l i=[]
 inr:∀i∈s.todo,0≤i∧i.toNat<g.nodes.length∧s.f i=true
 all:∀i:Int,0≤i→s.f i=true→i∈s.todo
 done:∀j,j<k→j<s.todo.length→∃now,dM (g.nd (s.todo.getD j 0).toNat) (s.l (s.todo.getD j 0))=some now∧∀to∈(g.nd (s.todo.getD j 0).toNat).gC,s.f to=true∧s.l to=now
 count:s.todo.length+s.found.count false=g.nodes.length
theorem HI.start {g:cB} (h:Whole g):HI g (p6 g) 0:=by
 have hl:=h.1
 have hf:∀k,HS.f (p6 g) k=decide (k.toNat=0):=fun k=>by
  have:=kM (l:=List.replicate g.nodes.length false) (i:=0) (by simp;omega) k
  unfold HS.f p6
  simp only
  unfold kd at this
  rw[this]
  by_cases e:k.toNat=0
  ·simp[e]
  ·rw[if_neg e,decide_eq_false e]
   simp only[List.getD,List.getElem?_replicate];split<;>rfl
 have hk:∀k,HS.l (p6 g) k=[]:=fun k=>by
  unfold HS.l p6;simp only[List.getD,List.getElem?_replicate];split<;>rfl
 refine⟨by simp[p6],by simp[p6],by rw[hf];simp,hk 0,fun i h0 hi=> ?_,fun i _ _=>hk i,fun i hi=> ?_,fun i h0 hi=> ?_,fun j hj=>by omega, ?_⟩
 ·rw[hf] at hi
  rw[show i=0 by have:=of_decide_eq_true hi;omega];exact .zero
 ·simp only[p6,List.mem_cons,List.not_mem_nil,or_false] at hi
  subst hi
  exact⟨by omega,by simp;omega,by rw[hf];simp⟩
 ·rw[hf] at hi
  rw[show i=0 by have:=of_decide_eq_true hi;omega];simp[p6]
 ·have:=count_set (l:=List.replicate g.nodes.length false) (i:=0) (by simp;omega) (by simp[List.getD,List.getElem?_replicate];split<;>rfl)
  simp only[List.count_replicate_self] at this
  simp only[p6,List.length_cons,List.length_nil]
  omega
theorem HI.next {g:cB} (hw:Whole g) {s s':HS} {k:Nat} (h:HI g s k) (hk:k<s.todo.length) {now:List Int} (hn:dM (g.nd (s.todo.getD k 0).toNat) (s.l (s.todo.getD k 0))=some now) (ht:dL now (g.nd (s.todo.getD k 0).toNat).gC s= .inl s'):HI g s' (k+1):=by
 have hm:=cX (0:Int) hk
 obtain⟨i1,i2,i3⟩:=h.inr _ hm
 have hfol:=(hw.2.2 _ i2).2.2
 have sp:=ma now _ s s' (by rw[h.kS,h.mD]) (fun x hx=>by rw[h.mD];exact hfol x hx) ht
 obtain⟨t,t1,t2,t3,t4⟩:=sp.more
 have hget:∀j,j<s.todo.length→s'.todo.getD j 0=s.todo.getD j 0:=fun j hj=>by
  rw[t1];simp[List.getD,List.getElem?_append,hj]
 refine⟨sp.kS.trans h.kS,sp.mD.trans h.mD,(sp.gK 0 h.zero).1,(sp.gK 0 h.zero).2.trans h.first,fun i h0 hi=> ?_,fun i h0 hi=> ?_,fun i hi=> ?_,fun i h0 hi=> ?_,fun j hj hjl=> ?_, ?_⟩
 ·rcases sp.new i h0 hi with h1|h1
  ·exact h.vE i h0 h1
  ·exact .step (h.vE _ i1 i3) (by omega) h1
 ·rw[sp.bare i h0 hi]
  refine h.bare i h0 ?_
  cases hq:s.f i with
  |false=>rfl
  |true=>rw[(sp.gK i hq).1] at hi;cases hi
 ·rw[t1] at hi
  rcases List.mem_append.1 hi with hi|hi
  ·obtain⟨a,b,c⟩:=h.inr i hi
   exact⟨a,b,(sp.gK i c).1⟩
  ·have:=hfol i (t2 i hi).1
   exact⟨this.1,this.2,(t2 i hi).2⟩
 ·rw[t1]
  rcases t3 i h0 hi with h1|h1
  ·exact List.mem_append_left _ (h.all i h0 h1)
  ·exact List.mem_append_right _ h1
 ·by_cases hjk:j=k
  ·subst hjk
   rw[hget _ hk]
   refine⟨now, ?_,sp.all⟩
   rw[(sp.gK _ i3).2]
   exact hn
  ·have hj2:j<s.todo.length:=by omega
   rw[hget _ hj2]
   obtain⟨now2,d1,d2⟩:=h.done j (by omega) hj2
   have hjm:=h.inr _ (cX (0:Int) hj2)
   refine⟨now2,by rw[(sp.gK _ hjm.2.2).2];exact d1,fun to hto=> ?_⟩
   obtain⟨e1,e2⟩:=d2 to hto
   rw[(sp.gK _ e1).2]
   exact⟨(sp.gK _ e1).1,e2⟩
 ·have:=h.count
  rw[t1,List.length_append]
  omega
structure QI (g:cB) (lk:Nat→List Int):Prop where
 zero:lk 0=[]
 on:∀i:Int,ph g (-1) i→∃now,dM (g.nd i.toNat) (lk i.toNat)=some now∧∀k∈(g.nd i.toNat).gC,lk k.toNat=now
theorem HI.fin {g:cB} {s:HS} {k:Nat} (hw:Whole g) (h:HI g s k) (hk:s.todo.length≤k):QI g (fun i=>s.bo.getD i [])∧∀i,i<g.nodes.length→(s.found.getD i false=true↔ph g (-1) i):=by
 have hall:∀i:Int,ph g (-1) i→0≤i∧s.f i=true:=fun i hi=>by
  induction hi with
  |zero=>exact⟨by omega,h.zero⟩
  |@step i j hi _ hj ih=>
   obtain⟨i0,hif⟩:=ih
   have hm:=h.all i i0 hif
   obtain⟨q,hq,e⟩:=List.getElem_of_mem hm
   have e2:s.todo.getD q 0=i:=by simp[List.getD,hq,e]
   obtain⟨now,_,d⟩:=h.done q (by omega) hq
   rw[e2] at d
   have h2:=(hw.2.2 i.toNat (h.inr i hm).2.1).2.2 j hj
   exact⟨h2.1,(d j hj).1⟩
 refine⟨⟨h.first,fun i hi=> ?_⟩,fun i hi=>⟨fun hf=>h.vE i (by omega) hf,fun hc=>(hall i hc).2⟩⟩
 obtain⟨i0,hif⟩:=hall i hi
 have hm:=h.all i i0 hif
 obtain⟨q,hq,e⟩:=List.getElem_of_mem hm
 have e2:s.todo.getD q 0=i:=by simp[List.getD,hq,e]
 obtain⟨now,d1,d⟩:=h.done q (by omega) hq
 rw[e2] at d1 d
 exact⟨now,d1,fun k hk=>(d k hk).2⟩
end Go.Proofs.YtekfmjjmihomlaaGreat
end
section
/- What is reached. -/
namespace Go.Proofs.YtekfmjjmihomlaaGreat
open Go Go.cV Go.Proofs
set_option linter.unusedSimpArgs false
set_option linter.unusedVariables false
theorem nk {n:Node} {k:Int}:k∈n.fold↔k∈n.gC:=by
 have:=ED (fun j=>decide (j=k)) n
 rw[Bool.eq_iff_iff,List.any_eq_true,List.any_eq_true] at this
 constructor
 ·intro h;obtain⟨x,h1,h2⟩:=this.1 ⟨k,h,by simp⟩;rw[←of_decide_eq_true h2];exact h1
 ·intro h;obtain⟨x,h1,h2⟩:=this.2 ⟨k,h,by simp⟩;rw[←of_decide_eq_true h2];exact h1
theorem E6 (n:Node):n.fold.length≤2:=by unfold Node.fold;split<;>(try split)<;>simp
theorem JX (n:Node):n.gC.length≤2:=by unfold Node.gC;split<;>(try split)<;>simp
theorem gd {α:Type} {l:List α} {q:Nat} (h:q<l.length) (d:α):l.getD q d=l[q]:=by simp[List.getD,h]
theorem gb {l:List Node} {i:Nat} (h:i<l.length) (d:AV):(l.map Node.av).getD ((i:Int).toNat) d=(l.getD i default).av:=by
 rw[Int.toNat_natCast];exact cu Node.av l i d h
theorem oz {l:List cB} {i:Nat} (h:i<l.length) (d:AV):(l.map cB.av).getD ((i:Int).toNat) d=(l.getD i default).av:=by
 rw[Int.toNat_natCast];exact cu cB.av l i d h
theorem kO {l:List Int} {i:Nat} (h:i<l.length) (d:AV):(l.map i64).getD ((i:Int).toNat) d=i64 (l.getD i 0):=by
 rw[Int.toNat_natCast];exact cu i64 l i d h
end Go.Proofs.YtekfmjjmihomlaaGreat
end
