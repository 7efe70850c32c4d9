import Derived.Test.YtjopoheligmmoaaGreatDoorM23
section
/- Are names and numbers right? -/
namespace Go.Proofs.YtjopoheligmmoaaGreatDoor
open Go Go.cZ Go.Proofs
set_option linter.unusedSimpArgs false
set_option linter.unusedVariables false
abbrev zy (E:List (ByteArray×Bool)):List AV:=qP (fun s:ByteArray=>Value.string s) bl E
theorem Z9 (E:List (ByteArray×Bool)) (t:ByteArray):mK true (.string t) (zy E) (bl false)=some (bl ((eh E t).getD false),(eh E t).isSome):=(C3 wT bl t E (bl false)).trans (by cases eh E t<;>rfl)
theorem aAH (E:List (ByteArray×Bool)) (t:ByteArray) (v:Bool):pD true (.string t) (zy E) (bl v)=some (zy (jA E t v)):=C4 wT bl t v E
def mP (l:List ByteArray):List (ByteArray×Bool):=l.map fun s=>(s,true)
def j7:List ByteArray→ByteArray→Bool
 |[],_=>false
 |a::l,s=>if s=a then true else j7 l s
theorem KP (l:List ByteArray) (s:ByteArray):(eh (mP l) s).getD false=j7 l s:=by
 induction l with
 |nil=>rfl
 |cons a l ih=>
  show((if s=a then some true else eh (mP l) s)).getD false=(if s=a then true else j7 l s)
  by_cases h:s=a
  ·rw[if_pos h,if_pos h];rfl
  ·rw[if_neg h,if_neg h,ih]
theorem PW (l:List ByteArray) (s:ByteArray) (h:j7 l s=false):jA (mP l) s true=mP (l++[s]):=by
 induction l with
 |nil=>rfl
 |cons a l ih=>
  rw[j7] at h
  by_cases e:s=a
  ·rw[if_pos e] at h;cases h
  ·rw[if_neg e] at h
   show(if s=a then(s,true)::mP l else(a,true)::jA (mP l) s true)=_
   rw[if_neg e,ih h];rfl
theorem rf (s:ByteArray) (hs:s.size≤140737488351232) (l:List ByteArray) (b m:Nat) (H:Hp) (nx:Nat) (e em:TypeId) (d dm:AV) (hb:bu H b=some (.row e 1 d [.mp m])) (hm:bu H m=some (.row em 0 dm (mapA (zy (mP l))))) (hbn:b<nx) (hmn:m<nx) (hbm:b≠m):
 cG Tryz.prog 114 [st s, .pt b 1 0 0] H nx (fun r H' n=>r=bl (l5 s&& !j7 l s)∧nx≤n∧(j7 l s=false→bu H' m=some (.row em 0 dm (mapA (zy (mP (l++[s]))))))∧∀y,y<nx→y≠m→bu H' y=bu H y):=by
 refine aM yh rfl ?_
 repeat' (first|((with_reducible refine aI ?_);conv=>whnf)|refine aG ?_|exact aC|with_reducible refine aD ?_ ?_|(apply aB;(·exact cS))|refine aK (J5 s hs) ?_|(apply aS (g:=some _);(·exact fun _=>Z9 _ _))|(apply aS (g:=none);(·exact fun _=>aAH _ _ _))|refine aH ?_|((with_reducible refine aA ?_ ?_)<;>intro hc<;>(try simp only[List.length_map,ne_eq,db] at hc)<;>try(exfalso;omega)))
 refine⟨⟨?_,ca,fun h=> ?_,fun y hy hym=> ?_⟩⟩
 ·rw[KP]
  refine fA ?_
  cases l5 s<;>cases j7 l s<;>rfl
 ·rw[←PW l s h]
  exact bw
 ·exact cD
def gY:List ByteArray→List ByteArray→Bool
 |_,[]=>true
 |acc,s::r=>if(l5 s&& !j7 acc s)=true then gY (acc++[s]) r else false
def cp (u:bx):List ByteArray:=u.shared.map Decl.name++(u.cE.map Decl.name++u.bz.map cF.name)
def fY (u:bx):Bool:=decide (u.shared.length≤64)&&decide (u.cE.length≤16)&&decide (u.bz.length≤8)&&gY [] (cp u)&&u.cE.all (fun d=>decide (d.word=0))
theorem ln (u:bx) {k:Nat} (hk:k<(cp u).length) (h:gY ((cp u).take k) ((cp u).drop k)=gY [] (cp u)) {s:ByteArray} (hs:(cp u).getD k default=s):
 (gY [] (cp u)=if(l5 s&& !j7 ((cp u).take k) s)=true then gY ((cp u).take (k+1)) ((cp u).drop (k+1)) else false)∧(cp u).take (k+1)=(cp u).take k++[s]:=by
 have e:(cp u)[k]=s:=by rw[←hs];simp[List.getD,hk]
 have e2:(cp u).take (k+1)=(cp u).take k++[s]:=by rw[List.take_succ_eq_append_getElem hk,e]
 refine⟨?_,e2⟩
 rw[←h,List.drop_eq_getElem_cons hk,gY,e,e2]
theorem TB (u:bx) {i:Nat} (h:i<u.shared.length):(cp u).getD i default=(u.shared.getD i default).name:=by
 simp[cp,List.getD,List.getElem?_append,h]
theorem TA (u:bx) {i:Nat} (h:i<u.cE.length):(cp u).getD (u.shared.length+i) default=(u.cE.getD i default).name:=by
 unfold cp
 rw[List.getD,List.getElem?_append_right (by simp),List.length_map,Nat.add_sub_cancel_left,List.getElem?_append_left (by simpa using h)]
 simp[List.getD,h]
theorem S9 (u:bx) {i:Nat} (h:i<u.bz.length):(cp u).getD (u.shared.length+u.cE.length+i) default=(u.bz.getD i default).name:=by
 unfold cp
 rw[List.getD,List.getElem?_append_right (by simp;omega),List.getElem?_append_right (by simp;omega)]
 simp only[List.length_map]
 rw[show u.shared.length+u.cE.length+i - u.shared.length - u.cE.length=i by omega]
 simp[List.getD,h]
set_option maxHeartbeats 4000000 in
theorem C6 (u:bx) (hu:u.Wf):Pure Tryz.prog 71 [u.av] (fun r=>r=bl (fY u)):=by
 refine aJ ON rfl ?_
 have h1:=hu.vO
 have h2:=hu.zm
 have h3:=hu.I8
 by_cases hl:u.shared.length≤64∧u.cE.length≤16∧u.bz.length≤8
 ·repeat' (first|((with_reducible refine aI ?_);conv=>whnf)|refine aG ?_|exact gG|with_reducible refine aD ?_ ?_|((with_reducible refine Ask.mk ?_);first|exact dz|exact dD|(intro h;simp_all[bx.cells]<;>fail)|(simp_all[bx.cells]<;>fail))|(apply aB;(·exact cS))|refine aH ?_|((with_reducible refine aA ?_ ?_)<;>intro hc<;>(try simp only[List.length_map,ne_eq,db] at hc)<;>try(exfalso;omega)))
  clear hc
  simp only[List.length_map]
  refine aN (fun i:Nat=>[(1, .pt 0 1 0 0),(4, .fn (.func 114) [] [.pt 19 1 0 0]),(30,ct u.shared),(31,i64 u.shared.length),(32,i64 i)]) (fun i H n=>i≤u.shared.length∧20≤n∧(∃d,bu H 0=some (.row 25 3 d [u.av]))∧(∃d,bu H 19=some (.row 178 1 d [.mp 18]))∧(∃d,bu H 18=some (.row 9 0 d (mapA (zy (mP ((cp u).take (i)))))))∧gY ((cp u).take (i)) ((cp u).drop (i))=gY [] (cp u)) (fun i=>u.shared.length - i) 0 cK ⟨Nat.zero_le _,ca,⟨_,bw⟩,⟨_,bw⟩,⟨_,bw⟩,rfl⟩ ?_
  rintro i H n ⟨hi,hn,⟨d0,r0⟩,⟨d19,r19⟩,⟨d18,r18⟩,hq⟩
  by_cases hil:i<u.shared.length
  ·have hk:i<(cp u).length:=by simp only[cp,List.length_append,List.length_map];omega
   have hs:(cp u).getD (i) default=(u.shared.getD i default).name:=TB u hil
   obtain⟨ha,ht⟩:=ln u hk hq hs
   have hsz:=(hu.shared _ (cR default hil)).name
   repeat' (first|((with_reducible refine aI ?_);conv=>whnf)|refine aG ?_|exact gG|with_reducible refine aD ?_ ?_|((with_reducible refine Ask.mk ?_);first|exact dz|exact dD|(intro h;simp_all[bx.cells,Decl.cells]<;>fail)|(simp_all[bx.cells,Decl.cells]<;>fail))|(apply aB;(·(first|exact MK|exact cS)))|refine aH ?_|((with_reducible refine aA ?_ ?_)<;>intro hc<;>(try simp only[List.length_map,ne_eq,db] at hc)<;>try(exfalso;omega)))
   refine aL (rf _ hsz ((cp u).take (i)) 19 18 _ _ _ _ _ _ bw bw ca ca (by decide)) ?_
   rintro _ H2 n2 ⟨rfl,hn2,hput,hf⟩
   have hn12:n≤n2:=Nat.le_trans ca hn2
   have r02:bu H2 0=some (.row 25 3 d0 [u.av]):=(hf 0 (Nat.lt_of_lt_of_le (by omega:0<n) ca) (by decide)).trans bw
   have r192:bu H2 19=some (.row 178 1 d19 [.mp 18]):=(hf 19 (Nat.lt_of_lt_of_le (by omega:19<n) ca) (by decide)).trans bw
   cases hg:(l5 (u.shared.getD i default).name&& !j7 ((cp u).take (i)) (u.shared.getD i default).name) with
   |false=>
    rw[hg,if_neg (by decide)] at ha
    have hb:fY u=false:=by unfold fY;rw[ha];simp
    rw[hb]
    repeat' (first|((with_reducible refine aI ?_);conv=>whnf)|refine aG ?_|exact gG|with_reducible refine aD ?_ ?_|((with_reducible refine Ask.mk ?_);first|exact dz|exact dD|(intro h;simp_all[bx.cells,Decl.cells]<;>fail)|(simp_all[bx.cells,Decl.cells]<;>fail))|(apply aB;(·exact cS))|refine aH ?_|((with_reducible refine aA ?_ ?_)<;>intro hc<;>(try simp only[List.length_map,ne_eq,db] at hc)<;>try(exfalso;omega)))
    exact rfl
   |true=>
    rw[hg,if_pos rfl] at ha
    have hnm:j7 ((cp u).take (i)) (u.shared.getD i default).name=false:=by revert hg;cases j7 ((cp u).take (i)) (u.shared.getD i default).name<;>simp
    have r182:=hput hnm
    rw[←ht] at r182
    clear hf hput
    repeat' (first|((with_reducible refine aI ?_);conv=>whnf)|refine aG ?_|exact gG|with_reducible refine aD ?_ ?_|((with_reducible refine Ask.mk ?_);first|exact dz|exact dD|(intro h;simp_all[bx.cells,Decl.cells]<;>fail)|(simp_all[bx.cells,Decl.cells]<;>fail))|(apply aB;(·exact cS))|refine aH ?_|((with_reducible refine aA ?_ ?_)<;>intro hc<;>(try simp only[List.length_map,ne_eq,db] at hc)<;>try(exfalso;omega)))
    exact⟨i+1,by omega,cK,by omega,by omega,⟨_,bw⟩,⟨_,bw⟩,⟨_,bw⟩,ha.symm⟩
  ·have hie:i=u.shared.length:=by omega
   subst hie
   repeat' (first|((with_reducible refine aI ?_);conv=>whnf)|refine aG ?_|exact gG|with_reducible refine aD ?_ ?_|((with_reducible refine Ask.mk ?_);first|exact dz|exact dD|(intro h;simp_all[bx.cells]<;>fail)|(simp_all[bx.cells]<;>fail))|(apply aB;(·exact cS))|refine aH ?_|((with_reducible refine aA ?_ ?_)<;>intro hc<;>(try simp only[List.length_map,ne_eq,db] at hc)<;>try(exfalso;omega)))
   refine aN (fun i:Nat=>[(1, .pt 0 1 0 0),(4, .fn (.func 114) [] [.pt 19 1 0 0]),(43,ct u.cE),(44,i64 u.cE.length),(45,i64 i)]) (fun i H n=>i≤u.cE.length∧20≤n∧(∃d,bu H 0=some (.row 25 3 d [u.av]))∧(∃d,bu H 19=some (.row 178 1 d [.mp 18]))∧(∃d,bu H 18=some (.row 9 0 d (mapA (zy (mP ((cp u).take (u.shared.length+i)))))))∧gY ((cp u).take (u.shared.length+i)) ((cp u).drop (u.shared.length+i))=gY [] (cp u)∧∀j,j<i→(u.cE.getD j default).word=0) (fun i=>u.cE.length - i) 0 cK ⟨Nat.zero_le _,ca,⟨_,bw⟩,⟨_,bw⟩,⟨_,by rw[Nat.add_zero];exact bw⟩,by rw[Nat.add_zero];exact hq,fun _ h=>by omega⟩ ?_
   clear r0 r19 r18 hq hc
   rintro i H n ⟨hi,hn,⟨d0,r0⟩,⟨d19,r19⟩,⟨d18,r18⟩,hq,hw⟩
   by_cases hil:i<u.cE.length
   ·have hk:u.shared.length+i<(cp u).length:=by simp only[cp,List.length_append,List.length_map];omega
    have hs:(cp u).getD (u.shared.length+i) default=(u.cE.getD i default).name:=TA u hil
    obtain⟨ha,ht⟩:=ln u hk hq hs
    have hsz:=(hu.cE _ (cR default hil)).name
    repeat' (first|((with_reducible refine aI ?_);conv=>whnf)|refine aG ?_|exact gG|with_reducible refine aD ?_ ?_|((with_reducible refine Ask.mk ?_);first|exact dz|exact dD|(intro h;simp_all[bx.cells,Decl.cells]<;>fail)|(simp_all[bx.cells,Decl.cells]<;>fail))|(apply aB;(·(first|exact MK|exact cS)))|refine aH ?_|((with_reducible refine aA ?_ ?_)<;>intro hc<;>(try simp only[List.length_map,ne_eq,db] at hc)<;>try(exfalso;omega)))
    refine aL (rf _ hsz ((cp u).take (u.shared.length+i)) 19 18 _ _ _ _ _ _ bw bw ca ca (by decide)) ?_
    rintro _ H2 n2 ⟨rfl,hn2,hput,hf⟩
    have hn12:n≤n2:=Nat.le_trans ca hn2
    have r02:bu H2 0=some (.row 25 3 d0 [u.av]):=(hf 0 (Nat.lt_of_lt_of_le (by omega:0<n) ca) (by decide)).trans bw
    have r192:bu H2 19=some (.row 178 1 d19 [.mp 18]):=(hf 19 (Nat.lt_of_lt_of_le (by omega:19<n) ca) (by decide)).trans bw
    cases hg:(l5 (u.cE.getD i default).name&& !j7 ((cp u).take (u.shared.length+i)) (u.cE.getD i default).name) with
    |false=>
     rw[hg,if_neg (by decide)] at ha
     have hb:fY u=false:=by unfold fY;rw[ha];simp
     rw[hb]
     clear hf hput
     repeat' (first|((with_reducible refine aI ?_);conv=>whnf)|refine aG ?_|exact gG|with_reducible refine aD ?_ ?_|((with_reducible refine Ask.mk ?_);first|exact dz|exact dD|(intro h;simp_all[bx.cells,Decl.cells]<;>fail)|(simp_all[bx.cells,Decl.cells]<;>fail))|(apply aB;(·exact cS))|refine aH ?_|((with_reducible refine aA ?_ ?_)<;>intro hc<;>(try simp only[List.length_map,ne_eq,db] at hc)<;>try(exfalso;omega)))
     exact rfl
    |true=>
     rw[hg,if_pos rfl] at ha
     have hnm:j7 ((cp u).take (u.shared.length+i)) (u.cE.getD i default).name=false:=by revert hg;cases j7 ((cp u).take (u.shared.length+i)) (u.cE.getD i default).name<;>simp
     have r182:=hput hnm
     rw[←ht] at r182
     obtain⟨d4,r4⟩:∃d,bu H2 (n+3)=some (.row 85 3 d [(u.cE.getD i default).av]):=⟨_,(hf (n+3) ca (by omega)).trans bw⟩
     clear hf hput
     repeat' (first|((with_reducible refine aI ?_);conv=>whnf)|refine aG ?_|exact gG|with_reducible refine aD ?_ ?_|((with_reducible refine Ask.mk ?_);first|exact dz|exact dD|(intro h;simp_all[bx.cells,Decl.cells]<;>fail)|(simp_all[bx.cells,Decl.cells]<;>fail))|(apply aB;(·exact cS))|refine aH ?_|((with_reducible refine aA ?_ ?_)<;>intro hc<;>(try simp only[List.length_map,ne_eq,db] at hc)<;>try(exfalso;omega)))
     ·have hb:fY u=false:=by
       unfold fY
       rw[Bool.and_eq_false_iff]
       right
       rw[Bool.eq_false_iff,ne_eq,List.all_eq_true]
       exact fun h=>(hc.resolve_left (by decide)) (of_decide_eq_true (h _ (cR default hil)))
      rw[hb]
     ·exact⟨i+1,by omega,cK,by omega,by omega,⟨_,bw⟩,⟨_,bw⟩,⟨_,bw⟩,ha.symm,fun j hj=>by
       by_cases hji:j=i
       ·rw[hji];exact hc.2
       ·exact hw j (by omega)⟩
   ·have hie:i=u.cE.length:=by omega
    subst hie
    repeat' (first|((with_reducible refine aI ?_);conv=>whnf)|refine aG ?_|exact gG|with_reducible refine aD ?_ ?_|((with_reducible refine Ask.mk ?_);first|exact dz|exact dD|(intro h;simp_all[bx.cells]<;>fail)|(simp_all[bx.cells]<;>fail))|(apply aB;(·exact cS))|refine aH ?_|((with_reducible refine aA ?_ ?_)<;>intro hc<;>(try simp only[List.length_map,ne_eq,db] at hc)<;>try(exfalso;omega)))
    refine aN (fun i:Nat=>[(1, .pt 0 1 0 0),(4, .fn (.func 114) [] [.pt 19 1 0 0]),(61,di u.bz),(62,i64 u.bz.length),(63,i64 i)]) (fun i H n=>i≤u.bz.length∧20≤n∧(∃d,bu H 0=some (.row 25 3 d [u.av]))∧(∃d,bu H 19=some (.row 178 1 d [.mp 18]))∧(∃d,bu H 18=some (.row 9 0 d (mapA (zy (mP ((cp u).take (u.shared.length+u.cE.length+i)))))))∧gY ((cp u).take (u.shared.length+u.cE.length+i)) ((cp u).drop (u.shared.length+u.cE.length+i))=gY [] (cp u)∧∀j,j<u.cE.length→(u.cE.getD j default).word=0) (fun i=>u.bz.length - i) 0 cK ⟨Nat.zero_le _,ca,⟨_,bw⟩,⟨_,bw⟩,⟨_,by rw[Nat.add_zero];exact bw⟩,by rw[Nat.add_zero];exact hq,hw⟩ ?_
    clear r0 r19 r18 hq hc hw
    rintro i H n ⟨hi,hn,⟨d0,r0⟩,⟨d19,r19⟩,⟨d18,r18⟩,hq,hw⟩
    by_cases hil:i<u.bz.length
    ·have hk:u.shared.length+u.cE.length+i<(cp u).length:=by simp only[cp,List.length_append,List.length_map];omega
     have hs:(cp u).getD (u.shared.length+u.cE.length+i) default=(u.bz.getD i default).name:=S9 u hil
     obtain⟨ha,ht⟩:=ln u hk hq hs
     have hsz:=(hu.bz _ (cR default hil)).name
     repeat' (first|((with_reducible refine aI ?_);conv=>whnf)|refine aG ?_|exact gG|with_reducible refine aD ?_ ?_|((with_reducible refine Ask.mk ?_);first|exact dz|exact dD|(intro h;simp_all[bx.cells,cF.cells]<;>fail)|(simp_all[bx.cells,cF.cells]<;>fail))|(apply aB;(·(first|exact V6|exact cS)))|refine aH ?_|((with_reducible refine aA ?_ ?_)<;>intro hc<;>(try simp only[List.length_map,ne_eq,db] at hc)<;>try(exfalso;omega)))
     refine aL (rf _ hsz ((cp u).take (u.shared.length+u.cE.length+i)) 19 18 _ _ _ _ _ _ bw bw ca ca (by decide)) ?_
     rintro _ H2 n2 ⟨rfl,hn2,hput,hf⟩
     have hn12:n≤n2:=Nat.le_trans ca hn2
     have r02:bu H2 0=some (.row 25 3 d0 [u.av]):=(hf 0 (Nat.lt_of_lt_of_le (by omega:0<n) ca) (by decide)).trans bw
     have r192:bu H2 19=some (.row 178 1 d19 [.mp 18]):=(hf 19 (Nat.lt_of_lt_of_le (by omega:19<n) ca) (by decide)).trans bw
     cases hg:(l5 (u.bz.getD i default).name&& !j7 ((cp u).take (u.shared.length+u.cE.length+i)) (u.bz.getD i default).name) with
     |false=>
      rw[hg,if_neg (by decide)] at ha
      have hb:fY u=false:=by unfold fY;rw[ha];simp
      rw[hb]
      repeat' (first|((with_reducible refine aI ?_);conv=>whnf)|refine aG ?_|exact gG|with_reducible refine aD ?_ ?_|((with_reducible refine Ask.mk ?_);first|exact dz|exact dD|(intro h;simp_all[bx.cells,cF.cells]<;>fail)|(simp_all[bx.cells,cF.cells]<;>fail))|(apply aB;(·exact cS))|refine aH ?_|((with_reducible refine aA ?_ ?_)<;>intro hc<;>(try simp only[List.length_map,ne_eq,db] at hc)<;>try(exfalso;omega)))
      exact rfl
     |true=>
      rw[hg,if_pos rfl] at ha
      have hnm:j7 ((cp u).take (u.shared.length+u.cE.length+i)) (u.bz.getD i default).name=false:=by revert hg;cases j7 ((cp u).take (u.shared.length+u.cE.length+i)) (u.bz.getD i default).name<;>simp
      have r182:=hput hnm
      rw[←ht] at r182
      clear hf hput
      repeat' (first|((with_reducible refine aI ?_);conv=>whnf)|refine aG ?_|exact gG|with_reducible refine aD ?_ ?_|((with_reducible refine Ask.mk ?_);first|exact dz|exact dD|(intro h;simp_all[bx.cells,cF.cells]<;>fail)|(simp_all[bx.cells,cF.cells]<;>fail))|(apply aB;(·exact cS))|refine aH ?_|((with_reducible refine aA ?_ ?_)<;>intro hc<;>(try simp only[List.length_map,ne_eq,db] at hc)<;>try(exfalso;omega)))
      exact⟨i+1,by omega,cK,by omega,by omega,⟨_,bw⟩,⟨_,bw⟩,⟨_,bw⟩,ha.symm,hw⟩
    ·have hie:i=u.bz.length:=by omega
     subst hie
     repeat' (first|((with_reducible refine aI ?_);conv=>whnf)|refine aG ?_|exact gG|with_reducible refine aD ?_ ?_|((with_reducible refine Ask.mk ?_);first|exact dz|exact dD|(intro h;simp_all[bx.cells]<;>fail)|(simp_all[bx.cells]<;>fail))|(apply aB;(·exact cS))|refine aH ?_|((with_reducible refine aA ?_ ?_)<;>intro hc<;>(try simp only[List.length_map,ne_eq,db] at hc)<;>try(exfalso;omega)))
     refine fA (Eq.symm ?_)
     have e:u.shared.length+u.cE.length+u.bz.length=(cp u).length:=by simp only[cp,List.length_append,List.length_map];omega
     have hall:gY [] (cp u)=true:=by
      rw[←hq,e,List.drop_eq_nil_of_le (Nat.le_refl _)]
      cases(cp u).take (cp u).length<;>rfl
     unfold fY
     rw[decide_eq_true hl.1,decide_eq_true hl.2.1,decide_eq_true hl.2.2,hall]
     simp only[Bool.true_and]
     rw[List.all_eq_true]
     intro d hd
     obtain⟨j,hj,rfl⟩:=List.getElem_of_mem hd
     have:=hw j hj
     rw[show u.cE.getD j default=u.cE[j] by simp[List.getD,hj]] at this
     exact decide_eq_true this
 ·have hb:fY u=false:=by
   unfold fY
   by_cases a1:u.shared.length≤64
   ·by_cases a2:u.cE.length≤16
    ·rw[decide_eq_false (fun a3=>hl ⟨a1,a2,a3⟩:¬u.bz.length≤8)];simp
    ·rw[decide_eq_false a2];simp
   ·rw[decide_eq_false a1];simp
  rw[hb]
  repeat' (first|((with_reducible refine aI ?_);conv=>whnf)|refine aG ?_|exact gG|with_reducible refine aD ?_ ?_|((with_reducible refine Ask.mk ?_);first|exact dz|exact dD|(intro h;simp_all[bx.cells]<;>fail)|(simp_all[bx.cells]<;>fail))|(apply aB;(·exact cS))|refine aH ?_|((with_reducible refine aA ?_ ?_)<;>intro hc<;>(try simp only[List.length_map,ne_eq,db] at hc)<;>try(exfalso;omega)))
  exact rfl
end Go.Proofs.YtjopoheligmmoaaGreatDoor
end
section
/- Lists of numbers: cloned, and held one against another. -/
namespace Go.cZ
open Go.RowKit
theorem Wk.ZC {H:Hp} {nx b:Nat} {e:TypeId} {sz:Nat} {d:AV} {es es2:List AV} (d2:AV) (hb:bu H b=some (.row e sz d es)) (hl:es.length=es2.length) (h:∀c c2:Cx,c.le c2→c2.w=c.w→dL c c2 es es2):Wk .any H nx .any ((b,some (.row e sz d2 es2))::H) nx:=by
 refine Wk.tell (Nat.le_refl _) (fun x e' sz' d' es' he=> ?_) (fun w0 c c2 hS hU hc hc2 hw hle hnew hM=>⟨dN.any _ _ _,fun x e' sz' d' es' d0 es0 h1 h2=> ?_⟩)
 ·by_cases hx:x=b
  ·subst hx
   rw[cq] at he
   cases he
   exact .inl ⟨d,es,hb,hl⟩
  ·rw[c8 hx] at he
   exact .inl ⟨d',es',he,rfl⟩
 ·by_cases hx:x=b
  ·subst hx
   rw[cq] at h1
   rw[hb] at h2
   cases h1;cases h2
   exact h c c2 hle hw
  ·rw[c8 hx] at h1
   rw[h1] at h2;cases h2
   exact dL.cU hle _
theorem dL.rep {c c2:Cx} {a b:AV} (h:dN c c2 a b):∀n,dL c c2 (List.replicate n a) (List.replicate n b)
 |0=> .nil
 |n+1=> .cons h (dL.rep h n)
end Go.cZ
namespace Go.Proofs.YtjopoheligmmoaaGreatDoor
open Go Go.cZ Go.Proofs
set_option linter.unusedSimpArgs false
set_option linter.unusedVariables false
theorem ow {l:List Int} {i:Nat} (h:i<l.length) (d:AV):(l.map i64).getD i d=i64 (l.getD i 0):=dQ i64 l i d h
theorem tj {es:List AV} (hsz:es.length * 8≤140737488355328):cG Tryz.prog 119 [.im 1 .any es] [] 0 (rU [] 0 3 1 es):=by
 refine rU.of (by omega) ?_
 refine aM ym rfl ?_
 cases hes:es with
 |nil=>
  repeat' (first|((with_reducible refine aI ?_);conv=>whnf)|refine aG ?_|exact aC|with_reducible refine aD ?_ ?_|(apply aB;(·exact cS))|refine aH ?_|((with_reducible refine aA ?_ ?_)<;>intro hc<;>(try simp only[List.length_map,ne_eq,db] at hc)<;>try(exfalso;omega)))
  ·exact⟨.inl ⟨rfl,rfl,ca,xU⟩⟩
  ·exact⟨.inr ⟨_,_,rfl,ca,ca,ca,bw,xU⟩⟩
 |cons x t=>
  rw[hes] at hsz
  simp only[List.length_cons] at hsz
  repeat' (first|((with_reducible refine aI ?_);conv=>whnf)|refine aG ?_|exact aC|with_reducible refine aD ?_ ?_|(apply aB;(·exact cS))|refine aH ?_|((with_reducible refine aA ?_ ?_)<;>intro hc<;>(try simp only[List.length_map,ne_eq,db] at hc)<;>try(exfalso;omega)))
  ·exact⟨.inr ⟨3,_,(by simp),ca,ca,ca,bw,xU⟩⟩
theorem nR {es:List AV} (hsz:es.length * 8≤140737488355328):cG Tryz.prog 119 [.im 1 .any es] [] 0 (fun r1 H1 _=>∃b d0,r1= .sl b es.length∧bu H1 b=some (.row 3 1 d0 es)):=
 (tj hsz).mono fun r H n ⟨b,d,h1,_,_,_,h2,_⟩=>⟨b,d,h1,h2⟩
theorem xp (l m:List Int) (hl:l.length * 8≤140737488351232) (hm:m.length * 8≤140737488351232):Pure Tryz.prog 121 [fX l,fX m] (fun r=>r=bl (decide (l=m))):=by
 refine aJ yo rfl ?_
 unfold fX
 repeat' (first|((with_reducible refine aI ?_);conv=>whnf)|refine aG ?_|exact aC|with_reducible refine aD ?_ ?_|(apply aB;(·exact cS))|refine aH ?_|((with_reducible refine aA ?_ ?_)<;>intro hc<;>(try simp only[List.length_map,ne_eq,db] at hc)<;>try(exfalso;omega)))
 ·refine fA (Eq.symm ?_)
  exact decide_eq_false fun e=>hc (by rw[e])
 ·have hlm:l.length=m.length:=by omega
  refine aN (fun i:Nat=>[(0,fX l),(1,fX m),(12,i64 l.length),(13,i64 i)])
   (fun i H n=>i≤l.length∧∀j,j<i→l.getD j 0=m.getD j 0) (fun i=>l.length - i) 0 cK ⟨Nat.zero_le _,fun _ h=>by omega⟩ ?_
  unfold fX
  rintro i H n ⟨hi,hall⟩
  by_cases hil:i<l.length
  ·have e1:=ow (l:=l) hil
   have e2:=ow (l:=m) (i:=i) (by omega)
   repeat' (first|((with_reducible refine aI ?_);conv=>whnf)|refine aG ?_|exact aC|with_reducible refine aD ?_ ?_|(apply aB;(·(first|exact e1 _|exact e2 _|exact cS)))|refine aH ?_|((with_reducible refine aA ?_ ?_)<;>intro hc<;>(try simp only[List.length_map,ne_eq,db] at hc)<;>try(exfalso;omega)))
   ·refine fA (Eq.symm ?_)
    exact decide_eq_false fun e=>hc (by rw[e])
   ·refine⟨i+1,by omega,cK,by omega,fun j hj=> ?_⟩
    by_cases hji:j=i
    ·subst hji;exact hc
    ·exact hall j (by omega)
  ·have:i=l.length:=by omega
   subst this
   repeat' (first|((with_reducible refine aI ?_);conv=>whnf)|refine aG ?_|exact aC|with_reducible refine aD ?_ ?_|(apply aB;(·exact cS))|refine aH ?_|((with_reducible refine aA ?_ ?_)<;>intro hc<;>(try simp only[List.length_map,ne_eq,db] at hc)<;>try(exfalso;omega)))
   refine fA (Eq.symm ?_)
   refine decide_eq_true (List.ext_getElem hlm fun j h1 h2=> ?_)
   have:=hall j h1
   simpa[List.getD,h1,h2] using this
def Told (nv:AV) (l:List Int) (H:Hp) (nx:Nat):Prop:=nv=fX l∨∃b d,nv= .sl b l.length∧b<nx∧bu H b=some (.row 3 1 d (l.map i64))
theorem Told.dV {nv:AV} {l:List Int} {H:Hp} {nx:Nat} (h:Told nv l H nx) (k:Nat):cZ.dV H (k+1) nv=fX l:=by
 rcases h with rfl|⟨b,d,rfl,_,hb⟩
 ·exact du _ (by simp[cI,fX,cB])
 ·rw[dc hb (by simp),cy _ ((cB _ _).2 fun _ _=>by simp[cI])];rfl
theorem rQ {nv:AV} {l:List Int} {H:Hp} {nx:Nat} (h:Told nv l H nx) (m:List Int) (hl:l.length * 8≤140737488351232) (hm:m.length * 8≤140737488351232):cG Tryz.prog 121 [fX m,nv] H nx (fun r H' n=>r=bl (decide (m=l))∧H'=H∧n=nx):=by
 refine Pure.view (args2:=[fX m,fX l]) (xp m l hm hl) ?_ (by simp[cX,cI,fX,cB]) trivial ⟨rfl,rfl,rfl⟩
 rw[List.map_cons,List.map_cons,List.map_nil,h.dV,du 6 (by simp[cI,fX,cB])]
theorem lT {nv:AV} {l:List Int} {H:Hp} {nx:Nat} (h:Told nv l H nx) (hl:l.length * 8≤140737488351232):cG Tryz.prog 119 [nv] H nx (fun r H' n=>r=fX l∧nx≤n∧∀b,b<nx→bu H' b=bu H b):=by
 refine cG.wk (cG.V3 (es:=l.map i64) (args2:=[fX l]) (nR (by rw[List.length_map];omega)) (fun i hi=>by rw[dQ i64 _ _ _ (by simpa using hi)];trivial) (by rw[List.map_cons,List.map_nil,h.dV]) (by simp[cX,cI,fX,cB])) ?_
 rintro r H' n ⟨rfl,rfl,rfl⟩
 have hw:=Wk.YG (r:= .sl nx (l.map i64).length) (H:=(nx,some (.row 3 1 .any (l.map i64)))::H) (nx:=nx+1) [(nx,some (.row 3 1 .any (l.map i64)))] 1 (fun b q hq=>by
  by_cases hb:b=nx
  ·subst hb;rw[cq] at hq ⊢;exact hq
  ·rw[c8 hb] at hq;cases hq)
 refine⟨_,_,_,hw, ?_,by omega,fun b hb=> ?_⟩
 ·rw[NU (cq _ _ _) rfl,se];rfl
 ·rw[nw,I7,c8 (by omega),c8 (by omega)]
end Go.Proofs.YtjopoheligmmoaaGreatDoor
end
section
/- Tables that grow till nothing changes, in plain data. -/
namespace Go.Proofs.YtjopoheligmmoaaGreatDoor
open Go Go.cZ Go.Proofs
set_option linter.unusedSimpArgs false
set_option linter.unusedVariables false
abbrev BK:=List (List Bool)
def pZ (T:BK) (i k:Nat):Bool:=(T.getD i []).getD k false
def K0 (T:BK) (i k:Nat):BK:=T.set i ((T.getD i []).set k true)
structure Shape (T:BK) (m n:Nat):Prop where
 len:T.length=m
 row:∀i,i<m→(T.getD i []).length=n
theorem fB {α:Type} (l:List α) (i j:Nat) (v d:α):(l.set i v).getD j d=if i=j∧i<l.length then v else l.getD j d:=by
 simp only[List.getD,List.getElem?_set]
 by_cases h:i=j
 ·subst h
  by_cases h2:i<l.length
  ·simp[h2]
  ·simp[h2]
 ·simp[h]
theorem P5 {T:BK} {m n i k:Nat} (h:Shape T m n) (hi:i<m) (hk:k<n) (i' k':Nat):pZ (K0 T i k) i' k'=if i=i'∧k=k' then true else pZ T i' k':=by
 unfold pZ K0
 rw[fB]
 by_cases h1:i=i'
 ·subst h1
  rw[if_pos ⟨rfl,by rw[h.len];exact hi⟩,fB]
  by_cases h2:k=k'
  ·subst h2;rw[if_pos ⟨rfl,by rw[h.row i hi];exact hk⟩,if_pos ⟨rfl,rfl⟩]
  ·rw[if_neg (fun h=>h2 h.1),if_neg (fun h=>h2 h.2)]
 ·rw[if_neg (fun h=>h1 h.1),if_neg (fun h=>h1 h.1)]
theorem Shape.set {T:BK} {m n:Nat} (h:Shape T m n) (i k:Nat):Shape (K0 T i k) m n:=by
 refine⟨by simp[K0,h.len],fun j hj=> ?_⟩
 unfold K0
 rw[fB]
 split
 ·rename_i e;rw[List.length_set,e.1];exact h.row j hj
 ·exact h.row j hj
inductive XE (g:cF) (oX cU:Node→Nat→Bool) (k:Nat):Nat→Prop where
 |oX {i:Nat}:oX (g.nd i) k=true→XE g oX cU k i
 |on {i:Nat} {j:Int}:cU (g.nd i) k=true→j∈(g.nd i).oO→XE g oX cU k j.toNat→XE g oX cU k i
def VM (T:BK) (n:Node) (k:Nat):Bool:=n.oO.any fun j=>pZ T j.toNat k
theorem LU (f:Int→Bool) (n:Node):n.fold.any f=n.oO.any f:=IW (fun l=>l.any f) n (fun a=>by simp)
def xf (g:cF) (oX cU:Node→Nat→Bool) (T:BK) (i k:Nat):Bool:=oX (g.nd i) k||(cU (g.nd i) k&&VM T (g.nd i) k)
structure Grow (g:cF) (oX cU:Node→Nat→Bool) (n:Nat) (T:BK):Prop where
 shape:Shape T g.nodes.length n
 sound:∀i k,pZ T i k=true→XE g oX cU k i
def vc (m n:Nat):BK:=List.replicate m (List.replicate n false)
theorem EG (m n i k:Nat):pZ (vc m n) i k=false:=by
 unfold pZ vc
 simp only[List.getD,List.getElem?_replicate]
 by_cases h:i<m
 ·simp only[h,if_true,Option.getD_some,List.getElem?_replicate];split<;>rfl
 ·simp[h]
theorem AT (m n:Nat):Shape (vc m n) m n:=⟨by simp[vc],fun i hi=>by simp[vc,List.getD,List.getElem?_replicate,hi]⟩
theorem Grow.start (g:cF) (oX cU:Node→Nat→Bool) (n:Nat):Grow g oX cU n (vc g.nodes.length n):=
 ⟨AT _ _,fun i k h=>by rw[EG] at h;cases h⟩
theorem x9 {T:BK} {n:Node} {k:Nat}:VM T n k=true↔∃j∈n.oO,pZ T j.toNat k=true:=by
 unfold VM;rw[List.any_eq_true]
theorem Grow.step {g:cF} {oX cU:Node→Nat→Bool} {n:Nat} {T:BK} (h:Grow g oX cU n T) {i k:Nat} (hi:i<g.nodes.length) (hk:k<n) (hc:xf g oX cU T i k=true):Grow g oX cU n (K0 T i k):=by
 refine⟨h.shape.set i k,fun i' k' ht=> ?_⟩
 rw[P5 h.shape hi hk] at ht
 split at ht
 ·rename_i e
  obtain⟨rfl,rfl⟩:=e
  unfold xf at hc
  rw[Bool.or_eq_true,Bool.and_eq_true] at hc
  rcases hc with h1|⟨h1,h2⟩
  ·exact .oX h1
  ·obtain⟨j,hj,h3⟩:=x9.1 h2
   exact .on h1 hj (h.sound _ _ h3)
 ·exact h.sound _ _ ht
open Classical in
noncomputable def H8 (g:cF) (oX cU:Node→Nat→Bool) (n:Nat):BK:=(List.range g.nodes.length).map fun i=>(List.range n).map fun k=>decide (XE g oX cU k i)
theorem D0 (g:cF) (oX cU:Node→Nat→Bool) (n:Nat):Shape (H8 g oX cU n) g.nodes.length n:=⟨by simp[H8],fun i hi=>by simp[H8,List.getD,hi]⟩
theorem KZ (g:cF) (oX cU:Node→Nat→Bool) (n:Nat) {i k:Nat} (hi:i<g.nodes.length) (hk:k<n):pZ (H8 g oX cU n) i k=true↔XE g oX cU k i:=by
 simp[pZ,H8,List.getD,hi,hk]
theorem T3 {T S:BK} {m n:Nat} (hT:Shape T m n) (hS:Shape S m n) (h:∀i k,i<m→k<n→pZ T i k=pZ S i k):T=S:=by
 apply List.ext_getElem (hT.len.trans hS.len.symm)
 intro i h1 h2
 have hi:i<m:=by rw[←hT.len];exact h1
 have e1:T.getD i []=T[i]:=by simp[List.getD,h1]
 have e2:S.getD i []=S[i]:=by simp[List.getD,h2]
 rw[←e1,←e2]
 apply List.ext_getElem ((hT.row i hi).trans (hS.row i hi).symm)
 intro k h3 h4
 have:=h i k hi (by rw[←hT.row i hi];exact h3)
 unfold pZ at this
 have g:∀(l:List Bool) (h:k<l.length),l[k]=l.getD k false:=fun l h=>by simp[List.getD,h]
 rw[g _ h3,g _ h4]
 exact this
theorem Grow.fin {g:cF} {oX cU:Node→Nat→Bool} {n:Nat} {T:BK} (hw:Whole g) (h:Grow g oX cU n T) (hc:∀i k,i<g.nodes.length→k<n→xf g oX cU T i k=true→pZ T i k=true):T=H8 g oX cU n:=by
 refine T3 h.shape (D0 _ _ _ _) fun i k hi hk=> ?_
 rw[Bool.eq_iff_iff,KZ g oX cU n hi hk]
 refine⟨h.sound i k,fun ha=> ?_⟩
 induction ha with
 |oX hb=>exact hc _ _ hi hk (by unfold xf;rw[hb];rfl)
 |@on i j hkp hj _ ih=>
  have hj2:=(hw.2.2 i hi).2.2 j hj
  have:=ih hj2.2
  refine hc _ _ hi hk ?_
  unfold xf
  rw[hkp,x9.2 ⟨j,hj,this⟩]
  simp
structure vd where
 kind:Int
 df:Int
 lock:Int
 deriving Inhabited,DecidableEq
def vd.cells (c:vd):List AV:=[u8 c.kind,i64 c.df,i64 c.lock]
abbrev vd.av (c:vd):AV:= .agg c.cells
end Go.Proofs.YtjopoheligmmoaaGreatDoor
end
section
/- The locks that are held, in plain data. -/
namespace Go.Proofs.YtjopoheligmmoaaGreatDoor
open Go Go.cZ Go.Proofs
set_option linter.unusedSimpArgs false
set_option linter.unusedVariables false
structure HTo (now:List Int) (l:List Int) (s s':HS):Prop where
 pA:s'.cE.length=s.cE.length
 qw:s'.found.length=s.found.length
 gR:∀k:Int,s.f k=true→s'.f k=true∧s'.l k=s.l k
 new:∀k:Int,0≤k→s'.f k=true→s.f k=true∨k∈l
 all:∀k∈l,s'.f k=true∧s'.l k=now
 bare:∀k:Int,0≤k→s'.f k=false→s'.l k=s.l k
 more:∃t,s'.todo=s.todo++t∧(∀k∈t,k∈l∧s'.f k=true)∧(∀k:Int,0≤k→s'.f k=true→s.f k=true∨k∈t)∧s'.found.count false+t.length=s.found.count false
theorem HS.ud {s:HS} {i:Nat} {L:List (List Int)} {td:List Int} (h:i<s.found.length) (k:Int):HS.f ⟨L,s.found.set i true,td⟩ k=if k.toNat=i then true else s.f k:=lJ h k
theorem HS.US {s:HS} {i:Nat} {now:List Int} {F:List Bool} {td:List Int} (h:i<s.cE.length) (k:Int):HS.l ⟨s.cE.set i now,F,td⟩ k=if k.toNat=i then now else s.l k:=by
 unfold HS.l
 simp only
 rw[fB]
 by_cases e:i=k.toNat
 ·rw[if_pos ⟨e,h⟩,if_pos e.symm]
 ·rw[if_neg (fun x=>e x.1),if_neg (fun x=>e x.symm)]
theorem oA (now:List Int):∀(l:List Int) (s s':HS),s.cE.length=s.found.length→(∀k∈l,0≤k∧k.toNat<s.found.length)→de now l s= .inl s'→HTo now l s s'
 |[],s,s',_,_,h=>by
  rw[de] at h;cases h
  exact⟨rfl,rfl,fun _ h=>⟨h,rfl⟩,fun _ _ h=> .inl h,fun _ h=>by simp at h,fun _ _ _=>rfl,[],by simp,fun _ h=>by simp at h,fun _ _ h=> .inl h,by simp⟩
 |k::r,s,s',hl,hr,h=>by
  obtain⟨hk0,hk⟩:=hr k (by simp)
  have hr2:=fun x hx=>hr x (List.mem_cons_of_mem _ hx)
  rw[de] at h
  by_cases hf:s.f k=false
  ·rw[if_pos hf] at h
   have ih:=oA now r _ s' (by simp[hl]) (fun x hx=>by simpa using hr2 x hx) h
   have fs:=fun x=>HS.ud (s:=s) (i:=k.toNat) (L:=s.cE.set k.toNat now) (td:=s.todo++[k]) hk x
   have ls:=fun x=>HS.US (s:=s) (i:=k.toNat) (now:=now) (F:=s.found.set k.toNat true) (td:=s.todo++[k]) (by rw[hl];exact hk) x
   obtain⟨t,t1,t2,t3,t4⟩:=ih.more
   have hkk:=ih.gR k (by rw[fs,if_pos rfl])
   refine⟨ih.pA.trans (by simp),ih.qw.trans (by simp),fun x hx=> ?_,fun x hx0 hx=> ?_,fun x hx=> ?_,fun x hx0 hx=> ?_,k::t,by rw[t1];simp,fun x hx=> ?_,fun x hx0 hx=> ?_, ?_⟩
   ·have hne:x.toNat≠k.toNat:=fun e=>by unfold HS.f at hx hf;rw[e] at hx;rw[hx] at hf;cases hf
    have:=ih.gR x (by rw[fs,if_neg hne];exact hx)
    rw[ls,if_neg hne] at this
    exact this
   ·rcases ih.new x hx0 hx with h2|h2
    ·rw[fs] at h2
     split at h2
     ·rename_i e;exact .inr (by rw[show x=k by omega];simp)
     ·exact .inl h2
    ·exact .inr (List.mem_cons_of_mem _ h2)
   ·rcases List.mem_cons.1 hx with rfl|hx
    ·rw[ls,if_pos rfl] at hkk;exact hkk
    ·exact ih.all x hx
   ·have hne:x.toNat≠k.toNat:=fun e=>by
     have:=hkk.1
     rw[show k=x by omega,hx] at this;cases this
    have:=ih.bare x hx0 hx
    rw[ls,if_neg hne] at this
    exact this
   ·rcases List.mem_cons.1 hx with rfl|hx
    ·exact⟨by simp,hkk.1⟩
    ·exact⟨List.mem_cons_of_mem _ (t2 x hx).1,(t2 x hx).2⟩
   ·rcases t3 x hx0 hx with h2|h2
    ·rw[fs] at h2
     split at h2
     ·rename_i e;exact .inr (by rw[show x=k by omega];simp)
     ·exact .inl h2
    ·exact .inr (List.mem_cons_of_mem _ h2)
   ·have:=count_set hk hf
    rw[List.length_cons]
    dsimp only at t4
    omega
  ·rw[if_neg hf] at h
   have hkt:s.f k=true:=by simpa using hf
   by_cases hn:s.l k=now
   ·rw[if_pos hn] at h
    have ih:=oA now r s s' hl hr2 h
    obtain⟨t,t1,t2,t3,t4⟩:=ih.more
    refine⟨ih.pA,ih.qw,ih.gR,fun x hx0 hx=>(ih.new x hx0 hx).imp id (List.mem_cons_of_mem _),fun x hx=> ?_,ih.bare,t,t1,fun x hx=>⟨List.mem_cons_of_mem _ (t2 x hx).1,(t2 x hx).2⟩,t3,t4⟩
    rcases List.mem_cons.1 hx with rfl|hx
    ·have:=ih.gR _ hkt;rw[hn] at this;exact this
    ·exact ih.all x hx
   ·rw[if_neg hn] at h;cases h
structure HI (g:cF) (s:HS) (k:Nat):Prop where
 pA:s.cE.length=g.nodes.length
 qw:s.found.length=g.nodes.length
 zero:s.f 0=true
 first:s.l 0=[]
 oZ:∀i:Int,0≤i→s.f i=true→la g (-1) i
 bare:∀i:Int,0≤i→s.f i=false→s.l i=[]
 inr:∀i∈s.todo,0≤i∧i.toNat<g.nodes.length∧s.f i=true
 all:∀i:Int,0≤i→s.f i=true→i∈s.todo
 done:∀j,j<k→j<s.todo.length→∃now,dj (g.nd (s.todo.getD j 0).toNat) (s.l (s.todo.getD j 0))=some now∧∀to∈(g.nd (s.todo.getD j 0).toNat).oO,s.f to=true∧s.l to=now
 count:s.todo.length+s.found.count false=g.nodes.length
theorem HI.start {g:cF} (h:Whole g):HI g (wR g) 0:=by
 have hl:=h.1
 have hf:∀k,HS.f (wR g) k=decide (k.toNat=0):=fun k=>by
  have:=lJ (l:=List.replicate g.nodes.length false) (i:=0) (by simp;omega) k
  unfold HS.f wR
  simp only
  unfold mn at this
  rw[this]
  by_cases e:k.toNat=0
  ·simp[e]
  ·rw[if_neg e,decide_eq_false e]
   simp only[List.getD,List.getElem?_replicate];split<;>rfl
 have hk:∀k,HS.l (wR g) k=[]:=fun k=>by
  unfold HS.l wR;simp only[List.getD,List.getElem?_replicate];split<;>rfl
 refine⟨by simp[wR],by simp[wR],by rw[hf];simp,hk 0,fun i h0 hi=> ?_,fun i _ _=>hk i,fun i hi=> ?_,fun i h0 hi=> ?_,fun j hj=>by omega, ?_⟩
 ·rw[hf] at hi
  rw[show i=0 by have:=of_decide_eq_true hi;omega];exact .zero
 ·simp only[wR,List.mem_cons,List.not_mem_nil,or_false] at hi
  subst hi
  exact⟨by omega,by simp;omega,by rw[hf];simp⟩
 ·rw[hf] at hi
  rw[show i=0 by have:=of_decide_eq_true hi;omega];simp[wR]
 ·have:=count_set (l:=List.replicate g.nodes.length false) (i:=0) (by simp;omega) (by simp[List.getD,List.getElem?_replicate];split<;>rfl)
  simp only[List.count_replicate_self] at this
  simp only[wR,List.length_cons,List.length_nil]
  omega
theorem HI.next {g:cF} (hw:Whole g) {s s':HS} {k:Nat} (h:HI g s k) (hk:k<s.todo.length) {now:List Int} (hn:dj (g.nd (s.todo.getD k 0).toNat) (s.l (s.todo.getD k 0))=some now) (ht:de now (g.nd (s.todo.getD k 0).toNat).oO s= .inl s'):HI g s' (k+1):=by
 have hm:=cR (0:Int) hk
 obtain⟨i1,i2,i3⟩:=h.inr _ hm
 have hfol:=(hw.2.2 _ i2).2.2
 have sp:=oA now _ s s' (by rw[h.pA,h.qw]) (fun x hx=>by rw[h.qw];exact hfol x hx) ht
 obtain⟨t,t1,t2,t3,t4⟩:=sp.more
 have hget:∀j,j<s.todo.length→s'.todo.getD j 0=s.todo.getD j 0:=fun j hj=>by
  rw[t1];simp[List.getD,List.getElem?_append,hj]
 refine⟨sp.pA.trans h.pA,sp.qw.trans h.qw,(sp.gR 0 h.zero).1,(sp.gR 0 h.zero).2.trans h.first,fun i h0 hi=> ?_,fun i h0 hi=> ?_,fun i hi=> ?_,fun i h0 hi=> ?_,fun j hj hjl=> ?_, ?_⟩
 ·rcases sp.new i h0 hi with h1|h1
  ·exact h.oZ i h0 h1
  ·exact .step (h.oZ _ i1 i3) (by omega) h1
 ·rw[sp.bare i h0 hi]
  refine h.bare i h0 ?_
  cases hq:s.f i with
  |false=>rfl
  |true=>rw[(sp.gR i hq).1] at hi;cases hi
 ·rw[t1] at hi
  rcases List.mem_append.1 hi with hi|hi
  ·obtain⟨a,b,c⟩:=h.inr i hi
   exact⟨a,b,(sp.gR i c).1⟩
  ·have:=hfol i (t2 i hi).1
   exact⟨this.1,this.2,(t2 i hi).2⟩
 ·rw[t1]
  rcases t3 i h0 hi with h1|h1
  ·exact List.mem_append_left _ (h.all i h0 h1)
  ·exact List.mem_append_right _ h1
 ·by_cases hjk:j=k
  ·subst hjk
   rw[hget _ hk]
   refine⟨now, ?_,sp.all⟩
   rw[(sp.gR _ i3).2]
   exact hn
  ·have hj2:j<s.todo.length:=by omega
   rw[hget _ hj2]
   obtain⟨now2,d1,d2⟩:=h.done j (by omega) hj2
   have hjm:=h.inr _ (cR (0:Int) hj2)
   refine⟨now2,by rw[(sp.gR _ hjm.2.2).2];exact d1,fun to hto=> ?_⟩
   obtain⟨e1,e2⟩:=d2 to hto
   rw[(sp.gR _ e1).2]
   exact⟨(sp.gR _ e1).1,e2⟩
 ·have:=h.count
  rw[t1,List.length_append]
  omega
structure QN (g:cF) (lk:Nat→List Int):Prop where
 zero:lk 0=[]
 on:∀i:Int,la g (-1) i→∃now,dj (g.nd i.toNat) (lk i.toNat)=some now∧∀k∈(g.nd i.toNat).oO,lk k.toNat=now
theorem HI.fin {g:cF} {s:HS} {k:Nat} (hw:Whole g) (h:HI g s k) (hk:s.todo.length≤k):QN g (fun i=>s.cE.getD i [])∧∀i,i<g.nodes.length→(s.found.getD i false=true↔la g (-1) i):=by
 have hall:∀i:Int,la g (-1) i→0≤i∧s.f i=true:=fun i hi=>by
  induction hi with
  |zero=>exact⟨by omega,h.zero⟩
  |@step i j hi _ hj ih=>
   obtain⟨i0,hif⟩:=ih
   have hm:=h.all i i0 hif
   obtain⟨q,hq,e⟩:=List.getElem_of_mem hm
   have e2:s.todo.getD q 0=i:=by simp[List.getD,hq,e]
   obtain⟨now,_,d⟩:=h.done q (by omega) hq
   rw[e2] at d
   have h2:=(hw.2.2 i.toNat (h.inr i hm).2.1).2.2 j hj
   exact⟨h2.1,(d j hj).1⟩
 refine⟨⟨h.first,fun i hi=> ?_⟩,fun i hi=>⟨fun hf=>h.oZ i (by omega) hf,fun hc=>(hall i hc).2⟩⟩
 obtain⟨i0,hif⟩:=hall i hi
 have hm:=h.all i i0 hif
 obtain⟨q,hq,e⟩:=List.getElem_of_mem hm
 have e2:s.todo.getD q 0=i:=by simp[List.getD,hq,e]
 obtain⟨now,d1,d⟩:=h.done q (by omega) hq
 rw[e2] at d1 d
 exact⟨now,d1,fun k hk=>(d k hk).2⟩
theorem sa {g:cF} (hw:Whole g):∀(f:Nat) (s:HS) (k:Nat),HI g s k→k+f=g.nodes.length+1→(fe g f s k).2<0→(fe g f s k).2=-1∧∃s' k',HI g s' k'∧s'.todo.length≤k'∧(fe g f s k).1=s'.cE
 |0,s,k,h,he,_=>by
  have:=h.count
  exact⟨rfl,s,k,h,by omega,rfl⟩
 |f+1,s,k,h,he,hneg=>by
  rw[fe] at hneg ⊢
  by_cases hk:k<s.todo.length
  ·rw[if_pos hk] at hneg ⊢
   have hm:=(h.inr _ (cR (0:Int) hk))
   cases hn:dj (g.nd (s.todo.getD k 0).toNat) (s.l (s.todo.getD k 0)) with
   |none=>rw[hn] at hneg;simp only at hneg;omega
   |some now=>
    rw[hn] at hneg
    simp only at hneg ⊢
    cases ht:de now (g.nd (s.todo.getD k 0).toNat).oO s with
    |inl s'=>
     rw[ht] at hneg
     exact sa hw f s' (k+1) (h.next hw hk hn ht) (by omega) hneg
    |inr a=>
     rw[ht] at hneg
     simp only at hneg
     exfalso
     have hfol:=(hw.2.2 _ hm.2.1).2.2
     have:∀(l:List Int) (s:HS),(∀x∈l,0≤x)→de now l s= .inr a→0≤a:=by
      intro l
      induction l with
      |nil=>intro s _ h;rw[de] at h;cases h
      |cons x r ih=>
       intro s hx h
       rw[de] at h
       split at h
       ·exact ih _ (fun y hy=>hx y (List.mem_cons_of_mem _ hy)) h
       ·split at h
        ·exact ih _ (fun y hy=>hx y (List.mem_cons_of_mem _ hy)) h
        ·cases h;exact hx _ (by simp)
     have:=this _ _ (fun x hx=>(hfol x hx).1) ht
     omega
  ·rw[if_neg hk]
   exact⟨rfl,s,k,h,by omega,rfl⟩
theorem kZ {g:cF} (hw:Whole g) (h:(eO g).2<0):(eO g).2=-1∧(eO g).1.length=g.nodes.length∧QN g (fun i=>(eO g).1.getD i [])∧∀i,i<g.nodes.length→¬la g (-1) i→(eO g).1.getD i []=[]:=by
 obtain⟨h1,s,k,hi,hk,e⟩:=sa hw _ _ _ (HI.start hw) (by omega) h
 refine⟨h1, ?_, ?_,fun i hl hc=> ?_⟩
 ·unfold eO;rw[e];exact hi.pA
 ·unfold eO;rw[e];exact(hi.fin hw hk).1
 ·unfold eO;rw[e]
  have hf:=mt ((hi.fin hw hk).2 i hl).1 hc
  have:=hi.bare i (by omega) (by simpa[HS.f] using hf)
  exact this
end Go.Proofs.YtjopoheligmmoaaGreatDoor
end
section
/- What is reached. -/
namespace Go.Proofs.YtjopoheligmmoaaGreatDoor
open Go Go.cZ Go.Proofs
set_option linter.unusedSimpArgs false
set_option linter.unusedVariables false
theorem jV {n:Node} {k:Int}:k∈n.fold↔k∈n.oO:=by
 have:=LU (fun j=>decide (j=k)) n
 rw[Bool.eq_iff_iff,List.any_eq_true,List.any_eq_true] at this
 constructor
 ·intro h;obtain⟨x,h1,h2⟩:=this.1 ⟨k,h,by simp⟩;rw[←of_decide_eq_true h2];exact h1
 ·intro h;obtain⟨x,h1,h2⟩:=this.2 ⟨k,h,by simp⟩;rw[←of_decide_eq_true h2];exact h1
theorem sS (n:Node):n.fold.length≤2:=by unfold Node.fold;split<;>(try split)<;>simp
theorem gd {α:Type} {l:List α} {q:Nat} (h:q<l.length) (d:α):l.getD q d=l[q]:=by simp[List.getD,h]
theorem MZ (n:Nat) (l:List Int):cX n (l.map i64):=(cB _ _).2 fun _ _=>by simp[cI]
theorem IT (n:Nat) (l:List Bool):cX n (l.map bl):=(cB _ _).2 fun _ _=>by simp[cI]
theorem jj {l:List Node} {i:Nat} (h:i<l.length) (d:AV):(l.map Node.av).getD ((i:Int).toNat) d=(l.getD i default).av:=by
 rw[Int.toNat_natCast];exact dQ Node.av l i d h
theorem s9 {l:List cF} {i:Nat} (h:i<l.length) (d:AV):(l.map cF.av).getD ((i:Int).toNat) d=(l.getD i default).av:=by
 rw[Int.toNat_natCast];exact dQ cF.av l i d h
theorem lL {l:List Int} {i:Nat} (h:i<l.length) (d:AV):(l.map i64).getD ((i:Int).toNat) d=i64 (l.getD i 0):=by
 rw[Int.toNat_natCast];exact dQ i64 l i d h
theorem tX (g:cF) (hg:g.Wf):Pure Tryz.prog 198 [g.av] (fun r=>r=bl (lU g)):=by
 have hl:=hg.len
 refine aJ zP rfl ?_
 repeat' (first|((with_reducible refine aI ?_);conv=>whnf)|refine aG ?_|exact gG|with_reducible refine aD ?_ ?_|((with_reducible refine Ask.mk ?_);first|exact dz|exact dD|(intro h;simp_all[cF.cells]<;>fail)|(simp_all[cF.cells]<;>fail))|(apply aB;(·exact cS))|refine aH ?_|((with_reducible refine aA ?_ ?_)<;>intro hc<;>(try simp only[List.length_map,ne_eq,db] at hc)<;>try(exfalso;omega)))
 ·refine fA (Eq.symm ?_)
  unfold lU
  by_cases h1:1≤g.nodes.length
  ·rw[decide_eq_false (show ¬g.nodes.length≤4096 by omega)];simp
  ·rw[decide_eq_false h1];simp
 ·simp only[List.length_map]
  refine aN (fun i:Nat=>[(1, .pt 0 1 0 0),(18,iz g.nodes),(19,i64 g.nodes.length),(20,i64 i)])
   (fun i H n=>i≤g.nodes.length∧16≤n∧(∃d,bu H 0=some (.row 60 4 d [g.av]))∧∀j,j<i→tR g.nodes.length (g.nd j)=true) (fun i=>g.nodes.length - i) 0 cK ⟨Nat.zero_le _,ca,⟨_,bw⟩,fun _ h=>by omega⟩ ?_
  rintro i H n ⟨hi,hn,⟨d0,r0⟩,hall⟩
  by_cases hil:i<g.nodes.length
  ·have hbad:tR g.nodes.length (g.nd i)=false→lU g=false:=fun h=>by
    unfold lU
    rw[Bool.and_eq_false_iff]
    right
    rw[Bool.eq_false_iff,ne_eq,List.all_eq_true]
    intro hA
    have:=hA _ (cR default hil)
    rw[show g.nodes.getD i default=g.nd i from rfl,h] at this;cases this
   have hf:=lK (g.nd i)
   have h2:=sS (g.nd i)
   unfold fX at hf
   repeat' (first|((with_reducible refine aI ?_);conv=>whnf)|refine aG ?_|exact gG|with_reducible refine aD ?_ ?_|((with_reducible refine Ask.mk ?_);first|exact dz|exact dD|(intro h;simp_all[cF.cells,Node.cells]<;>fail)|(simp_all[cF.cells,Node.cells]<;>fail))|(apply aB;(·(first|exact jj hil _|exact cS)))|refine aK (hf) ?_|refine aH ?_|((with_reducible refine aA ?_ ?_)<;>intro hc<;>(try simp only[List.length_map,ne_eq,db] at hc)<;>try(exfalso;omega)))
   ·refine fA (Eq.symm (hbad ?_))
    unfold tR
    have hc:(g.nd i).kind=0∨10≤(g.nd i).kind:=hc
    by_cases h1:(g.nd i).kind<10
    ·rw[decide_eq_false (show ¬1≤(g.nd i).kind by omega)];simp
    ·rw[decide_eq_false h1];simp
   ·have hk0:0≤(g.nd i).kind:=(hg.nodes _ (cR default hil)).kind.1
    have hkk:¬(g.nd i).kind=0∧(g.nd i).kind<10:=hc
    clear hf
    simp only[List.length_map]
    refine aN (fun j:Nat=>[(1, .pt 0 1 0 0),(4, .pt (n+3) 1 0 0),(18,iz g.nodes),(19,i64 g.nodes.length),(20,i64 i),(33,fX (g.nd i).fold),(34,i64 (g.nd i).fold.length),(35,i64 j)])
     (fun j H2 n2=>j≤(g.nd i).fold.length∧n+4≤n2∧(∃d,bu H2 0=some (.row 60 4 d [g.av]))∧∀q,q<j→0≤(g.nd i).fold.getD q 0∧(g.nd i).fold.getD q 0<g.nodes.length) (fun j=>(g.nd i).fold.length - j) 0 cK ⟨Nat.zero_le _,ca,⟨_,bw⟩,fun _ h=>by omega⟩ ?_
    clear r0
    rintro j H2 n2 ⟨hj,hn2,⟨d02,r02⟩,hq⟩
    unfold fX
    by_cases hjl:j<(g.nd i).fold.length
    ·repeat' (first|((with_reducible refine aI ?_);conv=>whnf)|refine aG ?_|exact gG|with_reducible refine aD ?_ ?_|((with_reducible refine Ask.mk ?_);first|exact dz|exact dD|(intro h;simp_all[cF.cells]<;>fail)|(simp_all[cF.cells]<;>fail))|(apply aB;(·(first|exact lL hjl _|exact cS)))|refine aH ?_|((with_reducible refine aA ?_ ?_)<;>intro hc<;>(try simp only[List.length_map,ne_eq,db] at hc)<;>try(exfalso;omega)))
     ·refine fA (Eq.symm (hbad ?_))
      unfold tR
      rw[Bool.and_eq_false_iff]
      right
      rw[Bool.eq_false_iff,ne_eq,List.all_eq_true]
      intro hA
      have:=hA _ (jV.1 (cR 0 hjl))
      simp only[Bool.and_eq_true,decide_eq_true_eq] at this
      omega
     ·refine⟨j+1,by omega,cK,by omega,by omega,⟨_,bw⟩,fun q hq2=> ?_⟩
      by_cases e:q=j
      ·rw[e];omega
      ·exact hq q (by omega)
    ·have:j=(g.nd i).fold.length:=by omega
     subst this
     repeat' (first|((with_reducible refine aI ?_);conv=>whnf)|refine aG ?_|exact aC|with_reducible refine aD ?_ ?_|(apply aB;(·exact cS))|refine aH ?_|((with_reducible refine aA ?_ ?_)<;>intro hc<;>(try simp only[List.length_map,ne_eq,db] at hc)<;>try(exfalso;omega)))
     refine⟨i+1,by omega,cK,by omega,by omega,⟨_,bw⟩,fun j hj=> ?_⟩
     by_cases e:j=i
     ·rw[e]
      unfold tR
      rw[decide_eq_true (show 1≤(g.nd i).kind by omega),decide_eq_true hkk.2]
      simp only[Bool.true_and]
      rw[List.all_eq_true]
      intro k hk
      obtain⟨q,hq1,e⟩:=List.getElem_of_mem (jV.2 hk)
      have:=hq q hq1
      rw[gd hq1,e] at this
      simp[this.1,this.2]
     ·exact hall j (by omega)
  ·have:i=g.nodes.length:=by omega
   subst this
   repeat' (first|((with_reducible refine aI ?_);conv=>whnf)|refine aG ?_|exact aC|with_reducible refine aD ?_ ?_|(apply aB;(·exact cS))|refine aH ?_|((with_reducible refine aA ?_ ?_)<;>intro hc<;>(try simp only[List.length_map,ne_eq,db] at hc)<;>try(exfalso;omega)))
   refine fA (Eq.symm ?_)
   unfold lU
   rw[decide_eq_true (show 1≤g.nodes.length by omega),decide_eq_true (show g.nodes.length≤4096 by omega)]
   simp only[Bool.true_and]
   rw[List.all_eq_true]
   intro m hm
   obtain⟨q,hq1,rfl⟩:=List.getElem_of_mem hm
   have:=hall q hq1
   rw[show g.nd q=g.nodes[q] by simp[List.getD,hq1]] at this
   exact this
theorem wi (g:cF) (hg:g.Wf) (hw:lU g=true) (hs:Pure Tryz.prog 199 [g.av,i64 (-1)] (fun r=>r=FF (fZ g (-1)))):Pure Tryz.prog 166 [g.av] (fun r=>r=FF (fZ g (-1))):=by
 refine aJ zI rfl ?_
 have h1:=tX g hg
 rw[hw] at h1
 repeat' (first|((with_reducible refine aI ?_);conv=>whnf)|refine aG ?_|exact gG|with_reducible refine aD ?_ ?_|((with_reducible refine Ask.mk ?_);first|exact dz|exact dD|(intro h;simp_all[cF.cells]<;>fail)|(simp_all[cF.cells]<;>fail))|(apply aB;(·exact cS))|refine aK (h1) ?_|refine aK (hs) ?_|refine aH ?_|((with_reducible refine aA ?_ ?_)<;>intro hc<;>(try simp only[List.length_map,ne_eq,db] at hc)<;>try(exfalso;omega)))
 exact QQ.eq (by simp[cI,FF,cB]) rfl
end Go.Proofs.YtjopoheligmmoaaGreatDoor
end
