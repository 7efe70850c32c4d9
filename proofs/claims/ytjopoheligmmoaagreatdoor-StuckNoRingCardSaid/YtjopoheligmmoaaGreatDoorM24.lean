import Derived.Test.YtjopoheligmmoaaGreatDoorM23
section
/- Are names and numbers right? -/
namespace Go.Proofs.YtjopoheligmmoaaGreatDoor
open Go Go.cY Go.Proofs
set_option linter.unusedSimpArgs false
set_option linter.unusedVariables false
abbrev za (E:List (ByteArray×Bool)):List AV:=qG (fun s:ByteArray=>Value.string s) bl E
theorem ZP (E:List (ByteArray×Bool)) (t:ByteArray):mB true (.string t) (za E) (bl false)=some (bl ((ef E t).getD false),(ef E t).isSome):=(CN wE bl t E (bl false)).trans (by cases ef E t<;>rfl)
theorem ZY (E:List (ByteArray×Bool)) (t:ByteArray) (v:Bool):oq true (.string t) (za E) (bl v)=some (za (iq E t v)):=CO wE bl t v E
def mG (l:List ByteArray):List (ByteArray×Bool):=l.map fun s=>(s,true)
def jX:List ByteArray→ByteArray→Bool
 |[],_=>false
 |a::l,s=>if s=a then true else jX l s
theorem KE (l:List ByteArray) (s:ByteArray):(ef (mG l) s).getD false=jX l s:=by
 induction l with
 |nil=>rfl
 |cons a l ih=>
  show((if s=a then some true else ef (mG l) s)).getD false=(if s=a then true else jX l s)
  by_cases h:s=a
  ·rw[if_pos h,if_pos h];rfl
  ·rw[if_neg h,if_neg h,ih]
theorem PG (l:List ByteArray) (s:ByteArray) (h:jX l s=false):iq (mG l) s true=mG (l++[s]):=by
 induction l with
 |nil=>rfl
 |cons a l ih=>
  rw[jX] at h
  by_cases e:s=a
  ·rw[if_pos e] at h;cases h
  ·rw[if_neg e] at h
   show(if s=a then(s,true)::mG l else(a,true)::iq (mG l) s true)=_
   rw[if_neg e,ih h];rfl
theorem rU (s:ByteArray) (hs:s.size≤140737488351232) (l:List ByteArray) (b m:Nat) (H:Hp) (nx:Nat) (e em:TypeId) (d dm:AV) (hb:br H b=some (.row e 1 d [.mp m])) (hm:br H m=some (.row em 0 dm (mapA (za (mG l))))) (hbn:b<nx) (hmn:m<nx) (hbm:b≠m):
 cH Tryz.prog 114 [st s, .pt b 1 0 0] H nx (fun r H' n=>r=bl (lS s&& !jX l s)∧nx≤n∧(jX l s=false→br H' m=some (.row em 0 dm (mapA (za (mG (l++[s]))))))∧∀y,y<nx→y≠m→br H' y=br H y):=by
 refine aL yP rfl ?_
 repeat' (first|((with_reducible refine aF ?_);conv=>whnf)|refine aG ?_|exact aC|with_reducible refine aD ?_ ?_|(apply aB;(·exact cO))|refine aK (JU s hs) ?_|(apply aR (g:=some _);(·exact fun _=>ZP _ _))|(apply aR (g:=none);(·exact fun _=>ZY _ _ _))|refine aH ?_|((with_reducible refine aA ?_ ?_)<;>intro hc<;>(try simp only[List.length_map,ne_eq,dY] at hc)<;>try(exfalso;omega)))
 refine⟨⟨?_,cZ,fun h=> ?_,fun y hy hym=> ?_⟩⟩
 ·rw[KE]
  refine ew ?_
  cases lS s<;>cases jX l s<;>rfl
 ·rw[←PG l s h]
  exact bw
 ·exact cA
def gS:List ByteArray→List ByteArray→Bool
 |_,[]=>true
 |acc,s::r=>if(lS s&& !jX acc s)=true then gS (acc++[s]) r else false
def cm (u:bu):List ByteArray:=u.shared.map Decl.name++(u.cD.map Decl.name++u.bt.map cC.name)
def fX (u:bu):Bool:=decide (u.shared.length≤64)&&decide (u.cD.length≤16)&&decide (u.bt.length≤8)&&gS [] (cm u)&&u.cD.all (fun d=>decide (d.word=0))
theorem l7 (u:bu) {k:Nat} (hk:k<(cm u).length) (h:gS ((cm u).take k) ((cm u).drop k)=gS [] (cm u)) {s:ByteArray} (hs:(cm u).getD k default=s):
 (gS [] (cm u)=if(lS s&& !jX ((cm u).take k) s)=true then gS ((cm u).take (k+1)) ((cm u).drop (k+1)) else false)∧(cm u).take (k+1)=(cm u).take k++[s]:=by
 have e:(cm u)[k]=s:=by rw[←hs];simp[List.getD,hk]
 have e2:(cm u).take (k+1)=(cm u).take k++[s]:=by rw[List.take_succ_eq_append_getElem hk,e]
 refine⟨?_,e2⟩
 rw[←h,List.drop_eq_getElem_cons hk,gS,e,e2]
theorem SS (u:bu) {i:Nat} (h:i<u.shared.length):(cm u).getD i default=(u.shared.getD i default).name:=by
 simp[cm,List.getD,List.getElem?_append,h]
theorem SR (u:bu) {i:Nat} (h:i<u.cD.length):(cm u).getD (u.shared.length+i) default=(u.cD.getD i default).name:=by
 unfold cm
 rw[List.getD,List.getElem?_append_right (by simp),List.length_map,Nat.add_sub_cancel_left,List.getElem?_append_left (by simpa using h)]
 simp[List.getD,h]
theorem SQ (u:bu) {i:Nat} (h:i<u.bt.length):(cm u).getD (u.shared.length+u.cD.length+i) default=(u.bt.getD i default).name:=by
 unfold cm
 rw[List.getD,List.getElem?_append_right (by simp;omega),List.getElem?_append_right (by simp;omega)]
 simp only[List.length_map]
 rw[show u.shared.length+u.cD.length+i - u.shared.length - u.cD.length=i by omega]
 simp[List.getD,h]
set_option maxHeartbeats 4000000 in
theorem CQ (u:bu) (hu:u.Wf):Pure Tryz.prog 71 [u.av] (fun r=>r=bl (fX u)):=by
 refine aI OA rfl ?_
 have h1:=hu.vB
 have h2:=hu.zQ
 have h3:=hu.IW
 by_cases hl:u.shared.length≤64∧u.cD.length≤16∧u.bt.length≤8
 ·repeat' (first|((with_reducible refine aF ?_);conv=>whnf)|refine aG ?_|exact gD|with_reducible refine aD ?_ ?_|((with_reducible refine Ask.mk ?_);first|exact dv|exact cz|(intro h;simp_all[bu.cells]<;>fail)|(simp_all[bu.cells]<;>fail))|(apply aB;(·exact cO))|refine aH ?_|((with_reducible refine aA ?_ ?_)<;>intro hc<;>(try simp only[List.length_map,ne_eq,dY] at hc)<;>try(exfalso;omega)))
  clear hc
  simp only[List.length_map]
  refine aM (fun i:Nat=>[(1, .pt 0 1 0 0),(4, .fn (.func 114) [] [.pt 19 1 0 0]),(30,cq u.shared),(31,i64 u.shared.length),(32,i64 i)]) (fun i H n=>i≤u.shared.length∧20≤n∧(∃d,br H 0=some (.row 25 3 d [u.av]))∧(∃d,br H 19=some (.row 178 1 d [.mp 18]))∧(∃d,br H 18=some (.row 9 0 d (mapA (za (mG ((cm u).take (i)))))))∧gS ((cm u).take (i)) ((cm u).drop (i))=gS [] (cm u)) (fun i=>u.shared.length - i) 0 cJ ⟨Nat.zero_le _,cZ,⟨_,bw⟩,⟨_,bw⟩,⟨_,bw⟩,rfl⟩ ?_
  rintro i H n ⟨hi,hn,⟨d0,r0⟩,⟨d19,r19⟩,⟨d18,r18⟩,hq⟩
  by_cases hil:i<u.shared.length
  ·have hk:i<(cm u).length:=by simp only[cm,List.length_append,List.length_map];omega
   have hs:(cm u).getD (i) default=(u.shared.getD i default).name:=SS u hil
   obtain⟨ha,ht⟩:=l7 u hk hq hs
   have hsz:=(hu.shared _ (cP default hil)).name
   repeat' (first|((with_reducible refine aF ?_);conv=>whnf)|refine aG ?_|exact gD|with_reducible refine aD ?_ ?_|((with_reducible refine Ask.mk ?_);first|exact dv|exact cz|(intro h;simp_all[bu.cells,Decl.cells]<;>fail)|(simp_all[bu.cells,Decl.cells]<;>fail))|(apply aB;(·(first|exact L5|exact cO)))|refine aH ?_|((with_reducible refine aA ?_ ?_)<;>intro hc<;>(try simp only[List.length_map,ne_eq,dY] at hc)<;>try(exfalso;omega)))
   refine aJ (rU _ hsz ((cm u).take (i)) 19 18 _ _ _ _ _ _ bw bw cZ cZ (by decide)) ?_
   rintro _ H2 n2 ⟨rfl,hn2,hput,hf⟩
   have hn12:n≤n2:=Nat.le_trans cZ hn2
   have r02:br H2 0=some (.row 25 3 d0 [u.av]):=(hf 0 (Nat.lt_of_lt_of_le (by omega:0<n) cZ) (by decide)).trans bw
   have r192:br H2 19=some (.row 178 1 d19 [.mp 18]):=(hf 19 (Nat.lt_of_lt_of_le (by omega:19<n) cZ) (by decide)).trans bw
   cases hg:(lS (u.shared.getD i default).name&& !jX ((cm u).take (i)) (u.shared.getD i default).name) with
   |false=>
    rw[hg,if_neg (by decide)] at ha
    have hb:fX u=false:=by unfold fX;rw[ha];simp
    rw[hb]
    repeat' (first|((with_reducible refine aF ?_);conv=>whnf)|refine aG ?_|exact gD|with_reducible refine aD ?_ ?_|((with_reducible refine Ask.mk ?_);first|exact dv|exact cz|(intro h;simp_all[bu.cells,Decl.cells]<;>fail)|(simp_all[bu.cells,Decl.cells]<;>fail))|(apply aB;(·exact cO))|refine aH ?_|((with_reducible refine aA ?_ ?_)<;>intro hc<;>(try simp only[List.length_map,ne_eq,dY] at hc)<;>try(exfalso;omega)))
    exact rfl
   |true=>
    rw[hg,if_pos rfl] at ha
    have hnm:jX ((cm u).take (i)) (u.shared.getD i default).name=false:=by revert hg;cases jX ((cm u).take (i)) (u.shared.getD i default).name<;>simp
    have r182:=hput hnm
    rw[←ht] at r182
    clear hf hput
    repeat' (first|((with_reducible refine aF ?_);conv=>whnf)|refine aG ?_|exact gD|with_reducible refine aD ?_ ?_|((with_reducible refine Ask.mk ?_);first|exact dv|exact cz|(intro h;simp_all[bu.cells,Decl.cells]<;>fail)|(simp_all[bu.cells,Decl.cells]<;>fail))|(apply aB;(·exact cO))|refine aH ?_|((with_reducible refine aA ?_ ?_)<;>intro hc<;>(try simp only[List.length_map,ne_eq,dY] at hc)<;>try(exfalso;omega)))
    exact⟨i+1,by omega,cJ,by omega,by omega,⟨_,bw⟩,⟨_,bw⟩,⟨_,bw⟩,ha.symm⟩
  ·have hie:i=u.shared.length:=by omega
   subst hie
   repeat' (first|((with_reducible refine aF ?_);conv=>whnf)|refine aG ?_|exact gD|with_reducible refine aD ?_ ?_|((with_reducible refine Ask.mk ?_);first|exact dv|exact cz|(intro h;simp_all[bu.cells]<;>fail)|(simp_all[bu.cells]<;>fail))|(apply aB;(·exact cO))|refine aH ?_|((with_reducible refine aA ?_ ?_)<;>intro hc<;>(try simp only[List.length_map,ne_eq,dY] at hc)<;>try(exfalso;omega)))
   refine aM (fun i:Nat=>[(1, .pt 0 1 0 0),(4, .fn (.func 114) [] [.pt 19 1 0 0]),(43,cq u.cD),(44,i64 u.cD.length),(45,i64 i)]) (fun i H n=>i≤u.cD.length∧20≤n∧(∃d,br H 0=some (.row 25 3 d [u.av]))∧(∃d,br H 19=some (.row 178 1 d [.mp 18]))∧(∃d,br H 18=some (.row 9 0 d (mapA (za (mG ((cm u).take (u.shared.length+i)))))))∧gS ((cm u).take (u.shared.length+i)) ((cm u).drop (u.shared.length+i))=gS [] (cm u)∧∀j,j<i→(u.cD.getD j default).word=0) (fun i=>u.cD.length - i) 0 cJ ⟨Nat.zero_le _,cZ,⟨_,bw⟩,⟨_,bw⟩,⟨_,by rw[Nat.add_zero];exact bw⟩,by rw[Nat.add_zero];exact hq,fun _ h=>by omega⟩ ?_
   clear r0 r19 r18 hq hc
   rintro i H n ⟨hi,hn,⟨d0,r0⟩,⟨d19,r19⟩,⟨d18,r18⟩,hq,hw⟩
   by_cases hil:i<u.cD.length
   ·have hk:u.shared.length+i<(cm u).length:=by simp only[cm,List.length_append,List.length_map];omega
    have hs:(cm u).getD (u.shared.length+i) default=(u.cD.getD i default).name:=SR u hil
    obtain⟨ha,ht⟩:=l7 u hk hq hs
    have hsz:=(hu.cD _ (cP default hil)).name
    repeat' (first|((with_reducible refine aF ?_);conv=>whnf)|refine aG ?_|exact gD|with_reducible refine aD ?_ ?_|((with_reducible refine Ask.mk ?_);first|exact dv|exact cz|(intro h;simp_all[bu.cells,Decl.cells]<;>fail)|(simp_all[bu.cells,Decl.cells]<;>fail))|(apply aB;(·(first|exact L5|exact cO)))|refine aH ?_|((with_reducible refine aA ?_ ?_)<;>intro hc<;>(try simp only[List.length_map,ne_eq,dY] at hc)<;>try(exfalso;omega)))
    refine aJ (rU _ hsz ((cm u).take (u.shared.length+i)) 19 18 _ _ _ _ _ _ bw bw cZ cZ (by decide)) ?_
    rintro _ H2 n2 ⟨rfl,hn2,hput,hf⟩
    have hn12:n≤n2:=Nat.le_trans cZ hn2
    have r02:br H2 0=some (.row 25 3 d0 [u.av]):=(hf 0 (Nat.lt_of_lt_of_le (by omega:0<n) cZ) (by decide)).trans bw
    have r192:br H2 19=some (.row 178 1 d19 [.mp 18]):=(hf 19 (Nat.lt_of_lt_of_le (by omega:19<n) cZ) (by decide)).trans bw
    cases hg:(lS (u.cD.getD i default).name&& !jX ((cm u).take (u.shared.length+i)) (u.cD.getD i default).name) with
    |false=>
     rw[hg,if_neg (by decide)] at ha
     have hb:fX u=false:=by unfold fX;rw[ha];simp
     rw[hb]
     clear hf hput
     repeat' (first|((with_reducible refine aF ?_);conv=>whnf)|refine aG ?_|exact gD|with_reducible refine aD ?_ ?_|((with_reducible refine Ask.mk ?_);first|exact dv|exact cz|(intro h;simp_all[bu.cells,Decl.cells]<;>fail)|(simp_all[bu.cells,Decl.cells]<;>fail))|(apply aB;(·exact cO))|refine aH ?_|((with_reducible refine aA ?_ ?_)<;>intro hc<;>(try simp only[List.length_map,ne_eq,dY] at hc)<;>try(exfalso;omega)))
     exact rfl
    |true=>
     rw[hg,if_pos rfl] at ha
     have hnm:jX ((cm u).take (u.shared.length+i)) (u.cD.getD i default).name=false:=by revert hg;cases jX ((cm u).take (u.shared.length+i)) (u.cD.getD i default).name<;>simp
     have r182:=hput hnm
     rw[←ht] at r182
     obtain⟨d4,r4⟩:∃d,br H2 (n+3)=some (.row 85 3 d [(u.cD.getD i default).av]):=⟨_,(hf (n+3) cZ (by omega)).trans bw⟩
     clear hf hput
     repeat' (first|((with_reducible refine aF ?_);conv=>whnf)|refine aG ?_|exact gD|with_reducible refine aD ?_ ?_|((with_reducible refine Ask.mk ?_);first|exact dv|exact cz|(intro h;simp_all[bu.cells,Decl.cells]<;>fail)|(simp_all[bu.cells,Decl.cells]<;>fail))|(apply aB;(·exact cO))|refine aH ?_|((with_reducible refine aA ?_ ?_)<;>intro hc<;>(try simp only[List.length_map,ne_eq,dY] at hc)<;>try(exfalso;omega)))
     ·have hb:fX u=false:=by
       unfold fX
       rw[Bool.and_eq_false_iff]
       right
       rw[Bool.eq_false_iff,ne_eq,List.all_eq_true]
       exact fun h=>(hc.resolve_left (by decide)) (of_decide_eq_true (h _ (cP default hil)))
      rw[hb]
     ·exact⟨i+1,by omega,cJ,by omega,by omega,⟨_,bw⟩,⟨_,bw⟩,⟨_,bw⟩,ha.symm,fun j hj=>by
       by_cases hji:j=i
       ·rw[hji];exact hc.2
       ·exact hw j (by omega)⟩
   ·have hie:i=u.cD.length:=by omega
    subst hie
    repeat' (first|((with_reducible refine aF ?_);conv=>whnf)|refine aG ?_|exact gD|with_reducible refine aD ?_ ?_|((with_reducible refine Ask.mk ?_);first|exact dv|exact cz|(intro h;simp_all[bu.cells]<;>fail)|(simp_all[bu.cells]<;>fail))|(apply aB;(·exact cO))|refine aH ?_|((with_reducible refine aA ?_ ?_)<;>intro hc<;>(try simp only[List.length_map,ne_eq,dY] at hc)<;>try(exfalso;omega)))
    refine aM (fun i:Nat=>[(1, .pt 0 1 0 0),(4, .fn (.func 114) [] [.pt 19 1 0 0]),(61,dc u.bt),(62,i64 u.bt.length),(63,i64 i)]) (fun i H n=>i≤u.bt.length∧20≤n∧(∃d,br H 0=some (.row 25 3 d [u.av]))∧(∃d,br H 19=some (.row 178 1 d [.mp 18]))∧(∃d,br H 18=some (.row 9 0 d (mapA (za (mG ((cm u).take (u.shared.length+u.cD.length+i)))))))∧gS ((cm u).take (u.shared.length+u.cD.length+i)) ((cm u).drop (u.shared.length+u.cD.length+i))=gS [] (cm u)∧∀j,j<u.cD.length→(u.cD.getD j default).word=0) (fun i=>u.bt.length - i) 0 cJ ⟨Nat.zero_le _,cZ,⟨_,bw⟩,⟨_,bw⟩,⟨_,by rw[Nat.add_zero];exact bw⟩,by rw[Nat.add_zero];exact hq,hw⟩ ?_
    clear r0 r19 r18 hq hc hw
    rintro i H n ⟨hi,hn,⟨d0,r0⟩,⟨d19,r19⟩,⟨d18,r18⟩,hq,hw⟩
    by_cases hil:i<u.bt.length
    ·have hk:u.shared.length+u.cD.length+i<(cm u).length:=by simp only[cm,List.length_append,List.length_map];omega
     have hs:(cm u).getD (u.shared.length+u.cD.length+i) default=(u.bt.getD i default).name:=SQ u hil
     obtain⟨ha,ht⟩:=l7 u hk hq hs
     have hsz:=(hu.bt _ (cP default hil)).name
     repeat' (first|((with_reducible refine aF ?_);conv=>whnf)|refine aG ?_|exact gD|with_reducible refine aD ?_ ?_|((with_reducible refine Ask.mk ?_);first|exact dv|exact cz|(intro h;simp_all[bu.cells,cC.cells]<;>fail)|(simp_all[bu.cells,cC.cells]<;>fail))|(apply aB;(·(first|exact VM|exact cO)))|refine aH ?_|((with_reducible refine aA ?_ ?_)<;>intro hc<;>(try simp only[List.length_map,ne_eq,dY] at hc)<;>try(exfalso;omega)))
     refine aJ (rU _ hsz ((cm u).take (u.shared.length+u.cD.length+i)) 19 18 _ _ _ _ _ _ bw bw cZ cZ (by decide)) ?_
     rintro _ H2 n2 ⟨rfl,hn2,hput,hf⟩
     have hn12:n≤n2:=Nat.le_trans cZ hn2
     have r02:br H2 0=some (.row 25 3 d0 [u.av]):=(hf 0 (Nat.lt_of_lt_of_le (by omega:0<n) cZ) (by decide)).trans bw
     have r192:br H2 19=some (.row 178 1 d19 [.mp 18]):=(hf 19 (Nat.lt_of_lt_of_le (by omega:19<n) cZ) (by decide)).trans bw
     cases hg:(lS (u.bt.getD i default).name&& !jX ((cm u).take (u.shared.length+u.cD.length+i)) (u.bt.getD i default).name) with
     |false=>
      rw[hg,if_neg (by decide)] at ha
      have hb:fX u=false:=by unfold fX;rw[ha];simp
      rw[hb]
      repeat' (first|((with_reducible refine aF ?_);conv=>whnf)|refine aG ?_|exact gD|with_reducible refine aD ?_ ?_|((with_reducible refine Ask.mk ?_);first|exact dv|exact cz|(intro h;simp_all[bu.cells,cC.cells]<;>fail)|(simp_all[bu.cells,cC.cells]<;>fail))|(apply aB;(·exact cO))|refine aH ?_|((with_reducible refine aA ?_ ?_)<;>intro hc<;>(try simp only[List.length_map,ne_eq,dY] at hc)<;>try(exfalso;omega)))
      exact rfl
     |true=>
      rw[hg,if_pos rfl] at ha
      have hnm:jX ((cm u).take (u.shared.length+u.cD.length+i)) (u.bt.getD i default).name=false:=by revert hg;cases jX ((cm u).take (u.shared.length+u.cD.length+i)) (u.bt.getD i default).name<;>simp
      have r182:=hput hnm
      rw[←ht] at r182
      clear hf hput
      repeat' (first|((with_reducible refine aF ?_);conv=>whnf)|refine aG ?_|exact gD|with_reducible refine aD ?_ ?_|((with_reducible refine Ask.mk ?_);first|exact dv|exact cz|(intro h;simp_all[bu.cells,cC.cells]<;>fail)|(simp_all[bu.cells,cC.cells]<;>fail))|(apply aB;(·exact cO))|refine aH ?_|((with_reducible refine aA ?_ ?_)<;>intro hc<;>(try simp only[List.length_map,ne_eq,dY] at hc)<;>try(exfalso;omega)))
      exact⟨i+1,by omega,cJ,by omega,by omega,⟨_,bw⟩,⟨_,bw⟩,⟨_,bw⟩,ha.symm,hw⟩
    ·have hie:i=u.bt.length:=by omega
     subst hie
     repeat' (first|((with_reducible refine aF ?_);conv=>whnf)|refine aG ?_|exact gD|with_reducible refine aD ?_ ?_|((with_reducible refine Ask.mk ?_);first|exact dv|exact cz|(intro h;simp_all[bu.cells]<;>fail)|(simp_all[bu.cells]<;>fail))|(apply aB;(·exact cO))|refine aH ?_|((with_reducible refine aA ?_ ?_)<;>intro hc<;>(try simp only[List.length_map,ne_eq,dY] at hc)<;>try(exfalso;omega)))
     refine ew (Eq.symm ?_)
     have e:u.shared.length+u.cD.length+u.bt.length=(cm u).length:=by simp only[cm,List.length_append,List.length_map];omega
     have hall:gS [] (cm u)=true:=by
      rw[←hq,e,List.drop_eq_nil_of_le (Nat.le_refl _)]
      cases(cm u).take (cm u).length<;>rfl
     unfold fX
     rw[decide_eq_true hl.1,decide_eq_true hl.2.1,decide_eq_true hl.2.2,hall]
     simp only[Bool.true_and]
     rw[List.all_eq_true]
     intro d hd
     obtain⟨j,hj,rfl⟩:=List.getElem_of_mem hd
     have:=hw j hj
     rw[show u.cD.getD j default=u.cD[j] by simp[List.getD,hj]] at this
     exact decide_eq_true this
 ·have hb:fX u=false:=by
   unfold fX
   by_cases a1:u.shared.length≤64
   ·by_cases a2:u.cD.length≤16
    ·rw[decide_eq_false (fun a3=>hl ⟨a1,a2,a3⟩:¬u.bt.length≤8)];simp
    ·rw[decide_eq_false a2];simp
   ·rw[decide_eq_false a1];simp
  rw[hb]
  repeat' (first|((with_reducible refine aF ?_);conv=>whnf)|refine aG ?_|exact gD|with_reducible refine aD ?_ ?_|((with_reducible refine Ask.mk ?_);first|exact dv|exact cz|(intro h;simp_all[bu.cells]<;>fail)|(simp_all[bu.cells]<;>fail))|(apply aB;(·exact cO))|refine aH ?_|((with_reducible refine aA ?_ ?_)<;>intro hc<;>(try simp only[List.length_map,ne_eq,dY] at hc)<;>try(exfalso;omega)))
  exact rfl
end Go.Proofs.YtjopoheligmmoaaGreatDoor
end
section
/- Lists of numbers: cloned, and held one against another. -/
namespace Go.cY
open Go.RowKit
theorem Wk.YT {H:Hp} {nx b:Nat} {e:TypeId} {sz:Nat} {d:AV} {es es2:List AV} (d2:AV) (hb:br H b=some (.row e sz d es)) (hl:es.length=es2.length) (h:∀c c2:Cx,c.le c2→c2.w=c.w→dG c c2 es es2):Wk .any H nx .any ((b,some (.row e sz d2 es2))::H) nx:=by
 refine Wk.tell (Nat.le_refl _) (fun x e' sz' d' es' he=> ?_) (fun w0 c c2 hS hU hc hc2 hw hle hnew hM=>⟨dM.any _ _ _,fun x e' sz' d' es' d0 es0 h1 h2=> ?_⟩)
 ·by_cases hx:x=b
  ·subst hx
   rw[cn] at he
   cases he
   exact .inl ⟨d,es,hb,hl⟩
  ·rw[cW hx] at he
   exact .inl ⟨d',es',he,rfl⟩
 ·by_cases hx:x=b
  ·subst hx
   rw[cn] at h1
   rw[hb] at h2
   cases h1;cases h2
   exact h c c2 hle hw
  ·rw[cW hx] at h1
   rw[h1] at h2;cases h2
   exact dG.cR hle _
theorem dG.rep {c c2:Cx} {a b:AV} (h:dM c c2 a b):∀n,dG c c2 (List.replicate n a) (List.replicate n b)
 |0=> .nil
 |n+1=> .cons h (dG.rep h n)
end Go.cY
namespace Go.Proofs.YtjopoheligmmoaaGreatDoor
open Go Go.cY Go.Proofs
set_option linter.unusedSimpArgs false
set_option linter.unusedVariables false
theorem oe {l:List Int} {i:Nat} (h:i<l.length) (d:AV):(l.map i64).getD i d=i64 (l.getD i 0):=dN i64 l i d h
theorem tS {es:List AV} (hsz:es.length * 8≤140737488355328):cH Tryz.prog 119 [.im 1 .any es] [] 0 (rI [] 0 3 1 es):=by
 refine rI.of (by omega) ?_
 refine aL yU rfl ?_
 cases hes:es with
 |nil=>
  repeat' (first|((with_reducible refine aF ?_);conv=>whnf)|refine aG ?_|exact aC|with_reducible refine aD ?_ ?_|(apply aB;(·exact cO))|refine aH ?_|((with_reducible refine aA ?_ ?_)<;>intro hc<;>(try simp only[List.length_map,ne_eq,dY] at hc)<;>try(exfalso;omega)))
  ·exact⟨.inl ⟨rfl,rfl,cZ,xC⟩⟩
  ·exact⟨.inr ⟨_,_,rfl,cZ,cZ,cZ,bw,xC⟩⟩
 |cons x t=>
  rw[hes] at hsz
  simp only[List.length_cons] at hsz
  repeat' (first|((with_reducible refine aF ?_);conv=>whnf)|refine aG ?_|exact aC|with_reducible refine aD ?_ ?_|(apply aB;(·exact cO))|refine aH ?_|((with_reducible refine aA ?_ ?_)<;>intro hc<;>(try simp only[List.length_map,ne_eq,dY] at hc)<;>try(exfalso;omega)))
  ·exact⟨.inr ⟨3,_,(by simp),cZ,cZ,cZ,bw,xC⟩⟩
theorem nG {es:List AV} (hsz:es.length * 8≤140737488355328):cH Tryz.prog 119 [.im 1 .any es] [] 0 (fun r1 H1 _=>∃b d0,r1= .sl b es.length∧br H1 b=some (.row 3 1 d0 es)):=
 (tS hsz).mono fun r H n ⟨b,d,h1,_,_,_,h2,_⟩=>⟨b,d,h1,h2⟩
theorem x7 (l m:List Int) (hl:l.length * 8≤140737488351232) (hm:m.length * 8≤140737488351232):Pure Tryz.prog 121 [fW l,fW m] (fun r=>r=bl (decide (l=m))):=by
 refine aI yW rfl ?_
 unfold fW
 repeat' (first|((with_reducible refine aF ?_);conv=>whnf)|refine aG ?_|exact aC|with_reducible refine aD ?_ ?_|(apply aB;(·exact cO))|refine aH ?_|((with_reducible refine aA ?_ ?_)<;>intro hc<;>(try simp only[List.length_map,ne_eq,dY] at hc)<;>try(exfalso;omega)))
 ·refine ew (Eq.symm ?_)
  exact decide_eq_false fun e=>hc (by rw[e])
 ·have hlm:l.length=m.length:=by omega
  refine aM (fun i:Nat=>[(0,fW l),(1,fW m),(12,i64 l.length),(13,i64 i)])
   (fun i H n=>i≤l.length∧∀j,j<i→l.getD j 0=m.getD j 0) (fun i=>l.length - i) 0 cJ ⟨Nat.zero_le _,fun _ h=>by omega⟩ ?_
  unfold fW
  rintro i H n ⟨hi,hall⟩
  by_cases hil:i<l.length
  ·have e1:=oe (l:=l) hil
   have e2:=oe (l:=m) (i:=i) (by omega)
   repeat' (first|((with_reducible refine aF ?_);conv=>whnf)|refine aG ?_|exact aC|with_reducible refine aD ?_ ?_|(apply aB;(·(first|exact e1 _|exact e2 _|exact cO)))|refine aH ?_|((with_reducible refine aA ?_ ?_)<;>intro hc<;>(try simp only[List.length_map,ne_eq,dY] at hc)<;>try(exfalso;omega)))
   ·refine ew (Eq.symm ?_)
    exact decide_eq_false fun e=>hc (by rw[e])
   ·refine⟨i+1,by omega,cJ,by omega,fun j hj=> ?_⟩
    by_cases hji:j=i
    ·subst hji;exact hc
    ·exact hall j (by omega)
  ·have:i=l.length:=by omega
   subst this
   repeat' (first|((with_reducible refine aF ?_);conv=>whnf)|refine aG ?_|exact aC|with_reducible refine aD ?_ ?_|(apply aB;(·exact cO))|refine aH ?_|((with_reducible refine aA ?_ ?_)<;>intro hc<;>(try simp only[List.length_map,ne_eq,dY] at hc)<;>try(exfalso;omega)))
   refine ew (Eq.symm ?_)
   refine decide_eq_true (List.ext_getElem hlm fun j h1 h2=> ?_)
   have:=hall j h1
   simpa[List.getD,h1,h2] using this
def Told (nv:AV) (l:List Int) (H:Hp) (nx:Nat):Prop:=nv=fW l∨∃b d,nv= .sl b l.length∧b<nx∧br H b=some (.row 3 1 d (l.map i64))
theorem Told.dU {nv:AV} {l:List Int} {H:Hp} {nx:Nat} (h:Told nv l H nx) (k:Nat):cY.dU H (k+1) nv=fW l:=by
 rcases h with rfl|⟨b,d,rfl,_,hb⟩
 ·exact du _ (by simp[cI,fW,cB])
 ·rw[df hb (by simp),cu _ ((cB _ _).2 fun _ _=>by simp[cI])];rfl
theorem rD {nv:AV} {l:List Int} {H:Hp} {nx:Nat} (h:Told nv l H nx) (m:List Int) (hl:l.length * 8≤140737488351232) (hm:m.length * 8≤140737488351232):cH Tryz.prog 121 [fW m,nv] H nx (fun r H' n=>r=bl (decide (m=l))∧H'=H∧n=nx):=by
 refine Pure.view (args2:=[fW m,fW l]) (x7 m l hm hl) ?_ (by simp[cX,cI,fW,cB]) trivial ⟨rfl,rfl,rfl⟩
 rw[List.map_cons,List.map_cons,List.map_nil,h.dU,du 6 (by simp[cI,fW,cB])]
theorem lI {nv:AV} {l:List Int} {H:Hp} {nx:Nat} (h:Told nv l H nx) (hl:l.length * 8≤140737488351232):cH Tryz.prog 119 [nv] H nx (fun r H' n=>r=fW l∧nx≤n∧∀b,b<nx→br H' b=br H b):=by
 refine cH.wk (cH.VJ (es:=l.map i64) (args2:=[fW l]) (nG (by rw[List.length_map];omega)) (fun i hi=>by rw[dN i64 _ _ _ (by simpa using hi)];trivial) (by rw[List.map_cons,List.map_nil,h.dU]) (by simp[cX,cI,fW,cB])) ?_
 rintro r H' n ⟨rfl,rfl,rfl⟩
 have hw:=Wk.XY (r:= .sl nx (l.map i64).length) (H:=(nx,some (.row 3 1 .any (l.map i64)))::H) (nx:=nx+1) [(nx,some (.row 3 1 .any (l.map i64)))] 1 (fun b q hq=>by
  by_cases hb:b=nx
  ·subst hb;rw[cn] at hq ⊢;exact hq
  ·rw[cW hb] at hq;cases hq)
 refine⟨_,_,_,hw, ?_,by omega,fun b hb=> ?_⟩
 ·rw[NH (cn _ _ _) rfl,sU];rfl
 ·rw[nc,IV,cW (by omega),cW (by omega)]
end Go.Proofs.YtjopoheligmmoaaGreatDoor
end
section
/- Tables that grow till nothing changes, in plain data. -/
namespace Go.Proofs.YtjopoheligmmoaaGreatDoor
open Go Go.cY Go.Proofs
set_option linter.unusedSimpArgs false
set_option linter.unusedVariables false
abbrev AY:=List (List Bool)
def pR (T:AY) (i k:Nat):Bool:=(T.getD i []).getD k false
def KO (T:AY) (i k:Nat):AY:=T.set i ((T.getD i []).set k true)
structure Shape (T:AY) (m n:Nat):Prop where
 len:T.length=m
 row:∀i,i<m→(T.getD i []).length=n
theorem ez {α:Type} (l:List α) (i j:Nat) (v d:α):(l.set i v).getD j d=if i=j∧i<l.length then v else l.getD j d:=by
 simp only[List.getD,List.getElem?_set]
 by_cases h:i=j
 ·subst h
  by_cases h2:i<l.length
  ·simp[h2]
  ·simp[h2]
 ·simp[h]
theorem PQ {T:AY} {m n i k:Nat} (h:Shape T m n) (hi:i<m) (hk:k<n) (i' k':Nat):pR (KO T i k) i' k'=if i=i'∧k=k' then true else pR T i' k':=by
 unfold pR KO
 rw[ez]
 by_cases h1:i=i'
 ·subst h1
  rw[if_pos ⟨rfl,by rw[h.len];exact hi⟩,ez]
  by_cases h2:k=k'
  ·subst h2;rw[if_pos ⟨rfl,by rw[h.row i hi];exact hk⟩,if_pos ⟨rfl,rfl⟩]
  ·rw[if_neg (fun h=>h2 h.1),if_neg (fun h=>h2 h.2)]
 ·rw[if_neg (fun h=>h1 h.1),if_neg (fun h=>h1 h.1)]
theorem Shape.set {T:AY} {m n:Nat} (h:Shape T m n) (i k:Nat):Shape (KO T i k) m n:=by
 refine⟨by simp[KO,h.len],fun j hj=> ?_⟩
 unfold KO
 rw[ez]
 split
 ·rename_i e;rw[List.length_set,e.1];exact h.row j hj
 ·exact h.row j hj
inductive WX (g:cC) (oM cR:Node→Nat→Bool) (k:Nat):Nat→Prop where
 |oM {i:Nat}:oM (g.nd i) k=true→WX g oM cR k i
 |on {i:Nat} {j:Int}:cR (g.nd i) k=true→j∈(g.nd i).oD→WX g oM cR k j.toNat→WX g oM cR k i
def U4 (T:AY) (n:Node) (k:Nat):Bool:=n.oD.any fun j=>pR T j.toNat k
theorem LB (f:Int→Bool) (n:Node):n.fold.any f=n.oD.any f:=IH (fun l=>l.any f) n (fun a=>by simp)
def xP (g:cC) (oM cR:Node→Nat→Bool) (T:AY) (i k:Nat):Bool:=oM (g.nd i) k||(cR (g.nd i) k&&U4 T (g.nd i) k)
structure Grow (g:cC) (oM cR:Node→Nat→Bool) (n:Nat) (T:AY):Prop where
 shape:Shape T g.nodes.length n
 sound:∀i k,pR T i k=true→WX g oM cR k i
def vQ (m n:Nat):AY:=List.replicate m (List.replicate n false)
theorem D1 (m n i k:Nat):pR (vQ m n) i k=false:=by
 unfold pR vQ
 simp only[List.getD,List.getElem?_replicate]
 by_cases h:i<m
 ·simp only[h,if_true,Option.getD_some,List.getElem?_replicate];split<;>rfl
 ·simp[h]
theorem zw (m n:Nat):Shape (vQ m n) m n:=⟨by simp[vQ],fun i hi=>by simp[vQ,List.getD,List.getElem?_replicate,hi]⟩
theorem Grow.start (g:cC) (oM cR:Node→Nat→Bool) (n:Nat):Grow g oM cR n (vQ g.nodes.length n):=
 ⟨zw _ _,fun i k h=>by rw[D1] at h;cases h⟩
theorem xK {T:AY} {n:Node} {k:Nat}:U4 T n k=true↔∃j∈n.oD,pR T j.toNat k=true:=by
 unfold U4;rw[List.any_eq_true]
theorem Grow.step {g:cC} {oM cR:Node→Nat→Bool} {n:Nat} {T:AY} (h:Grow g oM cR n T) {i k:Nat} (hi:i<g.nodes.length) (hk:k<n) (hc:xP g oM cR T i k=true):Grow g oM cR n (KO T i k):=by
 refine⟨h.shape.set i k,fun i' k' ht=> ?_⟩
 rw[PQ h.shape hi hk] at ht
 split at ht
 ·rename_i e
  obtain⟨rfl,rfl⟩:=e
  unfold xP at hc
  rw[Bool.or_eq_true,Bool.and_eq_true] at hc
  rcases hc with h1|⟨h1,h2⟩
  ·exact .oM h1
  ·obtain⟨j,hj,h3⟩:=xK.1 h2
   exact .on h1 hj (h.sound _ _ h3)
 ·exact h.sound _ _ ht
open Classical in
noncomputable def HK (g:cC) (oM cR:Node→Nat→Bool) (n:Nat):AY:=(List.range g.nodes.length).map fun i=>(List.range n).map fun k=>decide (WX g oM cR k i)
theorem DL (g:cC) (oM cR:Node→Nat→Bool) (n:Nat):Shape (HK g oM cR n) g.nodes.length n:=⟨by simp[HK],fun i hi=>by simp[HK,List.getD,hi]⟩
theorem KN (g:cC) (oM cR:Node→Nat→Bool) (n:Nat) {i k:Nat} (hi:i<g.nodes.length) (hk:k<n):pR (HK g oM cR n) i k=true↔WX g oM cR k i:=by
 simp[pR,HK,List.getD,hi,hk]
theorem TM {T S:AY} {m n:Nat} (hT:Shape T m n) (hS:Shape S m n) (h:∀i k,i<m→k<n→pR T i k=pR S i k):T=S:=by
 apply List.ext_getElem (hT.len.trans hS.len.symm)
 intro i h1 h2
 have hi:i<m:=by rw[←hT.len];exact h1
 have e1:T.getD i []=T[i]:=by simp[List.getD,h1]
 have e2:S.getD i []=S[i]:=by simp[List.getD,h2]
 rw[←e1,←e2]
 apply List.ext_getElem ((hT.row i hi).trans (hS.row i hi).symm)
 intro k h3 h4
 have:=h i k hi (by rw[←hT.row i hi];exact h3)
 unfold pR at this
 have g:∀(l:List Bool) (h:k<l.length),l[k]=l.getD k false:=fun l h=>by simp[List.getD,h]
 rw[g _ h3,g _ h4]
 exact this
theorem Grow.fin {g:cC} {oM cR:Node→Nat→Bool} {n:Nat} {T:AY} (hw:Whole g) (h:Grow g oM cR n T) (hc:∀i k,i<g.nodes.length→k<n→xP g oM cR T i k=true→pR T i k=true):T=HK g oM cR n:=by
 refine TM h.shape (DL _ _ _ _) fun i k hi hk=> ?_
 rw[Bool.eq_iff_iff,KN g oM cR n hi hk]
 refine⟨h.sound i k,fun ha=> ?_⟩
 induction ha with
 |oM hb=>exact hc _ _ hi hk (by unfold xP;rw[hb];rfl)
 |@on i j hkp hj _ ih=>
  have hj2:=(hw.2.2 i hi).2.2 j hj
  have:=ih hj2.2
  refine hc _ _ hi hk ?_
  unfold xP
  rw[hkp,xK.2 ⟨j,hj,this⟩]
  simp
structure vR where
 kind:Int
 da:Int
 lock:Int
 deriving Inhabited,DecidableEq
def vR.cells (c:vR):List AV:=[u8 c.kind,i64 c.da,i64 c.lock]
abbrev vR.av (c:vR):AV:= .agg c.cells
end Go.Proofs.YtjopoheligmmoaaGreatDoor
end
section
/- The locks that are held, in plain data. -/
namespace Go.Proofs.YtjopoheligmmoaaGreatDoor
open Go Go.cY Go.Proofs
set_option linter.unusedSimpArgs false
set_option linter.unusedVariables false
structure HTo (now:List Int) (l:List Int) (s s':HS):Prop where
 oj:s'.cD.length=s.cD.length
 qm:s'.found.length=s.found.length
 gM:∀k:Int,s.f k=true→s'.f k=true∧s'.l k=s.l k
 new:∀k:Int,0≤k→s'.f k=true→s.f k=true∨k∈l
 all:∀k∈l,s'.f k=true∧s'.l k=now
 bare:∀k:Int,0≤k→s'.f k=false→s'.l k=s.l k
 more:∃t,s'.todo=s.todo++t∧(∀k∈t,k∈l∧s'.f k=true)∧(∀k:Int,0≤k→s'.f k=true→s.f k=true∨k∈t)∧s'.found.count false+t.length=s.found.count false
theorem HS.uU {s:HS} {i:Nat} {L:List (List Int)} {td:List Int} (h:i<s.found.length) (k:Int):HS.f ⟨L,s.found.set i true,td⟩ k=if k.toNat=i then true else s.f k:=ky h k
theorem HS.UB {s:HS} {i:Nat} {now:List Int} {F:List Bool} {td:List Int} (h:i<s.cD.length) (k:Int):HS.l ⟨s.cD.set i now,F,td⟩ k=if k.toNat=i then now else s.l k:=by
 unfold HS.l
 simp only
 rw[ez]
 by_cases e:i=k.toNat
 ·rw[if_pos ⟨e,h⟩,if_pos e.symm]
 ·rw[if_neg (fun x=>e x.1),if_neg (fun x=>e x.symm)]
theorem ni (now:List Int):∀(l:List Int) (s s':HS),s.cD.length=s.found.length→(∀k∈l,0≤k∧k.toNat<s.found.length)→dZ now l s= .inl s'→HTo now l s s'
 |[],s,s',_,_,h=>by
  rw[dZ] at h;cases h
  exact⟨rfl,rfl,fun _ h=>⟨h,rfl⟩,fun _ _ h=> .inl h,fun _ h=>by simp at h,fun _ _ _=>rfl,[],by simp,fun _ h=>by simp at h,fun _ _ h=> .inl h,by simp⟩
 |k::r,s,s',hl,hr,h=>by
  obtain⟨hk0,hk⟩:=hr k (by simp)
  have hr2:=fun x hx=>hr x (List.mem_cons_of_mem _ hx)
  rw[dZ] at h
  by_cases hf:s.f k=false
  ·rw[if_pos hf] at h
   have ih:=ni now r _ s' (by simp[hl]) (fun x hx=>by simpa using hr2 x hx) h
   have fs:=fun x=>HS.uU (s:=s) (i:=k.toNat) (L:=s.cD.set k.toNat now) (td:=s.todo++[k]) hk x
   have ls:=fun x=>HS.UB (s:=s) (i:=k.toNat) (now:=now) (F:=s.found.set k.toNat true) (td:=s.todo++[k]) (by rw[hl];exact hk) x
   obtain⟨t,t1,t2,t3,t4⟩:=ih.more
   have hkk:=ih.gM k (by rw[fs,if_pos rfl])
   refine⟨ih.oj.trans (by simp),ih.qm.trans (by simp),fun x hx=> ?_,fun x hx0 hx=> ?_,fun x hx=> ?_,fun x hx0 hx=> ?_,k::t,by rw[t1];simp,fun x hx=> ?_,fun x hx0 hx=> ?_, ?_⟩
   ·have hne:x.toNat≠k.toNat:=fun e=>by unfold HS.f at hx hf;rw[e] at hx;rw[hx] at hf;cases hf
    have:=ih.gM x (by rw[fs,if_neg hne];exact hx)
    rw[ls,if_neg hne] at this
    exact this
   ·rcases ih.new x hx0 hx with h2|h2
    ·rw[fs] at h2
     split at h2
     ·rename_i e;exact .inr (by rw[show x=k by omega];simp)
     ·exact .inl h2
    ·exact .inr (List.mem_cons_of_mem _ h2)
   ·rcases List.mem_cons.1 hx with rfl|hx
    ·rw[ls,if_pos rfl] at hkk;exact hkk
    ·exact ih.all x hx
   ·have hne:x.toNat≠k.toNat:=fun e=>by
     have:=hkk.1
     rw[show k=x by omega,hx] at this;cases this
    have:=ih.bare x hx0 hx
    rw[ls,if_neg hne] at this
    exact this
   ·rcases List.mem_cons.1 hx with rfl|hx
    ·exact⟨by simp,hkk.1⟩
    ·exact⟨List.mem_cons_of_mem _ (t2 x hx).1,(t2 x hx).2⟩
   ·rcases t3 x hx0 hx with h2|h2
    ·rw[fs] at h2
     split at h2
     ·rename_i e;exact .inr (by rw[show x=k by omega];simp)
     ·exact .inl h2
    ·exact .inr (List.mem_cons_of_mem _ h2)
   ·have:=count_set hk hf
    rw[List.length_cons]
    dsimp only at t4
    omega
  ·rw[if_neg hf] at h
   have hkt:s.f k=true:=by simpa using hf
   by_cases hn:s.l k=now
   ·rw[if_pos hn] at h
    have ih:=ni now r s s' hl hr2 h
    obtain⟨t,t1,t2,t3,t4⟩:=ih.more
    refine⟨ih.oj,ih.qm,ih.gM,fun x hx0 hx=>(ih.new x hx0 hx).imp id (List.mem_cons_of_mem _),fun x hx=> ?_,ih.bare,t,t1,fun x hx=>⟨List.mem_cons_of_mem _ (t2 x hx).1,(t2 x hx).2⟩,t3,t4⟩
    rcases List.mem_cons.1 hx with rfl|hx
    ·have:=ih.gM _ hkt;rw[hn] at this;exact this
    ·exact ih.all x hx
   ·rw[if_neg hn] at h;cases h
structure HI (g:cC) (s:HS) (k:Nat):Prop where
 oj:s.cD.length=g.nodes.length
 qm:s.found.length=g.nodes.length
 zero:s.f 0=true
 first:s.l 0=[]
 oQ:∀i:Int,0≤i→s.f i=true→lZ g (-1) i
 bare:∀i:Int,0≤i→s.f i=false→s.l i=[]
 inr:∀i∈s.todo,0≤i∧i.toNat<g.nodes.length∧s.f i=true
 all:∀i:Int,0≤i→s.f i=true→i∈s.todo
 done:∀j,j<k→j<s.todo.length→∃now,de (g.nd (s.todo.getD j 0).toNat) (s.l (s.todo.getD j 0))=some now∧∀to∈(g.nd (s.todo.getD j 0).toNat).oD,s.f to=true∧s.l to=now
 count:s.todo.length+s.found.count false=g.nodes.length
theorem HI.start {g:cC} (h:Whole g):HI g (wC g) 0:=by
 have hl:=h.1
 have hf:∀k,HS.f (wC g) k=decide (k.toNat=0):=fun k=>by
  have:=ky (l:=List.replicate g.nodes.length false) (i:=0) (by simp;omega) k
  unfold HS.f wC
  simp only
  unfold mZ at this
  rw[this]
  by_cases e:k.toNat=0
  ·simp[e]
  ·rw[if_neg e,decide_eq_false e]
   simp only[List.getD,List.getElem?_replicate];split<;>rfl
 have hk:∀k,HS.l (wC g) k=[]:=fun k=>by
  unfold HS.l wC;simp only[List.getD,List.getElem?_replicate];split<;>rfl
 refine⟨by simp[wC],by simp[wC],by rw[hf];simp,hk 0,fun i h0 hi=> ?_,fun i _ _=>hk i,fun i hi=> ?_,fun i h0 hi=> ?_,fun j hj=>by omega, ?_⟩
 ·rw[hf] at hi
  rw[show i=0 by have:=of_decide_eq_true hi;omega];exact .zero
 ·simp only[wC,List.mem_cons,List.not_mem_nil,or_false] at hi
  subst hi
  exact⟨by omega,by simp;omega,by rw[hf];simp⟩
 ·rw[hf] at hi
  rw[show i=0 by have:=of_decide_eq_true hi;omega];simp[wC]
 ·have:=count_set (l:=List.replicate g.nodes.length false) (i:=0) (by simp;omega) (by simp[List.getD,List.getElem?_replicate];split<;>rfl)
  simp only[List.count_replicate_self] at this
  simp only[wC,List.length_cons,List.length_nil]
  omega
theorem HI.next {g:cC} (hw:Whole g) {s s':HS} {k:Nat} (h:HI g s k) (hk:k<s.todo.length) {now:List Int} (hn:de (g.nd (s.todo.getD k 0).toNat) (s.l (s.todo.getD k 0))=some now) (ht:dZ now (g.nd (s.todo.getD k 0).toNat).oD s= .inl s'):HI g s' (k+1):=by
 have hm:=cP (0:Int) hk
 obtain⟨i1,i2,i3⟩:=h.inr _ hm
 have hfol:=(hw.2.2 _ i2).2.2
 have sp:=ni now _ s s' (by rw[h.oj,h.qm]) (fun x hx=>by rw[h.qm];exact hfol x hx) ht
 obtain⟨t,t1,t2,t3,t4⟩:=sp.more
 have hget:∀j,j<s.todo.length→s'.todo.getD j 0=s.todo.getD j 0:=fun j hj=>by
  rw[t1];simp[List.getD,List.getElem?_append,hj]
 refine⟨sp.oj.trans h.oj,sp.qm.trans h.qm,(sp.gM 0 h.zero).1,(sp.gM 0 h.zero).2.trans h.first,fun i h0 hi=> ?_,fun i h0 hi=> ?_,fun i hi=> ?_,fun i h0 hi=> ?_,fun j hj hjl=> ?_, ?_⟩
 ·rcases sp.new i h0 hi with h1|h1
  ·exact h.oQ i h0 h1
  ·exact .step (h.oQ _ i1 i3) (by omega) h1
 ·rw[sp.bare i h0 hi]
  refine h.bare i h0 ?_
  cases hq:s.f i with
  |false=>rfl
  |true=>rw[(sp.gM i hq).1] at hi;cases hi
 ·rw[t1] at hi
  rcases List.mem_append.1 hi with hi|hi
  ·obtain⟨a,b,c⟩:=h.inr i hi
   exact⟨a,b,(sp.gM i c).1⟩
  ·have:=hfol i (t2 i hi).1
   exact⟨this.1,this.2,(t2 i hi).2⟩
 ·rw[t1]
  rcases t3 i h0 hi with h1|h1
  ·exact List.mem_append_left _ (h.all i h0 h1)
  ·exact List.mem_append_right _ h1
 ·by_cases hjk:j=k
  ·subst hjk
   rw[hget _ hk]
   refine⟨now, ?_,sp.all⟩
   rw[(sp.gM _ i3).2]
   exact hn
  ·have hj2:j<s.todo.length:=by omega
   rw[hget _ hj2]
   obtain⟨now2,d1,d2⟩:=h.done j (by omega) hj2
   have hjm:=h.inr _ (cP (0:Int) hj2)
   refine⟨now2,by rw[(sp.gM _ hjm.2.2).2];exact d1,fun to hto=> ?_⟩
   obtain⟨e1,e2⟩:=d2 to hto
   rw[(sp.gM _ e1).2]
   exact⟨(sp.gM _ e1).1,e2⟩
 ·have:=h.count
  rw[t1,List.length_append]
  omega
structure P9 (g:cC) (lk:Nat→List Int):Prop where
 zero:lk 0=[]
 on:∀i:Int,lZ g (-1) i→∃now,de (g.nd i.toNat) (lk i.toNat)=some now∧∀k∈(g.nd i.toNat).oD,lk k.toNat=now
theorem HI.fin {g:cC} {s:HS} {k:Nat} (hw:Whole g) (h:HI g s k) (hk:s.todo.length≤k):P9 g (fun i=>s.cD.getD i [])∧∀i,i<g.nodes.length→(s.found.getD i false=true↔lZ g (-1) i):=by
 have hall:∀i:Int,lZ g (-1) i→0≤i∧s.f i=true:=fun i hi=>by
  induction hi with
  |zero=>exact⟨by omega,h.zero⟩
  |@step i j hi _ hj ih=>
   obtain⟨i0,hif⟩:=ih
   have hm:=h.all i i0 hif
   obtain⟨q,hq,e⟩:=List.getElem_of_mem hm
   have e2:s.todo.getD q 0=i:=by simp[List.getD,hq,e]
   obtain⟨now,_,d⟩:=h.done q (by omega) hq
   rw[e2] at d
   have h2:=(hw.2.2 i.toNat (h.inr i hm).2.1).2.2 j hj
   exact⟨h2.1,(d j hj).1⟩
 refine⟨⟨h.first,fun i hi=> ?_⟩,fun i hi=>⟨fun hf=>h.oQ i (by omega) hf,fun hc=>(hall i hc).2⟩⟩
 obtain⟨i0,hif⟩:=hall i hi
 have hm:=h.all i i0 hif
 obtain⟨q,hq,e⟩:=List.getElem_of_mem hm
 have e2:s.todo.getD q 0=i:=by simp[List.getD,hq,e]
 obtain⟨now,d1,d⟩:=h.done q (by omega) hq
 rw[e2] at d1 d
 exact⟨now,d1,fun k hk=>(d k hk).2⟩
theorem sR {g:cC} (hw:Whole g):∀(f:Nat) (s:HS) (k:Nat),HI g s k→k+f=g.nodes.length+1→(fZ g f s k).2<0→(fZ g f s k).2=-1∧∃s' k',HI g s' k'∧s'.todo.length≤k'∧(fZ g f s k).1=s'.cD
 |0,s,k,h,he,_=>by
  have:=h.count
  exact⟨rfl,s,k,h,by omega,rfl⟩
 |f+1,s,k,h,he,hneg=>by
  rw[fZ] at hneg ⊢
  by_cases hk:k<s.todo.length
  ·rw[if_pos hk] at hneg ⊢
   have hm:=(h.inr _ (cP (0:Int) hk))
   cases hn:de (g.nd (s.todo.getD k 0).toNat) (s.l (s.todo.getD k 0)) with
   |none=>rw[hn] at hneg;simp only at hneg;omega
   |some now=>
    rw[hn] at hneg
    simp only at hneg ⊢
    cases ht:dZ now (g.nd (s.todo.getD k 0).toNat).oD s with
    |inl s'=>
     rw[ht] at hneg
     exact sR hw f s' (k+1) (h.next hw hk hn ht) (by omega) hneg
    |inr a=>
     rw[ht] at hneg
     simp only at hneg
     exfalso
     have hfol:=(hw.2.2 _ hm.2.1).2.2
     have:∀(l:List Int) (s:HS),(∀x∈l,0≤x)→dZ now l s= .inr a→0≤a:=by
      intro l
      induction l with
      |nil=>intro s _ h;rw[dZ] at h;cases h
      |cons x r ih=>
       intro s hx h
       rw[dZ] at h
       split at h
       ·exact ih _ (fun y hy=>hx y (List.mem_cons_of_mem _ hy)) h
       ·split at h
        ·exact ih _ (fun y hy=>hx y (List.mem_cons_of_mem _ hy)) h
        ·cases h;exact hx _ (by simp)
     have:=this _ _ (fun x hx=>(hfol x hx).1) ht
     omega
  ·rw[if_neg hk]
   exact⟨rfl,s,k,h,by omega,rfl⟩
theorem kP {g:cC} (hw:Whole g) (h:(eL g).2<0):(eL g).2=-1∧(eL g).1.length=g.nodes.length∧P9 g (fun i=>(eL g).1.getD i [])∧∀i,i<g.nodes.length→¬lZ g (-1) i→(eL g).1.getD i []=[]:=by
 obtain⟨h1,s,k,hi,hk,e⟩:=sR hw _ _ _ (HI.start hw) (by omega) h
 refine⟨h1, ?_, ?_,fun i hl hc=> ?_⟩
 ·unfold eL;rw[e];exact hi.oj
 ·unfold eL;rw[e];exact(hi.fin hw hk).1
 ·unfold eL;rw[e]
  have hf:=mt ((hi.fin hw hk).2 i hl).1 hc
  have:=hi.bare i (by omega) (by simpa[HS.f] using hf)
  exact this
end Go.Proofs.YtjopoheligmmoaaGreatDoor
end
section
/- What is reached. -/
namespace Go.Proofs.YtjopoheligmmoaaGreatDoor
open Go Go.cY Go.Proofs
set_option linter.unusedSimpArgs false
set_option linter.unusedVariables false
theorem jP {n:Node} {k:Int}:k∈n.fold↔k∈n.oD:=by
 have:=LB (fun j=>decide (j=k)) n
 rw[Bool.eq_iff_iff,List.any_eq_true,List.any_eq_true] at this
 constructor
 ·intro h;obtain⟨x,h1,h2⟩:=this.1 ⟨k,h,by simp⟩;rw[←of_decide_eq_true h2];exact h1
 ·intro h;obtain⟨x,h1,h2⟩:=this.2 ⟨k,h,by simp⟩;rw[←of_decide_eq_true h2];exact h1
theorem sI (n:Node):n.fold.length≤2:=by unfold Node.fold;split<;>(try split)<;>simp
theorem gd {α:Type} {l:List α} {q:Nat} (h:q<l.length) (d:α):l.getD q d=l[q]:=by simp[List.getD,h]
theorem MJ (n:Nat) (l:List Int):cX n (l.map i64):=(cB _ _).2 fun _ _=>by simp[cI]
theorem ID (n:Nat) (l:List Bool):cX n (l.map bl):=(cB _ _).2 fun _ _=>by simp[cI]
theorem ja {l:List Node} {i:Nat} (h:i<l.length) (d:AV):(l.map Node.av).getD ((i:Int).toNat) d=(l.getD i default).av:=by
 rw[Int.toNat_natCast];exact dN Node.av l i d h
theorem sQ {l:List cC} {i:Nat} (h:i<l.length) (d:AV):(l.map cC.av).getD ((i:Int).toNat) d=(l.getD i default).av:=by
 rw[Int.toNat_natCast];exact dN cC.av l i d h
theorem lA {l:List Int} {i:Nat} (h:i<l.length) (d:AV):(l.map i64).getD ((i:Int).toNat) d=i64 (l.getD i 0):=by
 rw[Int.toNat_natCast];exact dN i64 l i d h
theorem tL (g:cC) (hg:g.Wf):Pure Tryz.prog 198 [g.av] (fun r=>r=bl (lJ g)):=by
 have hl:=hg.len
 refine aI yq rfl ?_
 repeat' (first|((with_reducible refine aF ?_);conv=>whnf)|refine aG ?_|exact gD|with_reducible refine aD ?_ ?_|((with_reducible refine Ask.mk ?_);first|exact dv|exact cz|(intro h;simp_all[cC.cells]<;>fail)|(simp_all[cC.cells]<;>fail))|(apply aB;(·exact cO))|refine aH ?_|((with_reducible refine aA ?_ ?_)<;>intro hc<;>(try simp only[List.length_map,ne_eq,dY] at hc)<;>try(exfalso;omega)))
 ·refine ew (Eq.symm ?_)
  unfold lJ
  by_cases h1:1≤g.nodes.length
  ·rw[decide_eq_false (show ¬g.nodes.length≤4096 by omega)];simp
  ·rw[decide_eq_false h1];simp
 ·simp only[List.length_map]
  refine aM (fun i:Nat=>[(1, .pt 0 1 0 0),(18,ij g.nodes),(19,i64 g.nodes.length),(20,i64 i)])
   (fun i H n=>i≤g.nodes.length∧16≤n∧(∃d,br H 0=some (.row 60 4 d [g.av]))∧∀j,j<i→tE g.nodes.length (g.nd j)=true) (fun i=>g.nodes.length - i) 0 cJ ⟨Nat.zero_le _,cZ,⟨_,bw⟩,fun _ h=>by omega⟩ ?_
  rintro i H n ⟨hi,hn,⟨d0,r0⟩,hall⟩
  by_cases hil:i<g.nodes.length
  ·have hbad:tE g.nodes.length (g.nd i)=false→lJ g=false:=fun h=>by
    unfold lJ
    rw[Bool.and_eq_false_iff]
    right
    rw[Bool.eq_false_iff,ne_eq,List.all_eq_true]
    intro hA
    have:=hA _ (cP default hil)
    rw[show g.nodes.getD i default=g.nd i from rfl,h] at this;cases this
   have hf:=kz (g.nd i)
   have h2:=sI (g.nd i)
   unfold fW at hf
   repeat' (first|((with_reducible refine aF ?_);conv=>whnf)|refine aG ?_|exact gD|with_reducible refine aD ?_ ?_|((with_reducible refine Ask.mk ?_);first|exact dv|exact cz|(intro h;simp_all[cC.cells,Node.cells]<;>fail)|(simp_all[cC.cells,Node.cells]<;>fail))|(apply aB;(·(first|exact ja hil _|exact cO)))|refine aK (hf) ?_|refine aH ?_|((with_reducible refine aA ?_ ?_)<;>intro hc<;>(try simp only[List.length_map,ne_eq,dY] at hc)<;>try(exfalso;omega)))
   ·refine ew (Eq.symm (hbad ?_))
    unfold tE
    have hc:(g.nd i).kind=0∨10≤(g.nd i).kind:=hc
    by_cases h1:(g.nd i).kind<10
    ·rw[decide_eq_false (show ¬1≤(g.nd i).kind by omega)];simp
    ·rw[decide_eq_false h1];simp
   ·have hk0:0≤(g.nd i).kind:=(hg.nodes _ (cP default hil)).kind.1
    have hkk:¬(g.nd i).kind=0∧(g.nd i).kind<10:=hc
    clear hf
    simp only[List.length_map]
    refine aM (fun j:Nat=>[(1, .pt 0 1 0 0),(4, .pt (n+3) 1 0 0),(18,ij g.nodes),(19,i64 g.nodes.length),(20,i64 i),(33,fW (g.nd i).fold),(34,i64 (g.nd i).fold.length),(35,i64 j)])
     (fun j H2 n2=>j≤(g.nd i).fold.length∧n+4≤n2∧(∃d,br H2 0=some (.row 60 4 d [g.av]))∧∀q,q<j→0≤(g.nd i).fold.getD q 0∧(g.nd i).fold.getD q 0<g.nodes.length) (fun j=>(g.nd i).fold.length - j) 0 cJ ⟨Nat.zero_le _,cZ,⟨_,bw⟩,fun _ h=>by omega⟩ ?_
    clear r0
    rintro j H2 n2 ⟨hj,hn2,⟨d02,r02⟩,hq⟩
    unfold fW
    by_cases hjl:j<(g.nd i).fold.length
    ·repeat' (first|((with_reducible refine aF ?_);conv=>whnf)|refine aG ?_|exact gD|with_reducible refine aD ?_ ?_|((with_reducible refine Ask.mk ?_);first|exact dv|exact cz|(intro h;simp_all[cC.cells]<;>fail)|(simp_all[cC.cells]<;>fail))|(apply aB;(·(first|exact lA hjl _|exact cO)))|refine aH ?_|((with_reducible refine aA ?_ ?_)<;>intro hc<;>(try simp only[List.length_map,ne_eq,dY] at hc)<;>try(exfalso;omega)))
     ·refine ew (Eq.symm (hbad ?_))
      unfold tE
      rw[Bool.and_eq_false_iff]
      right
      rw[Bool.eq_false_iff,ne_eq,List.all_eq_true]
      intro hA
      have:=hA _ (jP.1 (cP 0 hjl))
      simp only[Bool.and_eq_true,decide_eq_true_eq] at this
      omega
     ·refine⟨j+1,by omega,cJ,by omega,by omega,⟨_,bw⟩,fun q hq2=> ?_⟩
      by_cases e:q=j
      ·rw[e];omega
      ·exact hq q (by omega)
    ·have:j=(g.nd i).fold.length:=by omega
     subst this
     repeat' (first|((with_reducible refine aF ?_);conv=>whnf)|refine aG ?_|exact aC|with_reducible refine aD ?_ ?_|(apply aB;(·exact cO))|refine aH ?_|((with_reducible refine aA ?_ ?_)<;>intro hc<;>(try simp only[List.length_map,ne_eq,dY] at hc)<;>try(exfalso;omega)))
     refine⟨i+1,by omega,cJ,by omega,by omega,⟨_,bw⟩,fun j hj=> ?_⟩
     by_cases e:j=i
     ·rw[e]
      unfold tE
      rw[decide_eq_true (show 1≤(g.nd i).kind by omega),decide_eq_true hkk.2]
      simp only[Bool.true_and]
      rw[List.all_eq_true]
      intro k hk
      obtain⟨q,hq1,e⟩:=List.getElem_of_mem (jP.2 hk)
      have:=hq q hq1
      rw[gd hq1,e] at this
      simp[this.1,this.2]
     ·exact hall j (by omega)
  ·have:i=g.nodes.length:=by omega
   subst this
   repeat' (first|((with_reducible refine aF ?_);conv=>whnf)|refine aG ?_|exact aC|with_reducible refine aD ?_ ?_|(apply aB;(·exact cO))|refine aH ?_|((with_reducible refine aA ?_ ?_)<;>intro hc<;>(try simp only[List.length_map,ne_eq,dY] at hc)<;>try(exfalso;omega)))
   refine ew (Eq.symm ?_)
   unfold lJ
   rw[decide_eq_true (show 1≤g.nodes.length by omega),decide_eq_true (show g.nodes.length≤4096 by omega)]
   simp only[Bool.true_and]
   rw[List.all_eq_true]
   intro m hm
   obtain⟨q,hq1,rfl⟩:=List.getElem_of_mem hm
   have:=hall q hq1
   rw[show g.nd q=g.nodes[q] by simp[List.getD,hq1]] at this
   exact this
theorem wX (g:cC) (hg:g.Wf) (hw:lJ g=true) (hs:Pure Tryz.prog 199 [g.av,i64 (-1)] (fun r=>r=EZ (fY g (-1)))):Pure Tryz.prog 166 [g.av] (fun r=>r=EZ (fY g (-1))):=by
 refine aI yj rfl ?_
 have h1:=tL g hg
 rw[hw] at h1
 repeat' (first|((with_reducible refine aF ?_);conv=>whnf)|refine aG ?_|exact gD|with_reducible refine aD ?_ ?_|((with_reducible refine Ask.mk ?_);first|exact dv|exact cz|(intro h;simp_all[cC.cells]<;>fail)|(simp_all[cC.cells]<;>fail))|(apply aB;(·exact cO))|refine aK (h1) ?_|refine aK (hs) ?_|refine aH ?_|((with_reducible refine aA ?_ ?_)<;>intro hc<;>(try simp only[List.length_map,ne_eq,dY] at hc)<;>try(exfalso;omega)))
 exact QB.eq (by simp[cI,EZ,cB]) rfl
end Go.Proofs.YtjopoheligmmoaaGreatDoor
end
