import Derived.Test.YtlonbgdonffcbaaGreatDoorM21
section
/- Right objects. -/
namespace Go.Proofs.YtlonbgdonffcbaaGreatDoor
open Go Go.cY Go.Proofs
set_option linter.unusedSimpArgs false
theorem tK (c d:Core) (b:Nat) (H:Hp) (nx:Nat) (e:TypeId) (df:AV) (hb:bf H b=some (.row e 2 df [c.av])) (hlt:b<nx):jB Tryz.prog 72 [d.av, .pt b 1 0 0] H nx (bl (d.name==c.name)):=by
 refine aS GH rfl ?_
 repeat' (first|((with_reducible refine aF ?_);conv=>whnf)|refine aG ?_|exact aC|with_reducible refine aD ?_ ?_|(apply aA;(·exact cF))|refine aH ?_|((with_reducible refine aB ?_ ?_)<;>intro hc<;>(try simp only[List.length_map,ne_eq,dW] at hc)<;>try(exfalso;omega)))
 exact pn.look rfl dH
theorem drop_cons {α:Type} [Inhabited α] {l:List α} {i:Nat} (h:i<l.length):l.drop i=l.getD i default::l.drop (i+1):=by
 rw[List.drop_eq_getElem_cons h]
 simp[List.getD,h]
def gG (name:ByteArray):List Core→Nat→Int
 |[],_=>-1
 |d::r,k=>if(d.name==name)=true then k else gG name r (k+1)
theorem va (c:Core) (l:List Core) (hl:l.length * 40≤140737488351232) (b:Nat) (H:Hp) (nx:Nat) (e:TypeId) (df:AV) (hb:bf H b=some (.row e 2 df [c.av])) (hlt:b<nx):jB Tryz.prog 106 [.im 2 .any (l.map Core.av), .fn (.func 72) [] [.pt b 1 0 0]] H nx (i64 (gG c.name l 0)):=by
 refine aS vi rfl ?_
 repeat' (first|((with_reducible refine aF ?_);conv=>whnf)|refine aG ?_|exact aC|with_reducible refine aD ?_ ?_|(apply aA;(·exact cF))|refine aH ?_|((with_reducible refine aB ?_ ?_)<;>intro hc<;>(try simp only[List.length_map,ne_eq,dW] at hc)<;>try(exfalso;omega)))
 refine aT (fun i:Nat=>[(0, .im 2 .any (l.map Core.av)),(1, .fn (.func 72) [] [.pt b 1 0 0]),(7,i64 l.length),(8,i64 i)]) (fun i H' n=>i≤l.length∧H'=H∧nx≤n∧gG c.name l 0=gG c.name (l.drop i) i) (fun i=>l.length - i) 0 cG ⟨Nat.zero_le _,rfl,by omega,rfl⟩ ?_
 rintro i H' n ⟨hi,rfl,hn,hs⟩
 repeat' (first|((with_reducible refine aF ?_);conv=>whnf)|refine aG ?_|exact aC|with_reducible refine aD ?_ ?_|(apply aA;(·exact cF))|((refine aR (tK c _ b _ _ e df hb (by omega)) ?_ ?_);(·exact True.intro))|((refine aV (fun _=>tK c _ b _ _ e df hb (by omega)) ?_ ?_);(·exact True.intro))|refine aH ?_|((with_reducible refine aB ?_ ?_)<;>intro hc<;>(try simp only[List.length_map,ne_eq,dW] at hc)<;>try(exfalso;omega)))
 ·try simp only[Int.toNat_natCast] at hc
  refine pn.look ?_ dH
  rw[hs,drop_cons (by omega),gG,if_pos hc]
 ·try simp only[Int.toNat_natCast] at hc
  refine⟨i+1,by omega,cG,by omega,rfl,by omega, ?_⟩
  rw[hs,drop_cons (by omega),gG,if_neg (by rw[hc];simp)]
 ·refine pn.look ?_ dH
  rw[hs,List.drop_eq_nil_of_le (by omega),gG]
theorem oq (name:ByteArray):∀(l:List Core) (k:Nat),0≤gG name l k↔(l.any (fun d=>d.name==name))=true
 |[],k=>by simp[gG]
 |d::r,k=>by
  have ih:=oq name r (k+1)
  simp only[gG,List.any_cons,Bool.or_eq_true]
  by_cases h:(d.name==name)=true
  ·rw[if_pos h];exact⟨fun _=>Or.inl h,fun _=>by omega⟩
  ·rw[if_neg h,ih];exact⟨Or.inr,fun hh=>hh.resolve_left h⟩
theorem v7 (name:ByteArray) (l:List Core) (k:Nat):(decide (0≤gG name l k))=l.any (fun d=>d.name==name):=by
 rw[Bool.eq_iff_iff,decide_eq_true_eq]
 exact oq name l k
theorem DG (c:Core) (l:List Core) (hl:l.length * 40≤140737488351232) (b:Nat) (H:Hp) (nx:Nat) (e:TypeId) (df:AV) (hb:bf H b=some (.row e 2 df [c.av])) (hlt:b<nx):jB Tryz.prog 74 [.im 2 .any (l.map Core.av), .fn (.func 72) [] [.pt b 1 0 0]] H nx (bl (l.any fun d=>d.name==c.name)):=by
 refine aS GJ rfl ?_
 repeat' (first|((with_reducible refine aF ?_);conv=>whnf)|refine aG ?_|exact aC|with_reducible refine aD ?_ ?_|(apply aA;(·exact cF))|((refine aR (va c l hl b _ _ e df hb (by omega)) ?_ ?_);(·exact True.intro))|((refine aV (fun _=>va c l hl b _ _ e df hb (by omega)) ?_ ?_);(·exact True.intro))|refine aH ?_|((with_reducible refine aB ?_ ?_)<;>intro hc<;>(try simp only[List.length_map,ne_eq,dW] at hc)<;>try(exfalso;omega)))
 refine pn.look ?_ dH
 rw[←v7 c.name l 0]
def qm (c:Core):Bool:=decide ((c.code.getD ((c.code.length:Int) - 1).toNat default).kind=10)||decide ((c.code.getD ((c.code.length:Int) - 1).toNat default).kind=8)
def iX (pre:List Core) (c:Core):Bool:=isName c.name&& !(pre.any fun d=>d.name==c.name)&&decide (1≤c.code.length)&&decide (c.code.length≤16384)&&qm c
def gr:List Core→List Core→Bool
 |_,[]=>true
 |pre,c::r=>iX pre c&&gr (pre++[c]) r
def eX (o:Obj):Bool:=decide (0≤o.shared)&&decide (o.shared≤64)&&decide (0≤o.iG)&&decide (o.iG≤16)&&decide (o.shared+o.iG≤o.mem.length)&&decide (o.mem.length≤4096)&&decide (1≤o.buffer)&&decide (o.buffer≤16)&&decide (o.bg.length≤8)&&gr [] o.bg
theorem mG {l:List Core} {i:Nat} (h:i<l.length):gr (l.take i) (l.drop i)=(iX (l.take i) (l.getD i default)&&gr (l.take (i+1)) (l.drop (i+1))):=by
 rw[drop_cons h,gr,List.take_succ_eq_append_getElem h]
 simp[List.getD,h]
theorem Obj.Wf.at {o:Obj} (ho:o.Wf) (i:Nat):(o.bg.getD i default).Wf:=by
 by_cases h:i<o.bg.length
 ·have:o.bg.getD i default=o.bg[i]:=by simp[List.getD,h]
  rw[this];exact ho.bg _ (List.getElem_mem h)
 ·have:o.bg.getD i default=default:=by simp[List.getD,h]
  rw[this];exact⟨by decide,(fun _ hi=>nomatch hi),by decide⟩
theorem yu (c:Core) (l:List Core) (i:Nat) (hl:l.length * 40≤140737488351232) (b:Nat) (H:Hp) (nx:Nat) (e:TypeId) (df:AV) (hb:bf H b=some (.row e 2 df [c.av])) (hlt:b<nx):jB Tryz.prog 74 [.im 2 .any (((l.map Core.av).drop 0).take (((i:Nat):Int).toNat - 0)), .fn (.func 72) [] [.pt b 1 0 0]] H nx (bl ((l.take i).any fun d=>d.name==c.name)):=by
 have h:=DG c (l.take i) (by rw[List.length_take];omega) b H nx e df hb hlt
 rw[List.map_take] at h
 exact h
theorem wq (o:Obj) (ho:o.Wf):Pure Tryz.prog 56 [o.av] (fun r=>r=bl (eX o)):=by
 refine aI F7 rfl ?_
 repeat' (first|((with_reducible refine aF ?_);conv=>whnf)|refine aG ?_|exact aC|with_reducible refine aD ?_ ?_|(apply aA;(·exact cF))|refine aH ?_|((with_reducible refine aB ?_ ?_)<;>intro hc<;>(try simp only[List.length_map,ne_eq,dW] at hc)<;>try(exfalso;omega)))
 ·congr 2
  simp only[eX]
  grind
 ·refine aT (fun i:Nat=>[(1, .pt 0 1 0 0),(60, .im 2 .any (o.bg.map Core.av)),(61,i64 o.bg.length),(62,i64 i)]) (fun i H' n=>i≤o.bg.length∧1≤n∧bf H' 0=some (.row 25 5 .any [o.av])∧gr [] o.bg=gr (o.bg.take i) (o.bg.drop i)) (fun i=>o.bg.length - i) 0 cG ⟨Nat.zero_le _,by omega,rfl,rfl⟩ ?_
  rintro i H' n ⟨hi,hn,hr,hs⟩
  repeat' (first|((with_reducible refine aF ?_);conv=>whnf)|refine aG ?_|exact aC|with_reducible refine aD ?_ ?_|(apply aA;(·exact cF))|((with_reducible refine aN (l8 _ (ho.at _).name) ?_ ?_);(·exact bn))|((with_reducible refine aM (fun _=>l8 _ (ho.at _).name) ?_ ?_);(·exact bn))|((with_reducible refine aJ (l8 _ (ho.at _).name) ?_ ?_);(·exact bn))|((with_reducible refine aL (fun _=>l8 _ (ho.at _).name) ?_ ?_);(·exact bn))|((refine aR (yu _ o.bg i ho.mu _ _ _ _ _ bo (by omega)) ?_ ?_);(·exact True.intro))|((refine aV (fun _=>yu _ o.bg i ho.mu _ _ _ _ _ bo (by omega)) ?_ ?_);(·exact True.intro))|refine aH ?_|((with_reducible refine aB ?_ ?_)<;>intro hc<;>(try simp only[List.length_map,ne_eq,dW] at hc)<;>try(exfalso;omega)))
  ·have hb:eX o=false:=by
    have:iX (o.bg.take i) (o.bg.getD i default)=false:=by
     simp only[iX]
     grind
    simp only[eX]
    rw[hs,mG (by omega),this]
    simp
   rw[hb]
  ·have hb:eX o=false:=by
    have:iX (o.bg.take i) (o.bg.getD i default)=false:=by
     simp only[iX,qm]
     grind
    simp only[eX]
    rw[hs,mG (by omega),this]
    simp
   rw[hb]
  ·have hb:iX (o.bg.take i) (o.bg.getD i default)=true:=by
    simp only[iX,qm]
    grind
   refine⟨i+1,by omega,cG,by omega,by omega,bo, ?_⟩
   rw[hs,mG (by omega),hb,Bool.true_and]
  ·rw[List.drop_eq_nil_of_le (by omega),gr] at hs
   have hb:eX o=true:=by
    simp only[eX]
    rw[hs]
    grind
   rw[hb]
def nu (len mem:Int):List Instr→Nat→Option Nat
 |[],_=>none
 |i::r,k=>if iI i len mem=true then nu len mem r (k+1) else some k
def pG (mem:Int):List Core→Nat→Option (Nat×Nat)
 |[],_=>none
 |c::r,k=>match nu c.code.length mem c.code 0 with
  |some n=>some (k,n)
  |none=>pG mem r (k+1)
def gq (o:Obj):AV:=if eX o=true then(match pG o.mem.length o.bg 0 with
 |none=> .dB [i64 0,i64 0,i64 0]
 |some (k,n)=> .dB [i64 160,i64 k,i64 n]) else .dB [i64 160,i64 0,i64 0]
@[simp] theorem N4 (n:Nat) (o:Obj):cB n (gq o):=by
  simp only[gq]
  split
  ·split<;>simp[cB,cJ]
  ·simp[cB,cJ]
theorem Core.Wf.at {c:Core} (hc:c.Wf) (i:Nat):(c.code.getD i default).Wf:=by
 by_cases h:i<c.code.length
 ·have:c.code.getD i default=c.code[i]:=by simp[List.getD,h]
  rw[this];exact hc.code _ (List.getElem_mem h)
 ·have:c.code.getD i default=default:=by simp[List.getD,h]
  rw[this]
  constructor<;>first|decide|(unfold dE;decide)
theorem jz (o:Obj) (ho:o.Wf):Pure Tryz.prog 25 [o.av] (fun r=>r=gq o):=by
 refine aI FG rfl ?_
 repeat' (first|((with_reducible refine aF ?_);conv=>whnf)|refine aG ?_|exact aC|with_reducible refine aD ?_ ?_|(apply aA;(·exact cF))|refine aK (wq o ho) ?_|refine aH ?_|((with_reducible refine aB ?_ ?_)<;>intro hc<;>(try simp only[List.length_map,ne_eq,dW] at hc)<;>try(exfalso;omega)))
 ·simp[gq,hc]
 ·refine aT (fun i:Nat=>[(1, .pt 0 1 0 0),(13, .im 2 .any (o.bg.map Core.av)),(14,i64 o.bg.length),(15,i64 i)]) (fun i H' n=>i≤o.bg.length∧1≤n∧bf H' 0=some (.row 25 5 .any [o.av])∧pG o.mem.length o.bg 0=pG o.mem.length (o.bg.drop i) i) (fun i=>o.bg.length - i) 0 cG ⟨Nat.zero_le _,by omega,rfl,rfl⟩ ?_
  rintro i H' n ⟨hi,hn,hr,hs⟩
  have hol:=ho.mu
  repeat' (first|((with_reducible refine aF ?_);conv=>whnf)|refine aG ?_|exact aC|with_reducible refine aD ?_ ?_|(apply aA;(·exact cF))|refine aH ?_|((with_reducible refine aB ?_ ?_)<;>intro hc<;>(try simp only[List.length_map,ne_eq,dW] at hc)<;>try(exfalso;omega)))
  ·refine aT (fun k:Nat=>[(1, .pt 0 1 0 0),(5,i64 i),(6, .pt (n+1+1+1+1) 1 0 0),(13, .im 2 .any (o.bg.map Core.av)),(14,i64 o.bg.length),(15,i64 i),(21, .im 9 .any ((o.bg.getD i default).code.map Instr.av)),(22,i64 (o.bg.getD i default).code.length),(23,i64 k)]) (fun k H2 n2=>k≤(o.bg.getD i default).code.length∧n+5≤n2∧bf H2 0=some (.row 25 5 .any [o.av])∧(∃df,bf H2 (n+1+1+1+1)=some (.row 66 2 df [(o.bg.getD i default).av]))∧nu (o.bg.getD i default).code.length o.mem.length (o.bg.getD i default).code 0=nu (o.bg.getD i default).code.length o.mem.length ((o.bg.getD i default).code.drop k) k) (fun k=>(o.bg.getD i default).code.length - k) 0 cG ⟨Nat.zero_le _,by omega,bo,⟨_,bo⟩,rfl⟩ ?_
   rintro k H2 n2 ⟨hk,hn2,hr2,⟨df,hr3⟩,hs2⟩
   have hcl:=(ho.at i).len
   repeat' (first|((with_reducible refine aF ?_);conv=>whnf)|refine aG ?_|exact aC|with_reducible refine aD ?_ ?_|(apply aA;(·exact cF))|((with_reducible refine aN (jx _ ((ho.at _).at _) _ _) ?_ ?_);(·exact bn))|((with_reducible refine aM (fun _=>jx _ ((ho.at _).at _) _ _) ?_ ?_);(·exact bn))|((with_reducible refine aJ (jx _ ((ho.at _).at _) _ _) ?_ ?_);(·exact bn))|((with_reducible refine aL (fun _=>jx _ ((ho.at _).at _) _ _) ?_ ?_);(·exact bn))|refine aH ?_|((with_reducible refine aB ?_ ?_)<;>intro hc<;>(try simp only[List.length_map,ne_eq,dW] at hc)<;>try(exfalso;omega)))
   ·have h1:nu (o.bg.getD i default).code.length o.mem.length (o.bg.getD i default).code 0=some k:=by
     rw[hs2,drop_cons (by omega),nu,if_neg (by rw[hc];simp)]
    have h2:pG o.mem.length o.bg 0=some (i,k):=by
     rw[hs,drop_cons (by omega),pG,h1]
    rw[gq,if_pos (by assumption),h2]
   ·refine⟨k+1,by omega,cG,by omega,by omega,bo,⟨_,bo⟩, ?_⟩
    rw[hs2,drop_cons (by omega),nu,if_pos hc]
   ·have h1:nu (o.bg.getD i default).code.length o.mem.length (o.bg.getD i default).code 0=none:=by
     rw[hs2,List.drop_eq_nil_of_le (by omega),nu]
    refine⟨i+1,by omega,cG,by omega,by omega,bo, ?_⟩
    rw[hs,drop_cons (by omega),pG,h1]
  ·rw[List.drop_eq_nil_of_le (by omega),pG] at hs
   rw[gq,if_pos (by assumption),hs]
end Go.Proofs.YtlonbgdonffcbaaGreatDoor
/- Operators. -/
namespace Go.Proofs.YtlonbgdonffcbaaGreatDoor
open Go Go.cY Go.Proofs
set_option linter.unusedSimpArgs false
abbrev u5 (n:Int):Int:=IntKind.i64.wrap n
def B9 (a b:Int):Int:=if b=0 then 0 else if b=-1 then u5 (0 - a) else u5 (a.tdiv b)
def HQ (a b:Int):Int:=if b=0 then a else u5 (a - u5 (B9 a b * b))
def OK (a b:Int):Int:=u5 ((BitVec.ofInt 64 a&&& BitVec.ofInt 64 b).toNat:Int)
def QP (a b:Int):Int:=u5 ((BitVec.ofInt 64 a|||BitVec.ofInt 64 b).toNat:Int)
def PN (a b:Int):Int:=u5 ((BitVec.ofInt 64 a^^^BitVec.ofInt 64 b).toNat:Int)
def DW (b:Int):Int:=IntKind.u64.wrap ((BitVec.ofInt 64 (IntKind.u64.wrap b)&&& BitVec.ofInt 64 63).toNat:Int)
def PF (a b:Int):Int:=u5 (a * 2^(min (DW b).toNat 64))
def KH (a b:Int):Int:=a.fdiv (2^(min (DW b).toNat 64))
def tr (t:Bool):Int:=if t=true then 1 else 0
theorem cQ (t:Bool):Pure Tryz.prog 143 [bl t] (fun r=>r=i64 (tr t)):=by
 refine aI wJ rfl ?_
 repeat' (first|((with_reducible refine aF ?_);conv=>whnf)|refine aG ?_|exact aC|with_reducible refine aD ?_ ?_|(apply aA;(·exact cF))|refine aH ?_|((with_reducible refine aB ?_ ?_)<;>intro hc<;>(try simp only[List.length_map,ne_eq,dW] at hc)<;>try(exfalso;omega)))
 all_goals simp_all[tr]
theorem mh (a b:Int):Pure Tryz.prog 121 [i64 a,i64 b] (fun r=>r=i64 (u5 (a+b))):=by
 refine aI vp rfl ?_
 repeat' (first|((with_reducible refine aF ?_);conv=>whnf)|refine aG ?_|exact aC|with_reducible refine aD ?_ ?_|(apply aA;(·exact cF))|refine aH ?_|((with_reducible refine aB ?_ ?_)<;>intro hc<;>(try simp only[List.length_map,ne_eq,dW] at hc)<;>try(exfalso;omega)))
 all_goals exact rfl
theorem ng (a b:Int):Pure Tryz.prog 122 [i64 a,i64 b] (fun r=>r=i64 (u5 (a - b))):=by
 refine aI vq rfl ?_
 repeat' (first|((with_reducible refine aF ?_);conv=>whnf)|refine aG ?_|exact aC|with_reducible refine aD ?_ ?_|(apply aA;(·exact cF))|refine aH ?_|((with_reducible refine aB ?_ ?_)<;>intro hc<;>(try simp only[List.length_map,ne_eq,dW] at hc)<;>try(exfalso;omega)))
 all_goals exact rfl
theorem nR (a b:Int):Pure Tryz.prog 123 [i64 a,i64 b] (fun r=>r=i64 (u5 (a * b))):=by
 refine aI vr rfl ?_
 repeat' (first|((with_reducible refine aF ?_);conv=>whnf)|refine aG ?_|exact aC|with_reducible refine aD ?_ ?_|(apply aA;(·exact cF))|refine aH ?_|((with_reducible refine aB ?_ ?_)<;>intro hc<;>(try simp only[List.length_map,ne_eq,dW] at hc)<;>try(exfalso;omega)))
 all_goals exact rfl
theorem gy (a b:Int):Pure Tryz.prog 124 [i64 a,i64 b] (fun r=>r=i64 (B9 a b)):=by
 refine aI vt rfl ?_
 repeat' (first|((with_reducible refine aF ?_);conv=>whnf)|refine aG ?_|exact aC|with_reducible refine aD ?_ ?_|(apply aA;(·exact cF))|refine aH ?_|((with_reducible refine aB ?_ ?_)<;>intro hc<;>(try simp only[List.length_map,ne_eq,dW] at hc)<;>try(exfalso;omega)))
 all_goals simp_all[B9]
theorem nY (a b:Int):Pure Tryz.prog 125 [i64 a,i64 b] (fun r=>r=i64 (HQ a b)):=by
 refine aI vu rfl ?_
 repeat' (first|((with_reducible refine aF ?_);conv=>whnf)|refine aG ?_|exact aC|with_reducible refine aD ?_ ?_|(apply aA;(·exact cF))|((with_reducible refine aN (gy _ _) ?_ ?_);(·exact bn))|((with_reducible refine aM (fun _=>gy _ _) ?_ ?_);(·exact bn))|((with_reducible refine aJ (gy _ _) ?_ ?_);(·exact bn))|((with_reducible refine aL (fun _=>gy _ _) ?_ ?_);(·exact bn))|refine aH ?_|((with_reducible refine aB ?_ ?_)<;>intro hc<;>(try simp only[List.length_map,ne_eq,dW] at hc)<;>try(exfalso;omega)))
 all_goals simp_all[HQ]
theorem mj (a b:Int):Pure Tryz.prog 126 [i64 a,i64 b] (fun r=>r=i64 (OK a b)):=by
 refine aI vv rfl ?_
 repeat' (first|((with_reducible refine aF ?_);conv=>whnf)|refine aG ?_|exact aC|with_reducible refine aD ?_ ?_|(apply aA;(·exact cF))|refine aH ?_|((with_reducible refine aB ?_ ?_)<;>intro hc<;>(try simp only[List.length_map,ne_eq,dW] at hc)<;>try(exfalso;omega)))
 all_goals exact rfl
theorem pf (a b:Int):Pure Tryz.prog 127 [i64 a,i64 b] (fun r=>r=i64 (QP a b)):=by
 refine aI vw rfl ?_
 repeat' (first|((with_reducible refine aF ?_);conv=>whnf)|refine aG ?_|exact aC|with_reducible refine aD ?_ ?_|(apply aA;(·exact cF))|refine aH ?_|((with_reducible refine aB ?_ ?_)<;>intro hc<;>(try simp only[List.length_map,ne_eq,dW] at hc)<;>try(exfalso;omega)))
 all_goals exact rfl
theorem ni (a b:Int):Pure Tryz.prog 128 [i64 a,i64 b] (fun r=>r=i64 (PN a b)):=by
 refine aI vx rfl ?_
 repeat' (first|((with_reducible refine aF ?_);conv=>whnf)|refine aG ?_|exact aC|with_reducible refine aD ?_ ?_|(apply aA;(·exact cF))|refine aH ?_|((with_reducible refine aB ?_ ?_)<;>intro hc<;>(try simp only[List.length_map,ne_eq,dW] at hc)<;>try(exfalso;omega)))
 all_goals exact rfl
theorem na (a b:Int):Pure Tryz.prog 129 [i64 a,i64 b] (fun r=>r=i64 (PF a b)):=by
 refine aI vy rfl ?_
 repeat' (first|((with_reducible refine aF ?_);conv=>whnf)|refine aG ?_|exact aC|with_reducible refine aD ?_ ?_|(apply aA;(·exact cF))|refine aH ?_|((with_reducible refine aB ?_ ?_)<;>intro hc<;>(try simp only[List.length_map,ne_eq,dW] at hc)<;>try(exfalso;omega)))
 all_goals exact rfl
theorem nb (a b:Int):Pure Tryz.prog 130 [i64 a,i64 b] (fun r=>r=i64 (KH a b)):=by
 refine aI vz rfl ?_
 repeat' (first|((with_reducible refine aF ?_);conv=>whnf)|refine aG ?_|exact aC|with_reducible refine aD ?_ ?_|(apply aA;(·exact cF))|refine aH ?_|((with_reducible refine aB ?_ ?_)<;>intro hc<;>(try simp only[List.length_map,ne_eq,dW] at hc)<;>try(exfalso;omega)))
 all_goals exact rfl
theorem pa (a b:Int):Pure Tryz.prog 131 [i64 a,i64 b] (fun r=>r=i64 (tr (decide (a=b)))):=by
 refine aI wA rfl ?_
 repeat' (first|((with_reducible refine aF ?_);conv=>whnf)|refine aG ?_|exact aC|with_reducible refine aD ?_ ?_|(apply aA;(·exact cF))|((with_reducible refine aN (cQ _) ?_ ?_);(·exact bn))|((with_reducible refine aM (fun _=>cQ _) ?_ ?_);(·exact bn))|((with_reducible refine aJ (cQ _) ?_ ?_);(·exact bn))|((with_reducible refine aL (fun _=>cQ _) ?_ ?_);(·exact bn))|refine aH ?_|((with_reducible refine aB ?_ ?_)<;>intro hc<;>(try simp only[List.length_map,ne_eq,dW] at hc)<;>try(exfalso;omega)))
 all_goals exact rfl
theorem kE (a b:Int):Pure Tryz.prog 132 [i64 a,i64 b] (fun r=>r=i64 (tr (decide (a≠b)))):=by
 refine aI wB rfl ?_
 repeat' (first|((with_reducible refine aF ?_);conv=>whnf)|refine aG ?_|exact aC|with_reducible refine aD ?_ ?_|(apply aA;(·exact cF))|((with_reducible refine aN (cQ _) ?_ ?_);(·exact bn))|((with_reducible refine aM (fun _=>cQ _) ?_ ?_);(·exact bn))|((with_reducible refine aJ (cQ _) ?_ ?_);(·exact bn))|((with_reducible refine aL (fun _=>cQ _) ?_ ?_);(·exact bn))|refine aH ?_|((with_reducible refine aB ?_ ?_)<;>intro hc<;>(try simp only[List.length_map,ne_eq,dW] at hc)<;>try(exfalso;omega)))
 all_goals exact rfl
theorem lZ (a b:Int):Pure Tryz.prog 133 [i64 a,i64 b] (fun r=>r=i64 (tr (decide (a<b)))):=by
 refine aI wC rfl ?_
 repeat' (first|((with_reducible refine aF ?_);conv=>whnf)|refine aG ?_|exact aC|with_reducible refine aD ?_ ?_|(apply aA;(·exact cF))|((with_reducible refine aN (cQ _) ?_ ?_);(·exact bn))|((with_reducible refine aM (fun _=>cQ _) ?_ ?_);(·exact bn))|((with_reducible refine aJ (cQ _) ?_ ?_);(·exact bn))|((with_reducible refine aL (fun _=>cQ _) ?_ ?_);(·exact bn))|refine aH ?_|((with_reducible refine aB ?_ ?_)<;>intro hc<;>(try simp only[List.length_map,ne_eq,dW] at hc)<;>try(exfalso;omega)))
 all_goals exact rfl
theorem l6 (a b:Int):Pure Tryz.prog 134 [i64 a,i64 b] (fun r=>r=i64 (tr (decide (a≤b)))):=by
 refine aI wD rfl ?_
 repeat' (first|((with_reducible refine aF ?_);conv=>whnf)|refine aG ?_|exact aC|with_reducible refine aD ?_ ?_|(apply aA;(·exact cF))|((with_reducible refine aN (cQ _) ?_ ?_);(·exact bn))|((with_reducible refine aM (fun _=>cQ _) ?_ ?_);(·exact bn))|((with_reducible refine aJ (cQ _) ?_ ?_);(·exact bn))|((with_reducible refine aL (fun _=>cQ _) ?_ ?_);(·exact bn))|refine aH ?_|((with_reducible refine aB ?_ ?_)<;>intro hc<;>(try simp only[List.length_map,ne_eq,dW] at hc)<;>try(exfalso;omega)))
 all_goals exact rfl
theorem jy (a b:Int):Pure Tryz.prog 135 [i64 a,i64 b] (fun r=>r=i64 (tr (decide (b<a)))):=by
 refine aI wE rfl ?_
 repeat' (first|((with_reducible refine aF ?_);conv=>whnf)|refine aG ?_|exact aC|with_reducible refine aD ?_ ?_|(apply aA;(·exact cF))|((with_reducible refine aN (cQ _) ?_ ?_);(·exact bn))|((with_reducible refine aM (fun _=>cQ _) ?_ ?_);(·exact bn))|((with_reducible refine aJ (cQ _) ?_ ?_);(·exact bn))|((with_reducible refine aL (fun _=>cQ _) ?_ ?_);(·exact bn))|refine aH ?_|((with_reducible refine aB ?_ ?_)<;>intro hc<;>(try simp only[List.length_map,ne_eq,dW] at hc)<;>try(exfalso;omega)))
 all_goals exact rfl
theorem kF (a b:Int):Pure Tryz.prog 136 [i64 a,i64 b] (fun r=>r=i64 (tr (decide (b≤a)))):=by
 refine aI wF rfl ?_
 repeat' (first|((with_reducible refine aF ?_);conv=>whnf)|refine aG ?_|exact aC|with_reducible refine aD ?_ ?_|(apply aA;(·exact cF))|((with_reducible refine aN (cQ _) ?_ ?_);(·exact bn))|((with_reducible refine aM (fun _=>cQ _) ?_ ?_);(·exact bn))|((with_reducible refine aJ (cQ _) ?_ ?_);(·exact bn))|((with_reducible refine aL (fun _=>cQ _) ?_ ?_);(·exact bn))|refine aH ?_|((with_reducible refine aB ?_ ?_)<;>intro hc<;>(try simp only[List.length_map,ne_eq,dW] at hc)<;>try(exfalso;omega)))
 all_goals exact rfl
theorem kK (a:Int):Pure Tryz.prog 137 [i64 a] (fun r=>r=i64 (u5 (0 - a))):=by
 refine aI wG rfl ?_
 repeat' (first|((with_reducible refine aF ?_);conv=>whnf)|refine aG ?_|exact aC|with_reducible refine aD ?_ ?_|(apply aA;(·exact cF))|refine aH ?_|((with_reducible refine aB ?_ ?_)<;>intro hc<;>(try simp only[List.length_map,ne_eq,dW] at hc)<;>try(exfalso;omega)))
 all_goals exact rfl
theorem nT (a:Int):Pure Tryz.prog 138 [i64 a] (fun r=>r=i64 (tr (decide (a=0)))):=by
 refine aI wH rfl ?_
 repeat' (first|((with_reducible refine aF ?_);conv=>whnf)|refine aG ?_|exact aC|with_reducible refine aD ?_ ?_|(apply aA;(·exact cF))|((with_reducible refine aN (cQ _) ?_ ?_);(·exact bn))|((with_reducible refine aM (fun _=>cQ _) ?_ ?_);(·exact bn))|((with_reducible refine aJ (cQ _) ?_ ?_);(·exact bn))|((with_reducible refine aL (fun _=>cQ _) ?_ ?_);(·exact bn))|refine aH ?_|((with_reducible refine aB ?_ ?_)<;>intro hc<;>(try simp only[List.length_map,ne_eq,dW] at hc)<;>try(exfalso;omega)))
 all_goals exact rfl
def LL:AV:= .agg [.sc .nilFunc, .sc .nilFunc, .fn (.func 121) [] [], .sc .nilFunc, .fn (.func 122) [] [], .sc .nilFunc, .fn (.func 123) [] [], .sc .nilFunc, .fn (.func 124) [] [], .sc .nilFunc, .fn (.func 125) [] [], .sc .nilFunc, .fn (.func 126) [] [], .sc .nilFunc, .fn (.func 127) [] [], .sc .nilFunc, .fn (.func 128) [] [], .sc .nilFunc, .fn (.func 129) [] [], .sc .nilFunc, .fn (.func 130) [] [], .sc .nilFunc, .fn (.func 131) [] [], .sc .nilFunc, .fn (.func 132) [] [], .sc .nilFunc, .fn (.func 133) [] [], .sc .nilFunc, .fn (.func 134) [] [], .sc .nilFunc, .fn (.func 135) [] [], .sc .nilFunc, .fn (.func 136) [] [], .sc .nilFunc, .sc .nilFunc, .fn (.func 137) [] [], .sc .nilFunc, .fn (.func 138) [] []]
theorem lE:Pure Tryz.prog 118 [] (fun r=>r=LL):=fq (by simp[LL,cB,cJ]) (by kernel_rfl)
def KV (op a b:Int):Int:=if op=1 then u5 (a+b) else if op=2 then u5 (a - b) else if op=3 then u5 (a * b) else if op=4 then B9 a b else if op=5 then HQ a b else if op=6 then OK a b else if op=7 then QP a b else if op=8 then PN a b else if op=9 then PF a b else if op=10 then KH a b else if op=11 then tr (decide (a=b)) else if op=12 then tr (decide (a≠b)) else if op=13 then tr (decide (a<b)) else if op=14 then tr (decide (a≤b)) else if op=15 then tr (decide (b<a)) else tr (decide (b≤a))
def J7 (op a:Int):Int:=if op=17 then u5 (0 - a) else tr (decide (a=0))
theorem CU {op:Int} (h:two op=true):op=1∨op=2∨op=3∨op=4∨op=5∨op=6∨op=7∨op=8∨op=9∨op=10∨op=11∨op=12∨op=13∨op=14∨op=15∨op=16:=by
 simp only[two,Bool.and_eq_true,decide_eq_true_eq] at h;omega
theorem tU (op a b:Int) (h:two op=true):Pure Tryz.prog 109 [u8 op,i64 a,i64 b] (fun r=>r= .dB [i64 (KV op a b),i64 0]):=by
 refine aI tB rfl ?_
 rcases CU h with rfl|rfl|rfl|rfl|rfl|rfl|rfl|rfl|rfl|rfl|rfl|rfl|rfl|rfl|rfl|rfl
 all_goals repeat' (first|((with_reducible refine aF ?_);conv=>whnf)|refine aG ?_|exact aC|with_reducible refine aD ?_ ?_|(apply aA;(·exact cF))|((with_reducible refine aN (dQ _) ?_ ?_);(·exact bn))|((with_reducible refine aM (fun _=>dQ _) ?_ ?_);(·exact bn))|((with_reducible refine aJ (dQ _) ?_ ?_);(·exact bn))|((with_reducible refine aL (fun _=>dQ _) ?_ ?_);(·exact bn))|refine aK (lE) ?_|((with_reducible refine aN (mh _ _) ?_ ?_);(·exact bn))|((with_reducible refine aM (fun _=>mh _ _) ?_ ?_);(·exact bn))|((with_reducible refine aJ (mh _ _) ?_ ?_);(·exact bn))|((with_reducible refine aL (fun _=>mh _ _) ?_ ?_);(·exact bn))|((with_reducible refine aN (ng _ _) ?_ ?_);(·exact bn))|((with_reducible refine aM (fun _=>ng _ _) ?_ ?_);(·exact bn))|((with_reducible refine aJ (ng _ _) ?_ ?_);(·exact bn))|((with_reducible refine aL (fun _=>ng _ _) ?_ ?_);(·exact bn))|((with_reducible refine aN (nR _ _) ?_ ?_);(·exact bn))|((with_reducible refine aM (fun _=>nR _ _) ?_ ?_);(·exact bn))|((with_reducible refine aJ (nR _ _) ?_ ?_);(·exact bn))|((with_reducible refine aL (fun _=>nR _ _) ?_ ?_);(·exact bn))|((with_reducible refine aN (gy _ _) ?_ ?_);(·exact bn))|((with_reducible refine aM (fun _=>gy _ _) ?_ ?_);(·exact bn))|((with_reducible refine aJ (gy _ _) ?_ ?_);(·exact bn))|((with_reducible refine aL (fun _=>gy _ _) ?_ ?_);(·exact bn))|((with_reducible refine aN (nY _ _) ?_ ?_);(·exact bn))|((with_reducible refine aM (fun _=>nY _ _) ?_ ?_);(·exact bn))|((with_reducible refine aJ (nY _ _) ?_ ?_);(·exact bn))|((with_reducible refine aL (fun _=>nY _ _) ?_ ?_);(·exact bn))|((with_reducible refine aN (mj _ _) ?_ ?_);(·exact bn))|((with_reducible refine aM (fun _=>mj _ _) ?_ ?_);(·exact bn))|((with_reducible refine aJ (mj _ _) ?_ ?_);(·exact bn))|((with_reducible refine aL (fun _=>mj _ _) ?_ ?_);(·exact bn))|((with_reducible refine aN (pf _ _) ?_ ?_);(·exact bn))|((with_reducible refine aM (fun _=>pf _ _) ?_ ?_);(·exact bn))|((with_reducible refine aJ (pf _ _) ?_ ?_);(·exact bn))|((with_reducible refine aL (fun _=>pf _ _) ?_ ?_);(·exact bn))|((with_reducible refine aN (ni _ _) ?_ ?_);(·exact bn))|((with_reducible refine aM (fun _=>ni _ _) ?_ ?_);(·exact bn))|((with_reducible refine aJ (ni _ _) ?_ ?_);(·exact bn))|((with_reducible refine aL (fun _=>ni _ _) ?_ ?_);(·exact bn))|((with_reducible refine aN (na _ _) ?_ ?_);(·exact bn))|((with_reducible refine aM (fun _=>na _ _) ?_ ?_);(·exact bn))|((with_reducible refine aJ (na _ _) ?_ ?_);(·exact bn))|((with_reducible refine aL (fun _=>na _ _) ?_ ?_);(·exact bn))|((with_reducible refine aN (nb _ _) ?_ ?_);(·exact bn))|((with_reducible refine aM (fun _=>nb _ _) ?_ ?_);(·exact bn))|((with_reducible refine aJ (nb _ _) ?_ ?_);(·exact bn))|((with_reducible refine aL (fun _=>nb _ _) ?_ ?_);(·exact bn))|((with_reducible refine aN (pa _ _) ?_ ?_);(·exact bn))|((with_reducible refine aM (fun _=>pa _ _) ?_ ?_);(·exact bn))|((with_reducible refine aJ (pa _ _) ?_ ?_);(·exact bn))|((with_reducible refine aL (fun _=>pa _ _) ?_ ?_);(·exact bn))|((with_reducible refine aN (kE _ _) ?_ ?_);(·exact bn))|((with_reducible refine aM (fun _=>kE _ _) ?_ ?_);(·exact bn))|((with_reducible refine aJ (kE _ _) ?_ ?_);(·exact bn))|((with_reducible refine aL (fun _=>kE _ _) ?_ ?_);(·exact bn))|((with_reducible refine aN (lZ _ _) ?_ ?_);(·exact bn))|((with_reducible refine aM (fun _=>lZ _ _) ?_ ?_);(·exact bn))|((with_reducible refine aJ (lZ _ _) ?_ ?_);(·exact bn))|((with_reducible refine aL (fun _=>lZ _ _) ?_ ?_);(·exact bn))|((with_reducible refine aN (l6 _ _) ?_ ?_);(·exact bn))|((with_reducible refine aM (fun _=>l6 _ _) ?_ ?_);(·exact bn))|((with_reducible refine aJ (l6 _ _) ?_ ?_);(·exact bn))|((with_reducible refine aL (fun _=>l6 _ _) ?_ ?_);(·exact bn))|((with_reducible refine aN (jy _ _) ?_ ?_);(·exact bn))|((with_reducible refine aM (fun _=>jy _ _) ?_ ?_);(·exact bn))|((with_reducible refine aJ (jy _ _) ?_ ?_);(·exact bn))|((with_reducible refine aL (fun _=>jy _ _) ?_ ?_);(·exact bn))|((with_reducible refine aN (kF _ _) ?_ ?_);(·exact bn))|((with_reducible refine aM (fun _=>kF _ _) ?_ ?_);(·exact bn))|((with_reducible refine aJ (kF _ _) ?_ ?_);(·exact bn))|((with_reducible refine aL (fun _=>kF _ _) ?_ ?_);(·exact bn))|refine aH ?_|((with_reducible refine aB ?_ ?_)<;>intro hc<;>(try simp only[List.length_map,ne_eq,dW] at hc)<;>try(exfalso;omega)))
 all_goals (first|exact rfl|trace_state)
theorem tT (op a b:Int) (h:two op=false):Pure Tryz.prog 109 [u8 op,i64 a,i64 b] (fun r=>r= .dB [i64 0,i64 2]):=by
 refine aI tB rfl ?_
 repeat' (first|((with_reducible refine aF ?_);conv=>whnf)|refine aG ?_|exact aC|with_reducible refine aD ?_ ?_|(apply aA;(·exact cF))|((with_reducible refine aN (dQ _) ?_ ?_);(·exact bn))|((with_reducible refine aM (fun _=>dQ _) ?_ ?_);(·exact bn))|((with_reducible refine aJ (dQ _) ?_ ?_);(·exact bn))|((with_reducible refine aL (fun _=>dQ _) ?_ ?_);(·exact bn))|refine aH ?_|((with_reducible refine aB ?_ ?_)<;>intro hc<;>(try simp only[List.length_map,ne_eq,dW] at hc)<;>try(exfalso;omega)))
 all_goals simp_all
theorem pQ (op a:Int) (h:op=17∨op=18):Pure Tryz.prog 110 [u8 op,i64 a] (fun r=>r= .dB [i64 (J7 op a),i64 0]):=by
 refine aI vl rfl ?_
 rcases h with rfl|rfl
 all_goals repeat' (first|((with_reducible refine aF ?_);conv=>whnf)|refine aG ?_|exact aC|with_reducible refine aD ?_ ?_|(apply aA;(·exact cF))|((with_reducible refine aN (fO _) ?_ ?_);(·exact bn))|((with_reducible refine aM (fun _=>fO _) ?_ ?_);(·exact bn))|((with_reducible refine aJ (fO _) ?_ ?_);(·exact bn))|((with_reducible refine aL (fun _=>fO _) ?_ ?_);(·exact bn))|((with_reducible refine aN (dQ _) ?_ ?_);(·exact bn))|((with_reducible refine aM (fun _=>dQ _) ?_ ?_);(·exact bn))|((with_reducible refine aJ (dQ _) ?_ ?_);(·exact bn))|((with_reducible refine aL (fun _=>dQ _) ?_ ?_);(·exact bn))|refine aK (lE) ?_|((with_reducible refine aN (kK _) ?_ ?_);(·exact bn))|((with_reducible refine aM (fun _=>kK _) ?_ ?_);(·exact bn))|((with_reducible refine aJ (kK _) ?_ ?_);(·exact bn))|((with_reducible refine aL (fun _=>kK _) ?_ ?_);(·exact bn))|((with_reducible refine aN (nT _) ?_ ?_);(·exact bn))|((with_reducible refine aM (fun _=>nT _) ?_ ?_);(·exact bn))|((with_reducible refine aJ (nT _) ?_ ?_);(·exact bn))|((with_reducible refine aL (fun _=>nT _) ?_ ?_);(·exact bn))|refine aH ?_|((with_reducible refine aB ?_ ?_)<;>intro hc<;>(try simp only[List.length_map,ne_eq,dW] at hc)<;>try(exfalso;omega)))
 all_goals (first|exact rfl|trace_state)
end Go.Proofs.YtlonbgdonffcbaaGreatDoor
end
