import Derived.Test.YtlonbgdonffcbaaGreatDoorM21
section
/- Right objects. -/
namespace Go.Proofs.YtlonbgdonffcbaaGreatDoor
open Go Go.cW Go.Proofs
set_option linter.unusedSimpArgs false
theorem s6 (c d:Core) (b:Nat) (H:Hp) (nx:Nat) (e:TypeId) (df:AV) (hb:bd H b=some (.row e 2 df [c.av])) (hlt:b<nx):ij Tryz.prog 72 [d.av, .pt b 1 0 0] H nx (bl (d.name==c.name)):=by
 refine aS FL rfl ?_
 repeat' (first|((with_reducible refine aF ?_);conv=>whnf)|refine aG ?_|exact aC|with_reducible refine aD ?_ ?_|(apply aA;(·exact cA))|refine aH ?_|((with_reducible refine aB ?_ ?_)<;>intro hc<;>(try simp only[List.length_map,ne_eq,dP] at hc)<;>try(exfalso;omega)))
 exact pO.look rfl dA
theorem drop_cons {α:Type} [Inhabited α] {l:List α} {i:Nat} (h:i<l.length):l.drop i=l.getD i default::l.drop (i+1):=by
 rw[List.drop_eq_getElem_cons h]
 simp[List.getD,h]
def fy (name:ByteArray):List Core→Nat→Int
 |[],_=>-1
 |d::r,k=>if(d.name==name)=true then k else fy name r (k+1)
theorem vC (c:Core) (l:List Core) (hl:l.length * 40≤140737488351232) (b:Nat) (H:Hp) (nx:Nat) (e:TypeId) (df:AV) (hb:bd H b=some (.row e 2 df [c.av])) (hlt:b<nx):ij Tryz.prog 106 [.im 2 .any (l.map Core.av), .fn (.func 72) [] [.pt b 1 0 0]] H nx (i64 (fy c.name l 0)):=by
 refine aS vI rfl ?_
 repeat' (first|((with_reducible refine aF ?_);conv=>whnf)|refine aG ?_|exact aC|with_reducible refine aD ?_ ?_|(apply aA;(·exact cA))|refine aH ?_|((with_reducible refine aB ?_ ?_)<;>intro hc<;>(try simp only[List.length_map,ne_eq,dP] at hc)<;>try(exfalso;omega)))
 refine aT (fun i:Nat=>[(0, .im 2 .any (l.map Core.av)),(1, .fn (.func 72) [] [.pt b 1 0 0]),(7,i64 l.length),(8,i64 i)]) (fun i H' n=>i≤l.length∧H'=H∧nx≤n∧fy c.name l 0=fy c.name (l.drop i) i) (fun i=>l.length - i) 0 cH ⟨Nat.zero_le _,rfl,by omega,rfl⟩ ?_
 rintro i H' n ⟨hi,rfl,hn,hs⟩
 repeat' (first|((with_reducible refine aF ?_);conv=>whnf)|refine aG ?_|exact aC|with_reducible refine aD ?_ ?_|(apply aA;(·exact cA))|((refine aQ (s6 c _ b _ _ e df hb (by omega)) ?_ ?_);(·exact True.intro))|((refine aV (fun _=>s6 c _ b _ _ e df hb (by omega)) ?_ ?_);(·exact True.intro))|refine aH ?_|((with_reducible refine aB ?_ ?_)<;>intro hc<;>(try simp only[List.length_map,ne_eq,dP] at hc)<;>try(exfalso;omega)))
 ·try simp only[Int.toNat_natCast] at hc
  refine pO.look ?_ dA
  rw[hs,drop_cons (by omega),fy,if_pos hc]
 ·try simp only[Int.toNat_natCast] at hc
  refine⟨i+1,by omega,cH,by omega,rfl,by omega, ?_⟩
  rw[hs,drop_cons (by omega),fy,if_neg (by rw[hc];simp)]
 ·refine pO.look ?_ dA
  rw[hs,List.drop_eq_nil_of_le (by omega),fy]
theorem oS (name:ByteArray):∀(l:List Core) (k:Nat),0≤fy name l k↔(l.any (fun d=>d.name==name))=true
 |[],k=>by simp[fy]
 |d::r,k=>by
  have ih:=oS name r (k+1)
  simp only[fy,List.any_cons,Bool.or_eq_true]
  by_cases h:(d.name==name)=true
  ·rw[if_pos h];exact⟨fun _=>Or.inl h,fun _=>by omega⟩
  ·rw[if_neg h,ih];exact⟨Or.inr,fun hh=>hh.resolve_left h⟩
theorem vA (name:ByteArray) (l:List Core) (k:Nat):(decide (0≤fy name l k))=l.any (fun d=>d.name==name):=by
 rw[Bool.eq_iff_iff,decide_eq_true_eq]
 exact oS name l k
theorem CL (c:Core) (l:List Core) (hl:l.length * 40≤140737488351232) (b:Nat) (H:Hp) (nx:Nat) (e:TypeId) (df:AV) (hb:bd H b=some (.row e 2 df [c.av])) (hlt:b<nx):ij Tryz.prog 74 [.im 2 .any (l.map Core.av), .fn (.func 72) [] [.pt b 1 0 0]] H nx (bl (l.any fun d=>d.name==c.name)):=by
 refine aS FN rfl ?_
 repeat' (first|((with_reducible refine aF ?_);conv=>whnf)|refine aG ?_|exact aC|with_reducible refine aD ?_ ?_|(apply aA;(·exact cA))|((refine aQ (vC c l hl b _ _ e df hb (by omega)) ?_ ?_);(·exact True.intro))|((refine aV (fun _=>vC c l hl b _ _ e df hb (by omega)) ?_ ?_);(·exact True.intro))|refine aH ?_|((with_reducible refine aB ?_ ?_)<;>intro hc<;>(try simp only[List.length_map,ne_eq,dP] at hc)<;>try(exfalso;omega)))
 refine pO.look ?_ dA
 rw[←vA c.name l 0]
def qU (c:Core):Bool:=decide ((c.code.getD ((c.code.length:Int) - 1).toNat default).kind=10)||decide ((c.code.getD ((c.code.length:Int) - 1).toNat default).kind=8)
def iL (pre:List Core) (c:Core):Bool:=isName c.name&& !(pre.any fun d=>d.name==c.name)&&decide (1≤c.code.length)&&decide (c.code.length≤16384)&&qU c
def gW:List Core→List Core→Bool
 |_,[]=>true
 |pre,c::r=>iL pre c&&gW (pre++[c]) r
def eV (o:Obj):Bool:=decide (0≤o.shared)&&decide (o.shared≤64)&&decide (0≤o.gu)&&decide (o.gu≤16)&&decide (o.shared+o.gu≤o.mem.length)&&decide (o.mem.length≤4096)&&decide (1≤o.buffer)&&decide (o.buffer≤16)&&decide (o.bf.length≤8)&&gW [] o.bf
theorem ln {l:List Core} {i:Nat} (h:i<l.length):gW (l.take i) (l.drop i)=(iL (l.take i) (l.getD i default)&&gW (l.take (i+1)) (l.drop (i+1))):=by
 rw[drop_cons h,gW,List.take_succ_eq_append_getElem h]
 simp[List.getD,h]
theorem Obj.Wf.at {o:Obj} (ho:o.Wf) (i:Nat):(o.bf.getD i default).Wf:=by
 by_cases h:i<o.bf.length
 ·have:o.bf.getD i default=o.bf[i]:=by simp[List.getD,h]
  rw[this];exact ho.bf _ (List.getElem_mem h)
 ·have:o.bf.getD i default=default:=by simp[List.getD,h]
  rw[this];exact⟨by decide,(fun _ hi=>nomatch hi),by decide⟩
theorem yU (c:Core) (l:List Core) (i:Nat) (hl:l.length * 40≤140737488351232) (b:Nat) (H:Hp) (nx:Nat) (e:TypeId) (df:AV) (hb:bd H b=some (.row e 2 df [c.av])) (hlt:b<nx):ij Tryz.prog 74 [.im 2 .any (((l.map Core.av).drop 0).take (((i:Nat):Int).toNat - 0)), .fn (.func 72) [] [.pt b 1 0 0]] H nx (bl ((l.take i).any fun d=>d.name==c.name)):=by
 have h:=CL c (l.take i) (by rw[List.length_take];omega) b H nx e df hb hlt
 rw[List.map_take] at h
 exact h
theorem wS (o:Obj) (ho:o.Wf):Pure Tryz.prog 56 [o.av] (fun r=>r=bl (eV o)):=by
 refine aI FC rfl ?_
 repeat' (first|((with_reducible refine aF ?_);conv=>whnf)|refine aG ?_|exact aC|with_reducible refine aD ?_ ?_|(apply aA;(·exact cA))|refine aH ?_|((with_reducible refine aB ?_ ?_)<;>intro hc<;>(try simp only[List.length_map,ne_eq,dP] at hc)<;>try(exfalso;omega)))
 ·congr 2
  simp only[eV]
  grind
 ·refine aT (fun i:Nat=>[(1, .pt 0 1 0 0),(60, .im 2 .any (o.bf.map Core.av)),(61,i64 o.bf.length),(62,i64 i)]) (fun i H' n=>i≤o.bf.length∧1≤n∧bd H' 0=some (.row 25 5 .any [o.av])∧gW [] o.bf=gW (o.bf.take i) (o.bf.drop i)) (fun i=>o.bf.length - i) 0 cH ⟨Nat.zero_le _,by omega,rfl,rfl⟩ ?_
  rintro i H' n ⟨hi,hn,hr,hs⟩
  repeat' (first|((with_reducible refine aF ?_);conv=>whnf)|refine aG ?_|exact aC|with_reducible refine aD ?_ ?_|(apply aA;(·exact cA))|((with_reducible refine aN (lT _ (ho.at _).name) ?_ ?_);(·exact bj))|((with_reducible refine aM (fun _=>lT _ (ho.at _).name) ?_ ?_);(·exact bj))|((with_reducible refine aJ (lT _ (ho.at _).name) ?_ ?_);(·exact bj))|((with_reducible refine aL (fun _=>lT _ (ho.at _).name) ?_ ?_);(·exact bj))|((refine aQ (yU _ o.bf i ho.mU _ _ _ _ _ bo (by omega)) ?_ ?_);(·exact True.intro))|((refine aV (fun _=>yU _ o.bf i ho.mU _ _ _ _ _ bo (by omega)) ?_ ?_);(·exact True.intro))|refine aH ?_|((with_reducible refine aB ?_ ?_)<;>intro hc<;>(try simp only[List.length_map,ne_eq,dP] at hc)<;>try(exfalso;omega)))
  ·have hb:eV o=false:=by
    have:iL (o.bf.take i) (o.bf.getD i default)=false:=by
     simp only[iL]
     grind
    simp only[eV]
    rw[hs,ln (by omega),this]
    simp
   rw[hb]
  ·have hb:eV o=false:=by
    have:iL (o.bf.take i) (o.bf.getD i default)=false:=by
     simp only[iL,qU]
     grind
    simp only[eV]
    rw[hs,ln (by omega),this]
    simp
   rw[hb]
  ·have hb:iL (o.bf.take i) (o.bf.getD i default)=true:=by
    simp only[iL,qU]
    grind
   refine⟨i+1,by omega,cH,by omega,by omega,bo, ?_⟩
   rw[hs,ln (by omega),hb,Bool.true_and]
  ·rw[List.drop_eq_nil_of_le (by omega),gW] at hs
   have hb:eV o=true:=by
    simp only[eV]
    rw[hs]
    grind
   rw[hb]
def nT (len mem:Int):List Instr→Nat→Option Nat
 |[],_=>none
 |i::r,k=>if gw i len mem=true then nT len mem r (k+1) else some k
def od (mem:Int):List Core→Nat→Option (Nat×Nat)
 |[],_=>none
 |c::r,k=>match nT c.code.length mem c.code 0 with
  |some n=>some (k,n)
  |none=>od mem r (k+1)
def gV (o:Obj):AV:=if eV o=true then(match od o.mem.length o.bf 0 with
 |none=> .dD [i64 0,i64 0,i64 0]
 |some (k,n)=> .dD [i64 160,i64 k,i64 n]) else .dD [i64 160,i64 0,i64 0]
@[simp] theorem M4 (n:Nat) (o:Obj):cC n (gV o):=by
  simp only[gV]
  split
  ·split<;>simp[cC,cG]
  ·simp[cC,cG]
theorem Core.Wf.at {c:Core} (hc:c.Wf) (i:Nat):(c.code.getD i default).Wf:=by
 by_cases h:i<c.code.length
 ·have:c.code.getD i default=c.code[i]:=by simp[List.getD,h]
  rw[this];exact hc.code _ (List.getElem_mem h)
 ·have:c.code.getD i default=default:=by simp[List.getD,h]
  rw[this]
  constructor<;>first|decide|(unfold cy;decide)
theorem iK (o:Obj) (ho:o.Wf):Pure Tryz.prog 25 [o.av] (fun r=>r=gV o):=by
 refine aI EN rfl ?_
 repeat' (first|((with_reducible refine aF ?_);conv=>whnf)|refine aG ?_|exact aC|with_reducible refine aD ?_ ?_|(apply aA;(·exact cA))|refine aK (wS o ho) ?_|refine aH ?_|((with_reducible refine aB ?_ ?_)<;>intro hc<;>(try simp only[List.length_map,ne_eq,dP] at hc)<;>try(exfalso;omega)))
 ·simp[gV,hc]
 ·refine aT (fun i:Nat=>[(1, .pt 0 1 0 0),(13, .im 2 .any (o.bf.map Core.av)),(14,i64 o.bf.length),(15,i64 i)]) (fun i H' n=>i≤o.bf.length∧1≤n∧bd H' 0=some (.row 25 5 .any [o.av])∧od o.mem.length o.bf 0=od o.mem.length (o.bf.drop i) i) (fun i=>o.bf.length - i) 0 cH ⟨Nat.zero_le _,by omega,rfl,rfl⟩ ?_
  rintro i H' n ⟨hi,hn,hr,hs⟩
  have hol:=ho.mU
  repeat' (first|((with_reducible refine aF ?_);conv=>whnf)|refine aG ?_|exact aC|with_reducible refine aD ?_ ?_|(apply aA;(·exact cA))|refine aH ?_|((with_reducible refine aB ?_ ?_)<;>intro hc<;>(try simp only[List.length_map,ne_eq,dP] at hc)<;>try(exfalso;omega)))
  ·refine aT (fun k:Nat=>[(1, .pt 0 1 0 0),(5,i64 i),(6, .pt (n+1+1+1+1) 1 0 0),(13, .im 2 .any (o.bf.map Core.av)),(14,i64 o.bf.length),(15,i64 i),(21, .im 9 .any ((o.bf.getD i default).code.map Instr.av)),(22,i64 (o.bf.getD i default).code.length),(23,i64 k)]) (fun k H2 n2=>k≤(o.bf.getD i default).code.length∧n+5≤n2∧bd H2 0=some (.row 25 5 .any [o.av])∧(∃df,bd H2 (n+1+1+1+1)=some (.row 66 2 df [(o.bf.getD i default).av]))∧nT (o.bf.getD i default).code.length o.mem.length (o.bf.getD i default).code 0=nT (o.bf.getD i default).code.length o.mem.length ((o.bf.getD i default).code.drop k) k) (fun k=>(o.bf.getD i default).code.length - k) 0 cH ⟨Nat.zero_le _,by omega,bo,⟨_,bo⟩,rfl⟩ ?_
   rintro k H2 n2 ⟨hk,hn2,hr2,⟨df,hr3⟩,hs2⟩
   have hcl:=(ho.at i).len
   repeat' (first|((with_reducible refine aF ?_);conv=>whnf)|refine aG ?_|exact aC|with_reducible refine aD ?_ ?_|(apply aA;(·exact cA))|((with_reducible refine aN (jn _ ((ho.at _).at _) _ _) ?_ ?_);(·exact bj))|((with_reducible refine aM (fun _=>jn _ ((ho.at _).at _) _ _) ?_ ?_);(·exact bj))|((with_reducible refine aJ (jn _ ((ho.at _).at _) _ _) ?_ ?_);(·exact bj))|((with_reducible refine aL (fun _=>jn _ ((ho.at _).at _) _ _) ?_ ?_);(·exact bj))|refine aH ?_|((with_reducible refine aB ?_ ?_)<;>intro hc<;>(try simp only[List.length_map,ne_eq,dP] at hc)<;>try(exfalso;omega)))
   ·have h1:nT (o.bf.getD i default).code.length o.mem.length (o.bf.getD i default).code 0=some k:=by
     rw[hs2,drop_cons (by omega),nT,if_neg (by rw[hc];simp)]
    have h2:od o.mem.length o.bf 0=some (i,k):=by
     rw[hs,drop_cons (by omega),od,h1]
    rw[gV,if_pos (by assumption),h2]
   ·refine⟨k+1,by omega,cH,by omega,by omega,bo,⟨_,bo⟩, ?_⟩
    rw[hs2,drop_cons (by omega),nT,if_pos hc]
   ·have h1:nT (o.bf.getD i default).code.length o.mem.length (o.bf.getD i default).code 0=none:=by
     rw[hs2,List.drop_eq_nil_of_le (by omega),nT]
    refine⟨i+1,by omega,cH,by omega,by omega,bo, ?_⟩
    rw[hs,drop_cons (by omega),od,h1]
  ·rw[List.drop_eq_nil_of_le (by omega),od] at hs
   rw[gV,if_pos (by assumption),hs]
end Go.Proofs.YtlonbgdonffcbaaGreatDoor
/- Operators. -/
namespace Go.Proofs.YtlonbgdonffcbaaGreatDoor
open Go Go.cW Go.Proofs
set_option linter.unusedSimpArgs false
abbrev tv (n:Int):Int:=IntKind.i64.wrap n
def BF (a b:Int):Int:=if b=0 then 0 else if b=-1 then tv (0 - a) else tv (a.tdiv b)
def GS (a b:Int):Int:=if b=0 then a else tv (a - tv (BF a b * b))
def NL (a b:Int):Int:=tv ((BitVec.ofInt 64 a&&& BitVec.ofInt 64 b).toNat:Int)
def PM (a b:Int):Int:=tv ((BitVec.ofInt 64 a|||BitVec.ofInt 64 b).toNat:Int)
def OK (a b:Int):Int:=tv ((BitVec.ofInt 64 a^^^BitVec.ofInt 64 b).toNat:Int)
def C2 (b:Int):Int:=IntKind.u64.wrap ((BitVec.ofInt 64 (IntKind.u64.wrap b)&&& BitVec.ofInt 64 63).toNat:Int)
def OD (a b:Int):Int:=tv (a * 2^(min (C2 b).toNat 64))
def JK (a b:Int):Int:=a.fdiv (2^(min (C2 b).toNat 64))
def tr (t:Bool):Int:=if t=true then 1 else 0
theorem cP (t:Bool):Pure Tryz.prog 143 [bl t] (fun r=>r=i64 (tr t)):=by
 refine aI vi rfl ?_
 repeat' (first|((with_reducible refine aF ?_);conv=>whnf)|refine aG ?_|exact aC|with_reducible refine aD ?_ ?_|(apply aA;(·exact cA))|refine aH ?_|((with_reducible refine aB ?_ ?_)<;>intro hc<;>(try simp only[List.length_map,ne_eq,dP] at hc)<;>try(exfalso;omega)))
 all_goals simp_all[tr]
theorem mN (a b:Int):Pure Tryz.prog 121 [i64 a,i64 b] (fun r=>r=i64 (tv (a+b))):=by
 refine aI vP rfl ?_
 repeat' (first|((with_reducible refine aF ?_);conv=>whnf)|refine aG ?_|exact aC|with_reducible refine aD ?_ ?_|(apply aA;(·exact cA))|refine aH ?_|((with_reducible refine aB ?_ ?_)<;>intro hc<;>(try simp only[List.length_map,ne_eq,dP] at hc)<;>try(exfalso;omega)))
 all_goals exact rfl
theorem nI (a b:Int):Pure Tryz.prog 122 [i64 a,i64 b] (fun r=>r=i64 (tv (a - b))):=by
 refine aI vQ rfl ?_
 repeat' (first|((with_reducible refine aF ?_);conv=>whnf)|refine aG ?_|exact aC|with_reducible refine aD ?_ ?_|(apply aA;(·exact cA))|refine aH ?_|((with_reducible refine aB ?_ ?_)<;>intro hc<;>(try simp only[List.length_map,ne_eq,dP] at hc)<;>try(exfalso;omega)))
 all_goals exact rfl
theorem mw (a b:Int):Pure Tryz.prog 123 [i64 a,i64 b] (fun r=>r=i64 (tv (a * b))):=by
 refine aI vR rfl ?_
 repeat' (first|((with_reducible refine aF ?_);conv=>whnf)|refine aG ?_|exact aC|with_reducible refine aD ?_ ?_|(apply aA;(·exact cA))|refine aH ?_|((with_reducible refine aB ?_ ?_)<;>intro hc<;>(try simp only[List.length_map,ne_eq,dP] at hc)<;>try(exfalso;omega)))
 all_goals exact rfl
theorem gb (a b:Int):Pure Tryz.prog 124 [i64 a,i64 b] (fun r=>r=i64 (BF a b)):=by
 refine aI vS rfl ?_
 repeat' (first|((with_reducible refine aF ?_);conv=>whnf)|refine aG ?_|exact aC|with_reducible refine aD ?_ ?_|(apply aA;(·exact cA))|refine aH ?_|((with_reducible refine aB ?_ ?_)<;>intro hc<;>(try simp only[List.length_map,ne_eq,dP] at hc)<;>try(exfalso;omega)))
 all_goals simp_all[BF]
theorem nD (a b:Int):Pure Tryz.prog 125 [i64 a,i64 b] (fun r=>r=i64 (GS a b)):=by
 refine aI vT rfl ?_
 repeat' (first|((with_reducible refine aF ?_);conv=>whnf)|refine aG ?_|exact aC|with_reducible refine aD ?_ ?_|(apply aA;(·exact cA))|((with_reducible refine aN (gb _ _) ?_ ?_);(·exact bj))|((with_reducible refine aM (fun _=>gb _ _) ?_ ?_);(·exact bj))|((with_reducible refine aJ (gb _ _) ?_ ?_);(·exact bj))|((with_reducible refine aL (fun _=>gb _ _) ?_ ?_);(·exact bj))|refine aH ?_|((with_reducible refine aB ?_ ?_)<;>intro hc<;>(try simp only[List.length_map,ne_eq,dP] at hc)<;>try(exfalso;omega)))
 all_goals simp_all[GS]
theorem mO (a b:Int):Pure Tryz.prog 126 [i64 a,i64 b] (fun r=>r=i64 (NL a b)):=by
 refine aI vU rfl ?_
 repeat' (first|((with_reducible refine aF ?_);conv=>whnf)|refine aG ?_|exact aC|with_reducible refine aD ?_ ?_|(apply aA;(·exact cA))|refine aH ?_|((with_reducible refine aB ?_ ?_)<;>intro hc<;>(try simp only[List.length_map,ne_eq,dP] at hc)<;>try(exfalso;omega)))
 all_goals exact rfl
theorem pK (a b:Int):Pure Tryz.prog 127 [i64 a,i64 b] (fun r=>r=i64 (PM a b)):=by
 refine aI vV rfl ?_
 repeat' (first|((with_reducible refine aF ?_);conv=>whnf)|refine aG ?_|exact aC|with_reducible refine aD ?_ ?_|(apply aA;(·exact cA))|refine aH ?_|((with_reducible refine aB ?_ ?_)<;>intro hc<;>(try simp only[List.length_map,ne_eq,dP] at hc)<;>try(exfalso;omega)))
 all_goals exact rfl
theorem nK (a b:Int):Pure Tryz.prog 128 [i64 a,i64 b] (fun r=>r=i64 (OK a b)):=by
 refine aI vW rfl ?_
 repeat' (first|((with_reducible refine aF ?_);conv=>whnf)|refine aG ?_|exact aC|with_reducible refine aD ?_ ?_|(apply aA;(·exact cA))|refine aH ?_|((with_reducible refine aB ?_ ?_)<;>intro hc<;>(try simp only[List.length_map,ne_eq,dP] at hc)<;>try(exfalso;omega)))
 all_goals exact rfl
theorem nF (a b:Int):Pure Tryz.prog 129 [i64 a,i64 b] (fun r=>r=i64 (OD a b)):=by
 refine aI vX rfl ?_
 repeat' (first|((with_reducible refine aF ?_);conv=>whnf)|refine aG ?_|exact aC|with_reducible refine aD ?_ ?_|(apply aA;(·exact cA))|refine aH ?_|((with_reducible refine aB ?_ ?_)<;>intro hc<;>(try simp only[List.length_map,ne_eq,dP] at hc)<;>try(exfalso;omega)))
 all_goals exact rfl
theorem nG (a b:Int):Pure Tryz.prog 130 [i64 a,i64 b] (fun r=>r=i64 (JK a b)):=by
 refine aI vY rfl ?_
 repeat' (first|((with_reducible refine aF ?_);conv=>whnf)|refine aG ?_|exact aC|with_reducible refine aD ?_ ?_|(apply aA;(·exact cA))|refine aH ?_|((with_reducible refine aB ?_ ?_)<;>intro hc<;>(try simp only[List.length_map,ne_eq,dP] at hc)<;>try(exfalso;omega)))
 all_goals exact rfl
theorem pI (a b:Int):Pure Tryz.prog 131 [i64 a,i64 b] (fun r=>r=i64 (tr (decide (a=b)))):=by
 refine aI vZ rfl ?_
 repeat' (first|((with_reducible refine aF ?_);conv=>whnf)|refine aG ?_|exact aC|with_reducible refine aD ?_ ?_|(apply aA;(·exact cA))|((with_reducible refine aN (cP _) ?_ ?_);(·exact bj))|((with_reducible refine aM (fun _=>cP _) ?_ ?_);(·exact bj))|((with_reducible refine aJ (cP _) ?_ ?_);(·exact bj))|((with_reducible refine aL (fun _=>cP _) ?_ ?_);(·exact bj))|refine aH ?_|((with_reducible refine aB ?_ ?_)<;>intro hc<;>(try simp only[List.length_map,ne_eq,dP] at hc)<;>try(exfalso;omega)))
 all_goals exact rfl
theorem jv (a b:Int):Pure Tryz.prog 132 [i64 a,i64 b] (fun r=>r=i64 (tr (decide (a≠b)))):=by
 refine aI v7 rfl ?_
 repeat' (first|((with_reducible refine aF ?_);conv=>whnf)|refine aG ?_|exact aC|with_reducible refine aD ?_ ?_|(apply aA;(·exact cA))|((with_reducible refine aN (cP _) ?_ ?_);(·exact bj))|((with_reducible refine aM (fun _=>cP _) ?_ ?_);(·exact bj))|((with_reducible refine aJ (cP _) ?_ ?_);(·exact bj))|((with_reducible refine aL (fun _=>cP _) ?_ ?_);(·exact bj))|refine aH ?_|((with_reducible refine aB ?_ ?_)<;>intro hc<;>(try simp only[List.length_map,ne_eq,dP] at hc)<;>try(exfalso;omega)))
 all_goals exact rfl
theorem lR (a b:Int):Pure Tryz.prog 133 [i64 a,i64 b] (fun r=>r=i64 (tr (decide (a<b)))):=by
 refine aI v8 rfl ?_
 repeat' (first|((with_reducible refine aF ?_);conv=>whnf)|refine aG ?_|exact aC|with_reducible refine aD ?_ ?_|(apply aA;(·exact cA))|((with_reducible refine aN (cP _) ?_ ?_);(·exact bj))|((with_reducible refine aM (fun _=>cP _) ?_ ?_);(·exact bj))|((with_reducible refine aJ (cP _) ?_ ?_);(·exact bj))|((with_reducible refine aL (fun _=>cP _) ?_ ?_);(·exact bj))|refine aH ?_|((with_reducible refine aB ?_ ?_)<;>intro hc<;>(try simp only[List.length_map,ne_eq,dP] at hc)<;>try(exfalso;omega)))
 all_goals exact rfl
theorem lS (a b:Int):Pure Tryz.prog 134 [i64 a,i64 b] (fun r=>r=i64 (tr (decide (a≤b)))):=by
 refine aI va rfl ?_
 repeat' (first|((with_reducible refine aF ?_);conv=>whnf)|refine aG ?_|exact aC|with_reducible refine aD ?_ ?_|(apply aA;(·exact cA))|((with_reducible refine aN (cP _) ?_ ?_);(·exact bj))|((with_reducible refine aM (fun _=>cP _) ?_ ?_);(·exact bj))|((with_reducible refine aJ (cP _) ?_ ?_);(·exact bj))|((with_reducible refine aL (fun _=>cP _) ?_ ?_);(·exact bj))|refine aH ?_|((with_reducible refine aB ?_ ?_)<;>intro hc<;>(try simp only[List.length_map,ne_eq,dP] at hc)<;>try(exfalso;omega)))
 all_goals exact rfl
theorem jo (a b:Int):Pure Tryz.prog 135 [i64 a,i64 b] (fun r=>r=i64 (tr (decide (b<a)))):=by
 refine aI vc rfl ?_
 repeat' (first|((with_reducible refine aF ?_);conv=>whnf)|refine aG ?_|exact aC|with_reducible refine aD ?_ ?_|(apply aA;(·exact cA))|((with_reducible refine aN (cP _) ?_ ?_);(·exact bj))|((with_reducible refine aM (fun _=>cP _) ?_ ?_);(·exact bj))|((with_reducible refine aJ (cP _) ?_ ?_);(·exact bj))|((with_reducible refine aL (fun _=>cP _) ?_ ?_);(·exact bj))|refine aH ?_|((with_reducible refine aB ?_ ?_)<;>intro hc<;>(try simp only[List.length_map,ne_eq,dP] at hc)<;>try(exfalso;omega)))
 all_goals exact rfl
theorem jw (a b:Int):Pure Tryz.prog 136 [i64 a,i64 b] (fun r=>r=i64 (tr (decide (b≤a)))):=by
 refine aI vd rfl ?_
 repeat' (first|((with_reducible refine aF ?_);conv=>whnf)|refine aG ?_|exact aC|with_reducible refine aD ?_ ?_|(apply aA;(·exact cA))|((with_reducible refine aN (cP _) ?_ ?_);(·exact bj))|((with_reducible refine aM (fun _=>cP _) ?_ ?_);(·exact bj))|((with_reducible refine aJ (cP _) ?_ ?_);(·exact bj))|((with_reducible refine aL (fun _=>cP _) ?_ ?_);(·exact bj))|refine aH ?_|((with_reducible refine aB ?_ ?_)<;>intro hc<;>(try simp only[List.length_map,ne_eq,dP] at hc)<;>try(exfalso;omega)))
 all_goals exact rfl
theorem kB (a:Int):Pure Tryz.prog 137 [i64 a] (fun r=>r=i64 (tv (0 - a))):=by
 refine aI ve rfl ?_
 repeat' (first|((with_reducible refine aF ?_);conv=>whnf)|refine aG ?_|exact aC|with_reducible refine aD ?_ ?_|(apply aA;(·exact cA))|refine aH ?_|((with_reducible refine aB ?_ ?_)<;>intro hc<;>(try simp only[List.length_map,ne_eq,dP] at hc)<;>try(exfalso;omega)))
 all_goals exact rfl
theorem mz (a:Int):Pure Tryz.prog 138 [i64 a] (fun r=>r=i64 (tr (decide (a=0)))):=by
 refine aI vg rfl ?_
 repeat' (first|((with_reducible refine aF ?_);conv=>whnf)|refine aG ?_|exact aC|with_reducible refine aD ?_ ?_|(apply aA;(·exact cA))|((with_reducible refine aN (cP _) ?_ ?_);(·exact bj))|((with_reducible refine aM (fun _=>cP _) ?_ ?_);(·exact bj))|((with_reducible refine aJ (cP _) ?_ ?_);(·exact bj))|((with_reducible refine aL (fun _=>cP _) ?_ ?_);(·exact bj))|refine aH ?_|((with_reducible refine aB ?_ ?_)<;>intro hc<;>(try simp only[List.length_map,ne_eq,dP] at hc)<;>try(exfalso;omega)))
 all_goals exact rfl
def KH:AV:= .agg [.sc .nilFunc, .sc .nilFunc, .fn (.func 121) [] [], .sc .nilFunc, .fn (.func 122) [] [], .sc .nilFunc, .fn (.func 123) [] [], .sc .nilFunc, .fn (.func 124) [] [], .sc .nilFunc, .fn (.func 125) [] [], .sc .nilFunc, .fn (.func 126) [] [], .sc .nilFunc, .fn (.func 127) [] [], .sc .nilFunc, .fn (.func 128) [] [], .sc .nilFunc, .fn (.func 129) [] [], .sc .nilFunc, .fn (.func 130) [] [], .sc .nilFunc, .fn (.func 131) [] [], .sc .nilFunc, .fn (.func 132) [] [], .sc .nilFunc, .fn (.func 133) [] [], .sc .nilFunc, .fn (.func 134) [] [], .sc .nilFunc, .fn (.func 135) [] [], .sc .nilFunc, .fn (.func 136) [] [], .sc .nilFunc, .sc .nilFunc, .fn (.func 137) [] [], .sc .nilFunc, .fn (.func 138) [] []]
theorem kz:Pure Tryz.prog 118 [] (fun r=>r=KH):=fi (by simp[KH,cC,cG]) (by kernel_rfl)
def JY (op a b:Int):Int:=if op=1 then tv (a+b) else if op=2 then tv (a - b) else if op=3 then tv (a * b) else if op=4 then BF a b else if op=5 then GS a b else if op=6 then NL a b else if op=7 then PM a b else if op=8 then OK a b else if op=9 then OD a b else if op=10 then JK a b else if op=11 then tr (decide (a=b)) else if op=12 then tr (decide (a≠b)) else if op=13 then tr (decide (a<b)) else if op=14 then tr (decide (a≤b)) else if op=15 then tr (decide (b<a)) else tr (decide (b≤a))
def JA (op a:Int):Int:=if op=17 then tv (0 - a) else tr (decide (a=0))
theorem BZ {op:Int} (h:two op=true):op=1∨op=2∨op=3∨op=4∨op=5∨op=6∨op=7∨op=8∨op=9∨op=10∨op=11∨op=12∨op=13∨op=14∨op=15∨op=16:=by
 simp only[two,Bool.and_eq_true,decide_eq_true_eq] at h;omega
theorem sj (op a b:Int) (h:two op=true):Pure Tryz.prog 109 [u8 op,i64 a,i64 b] (fun r=>r= .dD [i64 (JY op a b),i64 0]):=by
 refine aI sV rfl ?_
 rcases BZ h with rfl|rfl|rfl|rfl|rfl|rfl|rfl|rfl|rfl|rfl|rfl|rfl|rfl|rfl|rfl|rfl
 all_goals repeat' (first|((with_reducible refine aF ?_);conv=>whnf)|refine aG ?_|exact aC|with_reducible refine aD ?_ ?_|(apply aA;(·exact cA))|((with_reducible refine aN (dM _) ?_ ?_);(·exact bj))|((with_reducible refine aM (fun _=>dM _) ?_ ?_);(·exact bj))|((with_reducible refine aJ (dM _) ?_ ?_);(·exact bj))|((with_reducible refine aL (fun _=>dM _) ?_ ?_);(·exact bj))|refine aK (kz) ?_|((with_reducible refine aN (mN _ _) ?_ ?_);(·exact bj))|((with_reducible refine aM (fun _=>mN _ _) ?_ ?_);(·exact bj))|((with_reducible refine aJ (mN _ _) ?_ ?_);(·exact bj))|((with_reducible refine aL (fun _=>mN _ _) ?_ ?_);(·exact bj))|((with_reducible refine aN (nI _ _) ?_ ?_);(·exact bj))|((with_reducible refine aM (fun _=>nI _ _) ?_ ?_);(·exact bj))|((with_reducible refine aJ (nI _ _) ?_ ?_);(·exact bj))|((with_reducible refine aL (fun _=>nI _ _) ?_ ?_);(·exact bj))|((with_reducible refine aN (mw _ _) ?_ ?_);(·exact bj))|((with_reducible refine aM (fun _=>mw _ _) ?_ ?_);(·exact bj))|((with_reducible refine aJ (mw _ _) ?_ ?_);(·exact bj))|((with_reducible refine aL (fun _=>mw _ _) ?_ ?_);(·exact bj))|((with_reducible refine aN (gb _ _) ?_ ?_);(·exact bj))|((with_reducible refine aM (fun _=>gb _ _) ?_ ?_);(·exact bj))|((with_reducible refine aJ (gb _ _) ?_ ?_);(·exact bj))|((with_reducible refine aL (fun _=>gb _ _) ?_ ?_);(·exact bj))|((with_reducible refine aN (nD _ _) ?_ ?_);(·exact bj))|((with_reducible refine aM (fun _=>nD _ _) ?_ ?_);(·exact bj))|((with_reducible refine aJ (nD _ _) ?_ ?_);(·exact bj))|((with_reducible refine aL (fun _=>nD _ _) ?_ ?_);(·exact bj))|((with_reducible refine aN (mO _ _) ?_ ?_);(·exact bj))|((with_reducible refine aM (fun _=>mO _ _) ?_ ?_);(·exact bj))|((with_reducible refine aJ (mO _ _) ?_ ?_);(·exact bj))|((with_reducible refine aL (fun _=>mO _ _) ?_ ?_);(·exact bj))|((with_reducible refine aN (pK _ _) ?_ ?_);(·exact bj))|((with_reducible refine aM (fun _=>pK _ _) ?_ ?_);(·exact bj))|((with_reducible refine aJ (pK _ _) ?_ ?_);(·exact bj))|((with_reducible refine aL (fun _=>pK _ _) ?_ ?_);(·exact bj))|((with_reducible refine aN (nK _ _) ?_ ?_);(·exact bj))|((with_reducible refine aM (fun _=>nK _ _) ?_ ?_);(·exact bj))|((with_reducible refine aJ (nK _ _) ?_ ?_);(·exact bj))|((with_reducible refine aL (fun _=>nK _ _) ?_ ?_);(·exact bj))|((with_reducible refine aN (nF _ _) ?_ ?_);(·exact bj))|((with_reducible refine aM (fun _=>nF _ _) ?_ ?_);(·exact bj))|((with_reducible refine aJ (nF _ _) ?_ ?_);(·exact bj))|((with_reducible refine aL (fun _=>nF _ _) ?_ ?_);(·exact bj))|((with_reducible refine aN (nG _ _) ?_ ?_);(·exact bj))|((with_reducible refine aM (fun _=>nG _ _) ?_ ?_);(·exact bj))|((with_reducible refine aJ (nG _ _) ?_ ?_);(·exact bj))|((with_reducible refine aL (fun _=>nG _ _) ?_ ?_);(·exact bj))|((with_reducible refine aN (pI _ _) ?_ ?_);(·exact bj))|((with_reducible refine aM (fun _=>pI _ _) ?_ ?_);(·exact bj))|((with_reducible refine aJ (pI _ _) ?_ ?_);(·exact bj))|((with_reducible refine aL (fun _=>pI _ _) ?_ ?_);(·exact bj))|((with_reducible refine aN (jv _ _) ?_ ?_);(·exact bj))|((with_reducible refine aM (fun _=>jv _ _) ?_ ?_);(·exact bj))|((with_reducible refine aJ (jv _ _) ?_ ?_);(·exact bj))|((with_reducible refine aL (fun _=>jv _ _) ?_ ?_);(·exact bj))|((with_reducible refine aN (lR _ _) ?_ ?_);(·exact bj))|((with_reducible refine aM (fun _=>lR _ _) ?_ ?_);(·exact bj))|((with_reducible refine aJ (lR _ _) ?_ ?_);(·exact bj))|((with_reducible refine aL (fun _=>lR _ _) ?_ ?_);(·exact bj))|((with_reducible refine aN (lS _ _) ?_ ?_);(·exact bj))|((with_reducible refine aM (fun _=>lS _ _) ?_ ?_);(·exact bj))|((with_reducible refine aJ (lS _ _) ?_ ?_);(·exact bj))|((with_reducible refine aL (fun _=>lS _ _) ?_ ?_);(·exact bj))|((with_reducible refine aN (jo _ _) ?_ ?_);(·exact bj))|((with_reducible refine aM (fun _=>jo _ _) ?_ ?_);(·exact bj))|((with_reducible refine aJ (jo _ _) ?_ ?_);(·exact bj))|((with_reducible refine aL (fun _=>jo _ _) ?_ ?_);(·exact bj))|((with_reducible refine aN (jw _ _) ?_ ?_);(·exact bj))|((with_reducible refine aM (fun _=>jw _ _) ?_ ?_);(·exact bj))|((with_reducible refine aJ (jw _ _) ?_ ?_);(·exact bj))|((with_reducible refine aL (fun _=>jw _ _) ?_ ?_);(·exact bj))|refine aH ?_|((with_reducible refine aB ?_ ?_)<;>intro hc<;>(try simp only[List.length_map,ne_eq,dP] at hc)<;>try(exfalso;omega)))
 all_goals (first|exact rfl|trace_state)
theorem si (op a b:Int) (h:two op=false):Pure Tryz.prog 109 [u8 op,i64 a,i64 b] (fun r=>r= .dD [i64 0,i64 2]):=by
 refine aI sV rfl ?_
 repeat' (first|((with_reducible refine aF ?_);conv=>whnf)|refine aG ?_|exact aC|with_reducible refine aD ?_ ?_|(apply aA;(·exact cA))|((with_reducible refine aN (dM _) ?_ ?_);(·exact bj))|((with_reducible refine aM (fun _=>dM _) ?_ ?_);(·exact bj))|((with_reducible refine aJ (dM _) ?_ ?_);(·exact bj))|((with_reducible refine aL (fun _=>dM _) ?_ ?_);(·exact bj))|refine aH ?_|((with_reducible refine aB ?_ ?_)<;>intro hc<;>(try simp only[List.length_map,ne_eq,dP] at hc)<;>try(exfalso;omega)))
 all_goals simp_all
theorem ow (op a:Int) (h:op=17∨op=18):Pure Tryz.prog 110 [u8 op,i64 a] (fun r=>r= .dD [i64 (JA op a),i64 0]):=by
 refine aI vL rfl ?_
 rcases h with rfl|rfl
 all_goals repeat' (first|((with_reducible refine aF ?_);conv=>whnf)|refine aG ?_|exact aC|with_reducible refine aD ?_ ?_|(apply aA;(·exact cA))|((with_reducible refine aN (fM _) ?_ ?_);(·exact bj))|((with_reducible refine aM (fun _=>fM _) ?_ ?_);(·exact bj))|((with_reducible refine aJ (fM _) ?_ ?_);(·exact bj))|((with_reducible refine aL (fun _=>fM _) ?_ ?_);(·exact bj))|((with_reducible refine aN (dM _) ?_ ?_);(·exact bj))|((with_reducible refine aM (fun _=>dM _) ?_ ?_);(·exact bj))|((with_reducible refine aJ (dM _) ?_ ?_);(·exact bj))|((with_reducible refine aL (fun _=>dM _) ?_ ?_);(·exact bj))|refine aK (kz) ?_|((with_reducible refine aN (kB _) ?_ ?_);(·exact bj))|((with_reducible refine aM (fun _=>kB _) ?_ ?_);(·exact bj))|((with_reducible refine aJ (kB _) ?_ ?_);(·exact bj))|((with_reducible refine aL (fun _=>kB _) ?_ ?_);(·exact bj))|((with_reducible refine aN (mz _) ?_ ?_);(·exact bj))|((with_reducible refine aM (fun _=>mz _) ?_ ?_);(·exact bj))|((with_reducible refine aJ (mz _) ?_ ?_);(·exact bj))|((with_reducible refine aL (fun _=>mz _) ?_ ?_);(·exact bj))|refine aH ?_|((with_reducible refine aB ?_ ?_)<;>intro hc<;>(try simp only[List.length_map,ne_eq,dP] at hc)<;>try(exfalso;omega)))
 all_goals (first|exact rfl|trace_state)
end Go.Proofs.YtlonbgdonffcbaaGreatDoor
end
