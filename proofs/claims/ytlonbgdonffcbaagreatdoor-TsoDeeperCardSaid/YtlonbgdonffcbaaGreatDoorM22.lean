import Derived.Test.YtlonbgdonffcbaaGreatDoorM21
section
/- Right objects. -/
namespace Go.Proofs.YtlonbgdonffcbaaGreatDoor
open Go Go.cU Go.Proofs
set_option linter.unusedSimpArgs false
theorem s6 (c d:Core) (b:Nat) (H:Hp) (nx:Nat) (e:TypeId) (df:AV) (hb:bf H b=some (.row e 2 df [c.av])) (hlt:b<nx):ic Tryz.prog 72 [d.av, .pt b 1 0 0] H nx (bl (d.name==c.name)):=by
 refine aT FM rfl ?_
 repeat' (first|((with_reducible refine aF ?_);conv=>whnf)|refine aG ?_|exact aC|with_reducible refine aD ?_ ?_|(apply aA;(·exact bz))|refine aH ?_|((with_reducible refine aB ?_ ?_)<;>intro hc<;>(try simp only[List.length_map,ne_eq,dL] at hc)<;>try(exfalso;omega)))
 exact pK.look rfl dC
theorem drop_cons {α:Type} [Inhabited α] {l:List α} {i:Nat} (h:i<l.length):l.drop i=l.getD i default::l.drop (i+1):=by
 rw[List.drop_eq_getElem_cons h]
 simp[List.getD,h]
def fu (name:ByteArray):List Core→Nat→Int
 |[],_=>-1
 |d::r,k=>if(d.name==name)=true then k else fu name r (k+1)
theorem vA (c:Core) (l:List Core) (hl:l.length * 40≤140737488351232) (b:Nat) (H:Hp) (nx:Nat) (e:TypeId) (df:AV) (hb:bf H b=some (.row e 2 df [c.av])) (hlt:b<nx):ic Tryz.prog 106 [.im 2 .any (l.map Core.av), .fn (.func 72) [] [.pt b 1 0 0]] H nx (i64 (fu c.name l 0)):=by
 refine aT vG rfl ?_
 repeat' (first|((with_reducible refine aF ?_);conv=>whnf)|refine aG ?_|exact aC|with_reducible refine aD ?_ ?_|(apply aA;(·exact bz))|refine aH ?_|((with_reducible refine aB ?_ ?_)<;>intro hc<;>(try simp only[List.length_map,ne_eq,dL] at hc)<;>try(exfalso;omega)))
 refine aR (fun i:Nat=>[(0, .im 2 .any (l.map Core.av)),(1, .fn (.func 72) [] [.pt b 1 0 0]),(7,i64 l.length),(8,i64 i)]) (fun i H' n=>i≤l.length∧H'=H∧nx≤n∧fu c.name l 0=fu c.name (l.drop i) i) (fun i=>l.length - i) 0 cG ⟨Nat.zero_le _,rfl,by omega,rfl⟩ ?_
 rintro i H' n ⟨hi,rfl,hn,hs⟩
 repeat' (first|((with_reducible refine aF ?_);conv=>whnf)|refine aG ?_|exact aC|with_reducible refine aD ?_ ?_|(apply aA;(·exact bz))|((refine aQ (s6 c _ b _ _ e df hb (by omega)) ?_ ?_);(·exact True.intro))|((refine aV (fun _=>s6 c _ b _ _ e df hb (by omega)) ?_ ?_);(·exact True.intro))|refine aH ?_|((with_reducible refine aB ?_ ?_)<;>intro hc<;>(try simp only[List.length_map,ne_eq,dL] at hc)<;>try(exfalso;omega)))
 ·try simp only[Int.toNat_natCast] at hc
  refine pK.look ?_ dC
  rw[hs,drop_cons (by omega),fu,if_pos hc]
 ·try simp only[Int.toNat_natCast] at hc
  refine⟨i+1,by omega,cG,by omega,rfl,by omega, ?_⟩
  rw[hs,drop_cons (by omega),fu,if_neg (by rw[hc];simp)]
 ·refine pK.look ?_ dC
  rw[hs,List.drop_eq_nil_of_le (by omega),fu]
theorem oQ (name:ByteArray):∀(l:List Core) (k:Nat),0≤fu name l k↔(l.any (fun d=>d.name==name))=true
 |[],k=>by simp[fu]
 |d::r,k=>by
  have ih:=oQ name r (k+1)
  simp only[fu,List.any_cons,Bool.or_eq_true]
  by_cases h:(d.name==name)=true
  ·rw[if_pos h];exact⟨fun _=>Or.inl h,fun _=>by omega⟩
  ·rw[if_neg h,ih];exact⟨Or.inr,fun hh=>hh.resolve_left h⟩
theorem uy (name:ByteArray) (l:List Core) (k:Nat):(decide (0≤fu name l k))=l.any (fun d=>d.name==name):=by
 rw[Bool.eq_iff_iff,decide_eq_true_eq]
 exact oQ name l k
theorem CL (c:Core) (l:List Core) (hl:l.length * 40≤140737488351232) (b:Nat) (H:Hp) (nx:Nat) (e:TypeId) (df:AV) (hb:bf H b=some (.row e 2 df [c.av])) (hlt:b<nx):ic Tryz.prog 74 [.im 2 .any (l.map Core.av), .fn (.func 72) [] [.pt b 1 0 0]] H nx (bl (l.any fun d=>d.name==c.name)):=by
 refine aT FO rfl ?_
 repeat' (first|((with_reducible refine aF ?_);conv=>whnf)|refine aG ?_|exact aC|with_reducible refine aD ?_ ?_|(apply aA;(·exact bz))|((refine aQ (vA c l hl b _ _ e df hb (by omega)) ?_ ?_);(·exact True.intro))|((refine aV (fun _=>vA c l hl b _ _ e df hb (by omega)) ?_ ?_);(·exact True.intro))|refine aH ?_|((with_reducible refine aB ?_ ?_)<;>intro hc<;>(try simp only[List.length_map,ne_eq,dL] at hc)<;>try(exfalso;omega)))
 refine pK.look ?_ dC
 rw[←uy c.name l 0]
def qQ (c:Core):Bool:=decide ((c.code.getD ((c.code.length:Int) - 1).toNat default).kind=10)||decide ((c.code.getD ((c.code.length:Int) - 1).toNat default).kind=8)
def iO (pre:List Core) (c:Core):Bool:=isName c.name&& !(pre.any fun d=>d.name==c.name)&&decide (1≤c.code.length)&&decide (c.code.length≤16384)&&qQ c
def gY:List Core→List Core→Bool
 |_,[]=>true
 |pre,c::r=>iO pre c&&gY (pre++[c]) r
def eN (o:Obj):Bool:=decide (0≤o.shared)&&decide (o.shared≤64)&&decide (0≤o.fX)&&decide (o.fX≤16)&&decide (o.shared+o.fX≤o.mem.length)&&decide (o.mem.length≤4096)&&decide (1≤o.buffer)&&decide (o.buffer≤16)&&decide (o.bd.length≤8)&&gY [] o.bd
theorem lh {l:List Core} {i:Nat} (h:i<l.length):gY (l.take i) (l.drop i)=(iO (l.take i) (l.getD i default)&&gY (l.take (i+1)) (l.drop (i+1))):=by
 rw[drop_cons h,gY,List.take_succ_eq_append_getElem h]
 simp[List.getD,h]
theorem Obj.Wf.at {o:Obj} (ho:o.Wf) (i:Nat):(o.bd.getD i default).Wf:=by
 by_cases h:i<o.bd.length
 ·have:o.bd.getD i default=o.bd[i]:=by simp[List.getD,h]
  rw[this];exact ho.bd _ (List.getElem_mem h)
 ·have:o.bd.getD i default=default:=by simp[List.getD,h]
  rw[this];exact⟨by decide,(fun _ hi=>nomatch hi),by decide⟩
theorem yT (c:Core) (l:List Core) (i:Nat) (hl:l.length * 40≤140737488351232) (b:Nat) (H:Hp) (nx:Nat) (e:TypeId) (df:AV) (hb:bf H b=some (.row e 2 df [c.av])) (hlt:b<nx):ic Tryz.prog 74 [.im 2 .any (((l.map Core.av).drop 0).take (((i:Nat):Int).toNat - 0)), .fn (.func 72) [] [.pt b 1 0 0]] H nx (bl ((l.take i).any fun d=>d.name==c.name)):=by
 have h:=CL c (l.take i) (by rw[List.length_take];omega) b H nx e df hb hlt
 rw[List.map_take] at h
 exact h
theorem wN (o:Obj) (ho:o.Wf):Pure Tryz.prog 56 [o.av] (fun r=>r=bl (eN o)):=by
 refine aI FD rfl ?_
 repeat' (first|((with_reducible refine aF ?_);conv=>whnf)|refine aG ?_|exact aC|with_reducible refine aD ?_ ?_|(apply aA;(·exact bz))|refine aH ?_|((with_reducible refine aB ?_ ?_)<;>intro hc<;>(try simp only[List.length_map,ne_eq,dL] at hc)<;>try(exfalso;omega)))
 ·congr 2
  simp only[eN]
  grind
 ·refine aR (fun i:Nat=>[(1, .pt 0 1 0 0),(60, .im 2 .any (o.bd.map Core.av)),(61,i64 o.bd.length),(62,i64 i)]) (fun i H' n=>i≤o.bd.length∧1≤n∧bf H' 0=some (.row 25 5 .any [o.av])∧gY [] o.bd=gY (o.bd.take i) (o.bd.drop i)) (fun i=>o.bd.length - i) 0 cG ⟨Nat.zero_le _,by omega,rfl,rfl⟩ ?_
  rintro i H' n ⟨hi,hn,hr,hs⟩
  repeat' (first|((with_reducible refine aF ?_);conv=>whnf)|refine aG ?_|exact aC|with_reducible refine aD ?_ ?_|(apply aA;(·exact bz))|((with_reducible refine aJ (lT _ (ho.at _).name) ?_ ?_);(·exact bj))|((with_reducible refine aN (fun _=>lT _ (ho.at _).name) ?_ ?_);(·exact bj))|((with_reducible refine aL (lT _ (ho.at _).name) ?_ ?_);(·exact bj))|((with_reducible refine aM (fun _=>lT _ (ho.at _).name) ?_ ?_);(·exact bj))|((refine aQ (yT _ o.bd i ho.jo _ _ _ _ _ bn (by omega)) ?_ ?_);(·exact True.intro))|((refine aV (fun _=>yT _ o.bd i ho.jo _ _ _ _ _ bn (by omega)) ?_ ?_);(·exact True.intro))|refine aH ?_|((with_reducible refine aB ?_ ?_)<;>intro hc<;>(try simp only[List.length_map,ne_eq,dL] at hc)<;>try(exfalso;omega)))
  ·have hb:eN o=false:=by
    have:iO (o.bd.take i) (o.bd.getD i default)=false:=by
     simp only[iO]
     grind
    simp only[eN]
    rw[hs,lh (by omega),this]
    simp
   rw[hb]
  ·have hb:eN o=false:=by
    have:iO (o.bd.take i) (o.bd.getD i default)=false:=by
     simp only[iO,qQ]
     grind
    simp only[eN]
    rw[hs,lh (by omega),this]
    simp
   rw[hb]
  ·have hb:iO (o.bd.take i) (o.bd.getD i default)=true:=by
    simp only[iO,qQ]
    grind
   refine⟨i+1,by omega,cG,by omega,by omega,bn, ?_⟩
   rw[hs,lh (by omega),hb,Bool.true_and]
  ·rw[List.drop_eq_nil_of_le (by omega),gY] at hs
   have hb:eN o=true:=by
    simp only[eN]
    rw[hs]
    grind
   rw[hb]
def nR (len mem:Int):List Instr→Nat→Option Nat
 |[],_=>none
 |i::r,k=>if hX i len mem=true then nR len mem r (k+1) else some k
def o7 (mem:Int):List Core→Nat→Option (Nat×Nat)
 |[],_=>none
 |c::r,k=>match nR c.code.length mem c.code 0 with
  |some n=>some (k,n)
  |none=>o7 mem r (k+1)
def gW (o:Obj):AV:=if eN o=true then(match o7 o.mem.length o.bd 0 with
 |none=> .dE [i64 0,i64 0,i64 0]
 |some (k,n)=> .dE [i64 160,i64 k,i64 n]) else .dE [i64 160,i64 0,i64 0]
@[simp] theorem M9 (n:Nat) (o:Obj):cA n (gW o):=by
  simp only[gW]
  split
  ·split<;>simp[cA,cH]
  ·simp[cA,cH]
theorem Core.Wf.at {c:Core} (hc:c.Wf) (i:Nat):(c.code.getD i default).Wf:=by
 by_cases h:i<c.code.length
 ·have:c.code.getD i default=c.code[i]:=by simp[List.getD,h]
  rw[this];exact hc.code _ (List.getElem_mem h)
 ·have:c.code.getD i default=default:=by simp[List.getD,h]
  rw[this]
  constructor<;>first|decide|(unfold cu;decide)
theorem jn (o:Obj) (ho:o.Wf):Pure Tryz.prog 25 [o.av] (fun r=>r=gW o):=by
 refine aI EO rfl ?_
 repeat' (first|((with_reducible refine aF ?_);conv=>whnf)|refine aG ?_|exact aC|with_reducible refine aD ?_ ?_|(apply aA;(·exact bz))|refine aK (wN o ho) ?_|refine aH ?_|((with_reducible refine aB ?_ ?_)<;>intro hc<;>(try simp only[List.length_map,ne_eq,dL] at hc)<;>try(exfalso;omega)))
 ·simp[gW,hc]
 ·refine aR (fun i:Nat=>[(1, .pt 0 1 0 0),(13, .im 2 .any (o.bd.map Core.av)),(14,i64 o.bd.length),(15,i64 i)]) (fun i H' n=>i≤o.bd.length∧1≤n∧bf H' 0=some (.row 25 5 .any [o.av])∧o7 o.mem.length o.bd 0=o7 o.mem.length (o.bd.drop i) i) (fun i=>o.bd.length - i) 0 cG ⟨Nat.zero_le _,by omega,rfl,rfl⟩ ?_
  rintro i H' n ⟨hi,hn,hr,hs⟩
  have hol:=ho.jo
  repeat' (first|((with_reducible refine aF ?_);conv=>whnf)|refine aG ?_|exact aC|with_reducible refine aD ?_ ?_|(apply aA;(·exact bz))|refine aH ?_|((with_reducible refine aB ?_ ?_)<;>intro hc<;>(try simp only[List.length_map,ne_eq,dL] at hc)<;>try(exfalso;omega)))
  ·refine aR (fun k:Nat=>[(1, .pt 0 1 0 0),(5,i64 i),(6, .pt (n+1+1+1+1) 1 0 0),(13, .im 2 .any (o.bd.map Core.av)),(14,i64 o.bd.length),(15,i64 i),(21, .im 9 .any ((o.bd.getD i default).code.map Instr.av)),(22,i64 (o.bd.getD i default).code.length),(23,i64 k)]) (fun k H2 n2=>k≤(o.bd.getD i default).code.length∧n+5≤n2∧bf H2 0=some (.row 25 5 .any [o.av])∧(∃df,bf H2 (n+1+1+1+1)=some (.row 66 2 df [(o.bd.getD i default).av]))∧nR (o.bd.getD i default).code.length o.mem.length (o.bd.getD i default).code 0=nR (o.bd.getD i default).code.length o.mem.length ((o.bd.getD i default).code.drop k) k) (fun k=>(o.bd.getD i default).code.length - k) 0 cG ⟨Nat.zero_le _,by omega,bn,⟨_,bn⟩,rfl⟩ ?_
   rintro k H2 n2 ⟨hk,hn2,hr2,⟨df,hr3⟩,hs2⟩
   have hcl:=(ho.at i).len
   repeat' (first|((with_reducible refine aF ?_);conv=>whnf)|refine aG ?_|exact aC|with_reducible refine aD ?_ ?_|(apply aA;(·exact bz))|((with_reducible refine aJ (jl _ ((ho.at _).at _) _ _) ?_ ?_);(·exact bj))|((with_reducible refine aN (fun _=>jl _ ((ho.at _).at _) _ _) ?_ ?_);(·exact bj))|((with_reducible refine aL (jl _ ((ho.at _).at _) _ _) ?_ ?_);(·exact bj))|((with_reducible refine aM (fun _=>jl _ ((ho.at _).at _) _ _) ?_ ?_);(·exact bj))|refine aH ?_|((with_reducible refine aB ?_ ?_)<;>intro hc<;>(try simp only[List.length_map,ne_eq,dL] at hc)<;>try(exfalso;omega)))
   ·have h1:nR (o.bd.getD i default).code.length o.mem.length (o.bd.getD i default).code 0=some k:=by
     rw[hs2,drop_cons (by omega),nR,if_neg (by rw[hc];simp)]
    have h2:o7 o.mem.length o.bd 0=some (i,k):=by
     rw[hs,drop_cons (by omega),o7,h1]
    rw[gW,if_pos (by assumption),h2]
   ·refine⟨k+1,by omega,cG,by omega,by omega,bn,⟨_,bn⟩, ?_⟩
    rw[hs2,drop_cons (by omega),nR,if_pos hc]
   ·have h1:nR (o.bd.getD i default).code.length o.mem.length (o.bd.getD i default).code 0=none:=by
     rw[hs2,List.drop_eq_nil_of_le (by omega),nR]
    refine⟨i+1,by omega,cG,by omega,by omega,bn, ?_⟩
    rw[hs,drop_cons (by omega),o7,h1]
  ·rw[List.drop_eq_nil_of_le (by omega),o7] at hs
   rw[gW,if_pos (by assumption),hs]
end Go.Proofs.YtlonbgdonffcbaaGreatDoor
/- Operators. -/
namespace Go.Proofs.YtlonbgdonffcbaaGreatDoor
open Go Go.cU Go.Proofs
set_option linter.unusedSimpArgs false
abbrev tq (n:Int):Int:=IntKind.i64.wrap n
def BE (a b:Int):Int:=if b=0 then 0 else if b=-1 then tq (0 - a) else tq (a.tdiv b)
def GU (a b:Int):Int:=if b=0 then a else tq (a - tq (BE a b * b))
def NP (a b:Int):Int:=tq ((BitVec.ofInt 64 a&&& BitVec.ofInt 64 b).toNat:Int)
def PO (a b:Int):Int:=tq ((BitVec.ofInt 64 a|||BitVec.ofInt 64 b).toNat:Int)
def OM (a b:Int):Int:=tq ((BitVec.ofInt 64 a^^^BitVec.ofInt 64 b).toNat:Int)
def C2 (b:Int):Int:=IntKind.u64.wrap ((BitVec.ofInt 64 (IntKind.u64.wrap b)&&& BitVec.ofInt 64 63).toNat:Int)
def OF (a b:Int):Int:=tq (a * 2^(min (C2 b).toNat 64))
def JN (a b:Int):Int:=a.fdiv (2^(min (C2 b).toNat 64))
def tr (t:Bool):Int:=if t=true then 1 else 0
theorem cP (t:Bool):Pure Tryz.prog 143 [bl t] (fun r=>r=i64 (tr t)):=by
 refine aI vg rfl ?_
 repeat' (first|((with_reducible refine aF ?_);conv=>whnf)|refine aG ?_|exact aC|with_reducible refine aD ?_ ?_|(apply aA;(·exact bz))|refine aH ?_|((with_reducible refine aB ?_ ?_)<;>intro hc<;>(try simp only[List.length_map,ne_eq,dL] at hc)<;>try(exfalso;omega)))
 all_goals simp_all[tr]
theorem mJ (a b:Int):Pure Tryz.prog 121 [i64 a,i64 b] (fun r=>r=i64 (tq (a+b))):=by
 refine aI vN rfl ?_
 repeat' (first|((with_reducible refine aF ?_);conv=>whnf)|refine aG ?_|exact aC|with_reducible refine aD ?_ ?_|(apply aA;(·exact bz))|refine aH ?_|((with_reducible refine aB ?_ ?_)<;>intro hc<;>(try simp only[List.length_map,ne_eq,dL] at hc)<;>try(exfalso;omega)))
 all_goals exact rfl
theorem nG (a b:Int):Pure Tryz.prog 122 [i64 a,i64 b] (fun r=>r=i64 (tq (a - b))):=by
 refine aI vO rfl ?_
 repeat' (first|((with_reducible refine aF ?_);conv=>whnf)|refine aG ?_|exact aC|with_reducible refine aD ?_ ?_|(apply aA;(·exact bz))|refine aH ?_|((with_reducible refine aB ?_ ?_)<;>intro hc<;>(try simp only[List.length_map,ne_eq,dL] at hc)<;>try(exfalso;omega)))
 all_goals exact rfl
theorem mq (a b:Int):Pure Tryz.prog 123 [i64 a,i64 b] (fun r=>r=i64 (tq (a * b))):=by
 refine aI vP rfl ?_
 repeat' (first|((with_reducible refine aF ?_);conv=>whnf)|refine aG ?_|exact aC|with_reducible refine aD ?_ ?_|(apply aA;(·exact bz))|refine aH ?_|((with_reducible refine aB ?_ ?_)<;>intro hc<;>(try simp only[List.length_map,ne_eq,dL] at hc)<;>try(exfalso;omega)))
 all_goals exact rfl
theorem gk (a b:Int):Pure Tryz.prog 124 [i64 a,i64 b] (fun r=>r=i64 (BE a b)):=by
 refine aI vQ rfl ?_
 repeat' (first|((with_reducible refine aF ?_);conv=>whnf)|refine aG ?_|exact aC|with_reducible refine aD ?_ ?_|(apply aA;(·exact bz))|refine aH ?_|((with_reducible refine aB ?_ ?_)<;>intro hc<;>(try simp only[List.length_map,ne_eq,dL] at hc)<;>try(exfalso;omega)))
 all_goals simp_all[BE]
theorem nA (a b:Int):Pure Tryz.prog 125 [i64 a,i64 b] (fun r=>r=i64 (GU a b)):=by
 refine aI vR rfl ?_
 repeat' (first|((with_reducible refine aF ?_);conv=>whnf)|refine aG ?_|exact aC|with_reducible refine aD ?_ ?_|(apply aA;(·exact bz))|((with_reducible refine aJ (gk _ _) ?_ ?_);(·exact bj))|((with_reducible refine aN (fun _=>gk _ _) ?_ ?_);(·exact bj))|((with_reducible refine aL (gk _ _) ?_ ?_);(·exact bj))|((with_reducible refine aM (fun _=>gk _ _) ?_ ?_);(·exact bj))|refine aH ?_|((with_reducible refine aB ?_ ?_)<;>intro hc<;>(try simp only[List.length_map,ne_eq,dL] at hc)<;>try(exfalso;omega)))
 all_goals simp_all[GU]
theorem mL (a b:Int):Pure Tryz.prog 126 [i64 a,i64 b] (fun r=>r=i64 (NP a b)):=by
 refine aI vS rfl ?_
 repeat' (first|((with_reducible refine aF ?_);conv=>whnf)|refine aG ?_|exact aC|with_reducible refine aD ?_ ?_|(apply aA;(·exact bz))|refine aH ?_|((with_reducible refine aB ?_ ?_)<;>intro hc<;>(try simp only[List.length_map,ne_eq,dL] at hc)<;>try(exfalso;omega)))
 all_goals exact rfl
theorem pF (a b:Int):Pure Tryz.prog 127 [i64 a,i64 b] (fun r=>r=i64 (PO a b)):=by
 refine aI vT rfl ?_
 repeat' (first|((with_reducible refine aF ?_);conv=>whnf)|refine aG ?_|exact aC|with_reducible refine aD ?_ ?_|(apply aA;(·exact bz))|refine aH ?_|((with_reducible refine aB ?_ ?_)<;>intro hc<;>(try simp only[List.length_map,ne_eq,dL] at hc)<;>try(exfalso;omega)))
 all_goals exact rfl
theorem nJ (a b:Int):Pure Tryz.prog 128 [i64 a,i64 b] (fun r=>r=i64 (OM a b)):=by
 refine aI vU rfl ?_
 repeat' (first|((with_reducible refine aF ?_);conv=>whnf)|refine aG ?_|exact aC|with_reducible refine aD ?_ ?_|(apply aA;(·exact bz))|refine aH ?_|((with_reducible refine aB ?_ ?_)<;>intro hc<;>(try simp only[List.length_map,ne_eq,dL] at hc)<;>try(exfalso;omega)))
 all_goals exact rfl
theorem nC (a b:Int):Pure Tryz.prog 129 [i64 a,i64 b] (fun r=>r=i64 (OF a b)):=by
 refine aI vV rfl ?_
 repeat' (first|((with_reducible refine aF ?_);conv=>whnf)|refine aG ?_|exact aC|with_reducible refine aD ?_ ?_|(apply aA;(·exact bz))|refine aH ?_|((with_reducible refine aB ?_ ?_)<;>intro hc<;>(try simp only[List.length_map,ne_eq,dL] at hc)<;>try(exfalso;omega)))
 all_goals exact rfl
theorem nD (a b:Int):Pure Tryz.prog 130 [i64 a,i64 b] (fun r=>r=i64 (JN a b)):=by
 refine aI vW rfl ?_
 repeat' (first|((with_reducible refine aF ?_);conv=>whnf)|refine aG ?_|exact aC|with_reducible refine aD ?_ ?_|(apply aA;(·exact bz))|refine aH ?_|((with_reducible refine aB ?_ ?_)<;>intro hc<;>(try simp only[List.length_map,ne_eq,dL] at hc)<;>try(exfalso;omega)))
 all_goals exact rfl
theorem pD (a b:Int):Pure Tryz.prog 131 [i64 a,i64 b] (fun r=>r=i64 (tr (decide (a=b)))):=by
 refine aI vX rfl ?_
 repeat' (first|((with_reducible refine aF ?_);conv=>whnf)|refine aG ?_|exact aC|with_reducible refine aD ?_ ?_|(apply aA;(·exact bz))|((with_reducible refine aJ (cP _) ?_ ?_);(·exact bj))|((with_reducible refine aN (fun _=>cP _) ?_ ?_);(·exact bj))|((with_reducible refine aL (cP _) ?_ ?_);(·exact bj))|((with_reducible refine aM (fun _=>cP _) ?_ ?_);(·exact bj))|refine aH ?_|((with_reducible refine aB ?_ ?_)<;>intro hc<;>(try simp only[List.length_map,ne_eq,dL] at hc)<;>try(exfalso;omega)))
 all_goals exact rfl
theorem jv (a b:Int):Pure Tryz.prog 132 [i64 a,i64 b] (fun r=>r=i64 (tr (decide (a≠b)))):=by
 refine aI vY rfl ?_
 repeat' (first|((with_reducible refine aF ?_);conv=>whnf)|refine aG ?_|exact aC|with_reducible refine aD ?_ ?_|(apply aA;(·exact bz))|((with_reducible refine aJ (cP _) ?_ ?_);(·exact bj))|((with_reducible refine aN (fun _=>cP _) ?_ ?_);(·exact bj))|((with_reducible refine aL (cP _) ?_ ?_);(·exact bj))|((with_reducible refine aM (fun _=>cP _) ?_ ?_);(·exact bj))|refine aH ?_|((with_reducible refine aB ?_ ?_)<;>intro hc<;>(try simp only[List.length_map,ne_eq,dL] at hc)<;>try(exfalso;omega)))
 all_goals exact rfl
theorem lR (a b:Int):Pure Tryz.prog 133 [i64 a,i64 b] (fun r=>r=i64 (tr (decide (a<b)))):=by
 refine aI vZ rfl ?_
 repeat' (first|((with_reducible refine aF ?_);conv=>whnf)|refine aG ?_|exact aC|with_reducible refine aD ?_ ?_|(apply aA;(·exact bz))|((with_reducible refine aJ (cP _) ?_ ?_);(·exact bj))|((with_reducible refine aN (fun _=>cP _) ?_ ?_);(·exact bj))|((with_reducible refine aL (cP _) ?_ ?_);(·exact bj))|((with_reducible refine aM (fun _=>cP _) ?_ ?_);(·exact bj))|refine aH ?_|((with_reducible refine aB ?_ ?_)<;>intro hc<;>(try simp only[List.length_map,ne_eq,dL] at hc)<;>try(exfalso;omega)))
 all_goals exact rfl
theorem lS (a b:Int):Pure Tryz.prog 134 [i64 a,i64 b] (fun r=>r=i64 (tr (decide (a≤b)))):=by
 refine aI v7 rfl ?_
 repeat' (first|((with_reducible refine aF ?_);conv=>whnf)|refine aG ?_|exact aC|with_reducible refine aD ?_ ?_|(apply aA;(·exact bz))|((with_reducible refine aJ (cP _) ?_ ?_);(·exact bj))|((with_reducible refine aN (fun _=>cP _) ?_ ?_);(·exact bj))|((with_reducible refine aL (cP _) ?_ ?_);(·exact bj))|((with_reducible refine aM (fun _=>cP _) ?_ ?_);(·exact bj))|refine aH ?_|((with_reducible refine aB ?_ ?_)<;>intro hc<;>(try simp only[List.length_map,ne_eq,dL] at hc)<;>try(exfalso;omega)))
 all_goals exact rfl
theorem jm (a b:Int):Pure Tryz.prog 135 [i64 a,i64 b] (fun r=>r=i64 (tr (decide (b<a)))):=by
 refine aI v8 rfl ?_
 repeat' (first|((with_reducible refine aF ?_);conv=>whnf)|refine aG ?_|exact aC|with_reducible refine aD ?_ ?_|(apply aA;(·exact bz))|((with_reducible refine aJ (cP _) ?_ ?_);(·exact bj))|((with_reducible refine aN (fun _=>cP _) ?_ ?_);(·exact bj))|((with_reducible refine aL (cP _) ?_ ?_);(·exact bj))|((with_reducible refine aM (fun _=>cP _) ?_ ?_);(·exact bj))|refine aH ?_|((with_reducible refine aB ?_ ?_)<;>intro hc<;>(try simp only[List.length_map,ne_eq,dL] at hc)<;>try(exfalso;omega)))
 all_goals exact rfl
theorem jw (a b:Int):Pure Tryz.prog 136 [i64 a,i64 b] (fun r=>r=i64 (tr (decide (b≤a)))):=by
 refine aI va rfl ?_
 repeat' (first|((with_reducible refine aF ?_);conv=>whnf)|refine aG ?_|exact aC|with_reducible refine aD ?_ ?_|(apply aA;(·exact bz))|((with_reducible refine aJ (cP _) ?_ ?_);(·exact bj))|((with_reducible refine aN (fun _=>cP _) ?_ ?_);(·exact bj))|((with_reducible refine aL (cP _) ?_ ?_);(·exact bj))|((with_reducible refine aM (fun _=>cP _) ?_ ?_);(·exact bj))|refine aH ?_|((with_reducible refine aB ?_ ?_)<;>intro hc<;>(try simp only[List.length_map,ne_eq,dL] at hc)<;>try(exfalso;omega)))
 all_goals exact rfl
theorem kB (a:Int):Pure Tryz.prog 137 [i64 a] (fun r=>r=i64 (tq (0 - a))):=by
 refine aI vc rfl ?_
 repeat' (first|((with_reducible refine aF ?_);conv=>whnf)|refine aG ?_|exact aC|with_reducible refine aD ?_ ?_|(apply aA;(·exact bz))|refine aH ?_|((with_reducible refine aB ?_ ?_)<;>intro hc<;>(try simp only[List.length_map,ne_eq,dL] at hc)<;>try(exfalso;omega)))
 all_goals exact rfl
theorem mu (a:Int):Pure Tryz.prog 138 [i64 a] (fun r=>r=i64 (tr (decide (a=0)))):=by
 refine aI vd rfl ?_
 repeat' (first|((with_reducible refine aF ?_);conv=>whnf)|refine aG ?_|exact aC|with_reducible refine aD ?_ ?_|(apply aA;(·exact bz))|((with_reducible refine aJ (cP _) ?_ ?_);(·exact bj))|((with_reducible refine aN (fun _=>cP _) ?_ ?_);(·exact bj))|((with_reducible refine aL (cP _) ?_ ?_);(·exact bj))|((with_reducible refine aM (fun _=>cP _) ?_ ?_);(·exact bj))|refine aH ?_|((with_reducible refine aB ?_ ?_)<;>intro hc<;>(try simp only[List.length_map,ne_eq,dL] at hc)<;>try(exfalso;omega)))
 all_goals exact rfl
def KM:AV:= .agg [.sc .nilFunc, .sc .nilFunc, .fn (.func 121) [] [], .sc .nilFunc, .fn (.func 122) [] [], .sc .nilFunc, .fn (.func 123) [] [], .sc .nilFunc, .fn (.func 124) [] [], .sc .nilFunc, .fn (.func 125) [] [], .sc .nilFunc, .fn (.func 126) [] [], .sc .nilFunc, .fn (.func 127) [] [], .sc .nilFunc, .fn (.func 128) [] [], .sc .nilFunc, .fn (.func 129) [] [], .sc .nilFunc, .fn (.func 130) [] [], .sc .nilFunc, .fn (.func 131) [] [], .sc .nilFunc, .fn (.func 132) [] [], .sc .nilFunc, .fn (.func 133) [] [], .sc .nilFunc, .fn (.func 134) [] [], .sc .nilFunc, .fn (.func 135) [] [], .sc .nilFunc, .fn (.func 136) [] [], .sc .nilFunc, .sc .nilFunc, .fn (.func 137) [] [], .sc .nilFunc, .fn (.func 138) [] []]
theorem kz:Pure Tryz.prog 118 [] (fun r=>r=KM):=fe (by simp[KM,cA,cH]) (by kernel_rfl)
def J1 (op a b:Int):Int:=if op=1 then tq (a+b) else if op=2 then tq (a - b) else if op=3 then tq (a * b) else if op=4 then BE a b else if op=5 then GU a b else if op=6 then NP a b else if op=7 then PO a b else if op=8 then OM a b else if op=9 then OF a b else if op=10 then JN a b else if op=11 then tr (decide (a=b)) else if op=12 then tr (decide (a≠b)) else if op=13 then tr (decide (a<b)) else if op=14 then tr (decide (a≤b)) else if op=15 then tr (decide (b<a)) else tr (decide (b≤a))
def JD (op a:Int):Int:=if op=17 then tq (0 - a) else tr (decide (a=0))
theorem BZ {op:Int} (h:two op=true):op=1∨op=2∨op=3∨op=4∨op=5∨op=6∨op=7∨op=8∨op=9∨op=10∨op=11∨op=12∨op=13∨op=14∨op=15∨op=16:=by
 simp only[two,Bool.and_eq_true,decide_eq_true_eq] at h;omega
theorem sj (op a b:Int) (h:two op=true):Pure Tryz.prog 109 [u8 op,i64 a,i64 b] (fun r=>r= .dE [i64 (J1 op a b),i64 0]):=by
 refine aI sS rfl ?_
 rcases BZ h with rfl|rfl|rfl|rfl|rfl|rfl|rfl|rfl|rfl|rfl|rfl|rfl|rfl|rfl|rfl|rfl
 all_goals repeat' (first|((with_reducible refine aF ?_);conv=>whnf)|refine aG ?_|exact aC|with_reducible refine aD ?_ ?_|(apply aA;(·exact bz))|((with_reducible refine aJ (dN _) ?_ ?_);(·exact bj))|((with_reducible refine aN (fun _=>dN _) ?_ ?_);(·exact bj))|((with_reducible refine aL (dN _) ?_ ?_);(·exact bj))|((with_reducible refine aM (fun _=>dN _) ?_ ?_);(·exact bj))|refine aK (kz) ?_|((with_reducible refine aJ (mJ _ _) ?_ ?_);(·exact bj))|((with_reducible refine aN (fun _=>mJ _ _) ?_ ?_);(·exact bj))|((with_reducible refine aL (mJ _ _) ?_ ?_);(·exact bj))|((with_reducible refine aM (fun _=>mJ _ _) ?_ ?_);(·exact bj))|((with_reducible refine aJ (nG _ _) ?_ ?_);(·exact bj))|((with_reducible refine aN (fun _=>nG _ _) ?_ ?_);(·exact bj))|((with_reducible refine aL (nG _ _) ?_ ?_);(·exact bj))|((with_reducible refine aM (fun _=>nG _ _) ?_ ?_);(·exact bj))|((with_reducible refine aJ (mq _ _) ?_ ?_);(·exact bj))|((with_reducible refine aN (fun _=>mq _ _) ?_ ?_);(·exact bj))|((with_reducible refine aL (mq _ _) ?_ ?_);(·exact bj))|((with_reducible refine aM (fun _=>mq _ _) ?_ ?_);(·exact bj))|((with_reducible refine aJ (gk _ _) ?_ ?_);(·exact bj))|((with_reducible refine aN (fun _=>gk _ _) ?_ ?_);(·exact bj))|((with_reducible refine aL (gk _ _) ?_ ?_);(·exact bj))|((with_reducible refine aM (fun _=>gk _ _) ?_ ?_);(·exact bj))|((with_reducible refine aJ (nA _ _) ?_ ?_);(·exact bj))|((with_reducible refine aN (fun _=>nA _ _) ?_ ?_);(·exact bj))|((with_reducible refine aL (nA _ _) ?_ ?_);(·exact bj))|((with_reducible refine aM (fun _=>nA _ _) ?_ ?_);(·exact bj))|((with_reducible refine aJ (mL _ _) ?_ ?_);(·exact bj))|((with_reducible refine aN (fun _=>mL _ _) ?_ ?_);(·exact bj))|((with_reducible refine aL (mL _ _) ?_ ?_);(·exact bj))|((with_reducible refine aM (fun _=>mL _ _) ?_ ?_);(·exact bj))|((with_reducible refine aJ (pF _ _) ?_ ?_);(·exact bj))|((with_reducible refine aN (fun _=>pF _ _) ?_ ?_);(·exact bj))|((with_reducible refine aL (pF _ _) ?_ ?_);(·exact bj))|((with_reducible refine aM (fun _=>pF _ _) ?_ ?_);(·exact bj))|((with_reducible refine aJ (nJ _ _) ?_ ?_);(·exact bj))|((with_reducible refine aN (fun _=>nJ _ _) ?_ ?_);(·exact bj))|((with_reducible refine aL (nJ _ _) ?_ ?_);(·exact bj))|((with_reducible refine aM (fun _=>nJ _ _) ?_ ?_);(·exact bj))|((with_reducible refine aJ (nC _ _) ?_ ?_);(·exact bj))|((with_reducible refine aN (fun _=>nC _ _) ?_ ?_);(·exact bj))|((with_reducible refine aL (nC _ _) ?_ ?_);(·exact bj))|((with_reducible refine aM (fun _=>nC _ _) ?_ ?_);(·exact bj))|((with_reducible refine aJ (nD _ _) ?_ ?_);(·exact bj))|((with_reducible refine aN (fun _=>nD _ _) ?_ ?_);(·exact bj))|((with_reducible refine aL (nD _ _) ?_ ?_);(·exact bj))|((with_reducible refine aM (fun _=>nD _ _) ?_ ?_);(·exact bj))|((with_reducible refine aJ (pD _ _) ?_ ?_);(·exact bj))|((with_reducible refine aN (fun _=>pD _ _) ?_ ?_);(·exact bj))|((with_reducible refine aL (pD _ _) ?_ ?_);(·exact bj))|((with_reducible refine aM (fun _=>pD _ _) ?_ ?_);(·exact bj))|((with_reducible refine aJ (jv _ _) ?_ ?_);(·exact bj))|((with_reducible refine aN (fun _=>jv _ _) ?_ ?_);(·exact bj))|((with_reducible refine aL (jv _ _) ?_ ?_);(·exact bj))|((with_reducible refine aM (fun _=>jv _ _) ?_ ?_);(·exact bj))|((with_reducible refine aJ (lR _ _) ?_ ?_);(·exact bj))|((with_reducible refine aN (fun _=>lR _ _) ?_ ?_);(·exact bj))|((with_reducible refine aL (lR _ _) ?_ ?_);(·exact bj))|((with_reducible refine aM (fun _=>lR _ _) ?_ ?_);(·exact bj))|((with_reducible refine aJ (lS _ _) ?_ ?_);(·exact bj))|((with_reducible refine aN (fun _=>lS _ _) ?_ ?_);(·exact bj))|((with_reducible refine aL (lS _ _) ?_ ?_);(·exact bj))|((with_reducible refine aM (fun _=>lS _ _) ?_ ?_);(·exact bj))|((with_reducible refine aJ (jm _ _) ?_ ?_);(·exact bj))|((with_reducible refine aN (fun _=>jm _ _) ?_ ?_);(·exact bj))|((with_reducible refine aL (jm _ _) ?_ ?_);(·exact bj))|((with_reducible refine aM (fun _=>jm _ _) ?_ ?_);(·exact bj))|((with_reducible refine aJ (jw _ _) ?_ ?_);(·exact bj))|((with_reducible refine aN (fun _=>jw _ _) ?_ ?_);(·exact bj))|((with_reducible refine aL (jw _ _) ?_ ?_);(·exact bj))|((with_reducible refine aM (fun _=>jw _ _) ?_ ?_);(·exact bj))|refine aH ?_|((with_reducible refine aB ?_ ?_)<;>intro hc<;>(try simp only[List.length_map,ne_eq,dL] at hc)<;>try(exfalso;omega)))
 all_goals (first|exact rfl|trace_state)
theorem si (op a b:Int) (h:two op=false):Pure Tryz.prog 109 [u8 op,i64 a,i64 b] (fun r=>r= .dE [i64 0,i64 2]):=by
 refine aI sS rfl ?_
 repeat' (first|((with_reducible refine aF ?_);conv=>whnf)|refine aG ?_|exact aC|with_reducible refine aD ?_ ?_|(apply aA;(·exact bz))|((with_reducible refine aJ (dN _) ?_ ?_);(·exact bj))|((with_reducible refine aN (fun _=>dN _) ?_ ?_);(·exact bj))|((with_reducible refine aL (dN _) ?_ ?_);(·exact bj))|((with_reducible refine aM (fun _=>dN _) ?_ ?_);(·exact bj))|refine aH ?_|((with_reducible refine aB ?_ ?_)<;>intro hc<;>(try simp only[List.length_map,ne_eq,dL] at hc)<;>try(exfalso;omega)))
 all_goals simp_all
theorem oj (op a:Int) (h:op=17∨op=18):Pure Tryz.prog 110 [u8 op,i64 a] (fun r=>r= .dE [i64 (JD op a),i64 0]):=by
 refine aI vJ rfl ?_
 rcases h with rfl|rfl
 all_goals repeat' (first|((with_reducible refine aF ?_);conv=>whnf)|refine aG ?_|exact aC|with_reducible refine aD ?_ ?_|(apply aA;(·exact bz))|((with_reducible refine aJ (fK _) ?_ ?_);(·exact bj))|((with_reducible refine aN (fun _=>fK _) ?_ ?_);(·exact bj))|((with_reducible refine aL (fK _) ?_ ?_);(·exact bj))|((with_reducible refine aM (fun _=>fK _) ?_ ?_);(·exact bj))|((with_reducible refine aJ (dN _) ?_ ?_);(·exact bj))|((with_reducible refine aN (fun _=>dN _) ?_ ?_);(·exact bj))|((with_reducible refine aL (dN _) ?_ ?_);(·exact bj))|((with_reducible refine aM (fun _=>dN _) ?_ ?_);(·exact bj))|refine aK (kz) ?_|((with_reducible refine aJ (kB _) ?_ ?_);(·exact bj))|((with_reducible refine aN (fun _=>kB _) ?_ ?_);(·exact bj))|((with_reducible refine aL (kB _) ?_ ?_);(·exact bj))|((with_reducible refine aM (fun _=>kB _) ?_ ?_);(·exact bj))|((with_reducible refine aJ (mu _) ?_ ?_);(·exact bj))|((with_reducible refine aN (fun _=>mu _) ?_ ?_);(·exact bj))|((with_reducible refine aL (mu _) ?_ ?_);(·exact bj))|((with_reducible refine aM (fun _=>mu _) ?_ ?_);(·exact bj))|refine aH ?_|((with_reducible refine aB ?_ ?_)<;>intro hc<;>(try simp only[List.length_map,ne_eq,dL] at hc)<;>try(exfalso;omega)))
 all_goals (first|exact rfl|trace_state)
end Go.Proofs.YtlonbgdonffcbaaGreatDoor
end
