import Derived.Test.YtlonbgdonffcbaaGreatDoorM21
section
/- Right objects. -/
namespace Go.Proofs.YtlonbgdonffcbaaGreatDoor
open Go Go.cW Go.Proofs
set_option linter.unusedSimpArgs false
theorem sh (c d:Core) (b:Nat) (H:Hp) (nx:Nat) (e:TypeId) (df:AV) (hb:bf H b=some (.row e 2 df [c.av])) (hlt:b<nx):iy Tryz.prog 72 [d.av, .pt b 1 0 0] H nx (bl (d.name==c.name)):=by
 refine aS FQ rfl ?_
 repeat' (first|((with_reducible refine aF ?_);conv=>whnf)|refine aG ?_|exact aC|with_reducible refine aD ?_ ?_|(apply aA;(·exact cB))|refine aH ?_|((with_reducible refine aB ?_ ?_)<;>intro hc<;>(try simp only[List.length_map,ne_eq,dQ] at hc)<;>try(exfalso;omega)))
 exact pV.look rfl dD
theorem drop_cons {α:Type} [Inhabited α] {l:List α} {i:Nat} (h:i<l.length):l.drop i=l.getD i default::l.drop (i+1):=by
 rw[List.drop_eq_getElem_cons h]
 simp[List.getD,h]
def gD (name:ByteArray):List Core→Nat→Int
 |[],_=>-1
 |d::r,k=>if(d.name==name)=true then k else gD name r (k+1)
theorem vM (c:Core) (l:List Core) (hl:l.length * 40≤140737488351232) (b:Nat) (H:Hp) (nx:Nat) (e:TypeId) (df:AV) (hb:bf H b=some (.row e 2 df [c.av])) (hlt:b<nx):iy Tryz.prog 106 [.im 2 .any (l.map Core.av), .fn (.func 72) [] [.pt b 1 0 0]] H nx (i64 (gD c.name l 0)):=by
 refine aS vS rfl ?_
 repeat' (first|((with_reducible refine aF ?_);conv=>whnf)|refine aG ?_|exact aC|with_reducible refine aD ?_ ?_|(apply aA;(·exact cB))|refine aH ?_|((with_reducible refine aB ?_ ?_)<;>intro hc<;>(try simp only[List.length_map,ne_eq,dQ] at hc)<;>try(exfalso;omega)))
 refine aU (fun i:Nat=>[(0, .im 2 .any (l.map Core.av)),(1, .fn (.func 72) [] [.pt b 1 0 0]),(7,i64 l.length),(8,i64 i)]) (fun i H' n=>i≤l.length∧H'=H∧nx≤n∧gD c.name l 0=gD c.name (l.drop i) i) (fun i=>l.length - i) 0 cL ⟨Nat.zero_le _,rfl,by omega,rfl⟩ ?_
 rintro i H' n ⟨hi,rfl,hn,hs⟩
 repeat' (first|((with_reducible refine aF ?_);conv=>whnf)|refine aG ?_|exact aC|with_reducible refine aD ?_ ?_|(apply aA;(·exact cB))|((refine aQ (sh c _ b _ _ e df hb (by omega)) ?_ ?_);(·exact True.intro))|((refine aV (fun _=>sh c _ b _ _ e df hb (by omega)) ?_ ?_);(·exact True.intro))|refine aH ?_|((with_reducible refine aB ?_ ?_)<;>intro hc<;>(try simp only[List.length_map,ne_eq,dQ] at hc)<;>try(exfalso;omega)))
 ·try simp only[Int.toNat_natCast] at hc
  refine pV.look ?_ dD
  rw[hs,drop_cons (by omega),gD,if_pos hc]
 ·try simp only[Int.toNat_natCast] at hc
  refine⟨i+1,by omega,cL,by omega,rfl,by omega, ?_⟩
  rw[hs,drop_cons (by omega),gD,if_neg (by rw[hc];simp)]
 ·refine pV.look ?_ dD
  rw[hs,List.drop_eq_nil_of_le (by omega),gD]
theorem oZ (name:ByteArray):∀(l:List Core) (k:Nat),0≤gD name l k↔(l.any (fun d=>d.name==name))=true
 |[],k=>by simp[gD]
 |d::r,k=>by
  have ih:=oZ name r (k+1)
  simp only[gD,List.any_cons,Bool.or_eq_true]
  by_cases h:(d.name==name)=true
  ·rw[if_pos h];exact⟨fun _=>Or.inl h,fun _=>by omega⟩
  ·rw[if_neg h,ih];exact⟨Or.inr,fun hh=>hh.resolve_left h⟩
theorem vK (name:ByteArray) (l:List Core) (k:Nat):(decide (0≤gD name l k))=l.any (fun d=>d.name==name):=by
 rw[Bool.eq_iff_iff,decide_eq_true_eq]
 exact oZ name l k
theorem CU (c:Core) (l:List Core) (hl:l.length * 40≤140737488351232) (b:Nat) (H:Hp) (nx:Nat) (e:TypeId) (df:AV) (hb:bf H b=some (.row e 2 df [c.av])) (hlt:b<nx):iy Tryz.prog 74 [.im 2 .any (l.map Core.av), .fn (.func 72) [] [.pt b 1 0 0]] H nx (bl (l.any fun d=>d.name==c.name)):=by
 refine aS FU rfl ?_
 repeat' (first|((with_reducible refine aF ?_);conv=>whnf)|refine aG ?_|exact aC|with_reducible refine aD ?_ ?_|(apply aA;(·exact cB))|((refine aQ (vM c l hl b _ _ e df hb (by omega)) ?_ ?_);(·exact True.intro))|((refine aV (fun _=>vM c l hl b _ _ e df hb (by omega)) ?_ ?_);(·exact True.intro))|refine aH ?_|((with_reducible refine aB ?_ ?_)<;>intro hc<;>(try simp only[List.length_map,ne_eq,dQ] at hc)<;>try(exfalso;omega)))
 refine pV.look ?_ dD
 rw[←vK c.name l 0]
def qZ (c:Core):Bool:=decide ((c.code.getD ((c.code.length:Int) - 1).toNat default).kind=10)||decide ((c.code.getD ((c.code.length:Int) - 1).toNat default).kind=8)
def iU (pre:List Core) (c:Core):Bool:=isName c.name&& !(pre.any fun d=>d.name==c.name)&&decide (1≤c.code.length)&&decide (c.code.length≤16384)&&qZ c
def gl:List Core→List Core→Bool
 |_,[]=>true
 |pre,c::r=>iU pre c&&gl (pre++[c]) r
def eY (o:Obj):Bool:=decide (0≤o.shared)&&decide (o.shared≤64)&&decide (0≤o.iA)&&decide (o.iA≤16)&&decide (o.shared+o.iA≤o.mem.length)&&decide (o.mem.length≤4096)&&decide (1≤o.buffer)&&decide (o.buffer≤16)&&decide (o.bd.length≤8)&&gl [] o.bd
theorem lz {l:List Core} {i:Nat} (h:i<l.length):gl (l.take i) (l.drop i)=(iU (l.take i) (l.getD i default)&&gl (l.take (i+1)) (l.drop (i+1))):=by
 rw[drop_cons h,gl,List.take_succ_eq_append_getElem h]
 simp[List.getD,h]
theorem Obj.Wf.at {o:Obj} (ho:o.Wf) (i:Nat):(o.bd.getD i default).Wf:=by
 by_cases h:i<o.bd.length
 ·have:o.bd.getD i default=o.bd[i]:=by simp[List.getD,h]
  rw[this];exact ho.bd _ (List.getElem_mem h)
 ·have:o.bd.getD i default=default:=by simp[List.getD,h]
  rw[this];exact⟨by decide,(fun _ hi=>nomatch hi),by decide⟩
theorem y5 (c:Core) (l:List Core) (i:Nat) (hl:l.length * 40≤140737488351232) (b:Nat) (H:Hp) (nx:Nat) (e:TypeId) (df:AV) (hb:bf H b=some (.row e 2 df [c.av])) (hlt:b<nx):iy Tryz.prog 74 [.im 2 .any (((l.map Core.av).drop 0).take (((i:Nat):Int).toNat - 0)), .fn (.func 72) [] [.pt b 1 0 0]] H nx (bl ((l.take i).any fun d=>d.name==c.name)):=by
 have h:=CU c (l.take i) (by rw[List.length_take];omega) b H nx e df hb hlt
 rw[List.map_take] at h
 exact h
theorem w4 (o:Obj) (ho:o.Wf):Pure Tryz.prog 56 [o.av] (fun r=>r=bl (eY o)):=by
 refine aI FH rfl ?_
 repeat' (first|((with_reducible refine aF ?_);conv=>whnf)|refine aG ?_|exact aC|with_reducible refine aD ?_ ?_|(apply aA;(·exact cB))|refine aH ?_|((with_reducible refine aB ?_ ?_)<;>intro hc<;>(try simp only[List.length_map,ne_eq,dQ] at hc)<;>try(exfalso;omega)))
 ·congr 2
  simp only[eY]
  grind
 ·refine aU (fun i:Nat=>[(1, .pt 0 1 0 0),(60, .im 2 .any (o.bd.map Core.av)),(61,i64 o.bd.length),(62,i64 i)]) (fun i H' n=>i≤o.bd.length∧1≤n∧bf H' 0=some (.row 25 5 .any [o.av])∧gl [] o.bd=gl (o.bd.take i) (o.bd.drop i)) (fun i=>o.bd.length - i) 0 cL ⟨Nat.zero_le _,by omega,rfl,rfl⟩ ?_
  rintro i H' n ⟨hi,hn,hr,hs⟩
  repeat' (first|((with_reducible refine aF ?_);conv=>whnf)|refine aG ?_|exact aC|with_reducible refine aD ?_ ?_|(apply aA;(·exact cB))|((with_reducible refine aN (lX _ (ho.at _).name) ?_ ?_);(·exact bk))|((with_reducible refine aM (fun _=>lX _ (ho.at _).name) ?_ ?_);(·exact bk))|((with_reducible refine aJ (lX _ (ho.at _).name) ?_ ?_);(·exact bk))|((with_reducible refine aL (fun _=>lX _ (ho.at _).name) ?_ ?_);(·exact bk))|((refine aQ (y5 _ o.bd i ho.ma _ _ _ _ _ bo (by omega)) ?_ ?_);(·exact True.intro))|((refine aV (fun _=>y5 _ o.bd i ho.ma _ _ _ _ _ bo (by omega)) ?_ ?_);(·exact True.intro))|refine aH ?_|((with_reducible refine aB ?_ ?_)<;>intro hc<;>(try simp only[List.length_map,ne_eq,dQ] at hc)<;>try(exfalso;omega)))
  ·have hb:eY o=false:=by
    have:iU (o.bd.take i) (o.bd.getD i default)=false:=by
     simp only[iU]
     grind
    simp only[eY]
    rw[hs,lz (by omega),this]
    simp
   rw[hb]
  ·have hb:eY o=false:=by
    have:iU (o.bd.take i) (o.bd.getD i default)=false:=by
     simp only[iU,qZ]
     grind
    simp only[eY]
    rw[hs,lz (by omega),this]
    simp
   rw[hb]
  ·have hb:iU (o.bd.take i) (o.bd.getD i default)=true:=by
    simp only[iU,qZ]
    grind
   refine⟨i+1,by omega,cL,by omega,by omega,bo, ?_⟩
   rw[hs,lz (by omega),hb,Bool.true_and]
  ·rw[List.drop_eq_nil_of_le (by omega),gl] at hs
   have hb:eY o=true:=by
    simp only[eY]
    rw[hs]
    grind
   rw[hb]
def na (len mem:Int):List Instr→Nat→Option Nat
 |[],_=>none
 |i::r,k=>if iE i len mem=true then na len mem r (k+1) else some k
def oq (mem:Int):List Core→Nat→Option (Nat×Nat)
 |[],_=>none
 |c::r,k=>match na c.code.length mem c.code 0 with
  |some n=>some (k,n)
  |none=>oq mem r (k+1)
def gk (o:Obj):AV:=if eY o=true then(match oq o.mem.length o.bd 0 with
 |none=> .dF [i64 0,i64 0,i64 0]
 |some (k,n)=> .dF [i64 160,i64 k,i64 n]) else .dF [i64 160,i64 0,i64 0]
@[simp] theorem NJ (n:Nat) (o:Obj):cC n (gk o):=by
  simp only[gk]
  split
  ·split<;>simp[cC,cG]
  ·simp[cC,cG]
theorem Core.Wf.at {c:Core} (hc:c.Wf) (i:Nat):(c.code.getD i default).Wf:=by
 by_cases h:i<c.code.length
 ·have:c.code.getD i default=c.code[i]:=by simp[List.getD,h]
  rw[this];exact hc.code _ (List.getElem_mem h)
 ·have:c.code.getD i default=default:=by simp[List.getD,h]
  rw[this]
  constructor<;>first|decide|(unfold dA;decide)
theorem ju (o:Obj) (ho:o.Wf):Pure Tryz.prog 25 [o.av] (fun r=>r=gk o):=by
 refine aI EU rfl ?_
 repeat' (first|((with_reducible refine aF ?_);conv=>whnf)|refine aG ?_|exact aC|with_reducible refine aD ?_ ?_|(apply aA;(·exact cB))|refine aK (w4 o ho) ?_|refine aH ?_|((with_reducible refine aB ?_ ?_)<;>intro hc<;>(try simp only[List.length_map,ne_eq,dQ] at hc)<;>try(exfalso;omega)))
 ·simp[gk,hc]
 ·refine aU (fun i:Nat=>[(1, .pt 0 1 0 0),(13, .im 2 .any (o.bd.map Core.av)),(14,i64 o.bd.length),(15,i64 i)]) (fun i H' n=>i≤o.bd.length∧1≤n∧bf H' 0=some (.row 25 5 .any [o.av])∧oq o.mem.length o.bd 0=oq o.mem.length (o.bd.drop i) i) (fun i=>o.bd.length - i) 0 cL ⟨Nat.zero_le _,by omega,rfl,rfl⟩ ?_
  rintro i H' n ⟨hi,hn,hr,hs⟩
  have hol:=ho.ma
  repeat' (first|((with_reducible refine aF ?_);conv=>whnf)|refine aG ?_|exact aC|with_reducible refine aD ?_ ?_|(apply aA;(·exact cB))|refine aH ?_|((with_reducible refine aB ?_ ?_)<;>intro hc<;>(try simp only[List.length_map,ne_eq,dQ] at hc)<;>try(exfalso;omega)))
  ·refine aU (fun k:Nat=>[(1, .pt 0 1 0 0),(5,i64 i),(6, .pt (n+1+1+1+1) 1 0 0),(13, .im 2 .any (o.bd.map Core.av)),(14,i64 o.bd.length),(15,i64 i),(21, .im 9 .any ((o.bd.getD i default).code.map Instr.av)),(22,i64 (o.bd.getD i default).code.length),(23,i64 k)]) (fun k H2 n2=>k≤(o.bd.getD i default).code.length∧n+5≤n2∧bf H2 0=some (.row 25 5 .any [o.av])∧(∃df,bf H2 (n+1+1+1+1)=some (.row 66 2 df [(o.bd.getD i default).av]))∧na (o.bd.getD i default).code.length o.mem.length (o.bd.getD i default).code 0=na (o.bd.getD i default).code.length o.mem.length ((o.bd.getD i default).code.drop k) k) (fun k=>(o.bd.getD i default).code.length - k) 0 cL ⟨Nat.zero_le _,by omega,bo,⟨_,bo⟩,rfl⟩ ?_
   rintro k H2 n2 ⟨hk,hn2,hr2,⟨df,hr3⟩,hs2⟩
   have hcl:=(ho.at i).len
   repeat' (first|((with_reducible refine aF ?_);conv=>whnf)|refine aG ?_|exact aC|with_reducible refine aD ?_ ?_|(apply aA;(·exact cB))|((with_reducible refine aN (jq _ ((ho.at _).at _) _ _) ?_ ?_);(·exact bk))|((with_reducible refine aM (fun _=>jq _ ((ho.at _).at _) _ _) ?_ ?_);(·exact bk))|((with_reducible refine aJ (jq _ ((ho.at _).at _) _ _) ?_ ?_);(·exact bk))|((with_reducible refine aL (fun _=>jq _ ((ho.at _).at _) _ _) ?_ ?_);(·exact bk))|refine aH ?_|((with_reducible refine aB ?_ ?_)<;>intro hc<;>(try simp only[List.length_map,ne_eq,dQ] at hc)<;>try(exfalso;omega)))
   ·have h1:na (o.bd.getD i default).code.length o.mem.length (o.bd.getD i default).code 0=some k:=by
     rw[hs2,drop_cons (by omega),na,if_neg (by rw[hc];simp)]
    have h2:oq o.mem.length o.bd 0=some (i,k):=by
     rw[hs,drop_cons (by omega),oq,h1]
    rw[gk,if_pos (by assumption),h2]
   ·refine⟨k+1,by omega,cL,by omega,by omega,bo,⟨_,bo⟩, ?_⟩
    rw[hs2,drop_cons (by omega),na,if_pos hc]
   ·have h1:na (o.bd.getD i default).code.length o.mem.length (o.bd.getD i default).code 0=none:=by
     rw[hs2,List.drop_eq_nil_of_le (by omega),na]
    refine⟨i+1,by omega,cL,by omega,by omega,bo, ?_⟩
    rw[hs,drop_cons (by omega),oq,h1]
  ·rw[List.drop_eq_nil_of_le (by omega),oq] at hs
   rw[gk,if_pos (by assumption),hs]
end Go.Proofs.YtlonbgdonffcbaaGreatDoor
/- Operators. -/
namespace Go.Proofs.YtlonbgdonffcbaaGreatDoor
open Go Go.cW Go.Proofs
set_option linter.unusedSimpArgs false
abbrev uC (n:Int):Int:=IntKind.i64.wrap n
def BQ (a b:Int):Int:=if b=0 then 0 else if b=-1 then uC (0 - a) else uC (a.tdiv b)
def G3 (a b:Int):Int:=if b=0 then a else uC (a - uC (BQ a b * b))
def NZ (a b:Int):Int:=uC ((BitVec.ofInt 64 a&&& BitVec.ofInt 64 b).toNat:Int)
def PZ (a b:Int):Int:=uC ((BitVec.ofInt 64 a|||BitVec.ofInt 64 b).toNat:Int)
def OW (a b:Int):Int:=uC ((BitVec.ofInt 64 a^^^BitVec.ofInt 64 b).toNat:Int)
def DC (b:Int):Int:=IntKind.u64.wrap ((BitVec.ofInt 64 (IntKind.u64.wrap b)&&& BitVec.ofInt 64 63).toNat:Int)
def OQ (a b:Int):Int:=uC (a * 2^(min (DC b).toNat 64))
def JW (a b:Int):Int:=a.fdiv (2^(min (DC b).toNat 64))
def tr (t:Bool):Int:=if t=true then 1 else 0
theorem cO (t:Bool):Pure Tryz.prog 143 [bl t] (fun r=>r=i64 (tr t)):=by
 refine aI vt rfl ?_
 repeat' (first|((with_reducible refine aF ?_);conv=>whnf)|refine aG ?_|exact aC|with_reducible refine aD ?_ ?_|(apply aA;(·exact cB))|refine aH ?_|((with_reducible refine aB ?_ ?_)<;>intro hc<;>(try simp only[List.length_map,ne_eq,dQ] at hc)<;>try(exfalso;omega)))
 all_goals simp_all[tr]
theorem mV (a b:Int):Pure Tryz.prog 121 [i64 a,i64 b] (fun r=>r=i64 (uC (a+b))):=by
 refine aI vZ rfl ?_
 repeat' (first|((with_reducible refine aF ?_);conv=>whnf)|refine aG ?_|exact aC|with_reducible refine aD ?_ ?_|(apply aA;(·exact cB))|refine aH ?_|((with_reducible refine aB ?_ ?_)<;>intro hc<;>(try simp only[List.length_map,ne_eq,dQ] at hc)<;>try(exfalso;omega)))
 all_goals exact rfl
theorem nR (a b:Int):Pure Tryz.prog 122 [i64 a,i64 b] (fun r=>r=i64 (uC (a - b))):=by
 refine aI v7 rfl ?_
 repeat' (first|((with_reducible refine aF ?_);conv=>whnf)|refine aG ?_|exact aC|with_reducible refine aD ?_ ?_|(apply aA;(·exact cB))|refine aH ?_|((with_reducible refine aB ?_ ?_)<;>intro hc<;>(try simp only[List.length_map,ne_eq,dQ] at hc)<;>try(exfalso;omega)))
 all_goals exact rfl
theorem nE (a b:Int):Pure Tryz.prog 123 [i64 a,i64 b] (fun r=>r=i64 (uC (a * b))):=by
 refine aI v8 rfl ?_
 repeat' (first|((with_reducible refine aF ?_);conv=>whnf)|refine aG ?_|exact aC|with_reducible refine aD ?_ ?_|(apply aA;(·exact cB))|refine aH ?_|((with_reducible refine aB ?_ ?_)<;>intro hc<;>(try simp only[List.length_map,ne_eq,dQ] at hc)<;>try(exfalso;omega)))
 all_goals exact rfl
theorem gr (a b:Int):Pure Tryz.prog 124 [i64 a,i64 b] (fun r=>r=i64 (BQ a b)):=by
 refine aI va rfl ?_
 repeat' (first|((with_reducible refine aF ?_);conv=>whnf)|refine aG ?_|exact aC|with_reducible refine aD ?_ ?_|(apply aA;(·exact cB))|refine aH ?_|((with_reducible refine aB ?_ ?_)<;>intro hc<;>(try simp only[List.length_map,ne_eq,dQ] at hc)<;>try(exfalso;omega)))
 all_goals simp_all[BQ]
theorem nK (a b:Int):Pure Tryz.prog 125 [i64 a,i64 b] (fun r=>r=i64 (G3 a b)):=by
 refine aI vc rfl ?_
 repeat' (first|((with_reducible refine aF ?_);conv=>whnf)|refine aG ?_|exact aC|with_reducible refine aD ?_ ?_|(apply aA;(·exact cB))|((with_reducible refine aN (gr _ _) ?_ ?_);(·exact bk))|((with_reducible refine aM (fun _=>gr _ _) ?_ ?_);(·exact bk))|((with_reducible refine aJ (gr _ _) ?_ ?_);(·exact bk))|((with_reducible refine aL (fun _=>gr _ _) ?_ ?_);(·exact bk))|refine aH ?_|((with_reducible refine aB ?_ ?_)<;>intro hc<;>(try simp only[List.length_map,ne_eq,dQ] at hc)<;>try(exfalso;omega)))
 all_goals simp_all[G3]
theorem mW (a b:Int):Pure Tryz.prog 126 [i64 a,i64 b] (fun r=>r=i64 (NZ a b)):=by
 refine aI vd rfl ?_
 repeat' (first|((with_reducible refine aF ?_);conv=>whnf)|refine aG ?_|exact aC|with_reducible refine aD ?_ ?_|(apply aA;(·exact cB))|refine aH ?_|((with_reducible refine aB ?_ ?_)<;>intro hc<;>(try simp only[List.length_map,ne_eq,dQ] at hc)<;>try(exfalso;omega)))
 all_goals exact rfl
theorem pR (a b:Int):Pure Tryz.prog 127 [i64 a,i64 b] (fun r=>r=i64 (PZ a b)):=by
 refine aI ve rfl ?_
 repeat' (first|((with_reducible refine aF ?_);conv=>whnf)|refine aG ?_|exact aC|with_reducible refine aD ?_ ?_|(apply aA;(·exact cB))|refine aH ?_|((with_reducible refine aB ?_ ?_)<;>intro hc<;>(try simp only[List.length_map,ne_eq,dQ] at hc)<;>try(exfalso;omega)))
 all_goals exact rfl
theorem nT (a b:Int):Pure Tryz.prog 128 [i64 a,i64 b] (fun r=>r=i64 (OW a b)):=by
 refine aI vg rfl ?_
 repeat' (first|((with_reducible refine aF ?_);conv=>whnf)|refine aG ?_|exact aC|with_reducible refine aD ?_ ?_|(apply aA;(·exact cB))|refine aH ?_|((with_reducible refine aB ?_ ?_)<;>intro hc<;>(try simp only[List.length_map,ne_eq,dQ] at hc)<;>try(exfalso;omega)))
 all_goals exact rfl
theorem nN (a b:Int):Pure Tryz.prog 129 [i64 a,i64 b] (fun r=>r=i64 (OQ a b)):=by
 refine aI vh rfl ?_
 repeat' (first|((with_reducible refine aF ?_);conv=>whnf)|refine aG ?_|exact aC|with_reducible refine aD ?_ ?_|(apply aA;(·exact cB))|refine aH ?_|((with_reducible refine aB ?_ ?_)<;>intro hc<;>(try simp only[List.length_map,ne_eq,dQ] at hc)<;>try(exfalso;omega)))
 all_goals exact rfl
theorem nO (a b:Int):Pure Tryz.prog 130 [i64 a,i64 b] (fun r=>r=i64 (JW a b)):=by
 refine aI vi rfl ?_
 repeat' (first|((with_reducible refine aF ?_);conv=>whnf)|refine aG ?_|exact aC|with_reducible refine aD ?_ ?_|(apply aA;(·exact cB))|refine aH ?_|((with_reducible refine aB ?_ ?_)<;>intro hc<;>(try simp only[List.length_map,ne_eq,dQ] at hc)<;>try(exfalso;omega)))
 all_goals exact rfl
theorem pP (a b:Int):Pure Tryz.prog 131 [i64 a,i64 b] (fun r=>r=i64 (tr (decide (a=b)))):=by
 refine aI vj rfl ?_
 repeat' (first|((with_reducible refine aF ?_);conv=>whnf)|refine aG ?_|exact aC|with_reducible refine aD ?_ ?_|(apply aA;(·exact cB))|((with_reducible refine aN (cO _) ?_ ?_);(·exact bk))|((with_reducible refine aM (fun _=>cO _) ?_ ?_);(·exact bk))|((with_reducible refine aJ (cO _) ?_ ?_);(·exact bk))|((with_reducible refine aL (fun _=>cO _) ?_ ?_);(·exact bk))|refine aH ?_|((with_reducible refine aB ?_ ?_)<;>intro hc<;>(try simp only[List.length_map,ne_eq,dQ] at hc)<;>try(exfalso;omega)))
 all_goals exact rfl
theorem kE (a b:Int):Pure Tryz.prog 132 [i64 a,i64 b] (fun r=>r=i64 (tr (decide (a≠b)))):=by
 refine aI vk rfl ?_
 repeat' (first|((with_reducible refine aF ?_);conv=>whnf)|refine aG ?_|exact aC|with_reducible refine aD ?_ ?_|(apply aA;(·exact cB))|((with_reducible refine aN (cO _) ?_ ?_);(·exact bk))|((with_reducible refine aM (fun _=>cO _) ?_ ?_);(·exact bk))|((with_reducible refine aJ (cO _) ?_ ?_);(·exact bk))|((with_reducible refine aL (fun _=>cO _) ?_ ?_);(·exact bk))|refine aH ?_|((with_reducible refine aB ?_ ?_)<;>intro hc<;>(try simp only[List.length_map,ne_eq,dQ] at hc)<;>try(exfalso;omega)))
 all_goals exact rfl
theorem lV (a b:Int):Pure Tryz.prog 133 [i64 a,i64 b] (fun r=>r=i64 (tr (decide (a<b)))):=by
 refine aI vl rfl ?_
 repeat' (first|((with_reducible refine aF ?_);conv=>whnf)|refine aG ?_|exact aC|with_reducible refine aD ?_ ?_|(apply aA;(·exact cB))|((with_reducible refine aN (cO _) ?_ ?_);(·exact bk))|((with_reducible refine aM (fun _=>cO _) ?_ ?_);(·exact bk))|((with_reducible refine aJ (cO _) ?_ ?_);(·exact bk))|((with_reducible refine aL (fun _=>cO _) ?_ ?_);(·exact bk))|refine aH ?_|((with_reducible refine aB ?_ ?_)<;>intro hc<;>(try simp only[List.length_map,ne_eq,dQ] at hc)<;>try(exfalso;omega)))
 all_goals exact rfl
theorem lW (a b:Int):Pure Tryz.prog 134 [i64 a,i64 b] (fun r=>r=i64 (tr (decide (a≤b)))):=by
 refine aI vm rfl ?_
 repeat' (first|((with_reducible refine aF ?_);conv=>whnf)|refine aG ?_|exact aC|with_reducible refine aD ?_ ?_|(apply aA;(·exact cB))|((with_reducible refine aN (cO _) ?_ ?_);(·exact bk))|((with_reducible refine aM (fun _=>cO _) ?_ ?_);(·exact bk))|((with_reducible refine aJ (cO _) ?_ ?_);(·exact bk))|((with_reducible refine aL (fun _=>cO _) ?_ ?_);(·exact bk))|refine aH ?_|((with_reducible refine aB ?_ ?_)<;>intro hc<;>(try simp only[List.length_map,ne_eq,dQ] at hc)<;>try(exfalso;omega)))
 all_goals exact rfl
theorem jr (a b:Int):Pure Tryz.prog 135 [i64 a,i64 b] (fun r=>r=i64 (tr (decide (b<a)))):=by
 refine aI vn rfl ?_
 repeat' (first|((with_reducible refine aF ?_);conv=>whnf)|refine aG ?_|exact aC|with_reducible refine aD ?_ ?_|(apply aA;(·exact cB))|((with_reducible refine aN (cO _) ?_ ?_);(·exact bk))|((with_reducible refine aM (fun _=>cO _) ?_ ?_);(·exact bk))|((with_reducible refine aJ (cO _) ?_ ?_);(·exact bk))|((with_reducible refine aL (fun _=>cO _) ?_ ?_);(·exact bk))|refine aH ?_|((with_reducible refine aB ?_ ?_)<;>intro hc<;>(try simp only[List.length_map,ne_eq,dQ] at hc)<;>try(exfalso;omega)))
 all_goals exact rfl
theorem kF (a b:Int):Pure Tryz.prog 136 [i64 a,i64 b] (fun r=>r=i64 (tr (decide (b≤a)))):=by
 refine aI vo rfl ?_
 repeat' (first|((with_reducible refine aF ?_);conv=>whnf)|refine aG ?_|exact aC|with_reducible refine aD ?_ ?_|(apply aA;(·exact cB))|((with_reducible refine aN (cO _) ?_ ?_);(·exact bk))|((with_reducible refine aM (fun _=>cO _) ?_ ?_);(·exact bk))|((with_reducible refine aJ (cO _) ?_ ?_);(·exact bk))|((with_reducible refine aL (fun _=>cO _) ?_ ?_);(·exact bk))|refine aH ?_|((with_reducible refine aB ?_ ?_)<;>intro hc<;>(try simp only[List.length_map,ne_eq,dQ] at hc)<;>try(exfalso;omega)))
 all_goals exact rfl
theorem kL (a:Int):Pure Tryz.prog 137 [i64 a] (fun r=>r=i64 (uC (0 - a))):=by
 refine aI vp rfl ?_
 repeat' (first|((with_reducible refine aF ?_);conv=>whnf)|refine aG ?_|exact aC|with_reducible refine aD ?_ ?_|(apply aA;(·exact cB))|refine aH ?_|((with_reducible refine aB ?_ ?_)<;>intro hc<;>(try simp only[List.length_map,ne_eq,dQ] at hc)<;>try(exfalso;omega)))
 all_goals exact rfl
theorem nG (a:Int):Pure Tryz.prog 138 [i64 a] (fun r=>r=i64 (tr (decide (a=0)))):=by
 refine aI vq rfl ?_
 repeat' (first|((with_reducible refine aF ?_);conv=>whnf)|refine aG ?_|exact aC|with_reducible refine aD ?_ ?_|(apply aA;(·exact cB))|((with_reducible refine aN (cO _) ?_ ?_);(·exact bk))|((with_reducible refine aM (fun _=>cO _) ?_ ?_);(·exact bk))|((with_reducible refine aJ (cO _) ?_ ?_);(·exact bk))|((with_reducible refine aL (fun _=>cO _) ?_ ?_);(·exact bk))|refine aH ?_|((with_reducible refine aB ?_ ?_)<;>intro hc<;>(try simp only[List.length_map,ne_eq,dQ] at hc)<;>try(exfalso;omega)))
 all_goals exact rfl
def KV:AV:= .agg [.sc .nilFunc, .sc .nilFunc, .fn (.func 121) [] [], .sc .nilFunc, .fn (.func 122) [] [], .sc .nilFunc, .fn (.func 123) [] [], .sc .nilFunc, .fn (.func 124) [] [], .sc .nilFunc, .fn (.func 125) [] [], .sc .nilFunc, .fn (.func 126) [] [], .sc .nilFunc, .fn (.func 127) [] [], .sc .nilFunc, .fn (.func 128) [] [], .sc .nilFunc, .fn (.func 129) [] [], .sc .nilFunc, .fn (.func 130) [] [], .sc .nilFunc, .fn (.func 131) [] [], .sc .nilFunc, .fn (.func 132) [] [], .sc .nilFunc, .fn (.func 133) [] [], .sc .nilFunc, .fn (.func 134) [] [], .sc .nilFunc, .fn (.func 135) [] [], .sc .nilFunc, .fn (.func 136) [] [], .sc .nilFunc, .sc .nilFunc, .fn (.func 137) [] [], .sc .nilFunc, .fn (.func 138) [] []]
theorem lD:Pure Tryz.prog 118 [] (fun r=>r=KV):=fj (by simp[KV,cC,cG]) (by kernel_rfl)
def KB (op a b:Int):Int:=if op=1 then uC (a+b) else if op=2 then uC (a - b) else if op=3 then uC (a * b) else if op=4 then BQ a b else if op=5 then G3 a b else if op=6 then NZ a b else if op=7 then PZ a b else if op=8 then OW a b else if op=9 then OQ a b else if op=10 then JW a b else if op=11 then tr (decide (a=b)) else if op=12 then tr (decide (a≠b)) else if op=13 then tr (decide (a<b)) else if op=14 then tr (decide (a≤b)) else if op=15 then tr (decide (b<a)) else tr (decide (b≤a))
def JJ (op a:Int):Int:=if op=17 then uC (0 - a) else tr (decide (a=0))
theorem B9 {op:Int} (h:two op=true):op=1∨op=2∨op=3∨op=4∨op=5∨op=6∨op=7∨op=8∨op=9∨op=10∨op=11∨op=12∨op=13∨op=14∨op=15∨op=16:=by
 simp only[two,Bool.and_eq_true,decide_eq_true_eq] at h;omega
theorem sw (op a b:Int) (h:two op=true):Pure Tryz.prog 109 [u8 op,i64 a,i64 b] (fun r=>r= .dF [i64 (KB op a b),i64 0]):=by
 refine aI s5 rfl ?_
 rcases B9 h with rfl|rfl|rfl|rfl|rfl|rfl|rfl|rfl|rfl|rfl|rfl|rfl|rfl|rfl|rfl|rfl
 all_goals repeat' (first|((with_reducible refine aF ?_);conv=>whnf)|refine aG ?_|exact aC|with_reducible refine aD ?_ ?_|(apply aA;(·exact cB))|((with_reducible refine aN (dO _) ?_ ?_);(·exact bk))|((with_reducible refine aM (fun _=>dO _) ?_ ?_);(·exact bk))|((with_reducible refine aJ (dO _) ?_ ?_);(·exact bk))|((with_reducible refine aL (fun _=>dO _) ?_ ?_);(·exact bk))|refine aK (lD) ?_|((with_reducible refine aN (mV _ _) ?_ ?_);(·exact bk))|((with_reducible refine aM (fun _=>mV _ _) ?_ ?_);(·exact bk))|((with_reducible refine aJ (mV _ _) ?_ ?_);(·exact bk))|((with_reducible refine aL (fun _=>mV _ _) ?_ ?_);(·exact bk))|((with_reducible refine aN (nR _ _) ?_ ?_);(·exact bk))|((with_reducible refine aM (fun _=>nR _ _) ?_ ?_);(·exact bk))|((with_reducible refine aJ (nR _ _) ?_ ?_);(·exact bk))|((with_reducible refine aL (fun _=>nR _ _) ?_ ?_);(·exact bk))|((with_reducible refine aN (nE _ _) ?_ ?_);(·exact bk))|((with_reducible refine aM (fun _=>nE _ _) ?_ ?_);(·exact bk))|((with_reducible refine aJ (nE _ _) ?_ ?_);(·exact bk))|((with_reducible refine aL (fun _=>nE _ _) ?_ ?_);(·exact bk))|((with_reducible refine aN (gr _ _) ?_ ?_);(·exact bk))|((with_reducible refine aM (fun _=>gr _ _) ?_ ?_);(·exact bk))|((with_reducible refine aJ (gr _ _) ?_ ?_);(·exact bk))|((with_reducible refine aL (fun _=>gr _ _) ?_ ?_);(·exact bk))|((with_reducible refine aN (nK _ _) ?_ ?_);(·exact bk))|((with_reducible refine aM (fun _=>nK _ _) ?_ ?_);(·exact bk))|((with_reducible refine aJ (nK _ _) ?_ ?_);(·exact bk))|((with_reducible refine aL (fun _=>nK _ _) ?_ ?_);(·exact bk))|((with_reducible refine aN (mW _ _) ?_ ?_);(·exact bk))|((with_reducible refine aM (fun _=>mW _ _) ?_ ?_);(·exact bk))|((with_reducible refine aJ (mW _ _) ?_ ?_);(·exact bk))|((with_reducible refine aL (fun _=>mW _ _) ?_ ?_);(·exact bk))|((with_reducible refine aN (pR _ _) ?_ ?_);(·exact bk))|((with_reducible refine aM (fun _=>pR _ _) ?_ ?_);(·exact bk))|((with_reducible refine aJ (pR _ _) ?_ ?_);(·exact bk))|((with_reducible refine aL (fun _=>pR _ _) ?_ ?_);(·exact bk))|((with_reducible refine aN (nT _ _) ?_ ?_);(·exact bk))|((with_reducible refine aM (fun _=>nT _ _) ?_ ?_);(·exact bk))|((with_reducible refine aJ (nT _ _) ?_ ?_);(·exact bk))|((with_reducible refine aL (fun _=>nT _ _) ?_ ?_);(·exact bk))|((with_reducible refine aN (nN _ _) ?_ ?_);(·exact bk))|((with_reducible refine aM (fun _=>nN _ _) ?_ ?_);(·exact bk))|((with_reducible refine aJ (nN _ _) ?_ ?_);(·exact bk))|((with_reducible refine aL (fun _=>nN _ _) ?_ ?_);(·exact bk))|((with_reducible refine aN (nO _ _) ?_ ?_);(·exact bk))|((with_reducible refine aM (fun _=>nO _ _) ?_ ?_);(·exact bk))|((with_reducible refine aJ (nO _ _) ?_ ?_);(·exact bk))|((with_reducible refine aL (fun _=>nO _ _) ?_ ?_);(·exact bk))|((with_reducible refine aN (pP _ _) ?_ ?_);(·exact bk))|((with_reducible refine aM (fun _=>pP _ _) ?_ ?_);(·exact bk))|((with_reducible refine aJ (pP _ _) ?_ ?_);(·exact bk))|((with_reducible refine aL (fun _=>pP _ _) ?_ ?_);(·exact bk))|((with_reducible refine aN (kE _ _) ?_ ?_);(·exact bk))|((with_reducible refine aM (fun _=>kE _ _) ?_ ?_);(·exact bk))|((with_reducible refine aJ (kE _ _) ?_ ?_);(·exact bk))|((with_reducible refine aL (fun _=>kE _ _) ?_ ?_);(·exact bk))|((with_reducible refine aN (lV _ _) ?_ ?_);(·exact bk))|((with_reducible refine aM (fun _=>lV _ _) ?_ ?_);(·exact bk))|((with_reducible refine aJ (lV _ _) ?_ ?_);(·exact bk))|((with_reducible refine aL (fun _=>lV _ _) ?_ ?_);(·exact bk))|((with_reducible refine aN (lW _ _) ?_ ?_);(·exact bk))|((with_reducible refine aM (fun _=>lW _ _) ?_ ?_);(·exact bk))|((with_reducible refine aJ (lW _ _) ?_ ?_);(·exact bk))|((with_reducible refine aL (fun _=>lW _ _) ?_ ?_);(·exact bk))|((with_reducible refine aN (jr _ _) ?_ ?_);(·exact bk))|((with_reducible refine aM (fun _=>jr _ _) ?_ ?_);(·exact bk))|((with_reducible refine aJ (jr _ _) ?_ ?_);(·exact bk))|((with_reducible refine aL (fun _=>jr _ _) ?_ ?_);(·exact bk))|((with_reducible refine aN (kF _ _) ?_ ?_);(·exact bk))|((with_reducible refine aM (fun _=>kF _ _) ?_ ?_);(·exact bk))|((with_reducible refine aJ (kF _ _) ?_ ?_);(·exact bk))|((with_reducible refine aL (fun _=>kF _ _) ?_ ?_);(·exact bk))|refine aH ?_|((with_reducible refine aB ?_ ?_)<;>intro hc<;>(try simp only[List.length_map,ne_eq,dQ] at hc)<;>try(exfalso;omega)))
 all_goals (first|exact rfl|trace_state)
theorem su (op a b:Int) (h:two op=false):Pure Tryz.prog 109 [u8 op,i64 a,i64 b] (fun r=>r= .dF [i64 0,i64 2]):=by
 refine aI s5 rfl ?_
 repeat' (first|((with_reducible refine aF ?_);conv=>whnf)|refine aG ?_|exact aC|with_reducible refine aD ?_ ?_|(apply aA;(·exact cB))|((with_reducible refine aN (dO _) ?_ ?_);(·exact bk))|((with_reducible refine aM (fun _=>dO _) ?_ ?_);(·exact bk))|((with_reducible refine aJ (dO _) ?_ ?_);(·exact bk))|((with_reducible refine aL (fun _=>dO _) ?_ ?_);(·exact bk))|refine aH ?_|((with_reducible refine aB ?_ ?_)<;>intro hc<;>(try simp only[List.length_map,ne_eq,dQ] at hc)<;>try(exfalso;omega)))
 all_goals simp_all
theorem pD (op a:Int) (h:op=17∨op=18):Pure Tryz.prog 110 [u8 op,i64 a] (fun r=>r= .dF [i64 (JJ op a),i64 0]):=by
 refine aI vV rfl ?_
 rcases h with rfl|rfl
 all_goals repeat' (first|((with_reducible refine aF ?_);conv=>whnf)|refine aG ?_|exact aC|with_reducible refine aD ?_ ?_|(apply aA;(·exact cB))|((with_reducible refine aN (fN _) ?_ ?_);(·exact bk))|((with_reducible refine aM (fun _=>fN _) ?_ ?_);(·exact bk))|((with_reducible refine aJ (fN _) ?_ ?_);(·exact bk))|((with_reducible refine aL (fun _=>fN _) ?_ ?_);(·exact bk))|((with_reducible refine aN (dO _) ?_ ?_);(·exact bk))|((with_reducible refine aM (fun _=>dO _) ?_ ?_);(·exact bk))|((with_reducible refine aJ (dO _) ?_ ?_);(·exact bk))|((with_reducible refine aL (fun _=>dO _) ?_ ?_);(·exact bk))|refine aK (lD) ?_|((with_reducible refine aN (kL _) ?_ ?_);(·exact bk))|((with_reducible refine aM (fun _=>kL _) ?_ ?_);(·exact bk))|((with_reducible refine aJ (kL _) ?_ ?_);(·exact bk))|((with_reducible refine aL (fun _=>kL _) ?_ ?_);(·exact bk))|((with_reducible refine aN (nG _) ?_ ?_);(·exact bk))|((with_reducible refine aM (fun _=>nG _) ?_ ?_);(·exact bk))|((with_reducible refine aJ (nG _) ?_ ?_);(·exact bk))|((with_reducible refine aL (fun _=>nG _) ?_ ?_);(·exact bk))|refine aH ?_|((with_reducible refine aB ?_ ?_)<;>intro hc<;>(try simp only[List.length_map,ne_eq,dQ] at hc)<;>try(exfalso;omega)))
 all_goals (first|exact rfl|trace_state)
end Go.Proofs.YtlonbgdonffcbaaGreatDoor
end
