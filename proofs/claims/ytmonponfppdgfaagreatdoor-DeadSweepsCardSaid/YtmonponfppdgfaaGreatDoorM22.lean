import Derived.Test.YtmonponfppdgfaaGreatDoorM21
import Derived.Lib.TrailingZeros
section
/- How variables are shared, in plain data. -/
namespace Go.Proofs.YtmonponfppdgfaaGreatDoor
open Go Go.ch Go.Proofs
set_option linter.unusedSimpArgs false
set_option linter.unusedVariables false
def hb (l:List Int):Nat:=l.foldl (fun a k=>a|||2^k.toNat) 0
theorem JS (l:List Int) (k:Int):hb (l++[k])=hb l|||2^k.toNat:=by simp[hb]
theorem C3:∀(l:List Int) (j:Nat),(hb l).testBit j=l.any fun k=>decide (k.toNat=j):=by
 have h:∀(l:List Int) (a j:Nat),(l.foldl (fun a k=>a|||2^k.toNat) a).testBit j=(a.testBit j||l.any fun k=>decide (k.toNat=j)):=by
  intro l
  induction l with
  |nil=>simp
  |cons k l ih=>
   intro a j
   rw[List.foldl_cons,ih,Nat.testBit_or,Nat.testBit_two_pow,List.any_cons,Bool.or_assoc]
 intro l j
 rw[hb,h];simp
theorem uS {n m:Nat} (h:∀j,n.testBit j=true→j<m):n<2^m:=by
 apply Nat.lt_of_not_le
 intro hle
 obtain⟨j,hj,ht⟩:=Nat.exists_ge_and_testBit_of_ge_two_pow hle
 exact absurd (h j ht) (by omega)
theorem I2 {l:List Int} {m:Nat} (h:∀k∈l,k.toNat<m):hb l<2^m:=uS fun j hj=>by
 rw[C3,List.any_eq_true] at hj
 obtain⟨k,hk,e⟩:=hj
 rw[←of_decide_eq_true e];exact h k hk
abbrev Acc:=Nat×Node×List Int
noncomputable def sJ (t:Nat) (g:bo) (i:Nat):Option Acc:=if gl (cd g (-1)) i=true then some (t,g.nd i,(cr g).1.getD i []) else none
noncomputable def mw (t:Nat) (g:bo) (m:Nat):List Acc:=(List.range m).filterMap (sJ t g)
noncomputable def gq (u:bp) (m:Nat):List Acc:=(List.range m).flatMap fun t=>mw t (u.gr t) (u.gr t).nodes.length
theorem sa (t:Nat) (g:bo) (m:Nat):mw t g (m+1)=mw t g m++(sJ t g m).toList:=by
 rw[mw,List.range_succ,List.filterMap_append]
 cases h:sJ t g m<;>simp[mw,h]
theorem se (u:bp) (m:Nat):gq u (m+1)=gq u m++mw m (u.gr m) (u.gr m).nodes.length:=by
 rw[gq,List.range_succ,List.flatMap_append];simp[gq]
def uh (n:Node):Bool:=decide (n.kind=2∨n.kind=3∨n.kind=4)
abbrev uk:=List (Int×(Nat×Nat))
def mI (p:Nat×Nat) (t:Nat) (l:List Int):Nat×Nat:=(p.1|||2^t,p.2&&& hb l)
def lH (E:uk) (x:Acc):uk:=if uh x.2.1=true then gE E x.2.1.cP (mI ((c9 E x.2.1.cP).getD (0,65535)) x.1 x.2.2) else E
def ir (l:List Acc):uk:=l.foldl lH []
theorem tk (l:List Acc) (x:Acc):ir (l++[x])=lH (ir l) x:=by simp[ir]
def ew (l:List Acc) (v:Int):List (Nat×List Int):=(l.filter fun x=>uh x.2.1&&decide (x.2.1.cP=v)).map fun x=>(x.1,x.2.2)
def iK (l:List (Nat×List Int)):Nat×Nat:=l.foldl (fun p x=>mI p x.1 x.2) (0,65535)
theorem nV (l:List Acc) (x:Acc) (v:Int):ew (l++[x]) v=if uh x.2.1=true∧x.2.1.cP=v then ew l v++[(x.1,x.2.2)] else ew l v:=by
 unfold ew
 rw[List.filter_append]
 by_cases h:uh x.2.1=true∧x.2.1.cP=v
 ·rw[if_pos h]
  have:(uh x.2.1&&decide (x.2.1.cP=v))=true:=by rw[h.1,decide_eq_true h.2];rfl
  simp[List.filter_cons,this]
 ·rw[if_neg h]
  have:(uh x.2.1&&decide (x.2.1.cP=v))=false:=by
   rw[Bool.and_eq_false_iff]
   by_cases h1:uh x.2.1=true
   ·right;exact decide_eq_false fun e=>h ⟨h1,e⟩
   ·left;simpa using h1
  simp[List.filter_cons,this]
theorem FL {α:Type} {p:List α→Prop} (h0:p []) (h1:∀l x,p l→p (l++[x])) (l:List α):p l:=by
 have:∀r:List α,p r.reverse:=by
  intro r
  induction r with
  |nil=>exact h0
  |cons a r ih=>rw[List.reverse_cons];exact h1 _ _ ih
 rw[←List.reverse_reverse l];exact this _
theorem sC (l:List Acc) (v:Int):c9 (ir l) v=if ew l v=[] then none else some (iK (ew l v)):=by
 revert v
 induction l using FL with
 |h0=>intro v;rfl
 |h1 l x ih=>
  intro v
  rw[tk,lH]
  by_cases ht:uh x.2.1=true
  ·rw[if_pos ht,gT]
   by_cases hv:x.2.1.cP=v
   ·rw[if_pos hv.symm,(nV l x v).trans (if_pos ⟨ht,hv⟩),if_neg (by simp),hv,ih v]
    have e:∀L:List (Nat×List Int),(if L=[] then none else some (iK L)).getD (0,65535)=iK L:=fun L=>by
     split
     ·rename_i h;rw[h];rfl
     ·rfl
    rw[e]
    simp[iK]
   ·rw[if_neg (fun e=>hv e.symm),(nV l x v).trans (if_neg (fun h=>hv h.2)),ih v]
  ·rw[if_neg ht,(nV l x v).trans (if_neg (fun h=>ht h.1)),ih v]
theorem qZ:∀(l:List (Nat×List Int)) (p:Nat×Nat) (j:Nat),(l.foldl (fun p x=>mI p x.1 x.2) p).1.testBit j=(p.1.testBit j||l.any fun x=>decide (x.1=j))∧(l.foldl (fun p x=>mI p x.1 x.2) p).2.testBit j=(p.2.testBit j&&l.all fun x=>x.2.any fun k=>decide (k.toNat=j))
 |[],p,j=>by simp
 |x::l,p,j=>by
  rw[List.foldl_cons]
  obtain⟨h1,h2⟩:=qZ l (mI p x.1 x.2) j
  rw[h1,h2]
  simp only[mI,Nat.testBit_or,Nat.testBit_and,Nat.testBit_two_pow,C3,List.any_cons,List.all_cons,Bool.or_assoc,Bool.and_assoc,and_self]
theorem qF (l:List (Nat×List Int)) (j:Nat):(iK l).1.testBit j=l.any fun x=>decide (x.1=j):=by
 rw[iK,(qZ l _ j).1];simp
theorem B2 (j:Nat):(65535:Nat).testBit j=decide (j<16):=by
 have:=@Nat.testBit_two_pow_sub_one 16 j
 simpa using this
theorem yr (l:List (Nat×List Int)) (j:Nat):(iK l).2.testBit j=(decide (j<16)&&l.all fun x=>x.2.any fun k=>decide (k.toNat=j)):=by
 rw[iK,(qZ l _ j).2,B2]
theorem BX {l:List (Nat×List Int)} (h:∀x∈l,x.1<8):(iK l).1<256∧(iK l).2<65536:=by
 refine⟨uS (m:=8) fun j hj=> ?_,uS (m:=16) fun j hj=> ?_⟩
 ·rw[qF,List.any_eq_true] at hj
  obtain⟨x,hx,e⟩:=hj
  rw[←of_decide_eq_true e];exact h x hx
 ·rw[yr,Bool.and_eq_true] at hj
  exact of_decide_eq_true hj.1
abbrev ctz (x:Nat):Nat:=Lib.ctz 32 x
theorem HA {x:Nat} (h0:x≠0) (h:x<4294967296):x.testBit (ctz x)=true∧(∀j,j<ctz x→x.testBit j=false)∧ctz x<32:=by
 unfold ctz Lib.ctz
 rw[if_neg h0]
 obtain⟨m,hm,hk⟩:=Lib.ctzFrom_spec 32 x (Nat.pos_of_ne_zero h0) h
 generalize Lib.ctzFrom 32 x=k at *
 refine⟨?_,fun j hj=> ?_,hk⟩
 ·rw[hm,Nat.mul_comm,Nat.testBit_mul_two_pow];simp
 ·rw[hm,Nat.mul_comm,Nat.testBit_mul_two_pow];simp;omega
theorem B5 {x j:Nat} (h0:x<4294967296) (h:x.testBit j=true) (hl:∀i,i<j→x.testBit i=false):ctz x=j:=by
 have hx:x≠0:=fun e=>by rw[e,Nat.zero_testBit] at h;cases h
 obtain⟨h1,h2,_⟩:=HA hx h0
 by_cases hj:j<ctz x
 ·rw[h2 j hj] at h;cases h
 ·by_cases hj2:ctz x<j
  ·rw[hl _ hj2] at h1;cases h1
  ·omega
theorem w4 {x:Nat} (h0:x≠0) (h:x<4294967296) (j:Nat):(x&&& (x - 1)).testBit j=(x.testBit j&&decide (j≠ctz x)):=by
 unfold ctz Lib.ctz
 rw[if_neg h0]
 obtain⟨m,hm,hk⟩:=Lib.ctzFrom_spec 32 x (Nat.pos_of_ne_zero h0) h
 generalize Lib.ctzFrom 32 x=k at *
 have e1:x - 1=2^k * (2 * m)+(2^k - 1):=by
  rw[hm,Nat.mul_add,Nat.mul_one]
  have:=Nat.one_le_two_pow (n:=k)
  omega
 have hlt:2^k - 1<2^k:=by have:=Nat.one_le_two_pow (n:=k);omega
 rw[Nat.testBit_and,e1,Nat.testBit_two_pow_mul_add _ hlt]
 by_cases hj:j<k
 ·rw[if_pos hj,Nat.testBit_two_pow_sub_one,decide_eq_true hj,Bool.and_true,decide_eq_true (by omega),Bool.and_true]
 ·rw[if_neg hj]
  have e2:x.testBit j=(2 * m+1).testBit (j - k):=by
   rw[hm,Nat.mul_comm,Nat.testBit_mul_two_pow,decide_eq_true (by omega)];simp
  rw[e2]
  by_cases e:j=k
  ·subst e;simp
  ·obtain⟨i,hi⟩:∃i,j - k=i+1:=⟨j - k - 1,by omega⟩
   rw[hi,Nat.testBit_succ,Nat.testBit_succ,show(2 * m+1) /2=m by omega,show(2 * m) /2=m by omega,decide_eq_true e]
   simp
theorem pred_lt {x:Nat} (h0:x≠0):x&&& (x - 1)<x:=by
 have:x&&& (x - 1)≤x - 1:=Nat.and_le_right
 omega
def sn:Nat→Nat→List Int
 |0,_=>[]
 |f+1,x=>if x=0 then[] else(ctz x:Int)::sn f (x&&& (x - 1))
def bits (x:Nat):List Int:=sn x x
theorem nA:∀(f x:Nat),x≤f→sn f x=bits x
 |0,x,h=>by have:x=0:=by omega
            subst this;rfl
 |f+1,x,h=>by
  by_cases h0:x=0
  ·subst h0;rfl
  ·obtain⟨y,rfl⟩:∃y,x=y+1:=⟨x - 1,by omega⟩
   have:=pred_lt h0
   rw[sn,if_neg h0,bits,sn,if_neg h0,nA f _ (by omega),nA y _ (by omega)]
theorem o8 {x:Nat} (h0:x≠0):bits x=(ctz x:Int)::bits (x&&& (x - 1)):=by
 obtain⟨y,rfl⟩:∃y,x=y+1:=⟨x - 1,by omega⟩
 have:=pred_lt h0
 rw[bits,sn,if_neg h0,nA y _ (by omega)]
def qe (p:Nat×Nat):cB:=if p.1=0 then⟨0,0,0⟩ else if p.1&&& (p.1 - 1)=0 then⟨1,ctz p.1,0⟩ else if p.2≠0 then⟨2,0,ctz p.2⟩ else⟨3,0,0⟩
def vd (tl:List (Nat×List Int)) (l:Nat):Bool:=tl.all fun x=>x.2.any fun k=>decide (k=(l:Int))
def l8 (bx:Nat) (tl:List (Nat×List Int)):cB:=
 match tl with
 |[]=>⟨0,0,0⟩
 |(t,l)::r=>if(r.all fun x=>decide (x.1=t))=true then⟨1,t,0⟩ else match(List.range bx).find? (vd ((t,l)::r)) with
  |some k=>⟨2,0,k⟩
  |none=>⟨3,0,0⟩
theorem zb {bx:Nat} {tl:List (Nat×List Int)} (hl:bx≤16) (ht:∀x∈tl,x.1<8∧∀k∈x.2,0≤k∧k<bx):qe (if tl=[] then(0,0) else iK tl)=l8 bx tl:=by
 match tl,ht with
 |[],_=>rfl
 |(t,l)::r,ht=>
  rw[if_neg (by simp)]
  have hlt:=BX (l:=(t,l)::r) fun x hx=>(ht x hx).1
  have h1:(iK ((t,l)::r)).1.testBit t=true:=by rw[qF];simp
  have hne:(iK ((t,l)::r)).1≠0:=fun e=>by rw[e,Nat.zero_testBit] at h1;cases h1
  have hg:∀j,(iK ((t,l)::r)).2.testBit j=(decide (j<16)&&vd ((t,l)::r) j):=fun j=>by
   rw[yr]
   congr 1
   unfold vd
   rw[Bool.eq_iff_iff,List.all_eq_true,List.all_eq_true]
   refine forall_congr' fun x=>forall_congr' fun hx=> ?_
   rw[List.any_eq_true,List.any_eq_true]
   refine exists_congr fun k=>and_congr_right fun hk=> ?_
   have:=((ht x hx).2 k hk).1
   rw[decide_eq_true_eq,decide_eq_true_eq];omega
  unfold qe l8
  rw[if_neg hne]
  simp only
  by_cases hs:(r.all fun x=>decide (x.1=t))=true
  ·rw[if_pos hs]
   have hall:∀j,(iK ((t,l)::r)).1.testBit j=decide (j=t):=fun j=>by
    rw[qF,Bool.eq_iff_iff,List.any_eq_true,decide_eq_true_eq]
    constructor
    ·rintro⟨x,hx,e⟩
     rcases List.mem_cons.1 hx with rfl|hx
     ·exact(of_decide_eq_true e).symm
     ·rw[←of_decide_eq_true e];exact of_decide_eq_true (List.all_eq_true.1 hs x hx)
    ·rintro rfl;exact⟨(j,l),by simp,by simp⟩
   have hc:ctz (iK ((t,l)::r)).1=t:=B5 (by omega) h1 fun i hi=>by rw[hall];exact decide_eq_false (by omega)
   have hz:(iK ((t,l)::r)).1&&& ((iK ((t,l)::r)).1 - 1)=0:=Nat.eq_of_testBit_eq fun j=>by
    rw[w4 hne (by omega),hall,hc,Nat.zero_testBit]
    by_cases e:j=t<;>simp[e]
   rw[if_pos hz,hc]
  ·rw[if_neg hs]
   have hz:¬(iK ((t,l)::r)).1&&& ((iK ((t,l)::r)).1 - 1)=0:=fun hz=>by
    apply hs
    have one:∀j,(iK ((t,l)::r)).1.testBit j=true→j=ctz (iK ((t,l)::r)).1:=fun j hj=>by
     have:=w4 hne (by omega) j
     rw[hz,Nat.zero_testBit,hj,Bool.true_and] at this
     exact Classical.byContradiction fun h=>by rw[decide_eq_true h] at this;cases this
    have ht0:=one t h1
    rw[List.all_eq_true]
    intro x hx
    have:(iK ((t,l)::r)).1.testBit x.1=true:=by
     rw[qF,List.any_eq_true];exact⟨x,List.mem_cons_of_mem _ hx,by simp⟩
    rw[decide_eq_true_eq,one x.1 this,←ht0]
   rw[if_neg hz]
   cases hf:(List.range bx).find? (vd ((t,l)::r)) with
   |none=>
    have hz2:(iK ((t,l)::r)).2=0:=Nat.eq_of_testBit_eq fun j=>by
     rw[hg,Nat.zero_testBit]
     by_cases hj:j<bx
     ·have:=List.find?_eq_none.1 hf j (List.mem_range.2 hj)
      simp only[Bool.not_eq_true] at this
      rw[this,Bool.and_false]
     ·have hnb:vd ((t,l)::r) j=false:=by
       rw[Bool.eq_false_iff,ne_eq]
       intro h
       have h2:=List.all_eq_true.1 h (t,l) (by simp)
       rw[List.any_eq_true] at h2
       obtain⟨k,hk,e⟩:=h2
       have e:=of_decide_eq_true e
       have:=((ht (t,l) (by simp)).2 k hk).2
       omega
      rw[hnb,Bool.and_false]
    rw[hz2];rfl
   |some k=>
    obtain⟨hk1,hk2⟩:=List.find?_eq_some_iff_append.1 hf
    obtain⟨pre,bs,eab,hno⟩:=hk2
    have hkm:k∈List.range bx:=by rw[eab];simp
    have hkl:=List.mem_range.1 hkm
    have hkl2:pre.length=k:=by
     have h1:(List.range bx)[pre.length]?=some k:=by rw[eab];simp
     rw[List.getElem?_range] at h1
     ·cases h1;rfl
     ·have:=congrArg List.length eab
      simp at this;omega
    have hbit:(iK ((t,l)::r)).2.testBit k=true:=by rw[hg,hk1,decide_eq_true (by omega)];rfl
    have hne2:(iK ((t,l)::r)).2≠0:=fun e=>by rw[e,Nat.zero_testBit] at hbit;cases hbit
    rw[if_pos hne2]
    have hc:ctz (iK ((t,l)::r)).2=k:=B5 (by omega) hbit fun i hi=>by
     have him:i∈pre:=by
      have h1:(List.range bx)[i]?=some i:=by rw[List.getElem?_range (by omega)]
      rw[eab,List.getElem?_append_left (by omega)] at h1
      exact List.mem_of_getElem? h1
     have:=hno i him
     simp only[Bool.not_eq_true',] at this
     rw[hg,this,Bool.and_false]
    rw[hc]
noncomputable def cu (u:bp):List cB:=(List.range u.shared.length).map fun(v:Nat)=>l8 u.bx.length (ew (gq u u.bq.length) v)
end Go.Proofs.YtmonponfppdgfaaGreatDoor
end
section
/- Lists that are handed back; small functions. -/
namespace Go.ch
open Go.RowKit
theorem aF {α:Type} {g:Option Bool} {x:Option α} {K:α→Prop} {a:α} (h:Gd g→x=some a) (k:Go (K a)):kA g x K:=kA.of h k
theorem dA.refl (c:Cx):∀bs:List AV,dA c c bs bs
 |[]=> .nil
 |_::bs=> .cons (fun _ hv=>hv) (dA.refl c bs)
theorem dA.map {α:Type} {c:Cx} {f g:α→AV} (h:∀a,dZ c c (f a) (g a)):∀l:List α,dA c c (l.map f) (l.map g)
 |[]=> .nil
 |a::l=> .cons (h a) (dA.map h l)
theorem Pure.args {P:Program} {f:FuncId} {bs bs2:List AV} {R:AV→Prop} (h:Pure P f bs2 R) (hle:∀c,dA c c bs bs2):Pure P f bs R:=
 ⟨h.1,fun M w vs hM hv=>h.2 M w vs hM ((hle _).MH hv)⟩
theorem cM.args {P:Program} {f:FuncId} {bs bs2:List AV} {H:Hp} {nx:Nat} {R:AV→Hp→Nat→Prop} (h:cM P f bs2 H nx R) (hle:∀c,dA c c bs bs2):cM P f bs H nx R:=
 ⟨h.1,fun w0 c vs h1 h2 h3 hv=>h.2 w0 c vs h1 h2 h3 ((hle _).MH hv)⟩
theorem dZ.lx (c c2:Cx) (sz:Nat) (d:AV):dZ c c2 (.sc (.slice none 0 0)) (.im sz d []):=by
 intro v hv
 rw[VR] at hv
 subst hv
 rw[VR]
 exact⟨none,0,rfl,by simp, .inl rfl⟩
def mo (H:Hp) (nx:Nat) (e:TypeId) (sz:Nat) (es:List AV):AV→Hp→Nat→Prop:=fun r H' n=>∃b' d',r= .sl b' es.length∧nx≤b'∧b'<n∧nx≤n∧bj H' b'=some (.row e sz d' es)∧∀b,b<nx→bj H' b=bj H b
theorem mo.of {P:Program} {f:FuncId} {args:List AV} {H:Hp} {nx:Nat} {e:TypeId} {sz:Nat} {es:List AV} (hsz:0<sz) (h:cM P f args H nx (fun r H' n=>(r= .sc (.slice none 0 0)∧es=[]∧nx≤n∧∀b,b<nx→bj H' b=bj H b)∨mo H nx e sz es r H' n)):cM P f args H nx (mo H nx e sz es):=by
 refine h.wk ?_
 rintro r H' n (⟨rfl,rfl,h1,h2⟩|h1)
 ·refine⟨_,_,_,Wk.nil (nx:=n) e sz .any hsz,n, .any,rfl,h1,Nat.lt_succ_self _,by omega,ck _ _ _,fun b hb=> ?_⟩
  rw[cS (by omega)];exact h2 b hb
 ·exact⟨r,H',n,Wk.refl _ _ _,h1⟩
end Go.ch
namespace Go.Proofs.YtmonponfppdgfaaGreatDoor
open Go Go.ch Go.Proofs
set_option linter.unusedSimpArgs false
set_option linter.unusedVariables false
def dO (l:List Int):AV:= .im 1 .any (l.map i64)
def fp (l:List Bool):AV:= .im 1 .any (l.map bl)
theorem cT {P:Program} {f:FuncId} {args:List AV} {u:AV} (h:cM P f args [] 0 (fun r H _=>ch.dk H 6 r=u)) (hf:cG 0 u):Pure P f args (fun r=>r=u):=by
 refine⟨h.1,fun M w vs hM hv=> ?_⟩
 have hS:dS w ⟨fun _=>none,bj [],fun _=>False,w,M⟩:=⟨⟨rfl,rfl,rfl,Nat.le_refl _,fun _ _=>rfl⟩,hM,fun b e sz d es he=>by simp[bj] at he,fun b b' k k' blk o z o' z' hk=>by simp[bj] at hk⟩
 refine(h.2 w _ vs hS rfl (fun _ h=>h.elim) hv).mono ?_
 rintro en w' ⟨v1,r1,H1,nx',ρ,U,he,hz,hU,hS',_,g2⟩
 have h3:=kQ hS' rfl 6 (a:=r1) (v:=v1) (by rw[hz];exact hf) g2
 rw[hz] at h3
 exact⟨v1,_,he,rfl,hf,h3,hS'.below⟩
theorem pure_or {P:Program} {f:FuncId} {args:List AV} {u v:AV} (h:cM P f args [] 0 (fun r H _=>ch.dk H 6 r=u∨ch.dk H 6 r=v)) (hu:cG 0 u) (hv:cG 0 v):Pure P f args (fun r=>r=u∨r=v):=by
 refine⟨h.1,fun M w vs hM hv'=> ?_⟩
 have hS:dS w ⟨fun _=>none,bj [],fun _=>False,w,M⟩:=⟨⟨rfl,rfl,rfl,Nat.le_refl _,fun _ _=>rfl⟩,hM,fun b e sz d es he=>by simp[bj] at he,fun b b' k k' blk o z o' z' hk=>by simp[bj] at hk⟩
 refine(h.2 w _ vs hS rfl (fun _ h=>h.elim) hv').mono ?_
 rintro en w' ⟨v1,r1,H1,nx',ρ,U,he,hz,hU,hS',_,g2⟩
 rcases hz with hz|hz
 ·have h3:=kQ hS' rfl 6 (a:=r1) (v:=v1) (by rw[hz];exact hu) g2
  rw[hz] at h3
  exact⟨v1,_,he, .inl rfl,hu,h3,hS'.below⟩
 ·have h3:=kQ hS' rfl 6 (a:=r1) (v:=v1) (by rw[hz];exact hv) g2
  rw[hz] at h3
  exact⟨v1,_,he, .inr rfl,hv,h3,hS'.below⟩
theorem mT {P:Program} {f:FuncId} {args:List AV} {u v:AV} (h:Pure P f args (fun r=>r=u∨r=v)) (hv:cG 0 v) (hle:∀c,dZ c c u v):Pure P f args (fun r=>r=v):=
 ⟨h.1,fun M w vs hM hv'=>(h.2 M w vs hM hv').mono fun en w' ⟨x,r,h2,h3,h4,h5,h6⟩=>by
  rcases h3 with rfl|rfl
  ·exact⟨x,_,h2,rfl,hv,hle _ _ h5,h6⟩
  ·exact⟨x,_,h2,rfl,hv,h5,h6⟩⟩
theorem oM {P:Program} {f:FuncId} {args:List AV} {sz:Nat} {es:List AV} (hf:cG 0 (.im sz .any es)) (h:cM P f args [] 0 (fun r H _=>ch.dk H 6 r= .sc (.slice none 0 0)∧es=[]∨ch.dk H 6 r= .im sz .any es)):Pure P f args (fun r=>r= .im sz .any es):=by
 by_cases hl:es=[]
 ·subst hl
  exact mT (pure_or (h.mono fun r H n h=>h.imp (·.1) id) (by simp[cG,cL]) hf) hf (fun c=>ch.dZ.lx c c _ _)
 ·exact cT (h.mono fun r H n h=>h.elim (fun h=>absurd h.2 hl) id) hf
theorem kx (op:Int):Pure Tryz.prog 110 [u8 op] (fun r=>r=bl (decide (0<op∧op<19))):=by
 refine aJ wF rfl ?_
 repeat' (first|((with_reducible refine aE ?_);conv=>whnf)|refine aG ?_|exact aC|with_reducible refine aD ?_ ?_|(apply aA;(·exact bm))|refine aH ?_|((with_reducible refine aB ?_ ?_)<;>intro hc<;>(try simp only[List.length_map,ne_eq,cD] at hc)<;>try(exfalso;omega)))
 simp only[decide_eq_true_eq]
 exact cg (by by_cases h:0<op<;>simp[h])
theorem fF (op:Int):Pure Tryz.prog 94 [u8 op] (fun r=>r=bl (du op)):=by
 refine aJ FG rfl ?_
 repeat' (first|((with_reducible refine aE ?_);conv=>whnf)|refine aG ?_|exact aC|with_reducible refine aD ?_ ?_|(apply aA;(·exact bm))|refine aH ?_|((with_reducible refine aB ?_ ?_)<;>intro hc<;>(try simp only[List.length_map,ne_eq,cD] at hc)<;>try(exfalso;omega)))
 all_goals simp_all[du,cD]
theorem eJ (c:Int):Pure Tryz.prog 104 [u8 c] (fun r=>r=bl (decide (48≤c)&&decide (c≤57))):=by
 refine aJ vz rfl ?_
 repeat' (first|((with_reducible refine aE ?_);conv=>whnf)|refine aG ?_|exact aC|with_reducible refine aD ?_ ?_|(apply aA;(·exact bm))|refine aH ?_|((with_reducible refine aB ?_ ?_)<;>intro hc<;>(try simp only[List.length_map,ne_eq,cD] at hc)<;>try(exfalso;omega)))
 all_goals simp_all[cD]
set_option maxHeartbeats 1000000 in
theorem kr (n:Node):Pure Tryz.prog 90 [n.av] (fun r=>r=dO n.fold):=by
 refine oM (by simp[cG,cJ]) ?_
 refine aL FC rfl ?_
 repeat' (first|((with_reducible refine aE ?_);conv=>whnf)|refine aG ?_|exact cN|with_reducible refine aD ?_ ?_|((with_reducible refine Ask.mk ?_);first|exact bw|exact br|(intro h;simp_all[Node.cells]<;>fail)|(simp_all[Node.cells]<;>fail))|(apply aA;(·exact bm))|refine aH ?_|((with_reducible refine aB ?_ ?_)<;>intro hc<;>(try simp only[List.length_map,ne_eq,cD] at hc)<;>try(exfalso;omega)))
 all_goals refine⟨?_⟩
 all_goals first|exact .inl ⟨rfl,by simp_all[Node.fold]⟩|(refine .inr ((dH bk (by simp)).trans ?_);rw[ca _ (by simp[cL,cG])];first|(simp_all[dO,Node.fold];done)|(unfold Node.fold;rw[if_neg (by assumption),if_neg (fun h=>hc.elim (fun a=>a h.1) (fun a=>h.2 a))];rfl))
set_option maxHeartbeats 1000000 in
theorem sL (n:Node):Pure Tryz.prog 76 [n.av] (fun r=>r=dO n.fold):=by
 refine oM (by simp[cG,cJ]) ?_
 refine aL EX rfl ?_
 repeat' (first|((with_reducible refine aE ?_);conv=>whnf)|refine aG ?_|exact cN|with_reducible refine aD ?_ ?_|((with_reducible refine Ask.mk ?_);first|exact bw|exact br|(intro h;simp_all[Node.cells]<;>fail)|(simp_all[Node.cells]<;>fail))|(apply aA;(·exact bm))|refine aH ?_|((with_reducible refine aB ?_ ?_)<;>intro hc<;>(try simp only[List.length_map,ne_eq,cD] at hc)<;>try(exfalso;omega)))
 all_goals refine⟨?_⟩
 all_goals first|exact .inl ⟨rfl,by simp_all[Node.fold]⟩|(refine .inr ((dH bk (by simp)).trans ?_);rw[ca _ (by simp[cL,cG])];first|(simp_all[dO,Node.fold];done)|(unfold Node.fold;rw[if_neg (by assumption),if_neg (fun h=>hc.elim (fun a=>a h.1) (fun a=>h.2 a))];rfl))
set_option maxHeartbeats 1000000 in
theorem fu (n:Node):Pure Tryz.prog 49 [n.av] (fun r=>r=dO n.dK):=by
 refine oM (by simp[cG,cJ]) ?_
 refine aL D8 rfl ?_
 repeat' (first|((with_reducible refine aE ?_);conv=>whnf)|refine aG ?_|exact cN|with_reducible refine aD ?_ ?_|((with_reducible refine Ask.mk ?_);first|exact bw|exact br|(intro h;simp_all[Node.cells]<;>fail)|(simp_all[Node.cells]<;>fail))|(apply aA;(·exact bm))|refine aH ?_|((with_reducible refine aB ?_ ?_)<;>intro hc<;>(try simp only[List.length_map,ne_eq,cD] at hc)<;>try(exfalso;omega)))
 all_goals refine⟨?_⟩
 all_goals first|exact .inl ⟨rfl,by simp_all[Node.dK]⟩|(refine .inr ((dH bk (by simp)).trans ?_);rw[ca _ (by simp[cL,cG])];simp_all[dO,Node.dK])
end Go.Proofs.YtmonponfppdgfaaGreatDoor
end
section
/- Is a node right? -/
namespace Go.Proofs.YtmonponfppdgfaaGreatDoor
open Go Go.ch Go.Proofs
set_option linter.unusedSimpArgs false
set_option linter.unusedVariables false
theorem pC {f:FuncId} {args:List AV} {u:AV} (hu:cG 0 u) (h:(tn TT 30 f args [] 0).map (fun q=>dk q.2.1 6 q.1)=some u):Pure Tryz.prog f args (fun r=>r=u):=by
 simp only[Option.map_eq_some_iff] at h
 obtain⟨⟨r,H',nx'⟩,h1,h2⟩:=h
 simp only at h2
 have h0:=nW M7 30 _ _ _ _ _ _ _ h1
 have h3:=cM.pure (H':=H') (h0.mono fun r H n ⟨h1,h2,_⟩=>⟨h1,h2⟩) (by rw[h2];exact hu)
 exact h3.mono fun r hr=>by rw[hr,h2]
theorem oS (op:Int) (h0:0≤op):Pure Tryz.prog 98 [u8 op] (fun r=>r=bl (du op)):=by
 refine aJ FK rfl ?_
 repeat' (first|((with_reducible refine aE ?_);conv=>whnf)|refine aG ?_|exact aC|with_reducible refine aD ?_ ?_|(apply aA;(·exact bm))|((with_reducible refine aQ (kx _) ?_ ?_);(·exact cO))|((with_reducible refine aM (fun _=>kx _) ?_ ?_);(·exact cO))|((with_reducible refine aO (kx _) ?_ ?_);(·exact cO))|((with_reducible refine aP (fun _=>kx _) ?_ ?_);(·exact cO))|refine aH ?_|((with_reducible refine aB ?_ ?_)<;>intro hc<;>(try simp only[List.length_map,ne_eq,cD] at hc)<;>try(exfalso;omega)))
 refine cg ?_
 unfold du
 by_cases h1:0<op<;>by_cases h2:op<19<;>by_cases h3:op=17<;>by_cases h4:op=18<;>simp[h1,h2,h3,h4]<;>omega
def mask (k op:Int):Int:=if k=1 then(if du op=true then 59 else 43) else if k=2 then 38 else if k=3 then 44 else if k=4 then 46 else if k=5 then 36 else if k=6 then 36 else if k=7 then 40 else if k=8 then 104 else 0
set_option maxRecDepth 100000 in
theorem yM (n:Node) (hn:n.Wf) (h:1≤n.kind∧n.kind<10):Pure Tryz.prog 86 [n.av] (fun r=>r=u8 (mask n.kind n.op)):=by
 obtain⟨h0,h1⟩:=h
 have ho:=hn.op.1
 obtain⟨kind,op,slot,cP,a,b,next,jT,origin⟩:=n
 simp only at h0 h1 ho
 have hk:kind=1∨kind=2∨kind=3∨kind=4∨kind=5∨kind=6∨kind=7∨kind=8∨kind=9:=by omega
 rcases hk with rfl|rfl|rfl|rfl|rfl|rfl|rfl|rfl|rfl
 ·refine aJ E8 rfl ?_
  repeat' (first|((with_reducible refine aE ?_);conv=>whnf)|refine aG ?_|exact aC|with_reducible refine aD ?_ ?_|(apply aA;(·exact bm))|((with_reducible refine aQ (oS _ ho) ?_ ?_);(·exact cO))|((with_reducible refine aM (fun _=>oS _ ho) ?_ ?_);(·exact cO))|((with_reducible refine aO (oS _ ho) ?_ ?_);(·exact cO))|((with_reducible refine aP (fun _=>oS _ ho) ?_ ?_);(·exact cO))|refine aH ?_|((with_reducible refine aB ?_ ?_)<;>intro hc<;>(try simp only[List.length_map,ne_eq,cD] at hc)<;>try(exfalso;omega)))
  all_goals
   cases ht:du op with
   |true=>
    rw[ht] at hc
    first|(exact absurd rfl hc)|(exact absurd hc (by decide))|(simp only[show mask 1 op=59 by simp[mask,ht]];try kernel_rfl)
   |false=>
    rw[ht] at hc
    first|(exact absurd rfl hc)|(exact absurd hc (by decide))|(simp only[show mask 1 op=43 by simp[mask,ht]];try kernel_rfl)
 iterate 8 exact pC (by simp[cG,cL]) (by kernel_rfl)
theorem lL.default_eq:(default:lL)=⟨false,0,0⟩:=rfl
def jI (m u:Int):Int:=IntKind.u8.wrap (BitVec.ofInt IntKind.u8.bits m&&& BitVec.ofInt IntKind.u8.bits u).toNat
theorem pn (k u most m:Int) (b:Nat) (H:Hp) (nx:Nat) (e:TypeId) (d:AV) (hb:bj H b=some (.row e 1 d [u8 m])):kB Tryz.prog 87 [i64 k,u8 u,i64 most, .pt b 1 0 0] H nx (bl (nM k (decide (jI m u≠0)) most)):=by
 refine aU E9 rfl ?_
 repeat' (first|((with_reducible refine aE ?_);conv=>whnf)|refine aG ?_|exact aC|with_reducible refine aD ?_ ?_|(apply aA;(·exact bm))|refine aH ?_|((with_reducible refine aB ?_ ?_)<;>intro hc<;>(try simp only[List.length_map,ne_eq,cD] at hc)<;>try(exfalso;omega)))
 refine pq.look ?_ jk
 simp only[show IntKind.u8.wrap (BitVec.ofInt IntKind.u8.bits m&&& BitVec.ofInt IntKind.u8.bits u).toNat=jI m u from rfl,nM]
 by_cases h1:jI m u=0<;>by_cases h2:k=0<;>by_cases h3:0≤k<;>by_cases h4:k<most<;>simp[h1,h2,h3,h4]
theorem sD (v:lL) (u m:Int) (g:bo) (b c:Nat) (H:Hp) (nx:Nat) (e e2:TypeId) (d d2:AV) (hb:bj H b=some (.row e 1 d [u8 m])) (hc:bj H c=some (.row e2 4 d2 [g.av])) (hbn:b<nx) (hcn:c<nx):kB Tryz.prog 88 [v.av,u8 u, .pt b 1 0 0, .pt c 1 0 0] H nx (bl (pG v (decide (jI m u≠0)) g.cf)):=by
 refine aU FA rfl ?_
 repeat' (first|((with_reducible refine aE ?_);conv=>whnf)|refine aG ?_|exact cN|with_reducible refine aD ?_ ?_|((with_reducible refine Ask.mk ?_);first|exact bw|exact br|(intro h;simp_all[lL.cells,bo.cells]<;>fail)|(simp_all[lL.cells,bo.cells]<;>fail))|(apply aA;(·exact bm))|refine aH ?_|((with_reducible refine aB ?_ ?_)<;>intro hc<;>(try simp only[List.length_map,ne_eq,cD] at hc)<;>try(exfalso;omega)))
 all_goals refine pq.look ?_ jk
 all_goals simp only[show IntKind.u8.wrap (BitVec.ofInt IntKind.u8.bits m&&& BitVec.ofInt IntKind.u8.bits u).toNat=jI m u from rfl] at *
 all_goals unfold pG
 ·rw[if_neg (show ¬decide (jI m u≠0)=true by simp[hc])]
  obtain⟨is,sl,wo⟩:=v
  refine cg ?_
  rw[Bool.eq_iff_iff]
  simp[lL.default_eq,and_assoc]
 ·rename_i h0
  rw[decide_eq_true hc,if_pos rfl,if_pos h0]
  refine cg ?_
  by_cases h1:0≤v.slot<;>by_cases h2:v.slot<g.cf<;>simp[h1,h2]
 ·rename_i h0
  rw[decide_eq_true hc,if_pos rfl,if_neg (by rw[h0];decide)]
theorem AU (k op:Int) (h:1≤k∧k<10):(jI (mask k op) 1=0↔¬k=1)∧(decide (jI (mask k op) 2≠0)=gH k)∧(decide (jI (mask k op) 4≠0)=fX k)∧(decide (jI (mask k op) 8≠0)=lS k)∧(decide (jI (mask k op) 16≠0)=(decide (k=1)&&du op))∧(decide (jI (mask k op) 32≠0)=eF k)∧(decide (jI (mask k op) 64≠0)=decide (k=8)):=by
 have hk:k=1∨k=2∨k=3∨k=4∨k=5∨k=6∨k=7∨k=8∨k=9:=by omega
 rcases hk with rfl|rfl|rfl|rfl|rfl|rfl|rfl|rfl|rfl
 ·cases ht:du op with
  |false=>rw[show mask 1 op=43 by simp[mask,ht]];decide
  |true=>rw[show mask 1 op=59 by simp[mask,ht]];decide
 ·rw[show mask 2 op=38 by rfl,show(decide ((2:Int)=1)&&du op)=false by rfl];decide
 ·rw[show mask 3 op=44 by rfl,show(decide ((3:Int)=1)&&du op)=false by rfl];decide
 ·rw[show mask 4 op=46 by rfl,show(decide ((4:Int)=1)&&du op)=false by rfl];decide
 ·rw[show mask 5 op=36 by rfl,show(decide ((5:Int)=1)&&du op)=false by rfl];decide
 ·rw[show mask 6 op=36 by rfl,show(decide ((6:Int)=1)&&du op)=false by rfl];decide
 ·rw[show mask 7 op=40 by rfl,show(decide ((7:Int)=1)&&du op)=false by rfl];decide
 ·rw[show mask 8 op=104 by rfl,show(decide ((8:Int)=1)&&du op)=false by rfl];decide
 ·rw[show mask 9 op=0 by rfl,show(decide ((9:Int)=1)&&du op)=false by rfl];decide
set_option maxRecDepth 4000 in
set_option maxHeartbeats 2000000 in
theorem yX (u:bp) (g:bo) (n:Node) (hn:n.Wf):Pure Tryz.prog 52 [u.av,g.av,n.av] (fun r=>r=bl (iE u g n)):=by
 refine aJ EB rfl ?_
 have h0:=hn.kind.1
 have ho:=hn.op.1
 by_cases hk:1≤n.kind∧n.kind<10∧0≤n.origin∧n.origin<4096
 ·have hp:=yM n hn ⟨hk.1,hk.2.1⟩
  obtain⟨m1,m2,m3,m4,m5,m6,m7⟩:=AU n.kind n.op ⟨hk.1,hk.2.1⟩
  repeat' (first|((with_reducible refine aE ?_);conv=>whnf)|refine aG ?_|exact cN|with_reducible refine aD ?_ ?_|((with_reducible refine Ask.mk ?_);first|exact bw|exact br|(intro h;simp_all[bp.cells,bo.cells,Node.cells]<;>fail)|(simp_all[bp.cells,bo.cells,Node.cells]<;>fail))|(apply aA;(·exact bm))|refine aK (hp) ?_|((refine aT (pn _ _ _ _ _ _ _ _ _ (by exact rfl)) ?_ ?_);(·exact True.intro))|((refine aS (fun _=>pn _ _ _ _ _ _ _ _ _ (by exact rfl)) ?_ ?_);(·exact True.intro))|((refine aT (sD ⟨_,_,_⟩ _ _ _ _ _ _ _ _ _ _ _ (by exact rfl) (by exact rfl) cH cH) ?_ ?_);(·exact True.intro))|((refine aS (fun _=>sD ⟨_,_,_⟩ _ _ _ _ _ _ _ _ _ _ _ (by exact rfl) (by exact rfl) cH cH) ?_ ?_);(·exact True.intro))|refine aH ?_|((with_reducible refine aB ?_ ?_)<;>intro hc<;>(try simp only[List.length_map,ne_eq,cD] at hc)<;>try(exfalso;omega)))
  all_goals
   have hop:nM (IntKind.i64.wrap n.op) (decide (jI (mask n.kind n.op) 1≠0)) 19=(if n.kind=1 then decide (n.op<19) else decide (n.op=0)):=by
    have h2:=hn.op.2
    rw[wrap64 (by omega) (by omega)]
    unfold nM
    by_cases h1:n.kind=1
    ·rw[if_pos h1,if_pos (show decide (jI (mask n.kind n.op) 1≠0)=true by rw[decide_eq_true_eq];exact fun h=>m1.1 h h1),decide_eq_true ho,Bool.true_and]
    ·rw[if_neg h1,if_neg (show ¬decide (jI (mask n.kind n.op) 1≠0)=true by rw[decide_eq_true_eq];exact fun h=>h (m1.2 h1))]
   refine cg ?_
   rw[hop,m2,m3,m4,m5,m6,m7]
   unfold iE
   rw[decide_eq_true hk,Bool.true_and]
   simp only[hc,if_true,if_false,or_self,Bool.if_false_right,Bool.decide_eq_true,Bool.and_assoc]
   simp only[List.length_map]
   generalize nM n.slot (gH n.kind) g.cf=x1
   have ea:(⟨n.a.dr,n.a.slot,n.a.word⟩:lL)=n.a:=rfl
   have eb:(⟨n.b.dr,n.b.slot,n.b.word⟩:lL)=n.b:=rfl
   rw[ea,eb]
   generalize pG n.a (lS n.kind) g.cf=x2
   generalize pG n.b (decide (n.kind=1)&&du n.op) g.cf=x3
   generalize nM n.next (eF n.kind) g.nodes.length=x4
   generalize nM n.jT (decide (n.kind=8)) g.nodes.length=x5
   revert x1 x2 x3 x4 x5
   intro x1 x2 x3 x4 x5
   cases x1<;>cases x2<;>cases x3<;>cases x4<;>cases x5<;>simp
 ·have hb:iE u g n=false:=by unfold iE;rw[decide_eq_false hk];simp
  rw[hb]
  repeat' (first|((with_reducible refine aE ?_);conv=>whnf)|refine aG ?_|exact cN|with_reducible refine aD ?_ ?_|((with_reducible refine Ask.mk ?_);first|exact bw|exact br|(intro h;simp_all[bp.cells,bo.cells,Node.cells]<;>fail)|(simp_all[bp.cells,bo.cells,Node.cells]<;>fail))|(apply aA;(·exact bm))|refine aH ?_|((with_reducible refine aB ?_ ?_)<;>intro hc<;>(try simp only[List.length_map,ne_eq,cD] at hc)<;>try(exfalso;omega)))
  exact rfl
end Go.Proofs.YtmonponfppdgfaaGreatDoor
end
section
/- Names. -/
namespace Go.Proofs.YtmonponfppdgfaaGreatDoor
open Go Go.ch Go.Proofs
set_option linter.unusedSimpArgs false
set_option linter.unusedVariables false
def fC (c:Int):Bool:=decide (48≤c)&&decide (c≤57)
def gv (c:Int):Bool:=decide (97≤c)&&decide (c≤122)||decide (65≤c)&&decide (c≤90)||decide (c=95)
def yk:List ByteArray:=[⟨(List.toArray [115,104,97,114,101,100])⟩,⟨(List.toArray [108,111,99,107])⟩,⟨(List.toArray [116,104,114,101,97,100])⟩,⟨(List.toArray [108,111,99,97,108])⟩,⟨(List.toArray [105,102])⟩,⟨(List.toArray [101,108,115,101])⟩,⟨(List.toArray [119,104,105,108,101])⟩,⟨(List.toArray [112,114,105,110,116])⟩,⟨(List.toArray [115,107,105,112])⟩,⟨(List.toArray [115,119,97,112])⟩]
def lT (s:ByteArray):Bool:=yk.any (s==·)
theorem dx (c:Int):Pure Tryz.prog 106 [u8 c] (fun r=>r=bl (gv c)):=by
 refine aJ wB rfl ?_
 repeat' (first|((with_reducible refine aE ?_);conv=>whnf)|refine aG ?_|exact aC|with_reducible refine aD ?_ ?_|(apply aA;(·exact bm))|refine aH ?_|((with_reducible refine aB ?_ ?_)<;>intro hc<;>(try simp only[List.length_map,ne_eq,cD] at hc)<;>try(exfalso;omega)))
 refine cg ?_
 unfold gv
 by_cases h1:97≤c<;>by_cases h2:c≤122<;>by_cases h3:65≤c<;>by_cases h4:c≤90<;>by_cases h5:c=95<;>simp[h1,h2,h3,h4,h5]
theorem gk (s:ByteArray):Pure Tryz.prog 105 [st s] (fun r=>r=bl (lT s)):=by
 refine aJ wA rfl ?_
 repeat' (first|((with_reducible refine aE ?_);conv=>whnf)|refine aG ?_|exact aC|with_reducible refine aD ?_ ?_|(apply aA;(·exact bm))|refine aH ?_|((with_reducible refine aB ?_ ?_)<;>intro hc<;>(try simp only[List.length_map,ne_eq,cD] at hc)<;>try(exfalso;omega)))
 all_goals refine cg ?_
 all_goals simp_all[lT,yk]
def eX (s:ByteArray) (i:Nat):Int:=(s.data.toList.getD i 0).toNat
def fS (s:ByteArray):Bool:=decide (1≤s.size)&&decide (s.size≤32)&& !fC (eX s 0)&& !lT s&&(List.range s.size).all fun i=>gv (eX s i)||fC (eX s i)
theorem IN (s:ByteArray):(s==(⟨#[]⟩:ByteArray))=decide (s.size=0):=by
 obtain⟨d⟩:=s
 show(d==#[])=_
 rw[Bool.eq_iff_iff]
 show(d==#[])=true↔decide (d.size=0)=true
 simp
theorem AY (s:ByteArray) (hs:s.size≤140737488351232):Pure Tryz.prog 85 [st s] (fun r=>r=bl (fS s)):=by
 refine aJ E7 rfl ?_
 have e0:=IN s
 by_cases hz:s.size=0
 ·have e1:(s==(⟨#[]⟩:ByteArray))=true:=by rw[e0,decide_eq_true hz]
  have hb:fS s=false:=by unfold fS;rw[decide_eq_false (by omega)];simp
  rw[hb]
  repeat' (first|((with_reducible refine aE ?_);conv=>whnf)|refine aG ?_|exact cN|with_reducible refine aD ?_ ?_|((with_reducible refine Ask.mk ?_);first|exact bw|((refine Ask.mk ?_);intro h;simp_all)|exact br)|(apply aA;(·exact bm))|((with_reducible refine aQ (eJ _) ?_ ?_);(·exact cO))|((with_reducible refine aM (fun _=>eJ _) ?_ ?_);(·exact cO))|((with_reducible refine aO (eJ _) ?_ ?_);(·exact cO))|((with_reducible refine aP (fun _=>eJ _) ?_ ?_);(·exact cO))|((with_reducible refine aQ (gk _) ?_ ?_);(·exact cO))|((with_reducible refine aM (fun _=>gk _) ?_ ?_);(·exact cO))|((with_reducible refine aO (gk _) ?_ ?_);(·exact cO))|((with_reducible refine aP (fun _=>gk _) ?_ ?_);(·exact cO))|((with_reducible refine aQ (dx _) ?_ ?_);(·exact cO))|((with_reducible refine aM (fun _=>dx _) ?_ ?_);(·exact cO))|((with_reducible refine aO (dx _) ?_ ?_);(·exact cO))|((with_reducible refine aP (fun _=>dx _) ?_ ?_);(·exact cO))|(simp only[e1])|refine aH ?_|((with_reducible refine aB ?_ ?_)<;>intro hc<;>(try simp only[List.length_map,ne_eq,cD] at hc)<;>try(exfalso;omega)))
  all_goals first|exact rfl|(exfalso;simp_all)
 ·have e1:(s==(⟨#[]⟩:ByteArray))=false:=by rw[e0,decide_eq_false hz]
  repeat' (first|((with_reducible refine aE ?_);conv=>whnf)|refine aG ?_|exact cN|with_reducible refine aD ?_ ?_|((with_reducible refine Ask.mk ?_);first|exact bw|((refine Ask.mk ?_);intro h;exact⟨by omega,by omega⟩)|exact br)|(apply aA;(·exact bm))|((with_reducible refine aQ (eJ _) ?_ ?_);(·exact cO))|((with_reducible refine aM (fun _=>eJ _) ?_ ?_);(·exact cO))|((with_reducible refine aO (eJ _) ?_ ?_);(·exact cO))|((with_reducible refine aP (fun _=>eJ _) ?_ ?_);(·exact cO))|((with_reducible refine aQ (gk _) ?_ ?_);(·exact cO))|((with_reducible refine aM (fun _=>gk _) ?_ ?_);(·exact cO))|((with_reducible refine aO (gk _) ?_ ?_);(·exact cO))|((with_reducible refine aP (fun _=>gk _) ?_ ?_);(·exact cO))|((with_reducible refine aQ (dx _) ?_ ?_);(·exact cO))|((with_reducible refine aM (fun _=>dx _) ?_ ?_);(·exact cO))|((with_reducible refine aO (dx _) ?_ ?_);(·exact cO))|((with_reducible refine aP (fun _=>dx _) ?_ ?_);(·exact cO))|(simp only[e1])|refine aH ?_|((with_reducible refine aB ?_ ?_)<;>intro hc<;>(try simp only[List.length_map,ne_eq,cD] at hc)<;>try(exfalso;omega)))
  ·refine cg (Eq.symm ?_)
   unfold fS
   have hp:(decide (1≤s.size)&&decide (s.size≤32)&& !fC (eX s 0)&& !lT s)=false:=by
    rcases hc with((h|h)|h)|h
    ·exact absurd h (by decide)
    ·simp[show ¬s.size≤32 by omega]
    ·have h:48≤eX s 0∧eX s 0≤57:=h
     simp[fC,h.1,h.2]
    ·simp[h]
   rw[hp,Bool.false_and]
  ·have hp:(decide (1≤s.size)&&decide (s.size≤32)&& !fC (eX s 0)&& !lT s)=true:=by
    obtain⟨h1,h2⟩:=hc
    have h3:¬(48≤eX s 0∧eX s 0≤57):=fun h=>h1 (.inr h)
    have h4:s.size≤32:=by
     have:¬(32:Int)<s.size:=fun h=>h1 (.inl (.inr h))
     omega
    have h5:fC (eX s 0)=false:=by
     unfold fC
     by_cases h:48≤eX s 0
     ·rw[decide_eq_true h,decide_eq_false (fun h'=>h3 ⟨h,h'⟩)];rfl
     ·rw[decide_eq_false h];rfl
    rw[decide_eq_true (by omega:1≤s.size),decide_eq_true h4,h5,h2];rfl
   have hb:∀R,(decide (1≤s.size)&&decide (s.size≤32)&& !fC (eX s 0)&& !lT s&&R)=R:=fun R=>by rw[hp,Bool.true_and]
   unfold fS
   rw[hb]
   clear hc hp hb e1 e0
   refine aI (fun i:Nat=>[(0,st s),(21,i64 s.size),(22,i64 i)]) (fun i H n=>i≤s.size∧∀j,j<i→(gv (eX s j)||fC (eX s j))=true) (fun i=>s.size - i) 0 bt ⟨Nat.zero_le _,fun _ h=>by omega⟩ ?_
   rintro i H n ⟨hi,hall⟩
   by_cases his:i<s.size
   ·repeat' (first|((with_reducible refine aE ?_);conv=>whnf)|refine aG ?_|exact cN|with_reducible refine aD ?_ ?_|((with_reducible refine Ask.mk ?_);first|exact bw|((refine Ask.mk ?_);intro h;exact⟨by omega,by omega⟩)|exact br)|(apply aA;(·exact bm))|((with_reducible refine aQ (eJ _) ?_ ?_);(·exact cO))|((with_reducible refine aM (fun _=>eJ _) ?_ ?_);(·exact cO))|((with_reducible refine aO (eJ _) ?_ ?_);(·exact cO))|((with_reducible refine aP (fun _=>eJ _) ?_ ?_);(·exact cO))|((with_reducible refine aQ (dx _) ?_ ?_);(·exact cO))|((with_reducible refine aM (fun _=>dx _) ?_ ?_);(·exact cO))|((with_reducible refine aO (dx _) ?_ ?_);(·exact cO))|((with_reducible refine aP (fun _=>dx _) ?_ ?_);(·exact cO))|refine aH ?_|((with_reducible refine aB ?_ ?_)<;>intro hc<;>(try simp only[List.length_map,ne_eq,cD] at hc)<;>try(exfalso;omega)))
    ·refine cg (Eq.symm ?_)
     rw[Bool.eq_false_iff,ne_eq,List.all_eq_true]
     intro hA
     have h1:=hA i (List.mem_range.2 his)
     have hc:gv (eX s i)=false∧(eX s i<48∨57<eX s i):=hc
     rw[hc.1,Bool.false_or] at h1
     simp only[fC,Bool.and_eq_true,decide_eq_true_eq] at h1
     omega
    ·refine⟨i+1,by omega,bt,by omega,fun j hj=> ?_⟩
     by_cases hji:j=i
     ·have hc:¬gv (eX s i)=false∨(48≤eX s i∧eX s i≤57):=hc
      rw[hji]
      rcases hc with h|h
      ·rw[Bool.not_eq_false] at h
       rw[h,Bool.true_or]
      ·simp[fC,h.1,h.2]
     ·exact hall j (by omega)
   ·have:i=s.size:=by omega
    subst this
    repeat' (first|((with_reducible refine aE ?_);conv=>whnf)|refine aG ?_|exact aC|with_reducible refine aD ?_ ?_|(apply aA;(·exact bm))|refine aH ?_|((with_reducible refine aB ?_ ?_)<;>intro hc<;>(try simp only[List.length_map,ne_eq,cD] at hc)<;>try(exfalso;omega)))
    refine cg (Eq.symm ?_)
    rw[List.all_eq_true]
    intro j hj
    exact hall j (List.mem_range.1 hj)
end Go.Proofs.YtmonponfppdgfaaGreatDoor
end
