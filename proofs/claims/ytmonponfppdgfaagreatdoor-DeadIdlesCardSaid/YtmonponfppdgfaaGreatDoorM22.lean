import Derived.Test.YtmonponfppdgfaaGreatDoorM21
import Derived.Lib.TrailingZeros
section
/- How variables are shared, in plain data. -/
namespace Go.Proofs.YtmonponfppdgfaaGreatDoor
open Go Go.ck Go.Proofs
set_option linter.unusedSimpArgs false
set_option linter.unusedVariables false
def hb (l:List Int):Nat:=l.foldl (fun a k=>a|||2^k.toNat) 0
theorem JP (l:List Int) (k:Int):hb (l++[k])=hb l|||2^k.toNat:=by simp[hb]
theorem CY:∀(l:List Int) (j:Nat),(hb l).testBit j=l.any fun k=>decide (k.toNat=j):=by
 have h:∀(l:List Int) (a j:Nat),(l.foldl (fun a k=>a|||2^k.toNat) a).testBit j=(a.testBit j||l.any fun k=>decide (k.toNat=j)):=by
  intro l
  induction l with
  |nil=>simp
  |cons k l ih=>
   intro a j
   rw[List.foldl_cons,ih,Nat.testBit_or,Nat.testBit_two_pow,List.any_cons,Bool.or_assoc]
 intro l j
 rw[hb,h];simp
theorem uN {n m:Nat} (h:∀j,n.testBit j=true→j<m):n<2^m:=by
 apply Nat.lt_of_not_le
 intro hle
 obtain⟨j,hj,ht⟩:=Nat.exists_ge_and_testBit_of_ge_two_pow hle
 exact absurd (h j ht) (by omega)
theorem IZ {l:List Int} {m:Nat} (h:∀k∈l,k.toNat<m):hb l<2^m:=uN fun j hj=>by
 rw[CY,List.any_eq_true] at hj
 obtain⟨k,hk,e⟩:=hj
 rw[←of_decide_eq_true e];exact h k hk
abbrev Acc:=Nat×Node×List Int
noncomputable def sF (t:Nat) (g:bo) (i:Nat):Option Acc:=if gh (ca g (-1)) i=true then some (t,g.nd i,(ct g).1.getD i []) else none
noncomputable def mw (t:Nat) (g:bo) (m:Nat):List Acc:=(List.range m).filterMap (sF t g)
noncomputable def gn (u:bq) (m:Nat):List Acc:=(List.range m).flatMap fun t=>mw t (u.gr t) (u.gr t).nodes.length
theorem s4 (t:Nat) (g:bo) (m:Nat):mw t g (m+1)=mw t g m++(sF t g m).toList:=by
 rw[mw,List.range_succ,List.filterMap_append]
 cases h:sF t g m<;>simp[mw,h]
theorem s6 (u:bq) (m:Nat):gn u (m+1)=gn u m++mw m (u.gr m) (u.gr m).nodes.length:=by
 rw[gn,List.range_succ,List.flatMap_append];simp[gn]
def ud (n:Node):Bool:=decide (n.kind=2∨n.kind=3∨n.kind=4)
abbrev uh:=List (Int×(Nat×Nat))
def mG (p:Nat×Nat) (t:Nat) (l:List Int):Nat×Nat:=(p.1|||2^t,p.2&&& hb l)
def lG (E:uh) (x:Acc):uh:=if ud x.2.1=true then gE E x.2.1.cP (mG ((c8 E x.2.1.cP).getD (0,65535)) x.1 x.2.2) else E
def ij (l:List Acc):uh:=l.foldl lG []
theorem ta (l:List Acc) (x:Acc):ij (l++[x])=lG (ij l) x:=by simp[ij]
def ew (l:List Acc) (v:Int):List (Nat×List Int):=(l.filter fun x=>ud x.2.1&&decide (x.2.1.cP=v)).map fun x=>(x.1,x.2.2)
def iJ (l:List (Nat×List Int)):Nat×Nat:=l.foldl (fun p x=>mG p x.1 x.2) (0,65535)
theorem nU (l:List Acc) (x:Acc) (v:Int):ew (l++[x]) v=if ud x.2.1=true∧x.2.1.cP=v then ew l v++[(x.1,x.2.2)] else ew l v:=by
 unfold ew
 rw[List.filter_append]
 by_cases h:ud x.2.1=true∧x.2.1.cP=v
 ·rw[if_pos h]
  have:(ud x.2.1&&decide (x.2.1.cP=v))=true:=by rw[h.1,decide_eq_true h.2];rfl
  simp[List.filter_cons,this]
 ·rw[if_neg h]
  have:(ud x.2.1&&decide (x.2.1.cP=v))=false:=by
   rw[Bool.and_eq_false_iff]
   by_cases h1:ud x.2.1=true
   ·right;exact decide_eq_false fun e=>h ⟨h1,e⟩
   ·left;simpa using h1
  simp[List.filter_cons,this]
theorem FH {α:Type} {p:List α→Prop} (h0:p []) (h1:∀l x,p l→p (l++[x])) (l:List α):p l:=by
 have:∀r:List α,p r.reverse:=by
  intro r
  induction r with
  |nil=>exact h0
  |cons a r ih=>rw[List.reverse_cons];exact h1 _ _ ih
 rw[←List.reverse_reverse l];exact this _
theorem ry (l:List Acc) (v:Int):c8 (ij l) v=if ew l v=[] then none else some (iJ (ew l v)):=by
 revert v
 induction l using FH with
 |h0=>intro v;rfl
 |h1 l x ih=>
  intro v
  rw[ta,lG]
  by_cases ht:ud x.2.1=true
  ·rw[if_pos ht,gT]
   by_cases hv:x.2.1.cP=v
   ·rw[if_pos hv.symm,(nU l x v).trans (if_pos ⟨ht,hv⟩),if_neg (by simp),hv,ih v]
    have e:∀L:List (Nat×List Int),(if L=[] then none else some (iJ L)).getD (0,65535)=iJ L:=fun L=>by
     split
     ·rename_i h;rw[h];rfl
     ·rfl
    rw[e]
    simp[iJ]
   ·rw[if_neg (fun e=>hv e.symm),(nU l x v).trans (if_neg (fun h=>hv h.2)),ih v]
  ·rw[if_neg ht,(nU l x v).trans (if_neg (fun h=>ht h.1)),ih v]
theorem qV:∀(l:List (Nat×List Int)) (p:Nat×Nat) (j:Nat),(l.foldl (fun p x=>mG p x.1 x.2) p).1.testBit j=(p.1.testBit j||l.any fun x=>decide (x.1=j))∧(l.foldl (fun p x=>mG p x.1 x.2) p).2.testBit j=(p.2.testBit j&&l.all fun x=>x.2.any fun k=>decide (k.toNat=j))
 |[],p,j=>by simp
 |x::l,p,j=>by
  rw[List.foldl_cons]
  obtain⟨h1,h2⟩:=qV l (mG p x.1 x.2) j
  rw[h1,h2]
  simp only[mG,Nat.testBit_or,Nat.testBit_and,Nat.testBit_two_pow,CY,List.any_cons,List.all_cons,Bool.or_assoc,Bool.and_assoc,and_self]
theorem qB (l:List (Nat×List Int)) (j:Nat):(iJ l).1.testBit j=l.any fun x=>decide (x.1=j):=by
 rw[iJ,(qV l _ j).1];simp
theorem BX (j:Nat):(65535:Nat).testBit j=decide (j<16):=by
 have:=@Nat.testBit_two_pow_sub_one 16 j
 simpa using this
theorem yp (l:List (Nat×List Int)) (j:Nat):(iJ l).2.testBit j=(decide (j<16)&&l.all fun x=>x.2.any fun k=>decide (k.toNat=j)):=by
 rw[iJ,(qV l _ j).2,BX]
theorem BS {l:List (Nat×List Int)} (h:∀x∈l,x.1<8):(iJ l).1<256∧(iJ l).2<65536:=by
 refine⟨uN (m:=8) fun j hj=> ?_,uN (m:=16) fun j hj=> ?_⟩
 ·rw[qB,List.any_eq_true] at hj
  obtain⟨x,hx,e⟩:=hj
  rw[←of_decide_eq_true e];exact h x hx
 ·rw[yp,Bool.and_eq_true] at hj
  exact of_decide_eq_true hj.1
abbrev ctz (x:Nat):Nat:=Lib.ctz 32 x
theorem G7 {x:Nat} (h0:x≠0) (h:x<4294967296):x.testBit (ctz x)=true∧(∀j,j<ctz x→x.testBit j=false)∧ctz x<32:=by
 unfold ctz Lib.ctz
 rw[if_neg h0]
 obtain⟨m,hm,hk⟩:=Lib.ctzFrom_spec 32 x (Nat.pos_of_ne_zero h0) h
 generalize Lib.ctzFrom 32 x=k at *
 refine⟨?_,fun j hj=> ?_,hk⟩
 ·rw[hm,Nat.mul_comm,Nat.testBit_mul_two_pow];simp
 ·rw[hm,Nat.mul_comm,Nat.testBit_mul_two_pow];simp;omega
theorem B0 {x j:Nat} (h0:x<4294967296) (h:x.testBit j=true) (hl:∀i,i<j→x.testBit i=false):ctz x=j:=by
 have hx:x≠0:=fun e=>by rw[e,Nat.zero_testBit] at h;cases h
 obtain⟨h1,h2,_⟩:=G7 hx h0
 by_cases hj:j<ctz x
 ·rw[h2 j hj] at h;cases h
 ·by_cases hj2:ctz x<j
  ·rw[hl _ hj2] at h1;cases h1
  ·omega
theorem w3 {x:Nat} (h0:x≠0) (h:x<4294967296) (j:Nat):(x&&& (x - 1)).testBit j=(x.testBit j&&decide (j≠ctz x)):=by
 unfold ctz Lib.ctz
 rw[if_neg h0]
 obtain⟨m,hm,hk⟩:=Lib.ctzFrom_spec 32 x (Nat.pos_of_ne_zero h0) h
 generalize Lib.ctzFrom 32 x=k at *
 have e1:x - 1=2^k * (2 * m)+(2^k - 1):=by
  rw[hm,Nat.mul_add,Nat.mul_one]
  have:=Nat.one_le_two_pow (n:=k)
  omega
 have hlt:2^k - 1<2^k:=by have:=Nat.one_le_two_pow (n:=k);omega
 rw[Nat.testBit_and,e1,Nat.testBit_two_pow_mul_add _ hlt]
 by_cases hj:j<k
 ·rw[if_pos hj,Nat.testBit_two_pow_sub_one,decide_eq_true hj,Bool.and_true,decide_eq_true (by omega),Bool.and_true]
 ·rw[if_neg hj]
  have e2:x.testBit j=(2 * m+1).testBit (j - k):=by
   rw[hm,Nat.mul_comm,Nat.testBit_mul_two_pow,decide_eq_true (by omega)];simp
  rw[e2]
  by_cases e:j=k
  ·subst e;simp
  ·obtain⟨i,hi⟩:∃i,j - k=i+1:=⟨j - k - 1,by omega⟩
   rw[hi,Nat.testBit_succ,Nat.testBit_succ,show(2 * m+1) /2=m by omega,show(2 * m) /2=m by omega,decide_eq_true e]
   simp
theorem pred_lt {x:Nat} (h0:x≠0):x&&& (x - 1)<x:=by
 have:x&&& (x - 1)≤x - 1:=Nat.and_le_right
 omega
def sf:Nat→Nat→List Int
 |0,_=>[]
 |f+1,x=>if x=0 then[] else(ctz x:Int)::sf f (x&&& (x - 1))
def bits (x:Nat):List Int:=sf x x
theorem nA:∀(f x:Nat),x≤f→sf f x=bits x
 |0,x,h=>by have:x=0:=by omega
            subst this;rfl
 |f+1,x,h=>by
  by_cases h0:x=0
  ·subst h0;rfl
  ·obtain⟨y,rfl⟩:∃y,x=y+1:=⟨x - 1,by omega⟩
   have:=pred_lt h0
   rw[sf,if_neg h0,bits,sf,if_neg h0,nA f _ (by omega),nA y _ (by omega)]
theorem o6 {x:Nat} (h0:x≠0):bits x=(ctz x:Int)::bits (x&&& (x - 1)):=by
 obtain⟨y,rfl⟩:∃y,x=y+1:=⟨x - 1,by omega⟩
 have:=pred_lt h0
 rw[bits,sf,if_neg h0,nA y _ (by omega)]
def qb (p:Nat×Nat):cB:=if p.1=0 then⟨0,0,0⟩ else if p.1&&& (p.1 - 1)=0 then⟨1,ctz p.1,0⟩ else if p.2≠0 then⟨2,0,ctz p.2⟩ else⟨3,0,0⟩
def v8 (tl:List (Nat×List Int)) (l:Nat):Bool:=tl.all fun x=>x.2.any fun k=>decide (k=(l:Int))
def l7 (bx:Nat) (tl:List (Nat×List Int)):cB:=
 match tl with
 |[]=>⟨0,0,0⟩
 |(t,l)::r=>if(r.all fun x=>decide (x.1=t))=true then⟨1,t,0⟩ else match(List.range bx).find? (v8 ((t,l)::r)) with
  |some k=>⟨2,0,k⟩
  |none=>⟨3,0,0⟩
theorem z6 {bx:Nat} {tl:List (Nat×List Int)} (hl:bx≤16) (ht:∀x∈tl,x.1<8∧∀k∈x.2,0≤k∧k<bx):qb (if tl=[] then(0,0) else iJ tl)=l7 bx tl:=by
 match tl,ht with
 |[],_=>rfl
 |(t,l)::r,ht=>
  rw[if_neg (by simp)]
  have hlt:=BS (l:=(t,l)::r) fun x hx=>(ht x hx).1
  have h1:(iJ ((t,l)::r)).1.testBit t=true:=by rw[qB];simp
  have hne:(iJ ((t,l)::r)).1≠0:=fun e=>by rw[e,Nat.zero_testBit] at h1;cases h1
  have hg:∀j,(iJ ((t,l)::r)).2.testBit j=(decide (j<16)&&v8 ((t,l)::r) j):=fun j=>by
   rw[yp]
   congr 1
   unfold v8
   rw[Bool.eq_iff_iff,List.all_eq_true,List.all_eq_true]
   refine forall_congr' fun x=>forall_congr' fun hx=> ?_
   rw[List.any_eq_true,List.any_eq_true]
   refine exists_congr fun k=>and_congr_right fun hk=> ?_
   have:=((ht x hx).2 k hk).1
   rw[decide_eq_true_eq,decide_eq_true_eq];omega
  unfold qb l7
  rw[if_neg hne]
  simp only
  by_cases hs:(r.all fun x=>decide (x.1=t))=true
  ·rw[if_pos hs]
   have hall:∀j,(iJ ((t,l)::r)).1.testBit j=decide (j=t):=fun j=>by
    rw[qB,Bool.eq_iff_iff,List.any_eq_true,decide_eq_true_eq]
    constructor
    ·rintro⟨x,hx,e⟩
     rcases List.mem_cons.1 hx with rfl|hx
     ·exact(of_decide_eq_true e).symm
     ·rw[←of_decide_eq_true e];exact of_decide_eq_true (List.all_eq_true.1 hs x hx)
    ·rintro rfl;exact⟨(j,l),by simp,by simp⟩
   have hc:ctz (iJ ((t,l)::r)).1=t:=B0 (by omega) h1 fun i hi=>by rw[hall];exact decide_eq_false (by omega)
   have hz:(iJ ((t,l)::r)).1&&& ((iJ ((t,l)::r)).1 - 1)=0:=Nat.eq_of_testBit_eq fun j=>by
    rw[w3 hne (by omega),hall,hc,Nat.zero_testBit]
    by_cases e:j=t<;>simp[e]
   rw[if_pos hz,hc]
  ·rw[if_neg hs]
   have hz:¬(iJ ((t,l)::r)).1&&& ((iJ ((t,l)::r)).1 - 1)=0:=fun hz=>by
    apply hs
    have one:∀j,(iJ ((t,l)::r)).1.testBit j=true→j=ctz (iJ ((t,l)::r)).1:=fun j hj=>by
     have:=w3 hne (by omega) j
     rw[hz,Nat.zero_testBit,hj,Bool.true_and] at this
     exact Classical.byContradiction fun h=>by rw[decide_eq_true h] at this;cases this
    have ht0:=one t h1
    rw[List.all_eq_true]
    intro x hx
    have:(iJ ((t,l)::r)).1.testBit x.1=true:=by
     rw[qB,List.any_eq_true];exact⟨x,List.mem_cons_of_mem _ hx,by simp⟩
    rw[decide_eq_true_eq,one x.1 this,←ht0]
   rw[if_neg hz]
   cases hf:(List.range bx).find? (v8 ((t,l)::r)) with
   |none=>
    have hz2:(iJ ((t,l)::r)).2=0:=Nat.eq_of_testBit_eq fun j=>by
     rw[hg,Nat.zero_testBit]
     by_cases hj:j<bx
     ·have:=List.find?_eq_none.1 hf j (List.mem_range.2 hj)
      simp only[Bool.not_eq_true] at this
      rw[this,Bool.and_false]
     ·have hnb:v8 ((t,l)::r) j=false:=by
       rw[Bool.eq_false_iff,ne_eq]
       intro h
       have h2:=List.all_eq_true.1 h (t,l) (by simp)
       rw[List.any_eq_true] at h2
       obtain⟨k,hk,e⟩:=h2
       have e:=of_decide_eq_true e
       have:=((ht (t,l) (by simp)).2 k hk).2
       omega
      rw[hnb,Bool.and_false]
    rw[hz2];rfl
   |some k=>
    obtain⟨hk1,hk2⟩:=List.find?_eq_some_iff_append.1 hf
    obtain⟨pre,bs,eab,hno⟩:=hk2
    have hkm:k∈List.range bx:=by rw[eab];simp
    have hkl:=List.mem_range.1 hkm
    have hkl2:pre.length=k:=by
     have h1:(List.range bx)[pre.length]?=some k:=by rw[eab];simp
     rw[List.getElem?_range] at h1
     ·cases h1;rfl
     ·have:=congrArg List.length eab
      simp at this;omega
    have hbit:(iJ ((t,l)::r)).2.testBit k=true:=by rw[hg,hk1,decide_eq_true (by omega)];rfl
    have hne2:(iJ ((t,l)::r)).2≠0:=fun e=>by rw[e,Nat.zero_testBit] at hbit;cases hbit
    rw[if_pos hne2]
    have hc:ctz (iJ ((t,l)::r)).2=k:=B0 (by omega) hbit fun i hi=>by
     have him:i∈pre:=by
      have h1:(List.range bx)[i]?=some i:=by rw[List.getElem?_range (by omega)]
      rw[eab,List.getElem?_append_left (by omega)] at h1
      exact List.mem_of_getElem? h1
     have:=hno i him
     simp only[Bool.not_eq_true',] at this
     rw[hg,this,Bool.and_false]
    rw[hc]
noncomputable def cq (u:bq):List cB:=(List.range u.shared.length).map fun(v:Nat)=>l7 u.bx.length (ew (gn u u.bp.length) v)
end Go.Proofs.YtmonponfppdgfaaGreatDoor
end
section
/- Lists that are handed back; small functions. -/
namespace Go.ck
open Go.RowKit
theorem aF {α:Type} {g:Option Bool} {x:Option α} {K:α→Prop} {a:α} (h:Gd g→x=some a) (k:Go (K a)):kB g x K:=kB.of h k
theorem dA.refl (c:Cx):∀bs:List AV,dA c c bs bs
 |[]=> .nil
 |_::bs=> .cons (fun _ hv=>hv) (dA.refl c bs)
theorem dA.map {α:Type} {c:Cx} {f g:α→AV} (h:∀a,dZ c c (f a) (g a)):∀l:List α,dA c c (l.map f) (l.map g)
 |[]=> .nil
 |a::l=> .cons (h a) (dA.map h l)
theorem Pure.args {P:Program} {f:FuncId} {bs bs2:List AV} {R:AV→Prop} (h:Pure P f bs2 R) (hle:∀c,dA c c bs bs2):Pure P f bs R:=
 ⟨h.1,fun M w vs hM hv=>h.2 M w vs hM ((hle _).ME hv)⟩
theorem cM.args {P:Program} {f:FuncId} {bs bs2:List AV} {H:Hp} {nx:Nat} {R:AV→Hp→Nat→Prop} (h:cM P f bs2 H nx R) (hle:∀c,dA c c bs bs2):cM P f bs H nx R:=
 ⟨h.1,fun w0 c vs h1 h2 h3 hv=>h.2 w0 c vs h1 h2 h3 ((hle _).ME hv)⟩
theorem dZ.lu (c c2:Cx) (sz:Nat) (d:AV):dZ c c2 (.sc (.slice none 0 0)) (.im sz d []):=by
 intro v hv
 rw[VR] at hv
 subst hv
 rw[VR]
 exact⟨none,0,rfl,by simp, .inl rfl⟩
def mo (H:Hp) (nx:Nat) (e:TypeId) (sz:Nat) (es:List AV):AV→Hp→Nat→Prop:=fun r H' n=>∃b' d',r= .sl b' es.length∧nx≤b'∧b'<n∧nx≤n∧bj H' b'=some (.row e sz d' es)∧∀b,b<nx→bj H' b=bj H b
theorem mo.of {P:Program} {f:FuncId} {args:List AV} {H:Hp} {nx:Nat} {e:TypeId} {sz:Nat} {es:List AV} (hsz:0<sz) (h:cM P f args H nx (fun r H' n=>(r= .sc (.slice none 0 0)∧es=[]∧nx≤n∧∀b,b<nx→bj H' b=bj H b)∨mo H nx e sz es r H' n)):cM P f args H nx (mo H nx e sz es):=by
 refine h.wk ?_
 rintro r H' n (⟨rfl,rfl,h1,h2⟩|h1)
 ·refine⟨_,_,_,Wk.nil (nx:=n) e sz .any hsz,n, .any,rfl,h1,Nat.lt_succ_self _,by omega,cj _ _ _,fun b hb=> ?_⟩
  rw[cS (by omega)];exact h2 b hb
 ·exact⟨r,H',n,Wk.refl _ _ _,h1⟩
end Go.ck
namespace Go.Proofs.YtmonponfppdgfaaGreatDoor
open Go Go.ck Go.Proofs
set_option linter.unusedSimpArgs false
set_option linter.unusedVariables false
def dN (l:List Int):AV:= .im 1 .any (l.map i64)
def fg (l:List Bool):AV:= .im 1 .any (l.map bl)
theorem cV {P:Program} {f:FuncId} {args:List AV} {u:AV} (h:cM P f args [] 0 (fun r H _=>ck.dw H 6 r=u)) (hf:cG 0 u):Pure P f args (fun r=>r=u):=by
 refine⟨h.1,fun M w vs hM hv=> ?_⟩
 have hS:dS w ⟨fun _=>none,bj [],fun _=>False,w,M⟩:=⟨⟨rfl,rfl,rfl,Nat.le_refl _,fun _ _=>rfl⟩,hM,fun b e sz d es he=>by simp[bj] at he,fun b b' k k' blk o z o' z' hk=>by simp[bj] at hk⟩
 refine(h.2 w _ vs hS rfl (fun _ h=>h.elim) hv).mono ?_
 rintro en w' ⟨v1,r1,H1,nx',ρ,U,he,hz,hU,hS',_,g2⟩
 have h3:=kR hS' rfl 6 (a:=r1) (v:=v1) (by rw[hz];exact hf) g2
 rw[hz] at h3
 exact⟨v1,_,he,rfl,hf,h3,hS'.below⟩
theorem pure_or {P:Program} {f:FuncId} {args:List AV} {u v:AV} (h:cM P f args [] 0 (fun r H _=>ck.dw H 6 r=u∨ck.dw H 6 r=v)) (hu:cG 0 u) (hv:cG 0 v):Pure P f args (fun r=>r=u∨r=v):=by
 refine⟨h.1,fun M w vs hM hv'=> ?_⟩
 have hS:dS w ⟨fun _=>none,bj [],fun _=>False,w,M⟩:=⟨⟨rfl,rfl,rfl,Nat.le_refl _,fun _ _=>rfl⟩,hM,fun b e sz d es he=>by simp[bj] at he,fun b b' k k' blk o z o' z' hk=>by simp[bj] at hk⟩
 refine(h.2 w _ vs hS rfl (fun _ h=>h.elim) hv').mono ?_
 rintro en w' ⟨v1,r1,H1,nx',ρ,U,he,hz,hU,hS',_,g2⟩
 rcases hz with hz|hz
 ·have h3:=kR hS' rfl 6 (a:=r1) (v:=v1) (by rw[hz];exact hu) g2
  rw[hz] at h3
  exact⟨v1,_,he, .inl rfl,hu,h3,hS'.below⟩
 ·have h3:=kR hS' rfl 6 (a:=r1) (v:=v1) (by rw[hz];exact hv) g2
  rw[hz] at h3
  exact⟨v1,_,he, .inr rfl,hv,h3,hS'.below⟩
theorem mR {P:Program} {f:FuncId} {args:List AV} {u v:AV} (h:Pure P f args (fun r=>r=u∨r=v)) (hv:cG 0 v) (hle:∀c,dZ c c u v):Pure P f args (fun r=>r=v):=
 ⟨h.1,fun M w vs hM hv'=>(h.2 M w vs hM hv').mono fun en w' ⟨x,r,h2,h3,h4,h5,h6⟩=>by
  rcases h3 with rfl|rfl
  ·exact⟨x,_,h2,rfl,hv,hle _ _ h5,h6⟩
  ·exact⟨x,_,h2,rfl,hv,h5,h6⟩⟩
theorem oK {P:Program} {f:FuncId} {args:List AV} {sz:Nat} {es:List AV} (hf:cG 0 (.im sz .any es)) (h:cM P f args [] 0 (fun r H _=>ck.dw H 6 r= .sc (.slice none 0 0)∧es=[]∨ck.dw H 6 r= .im sz .any es)):Pure P f args (fun r=>r= .im sz .any es):=by
 by_cases hl:es=[]
 ·subst hl
  exact mR (pure_or (h.mono fun r H n h=>h.imp (·.1) id) (by simp[cG,cL]) hf) hf (fun c=>ck.dZ.lu c c _ _)
 ·exact cV (h.mono fun r H n h=>h.elim (fun h=>absurd h.2 hl) id) hf
theorem ky (op:Int):Pure Tryz.prog 110 [u8 op] (fun r=>r=bl (decide (0<op∧op<19))):=by
 refine aI wB rfl ?_
 repeat' (first|((with_reducible refine aE ?_);conv=>whnf)|refine aG ?_|exact aC|with_reducible refine aD ?_ ?_|(apply aA;(·exact bm))|refine aH ?_|((with_reducible refine aB ?_ ?_)<;>intro hc<;>(try simp only[List.length_map,ne_eq,cD] at hc)<;>try(exfalso;omega)))
 simp only[decide_eq_true_eq]
 exact cf (by by_cases h:0<op<;>simp[h])
theorem fF (op:Int):Pure Tryz.prog 94 [u8 op] (fun r=>r=bl (dr op)):=by
 refine aI FC rfl ?_
 repeat' (first|((with_reducible refine aE ?_);conv=>whnf)|refine aG ?_|exact aC|with_reducible refine aD ?_ ?_|(apply aA;(·exact bm))|refine aH ?_|((with_reducible refine aB ?_ ?_)<;>intro hc<;>(try simp only[List.length_map,ne_eq,cD] at hc)<;>try(exfalso;omega)))
 all_goals simp_all[dr,cD]
theorem eJ (c:Int):Pure Tryz.prog 104 [u8 c] (fun r=>r=bl (decide (48≤c)&&decide (c≤57))):=by
 refine aI vv rfl ?_
 repeat' (first|((with_reducible refine aE ?_);conv=>whnf)|refine aG ?_|exact aC|with_reducible refine aD ?_ ?_|(apply aA;(·exact bm))|refine aH ?_|((with_reducible refine aB ?_ ?_)<;>intro hc<;>(try simp only[List.length_map,ne_eq,cD] at hc)<;>try(exfalso;omega)))
 all_goals simp_all[cD]
set_option maxHeartbeats 1000000 in
theorem ku (n:Node):Pure Tryz.prog 90 [n.av] (fun r=>r=dN n.fold):=by
 refine oK (by simp[cG,cJ]) ?_
 refine aL E8 rfl ?_
 repeat' (first|((with_reducible refine aE ?_);conv=>whnf)|refine aG ?_|exact cN|with_reducible refine aD ?_ ?_|((with_reducible refine Ask.mk ?_);first|exact bw|exact br|(intro h;simp_all[Node.cells]<;>fail)|(simp_all[Node.cells]<;>fail))|(apply aA;(·exact bm))|refine aH ?_|((with_reducible refine aB ?_ ?_)<;>intro hc<;>(try simp only[List.length_map,ne_eq,cD] at hc)<;>try(exfalso;omega)))
 all_goals refine⟨?_⟩
 all_goals first|exact .inl ⟨rfl,by simp_all[Node.fold]⟩|(refine .inr ((dG bk (by simp)).trans ?_);rw[cc _ (by simp[cL,cG])];first|(simp_all[dN,Node.fold];done)|(unfold Node.fold;rw[if_neg (by assumption),if_neg (fun h=>hc.elim (fun a=>a h.1) (fun a=>h.2 a))];rfl))
set_option maxHeartbeats 1000000 in
theorem sI (n:Node):Pure Tryz.prog 76 [n.av] (fun r=>r=dN n.fold):=by
 refine oK (by simp[cG,cJ]) ?_
 refine aL ET rfl ?_
 repeat' (first|((with_reducible refine aE ?_);conv=>whnf)|refine aG ?_|exact cN|with_reducible refine aD ?_ ?_|((with_reducible refine Ask.mk ?_);first|exact bw|exact br|(intro h;simp_all[Node.cells]<;>fail)|(simp_all[Node.cells]<;>fail))|(apply aA;(·exact bm))|refine aH ?_|((with_reducible refine aB ?_ ?_)<;>intro hc<;>(try simp only[List.length_map,ne_eq,cD] at hc)<;>try(exfalso;omega)))
 all_goals refine⟨?_⟩
 all_goals first|exact .inl ⟨rfl,by simp_all[Node.fold]⟩|(refine .inr ((dG bk (by simp)).trans ?_);rw[cc _ (by simp[cL,cG])];first|(simp_all[dN,Node.fold];done)|(unfold Node.fold;rw[if_neg (by assumption),if_neg (fun h=>hc.elim (fun a=>a h.1) (fun a=>h.2 a))];rfl))
set_option maxHeartbeats 1000000 in
theorem ft (n:Node):Pure Tryz.prog 49 [n.av] (fun r=>r=dN n.dJ):=by
 refine oK (by simp[cG,cJ]) ?_
 refine aL D4 rfl ?_
 repeat' (first|((with_reducible refine aE ?_);conv=>whnf)|refine aG ?_|exact cN|with_reducible refine aD ?_ ?_|((with_reducible refine Ask.mk ?_);first|exact bw|exact br|(intro h;simp_all[Node.cells]<;>fail)|(simp_all[Node.cells]<;>fail))|(apply aA;(·exact bm))|refine aH ?_|((with_reducible refine aB ?_ ?_)<;>intro hc<;>(try simp only[List.length_map,ne_eq,cD] at hc)<;>try(exfalso;omega)))
 all_goals refine⟨?_⟩
 all_goals first|exact .inl ⟨rfl,by simp_all[Node.dJ]⟩|(refine .inr ((dG bk (by simp)).trans ?_);rw[cc _ (by simp[cL,cG])];simp_all[dN,Node.dJ])
end Go.Proofs.YtmonponfppdgfaaGreatDoor
end
section
/- Is a node right? -/
namespace Go.Proofs.YtmonponfppdgfaaGreatDoor
open Go Go.ck Go.Proofs
set_option linter.unusedSimpArgs false
set_option linter.unusedVariables false
theorem pB {f:FuncId} {args:List AV} {u:AV} (hu:cG 0 u) (h:(tg TT 30 f args [] 0).map (fun q=>dw q.2.1 6 q.1)=some u):Pure Tryz.prog f args (fun r=>r=u):=by
 simp only[Option.map_eq_some_iff] at h
 obtain⟨⟨r,H',nx'⟩,h1,h2⟩:=h
 simp only at h2
 have h0:=nV M4 30 _ _ _ _ _ _ _ h1
 have h3:=cM.pure (H':=H') (h0.mono fun r H n ⟨h1,h2,_⟩=>⟨h1,h2⟩) (by rw[h2];exact hu)
 exact h3.mono fun r hr=>by rw[hr,h2]
theorem oQ (op:Int) (h0:0≤op):Pure Tryz.prog 98 [u8 op] (fun r=>r=bl (dr op)):=by
 refine aI FG rfl ?_
 repeat' (first|((with_reducible refine aE ?_);conv=>whnf)|refine aG ?_|exact aC|with_reducible refine aD ?_ ?_|(apply aA;(·exact bm))|((with_reducible refine aQ (ky _) ?_ ?_);(·exact cO))|((with_reducible refine aM (fun _=>ky _) ?_ ?_);(·exact cO))|((with_reducible refine aO (ky _) ?_ ?_);(·exact cO))|((with_reducible refine aP (fun _=>ky _) ?_ ?_);(·exact cO))|refine aH ?_|((with_reducible refine aB ?_ ?_)<;>intro hc<;>(try simp only[List.length_map,ne_eq,cD] at hc)<;>try(exfalso;omega)))
 refine cf ?_
 unfold dr
 by_cases h1:0<op<;>by_cases h2:op<19<;>by_cases h3:op=17<;>by_cases h4:op=18<;>simp[h1,h2,h3,h4]<;>omega
def mask (k op:Int):Int:=if k=1 then(if dr op=true then 59 else 43) else if k=2 then 38 else if k=3 then 44 else if k=4 then 46 else if k=5 then 36 else if k=6 then 36 else if k=7 then 40 else if k=8 then 104 else 0
set_option maxRecDepth 100000 in
theorem yJ (n:Node) (hn:n.Wf) (h:1≤n.kind∧n.kind<10):Pure Tryz.prog 86 [n.av] (fun r=>r=u8 (mask n.kind n.op)):=by
 obtain⟨h0,h1⟩:=h
 have ho:=hn.op.1
 obtain⟨kind,op,slot,cP,a,b,next,jS,origin⟩:=n
 simp only at h0 h1 ho
 have hk:kind=1∨kind=2∨kind=3∨kind=4∨kind=5∨kind=6∨kind=7∨kind=8∨kind=9:=by omega
 rcases hk with rfl|rfl|rfl|rfl|rfl|rfl|rfl|rfl|rfl
 ·refine aI E4 rfl ?_
  repeat' (first|((with_reducible refine aE ?_);conv=>whnf)|refine aG ?_|exact aC|with_reducible refine aD ?_ ?_|(apply aA;(·exact bm))|((with_reducible refine aQ (oQ _ ho) ?_ ?_);(·exact cO))|((with_reducible refine aM (fun _=>oQ _ ho) ?_ ?_);(·exact cO))|((with_reducible refine aO (oQ _ ho) ?_ ?_);(·exact cO))|((with_reducible refine aP (fun _=>oQ _ ho) ?_ ?_);(·exact cO))|refine aH ?_|((with_reducible refine aB ?_ ?_)<;>intro hc<;>(try simp only[List.length_map,ne_eq,cD] at hc)<;>try(exfalso;omega)))
  all_goals
   cases ht:dr op with
   |true=>
    rw[ht] at hc
    first|(exact absurd rfl hc)|(exact absurd hc (by decide))|(simp only[show mask 1 op=59 by simp[mask,ht]];try kernel_rfl)
   |false=>
    rw[ht] at hc
    first|(exact absurd rfl hc)|(exact absurd hc (by decide))|(simp only[show mask 1 op=43 by simp[mask,ht]];try kernel_rfl)
 iterate 8 exact pB (by simp[cG,cL]) (by kernel_rfl)
theorem lK.default_eq:(default:lK)=⟨false,0,0⟩:=rfl
def jH (m u:Int):Int:=IntKind.u8.wrap (BitVec.ofInt IntKind.u8.bits m&&& BitVec.ofInt IntKind.u8.bits u).toNat
theorem ph (k u most m:Int) (b:Nat) (H:Hp) (nx:Nat) (e:TypeId) (d:AV) (hb:bj H b=some (.row e 1 d [u8 m])):kC Tryz.prog 87 [i64 k,u8 u,i64 most, .pt b 1 0 0] H nx (bl (nN k (decide (jH m u≠0)) most)):=by
 refine aU E5 rfl ?_
 repeat' (first|((with_reducible refine aE ?_);conv=>whnf)|refine aG ?_|exact aC|with_reducible refine aD ?_ ?_|(apply aA;(·exact bm))|refine aH ?_|((with_reducible refine aB ?_ ?_)<;>intro hc<;>(try simp only[List.length_map,ne_eq,cD] at hc)<;>try(exfalso;omega)))
 refine pk.look ?_ jk
 simp only[show IntKind.u8.wrap (BitVec.ofInt IntKind.u8.bits m&&& BitVec.ofInt IntKind.u8.bits u).toNat=jH m u from rfl,nN]
 by_cases h1:jH m u=0<;>by_cases h2:k=0<;>by_cases h3:0≤k<;>by_cases h4:k<most<;>simp[h1,h2,h3,h4]
theorem rz (v:lK) (u m:Int) (g:bo) (b c:Nat) (H:Hp) (nx:Nat) (e e2:TypeId) (d d2:AV) (hb:bj H b=some (.row e 1 d [u8 m])) (hc:bj H c=some (.row e2 4 d2 [g.av])) (hbn:b<nx) (hcn:c<nx):kC Tryz.prog 88 [v.av,u8 u, .pt b 1 0 0, .pt c 1 0 0] H nx (bl (pF v (decide (jH m u≠0)) g.cd)):=by
 refine aU E6 rfl ?_
 repeat' (first|((with_reducible refine aE ?_);conv=>whnf)|refine aG ?_|exact cN|with_reducible refine aD ?_ ?_|((with_reducible refine Ask.mk ?_);first|exact bw|exact br|(intro h;simp_all[lK.cells,bo.cells]<;>fail)|(simp_all[lK.cells,bo.cells]<;>fail))|(apply aA;(·exact bm))|refine aH ?_|((with_reducible refine aB ?_ ?_)<;>intro hc<;>(try simp only[List.length_map,ne_eq,cD] at hc)<;>try(exfalso;omega)))
 all_goals refine pk.look ?_ jk
 all_goals simp only[show IntKind.u8.wrap (BitVec.ofInt IntKind.u8.bits m&&& BitVec.ofInt IntKind.u8.bits u).toNat=jH m u from rfl] at *
 all_goals unfold pF
 ·rw[if_neg (show ¬decide (jH m u≠0)=true by simp[hc])]
  obtain⟨is,sl,wo⟩:=v
  refine cf ?_
  rw[Bool.eq_iff_iff]
  simp[lK.default_eq,and_assoc]
 ·rename_i h0
  rw[decide_eq_true hc,if_pos rfl,if_pos h0]
  refine cf ?_
  by_cases h1:0≤v.slot<;>by_cases h2:v.slot<g.cd<;>simp[h1,h2]
 ·rename_i h0
  rw[decide_eq_true hc,if_pos rfl,if_neg (by rw[h0];decide)]
theorem AO (k op:Int) (h:1≤k∧k<10):(jH (mask k op) 1=0↔¬k=1)∧(decide (jH (mask k op) 2≠0)=gI k)∧(decide (jH (mask k op) 4≠0)=fV k)∧(decide (jH (mask k op) 8≠0)=lR k)∧(decide (jH (mask k op) 16≠0)=(decide (k=1)&&dr op))∧(decide (jH (mask k op) 32≠0)=eG k)∧(decide (jH (mask k op) 64≠0)=decide (k=8)):=by
 have hk:k=1∨k=2∨k=3∨k=4∨k=5∨k=6∨k=7∨k=8∨k=9:=by omega
 rcases hk with rfl|rfl|rfl|rfl|rfl|rfl|rfl|rfl|rfl
 ·cases ht:dr op with
  |false=>rw[show mask 1 op=43 by simp[mask,ht]];decide
  |true=>rw[show mask 1 op=59 by simp[mask,ht]];decide
 ·rw[show mask 2 op=38 by rfl,show(decide ((2:Int)=1)&&dr op)=false by rfl];decide
 ·rw[show mask 3 op=44 by rfl,show(decide ((3:Int)=1)&&dr op)=false by rfl];decide
 ·rw[show mask 4 op=46 by rfl,show(decide ((4:Int)=1)&&dr op)=false by rfl];decide
 ·rw[show mask 5 op=36 by rfl,show(decide ((5:Int)=1)&&dr op)=false by rfl];decide
 ·rw[show mask 6 op=36 by rfl,show(decide ((6:Int)=1)&&dr op)=false by rfl];decide
 ·rw[show mask 7 op=40 by rfl,show(decide ((7:Int)=1)&&dr op)=false by rfl];decide
 ·rw[show mask 8 op=104 by rfl,show(decide ((8:Int)=1)&&dr op)=false by rfl];decide
 ·rw[show mask 9 op=0 by rfl,show(decide ((9:Int)=1)&&dr op)=false by rfl];decide
set_option maxRecDepth 4000 in
set_option maxHeartbeats 2000000 in
theorem yU (u:bq) (g:bo) (n:Node) (hn:n.Wf):Pure Tryz.prog 52 [u.av,g.av,n.av] (fun r=>r=bl (iD u g n)):=by
 refine aI D7 rfl ?_
 have h0:=hn.kind.1
 have ho:=hn.op.1
 by_cases hk:1≤n.kind∧n.kind<10∧0≤n.origin∧n.origin<4096
 ·have hp:=yJ n hn ⟨hk.1,hk.2.1⟩
  obtain⟨m1,m2,m3,m4,m5,m6,m7⟩:=AO n.kind n.op ⟨hk.1,hk.2.1⟩
  repeat' (first|((with_reducible refine aE ?_);conv=>whnf)|refine aG ?_|exact cN|with_reducible refine aD ?_ ?_|((with_reducible refine Ask.mk ?_);first|exact bw|exact br|(intro h;simp_all[bq.cells,bo.cells,Node.cells]<;>fail)|(simp_all[bq.cells,bo.cells,Node.cells]<;>fail))|(apply aA;(·exact bm))|refine aK (hp) ?_|((refine aT (ph _ _ _ _ _ _ _ _ _ (by exact rfl)) ?_ ?_);(·exact True.intro))|((refine aS (fun _=>ph _ _ _ _ _ _ _ _ _ (by exact rfl)) ?_ ?_);(·exact True.intro))|((refine aT (rz ⟨_,_,_⟩ _ _ _ _ _ _ _ _ _ _ _ (by exact rfl) (by exact rfl) cI cI) ?_ ?_);(·exact True.intro))|((refine aS (fun _=>rz ⟨_,_,_⟩ _ _ _ _ _ _ _ _ _ _ _ (by exact rfl) (by exact rfl) cI cI) ?_ ?_);(·exact True.intro))|refine aH ?_|((with_reducible refine aB ?_ ?_)<;>intro hc<;>(try simp only[List.length_map,ne_eq,cD] at hc)<;>try(exfalso;omega)))
  all_goals
   have hop:nN (IntKind.i64.wrap n.op) (decide (jH (mask n.kind n.op) 1≠0)) 19=(if n.kind=1 then decide (n.op<19) else decide (n.op=0)):=by
    have h2:=hn.op.2
    rw[wrap64 (by omega) (by omega)]
    unfold nN
    by_cases h1:n.kind=1
    ·rw[if_pos h1,if_pos (show decide (jH (mask n.kind n.op) 1≠0)=true by rw[decide_eq_true_eq];exact fun h=>m1.1 h h1),decide_eq_true ho,Bool.true_and]
    ·rw[if_neg h1,if_neg (show ¬decide (jH (mask n.kind n.op) 1≠0)=true by rw[decide_eq_true_eq];exact fun h=>h (m1.2 h1))]
   refine cf ?_
   rw[hop,m2,m3,m4,m5,m6,m7]
   unfold iD
   rw[decide_eq_true hk,Bool.true_and]
   simp only[hc,if_true,if_false,or_self,Bool.if_false_right,Bool.decide_eq_true,Bool.and_assoc]
   simp only[List.length_map]
   generalize nN n.slot (gI n.kind) g.cd=x1
   have ea:(⟨n.a.dk,n.a.slot,n.a.word⟩:lK)=n.a:=rfl
   have eb:(⟨n.b.dk,n.b.slot,n.b.word⟩:lK)=n.b:=rfl
   rw[ea,eb]
   generalize pF n.a (lR n.kind) g.cd=x2
   generalize pF n.b (decide (n.kind=1)&&dr n.op) g.cd=x3
   generalize nN n.next (eG n.kind) g.nodes.length=x4
   generalize nN n.jS (decide (n.kind=8)) g.nodes.length=x5
   revert x1 x2 x3 x4 x5
   intro x1 x2 x3 x4 x5
   cases x1<;>cases x2<;>cases x3<;>cases x4<;>cases x5<;>simp
 ·have hb:iD u g n=false:=by unfold iD;rw[decide_eq_false hk];simp
  rw[hb]
  repeat' (first|((with_reducible refine aE ?_);conv=>whnf)|refine aG ?_|exact cN|with_reducible refine aD ?_ ?_|((with_reducible refine Ask.mk ?_);first|exact bw|exact br|(intro h;simp_all[bq.cells,bo.cells,Node.cells]<;>fail)|(simp_all[bq.cells,bo.cells,Node.cells]<;>fail))|(apply aA;(·exact bm))|refine aH ?_|((with_reducible refine aB ?_ ?_)<;>intro hc<;>(try simp only[List.length_map,ne_eq,cD] at hc)<;>try(exfalso;omega)))
  exact rfl
end Go.Proofs.YtmonponfppdgfaaGreatDoor
end
section
/- Names. -/
namespace Go.Proofs.YtmonponfppdgfaaGreatDoor
open Go Go.ck Go.Proofs
set_option linter.unusedSimpArgs false
set_option linter.unusedVariables false
def fC (c:Int):Bool:=decide (48≤c)&&decide (c≤57)
def gu (c:Int):Bool:=decide (97≤c)&&decide (c≤122)||decide (65≤c)&&decide (c≤90)||decide (c=95)
def yi:List ByteArray:=[⟨(List.toArray [115,104,97,114,101,100])⟩,⟨(List.toArray [108,111,99,107])⟩,⟨(List.toArray [116,104,114,101,97,100])⟩,⟨(List.toArray [108,111,99,97,108])⟩,⟨(List.toArray [105,102])⟩,⟨(List.toArray [101,108,115,101])⟩,⟨(List.toArray [119,104,105,108,101])⟩,⟨(List.toArray [112,114,105,110,116])⟩,⟨(List.toArray [115,107,105,112])⟩,⟨(List.toArray [115,119,97,112])⟩]
def lS (s:ByteArray):Bool:=yi.any (s==·)
theorem dx (c:Int):Pure Tryz.prog 106 [u8 c] (fun r=>r=bl (gu c)):=by
 refine aI vx rfl ?_
 repeat' (first|((with_reducible refine aE ?_);conv=>whnf)|refine aG ?_|exact aC|with_reducible refine aD ?_ ?_|(apply aA;(·exact bm))|refine aH ?_|((with_reducible refine aB ?_ ?_)<;>intro hc<;>(try simp only[List.length_map,ne_eq,cD] at hc)<;>try(exfalso;omega)))
 refine cf ?_
 unfold gu
 by_cases h1:97≤c<;>by_cases h2:c≤122<;>by_cases h3:65≤c<;>by_cases h4:c≤90<;>by_cases h5:c=95<;>simp[h1,h2,h3,h4,h5]
theorem gb (s:ByteArray):Pure Tryz.prog 105 [st s] (fun r=>r=bl (lS s)):=by
 refine aI vw rfl ?_
 repeat' (first|((with_reducible refine aE ?_);conv=>whnf)|refine aG ?_|exact aC|with_reducible refine aD ?_ ?_|(apply aA;(·exact bm))|refine aH ?_|((with_reducible refine aB ?_ ?_)<;>intro hc<;>(try simp only[List.length_map,ne_eq,cD] at hc)<;>try(exfalso;omega)))
 all_goals refine cf ?_
 all_goals simp_all[lS,yi]
def eX (s:ByteArray) (i:Nat):Int:=(s.data.toList.getD i 0).toNat
def fR (s:ByteArray):Bool:=decide (1≤s.size)&&decide (s.size≤32)&& !fC (eX s 0)&& !lS s&&(List.range s.size).all fun i=>gu (eX s i)||fC (eX s i)
theorem IK (s:ByteArray):(s==(⟨#[]⟩:ByteArray))=decide (s.size=0):=by
 obtain⟨d⟩:=s
 show(d==#[])=_
 rw[Bool.eq_iff_iff]
 show(d==#[])=true↔decide (d.size=0)=true
 simp
theorem AR (s:ByteArray) (hs:s.size≤140737488351232):Pure Tryz.prog 85 [st s] (fun r=>r=bl (fR s)):=by
 refine aI E3 rfl ?_
 have e0:=IK s
 by_cases hz:s.size=0
 ·have e1:(s==(⟨#[]⟩:ByteArray))=true:=by rw[e0,decide_eq_true hz]
  have hb:fR s=false:=by unfold fR;rw[decide_eq_false (by omega)];simp
  rw[hb]
  repeat' (first|((with_reducible refine aE ?_);conv=>whnf)|refine aG ?_|exact cN|with_reducible refine aD ?_ ?_|((with_reducible refine Ask.mk ?_);first|exact bw|((refine Ask.mk ?_);intro h;simp_all)|exact br)|(apply aA;(·exact bm))|((with_reducible refine aQ (eJ _) ?_ ?_);(·exact cO))|((with_reducible refine aM (fun _=>eJ _) ?_ ?_);(·exact cO))|((with_reducible refine aO (eJ _) ?_ ?_);(·exact cO))|((with_reducible refine aP (fun _=>eJ _) ?_ ?_);(·exact cO))|((with_reducible refine aQ (gb _) ?_ ?_);(·exact cO))|((with_reducible refine aM (fun _=>gb _) ?_ ?_);(·exact cO))|((with_reducible refine aO (gb _) ?_ ?_);(·exact cO))|((with_reducible refine aP (fun _=>gb _) ?_ ?_);(·exact cO))|((with_reducible refine aQ (dx _) ?_ ?_);(·exact cO))|((with_reducible refine aM (fun _=>dx _) ?_ ?_);(·exact cO))|((with_reducible refine aO (dx _) ?_ ?_);(·exact cO))|((with_reducible refine aP (fun _=>dx _) ?_ ?_);(·exact cO))|(simp only[e1])|refine aH ?_|((with_reducible refine aB ?_ ?_)<;>intro hc<;>(try simp only[List.length_map,ne_eq,cD] at hc)<;>try(exfalso;omega)))
  all_goals first|exact rfl|(exfalso;simp_all)
 ·have e1:(s==(⟨#[]⟩:ByteArray))=false:=by rw[e0,decide_eq_false hz]
  repeat' (first|((with_reducible refine aE ?_);conv=>whnf)|refine aG ?_|exact cN|with_reducible refine aD ?_ ?_|((with_reducible refine Ask.mk ?_);first|exact bw|((refine Ask.mk ?_);intro h;exact⟨by omega,by omega⟩)|exact br)|(apply aA;(·exact bm))|((with_reducible refine aQ (eJ _) ?_ ?_);(·exact cO))|((with_reducible refine aM (fun _=>eJ _) ?_ ?_);(·exact cO))|((with_reducible refine aO (eJ _) ?_ ?_);(·exact cO))|((with_reducible refine aP (fun _=>eJ _) ?_ ?_);(·exact cO))|((with_reducible refine aQ (gb _) ?_ ?_);(·exact cO))|((with_reducible refine aM (fun _=>gb _) ?_ ?_);(·exact cO))|((with_reducible refine aO (gb _) ?_ ?_);(·exact cO))|((with_reducible refine aP (fun _=>gb _) ?_ ?_);(·exact cO))|((with_reducible refine aQ (dx _) ?_ ?_);(·exact cO))|((with_reducible refine aM (fun _=>dx _) ?_ ?_);(·exact cO))|((with_reducible refine aO (dx _) ?_ ?_);(·exact cO))|((with_reducible refine aP (fun _=>dx _) ?_ ?_);(·exact cO))|(simp only[e1])|refine aH ?_|((with_reducible refine aB ?_ ?_)<;>intro hc<;>(try simp only[List.length_map,ne_eq,cD] at hc)<;>try(exfalso;omega)))
  ·refine cf (Eq.symm ?_)
   unfold fR
   have hp:(decide (1≤s.size)&&decide (s.size≤32)&& !fC (eX s 0)&& !lS s)=false:=by
    rcases hc with((h|h)|h)|h
    ·exact absurd h (by decide)
    ·simp[show ¬s.size≤32 by omega]
    ·have h:48≤eX s 0∧eX s 0≤57:=h
     simp[fC,h.1,h.2]
    ·simp[h]
   rw[hp,Bool.false_and]
  ·have hp:(decide (1≤s.size)&&decide (s.size≤32)&& !fC (eX s 0)&& !lS s)=true:=by
    obtain⟨h1,h2⟩:=hc
    have h3:¬(48≤eX s 0∧eX s 0≤57):=fun h=>h1 (.inr h)
    have h4:s.size≤32:=by
     have:¬(32:Int)<s.size:=fun h=>h1 (.inl (.inr h))
     omega
    have h5:fC (eX s 0)=false:=by
     unfold fC
     by_cases h:48≤eX s 0
     ·rw[decide_eq_true h,decide_eq_false (fun h'=>h3 ⟨h,h'⟩)];rfl
     ·rw[decide_eq_false h];rfl
    rw[decide_eq_true (by omega:1≤s.size),decide_eq_true h4,h5,h2];rfl
   have hb:∀R,(decide (1≤s.size)&&decide (s.size≤32)&& !fC (eX s 0)&& !lS s&&R)=R:=fun R=>by rw[hp,Bool.true_and]
   unfold fR
   rw[hb]
   clear hc hp hb e1 e0
   refine aJ (fun i:Nat=>[(0,st s),(21,i64 s.size),(22,i64 i)]) (fun i H n=>i≤s.size∧∀j,j<i→(gu (eX s j)||fC (eX s j))=true) (fun i=>s.size - i) 0 bt ⟨Nat.zero_le _,fun _ h=>by omega⟩ ?_
   rintro i H n ⟨hi,hall⟩
   by_cases his:i<s.size
   ·repeat' (first|((with_reducible refine aE ?_);conv=>whnf)|refine aG ?_|exact cN|with_reducible refine aD ?_ ?_|((with_reducible refine Ask.mk ?_);first|exact bw|((refine Ask.mk ?_);intro h;exact⟨by omega,by omega⟩)|exact br)|(apply aA;(·exact bm))|((with_reducible refine aQ (eJ _) ?_ ?_);(·exact cO))|((with_reducible refine aM (fun _=>eJ _) ?_ ?_);(·exact cO))|((with_reducible refine aO (eJ _) ?_ ?_);(·exact cO))|((with_reducible refine aP (fun _=>eJ _) ?_ ?_);(·exact cO))|((with_reducible refine aQ (dx _) ?_ ?_);(·exact cO))|((with_reducible refine aM (fun _=>dx _) ?_ ?_);(·exact cO))|((with_reducible refine aO (dx _) ?_ ?_);(·exact cO))|((with_reducible refine aP (fun _=>dx _) ?_ ?_);(·exact cO))|refine aH ?_|((with_reducible refine aB ?_ ?_)<;>intro hc<;>(try simp only[List.length_map,ne_eq,cD] at hc)<;>try(exfalso;omega)))
    ·refine cf (Eq.symm ?_)
     rw[Bool.eq_false_iff,ne_eq,List.all_eq_true]
     intro hA
     have h1:=hA i (List.mem_range.2 his)
     have hc:gu (eX s i)=false∧(eX s i<48∨57<eX s i):=hc
     rw[hc.1,Bool.false_or] at h1
     simp only[fC,Bool.and_eq_true,decide_eq_true_eq] at h1
     omega
    ·refine⟨i+1,by omega,bt,by omega,fun j hj=> ?_⟩
     by_cases hji:j=i
     ·have hc:¬gu (eX s i)=false∨(48≤eX s i∧eX s i≤57):=hc
      rw[hji]
      rcases hc with h|h
      ·rw[Bool.not_eq_false] at h
       rw[h,Bool.true_or]
      ·simp[fC,h.1,h.2]
     ·exact hall j (by omega)
   ·have:i=s.size:=by omega
    subst this
    repeat' (first|((with_reducible refine aE ?_);conv=>whnf)|refine aG ?_|exact aC|with_reducible refine aD ?_ ?_|(apply aA;(·exact bm))|refine aH ?_|((with_reducible refine aB ?_ ?_)<;>intro hc<;>(try simp only[List.length_map,ne_eq,cD] at hc)<;>try(exfalso;omega)))
    refine cf (Eq.symm ?_)
    rw[List.all_eq_true]
    intro j hj
    exact hall j (List.mem_range.1 hj)
end Go.Proofs.YtmonponfppdgfaaGreatDoor
end
