import Derived.Test.YtmonponfppdgfaaGreatDoorM22
import Derived.Lib.TrailingZeros
namespace Go.Proofs.YtmonponfppdgfaaGreatDoor
open Go Go.dD Go.Proofs
set_option linter.unusedSimpArgs false
set_option linter.unusedVariables false
def hb (l:List Int):Nat:=l.foldl (fun a k=>a|||2^k.toNat) 0
theorem MF (l:List Int) (k:Int):hb (l++[k])=hb l|||2^k.toNat:=by simp[hb]
theorem FE:∀(l:List Int) (j:Nat),(hb l).testBit j=l.any fun k=>decide (k.toNat=j):=by
 have h:∀(l:List Int) (a j:Nat),(l.foldl (fun a k=>a|||2^k.toNat) a).testBit j=(a.testBit j||l.any fun k=>decide (k.toNat=j)):=by
  intro l
  induction l with
  |nil=>simp
  |cons k l ih=>
   intro a j
   rw[List.foldl_cons,ih,Nat.testBit_or,Nat.testBit_two_pow,List.any_cons,Bool.or_assoc]
 intro l j
 rw[hb,h];simp
theorem vM {n m:Nat} (h:∀j,n.testBit j=true->j<m):n<2^m:=by
 apply Nat.lt_of_not_le
 intro hle
 obtain⟨j,hj,ht⟩:=Nat.exists_ge_and_testBit_of_ge_two_pow hle
 exact absurd (h j ht) (by omega)
theorem LG {l:List Int} {m:Nat} (h:∀k∈l,k.toNat<m):hb l<2^m:=vM fun j hj=>by
 rw[FE,List.any_eq_true] at hj
 obtain⟨k,hk,e⟩:=hj
 rw[<-of_decide_eq_true e];exact h k hk
abbrev Acc:=Nat×Node×List Int
noncomputable def sy (t:Nat) (g:br) (i:Nat):Option Acc:=if iF (cj g (-1)) i=true then some (t,g.nd i,(cx g).1.getD i []) else none
noncomputable def n0 (t:Nat) (g:br) (m:Nat):List Acc:=(List.range m).filterMap (sy t g)
noncomputable def iJ (u:bq) (m:Nat):List Acc:=(List.range m).flatMap fun t=>n0 t (u.gr t) (u.gr t).nodes.length
theorem tW (t:Nat) (g:br) (m:Nat):n0 t g (m+1)=n0 t g m++(sy t g m).toList:=by
 rw[n0,List.range_succ,List.filterMap_append]
 cases h:sy t g m<;>simp[n0,h]
theorem tY (u:bq) (m:Nat):iJ u (m+1)=iJ u m++n0 m (u.gr m) (u.gr m).nodes.length:=by
 rw[iJ,List.range_succ,List.flatMap_append];simp[iJ]
def vd (n:Node):Bool:=decide (n.kind=2\/n.kind=3\/n.kind=4)
abbrev vi:=List (Int×(Nat×Nat))
def mf (p:Nat×Nat) (t:Nat) (l:List Int):Nat×Nat:=(p.1|||2^t,p.2&&& hb l)
def l4 (E:vi) (x:Acc):vi:=if vd x.2.1=true then gW E x.2.1.cT (mf ((cd E x.2.1.cT).getD (0,65535)) x.1 x.2.2) else E
def jP (l:List Acc):vi:=l.foldl l4 []
theorem ud (l:List Acc) (x:Acc):jP (l++[x])=l4 (jP l) x:=by simp[jP]
def fH (l:List Acc) (v:Int):List (Nat×List Int):=(l.filter fun x=>vd x.2.1&&decide (x.2.1.cT=v)).map fun x=>(x.1,x.2.2)
def iq (l:List (Nat×List Int)):Nat×Nat:=l.foldl (fun p x=>mf p x.1 x.2) (0,65535)
theorem oB (l:List Acc) (x:Acc) (v:Int):fH (l++[x]) v=if vd x.2.1=true/\x.2.1.cT=v then fH l v++[(x.1,x.2.2)] else fH l v:=by
 unfold fH
 rw[List.filter_append]
 by_cases h:vd x.2.1=true/\x.2.1.cT=v
 ·rw[if_pos h]
  have:(vd x.2.1&&decide (x.2.1.cT=v))=true:=by rw[h.1,decide_eq_true h.2];rfl
  simp[List.filter_cons,this]
 ·rw[if_neg h]
  have:(vd x.2.1&&decide (x.2.1.cT=v))=false:=by
   rw[Bool.and_eq_false_iff]
   by_cases h1:vd x.2.1=true
   ·right;exact decide_eq_false fun e=>h ⟨h1,e⟩
   ·left;simpa using h1
  simp[List.filter_cons,this]
theorem H8 {α:Type} {p:List α->Prop} (h0:p []) (h1:∀l x,p l->p (l++[x])) (l:List α):p l:=by
 have:∀r:List α,p r.reverse:=by
  intro r
  induction r with
  |nil=>exact h0
  |cons a r ih=>rw[List.reverse_cons];exact h1 _ _ ih
 rw[<-List.reverse_reverse l];exact this _
theorem sm (l:List Acc) (v:Int):cd (jP l) v=if fH l v=[] then none else some (iq (fH l v)):=by
 revert v
 induction l using H8 with
 |h0=>intro v;rfl
 |h1 l x ih=>
  intro v
  rw[ud,l4]
  by_cases ht:vd x.2.1=true
  ·rw[if_pos ht,hC]
   by_cases hv:x.2.1.cT=v
   ·rw[if_pos hv.symm,(oB l x v).trans (if_pos ⟨ht,hv⟩),if_neg (by simp),hv,ih v]
    have e:∀L:List (Nat×List Int),(if L=[] then none else some (iq L)).getD (0,65535)=iq L:=fun L=>by
     split
     ·rename_i h;rw[h];rfl
     ·rfl
    rw[e]
    simp[iq]
   ·rw[if_neg (fun e=>hv e.symm),(oB l x v).trans (if_neg (fun h=>hv h.2)),ih v]
  ·rw[if_neg ht,(oB l x v).trans (if_neg (fun h=>ht h.1)),ih v]
theorem rE:∀(l:List (Nat×List Int)) (p:Nat×Nat) (j:Nat),(l.foldl (fun p x=>mf p x.1 x.2) p).1.testBit j=(p.1.testBit j||l.any fun x=>decide (x.1=j))/\(l.foldl (fun p x=>mf p x.1 x.2) p).2.testBit j=(p.2.testBit j&&l.all fun x=>x.2.any fun k=>decide (k.toNat=j))
 |[],p,j=>by simp
 |x::l,p,j=>by
  rw[List.foldl_cons]
  obtain⟨h1,h2⟩:=rE l (mf p x.1 x.2) j
  rw[h1,h2]
  simp only[mf,Nat.testBit_or,Nat.testBit_and,Nat.testBit_two_pow,FE,List.any_cons,List.all_cons,Bool.or_assoc,Bool.and_assoc,and_self]
theorem qh (l:List (Nat×List Int)) (j:Nat):(iq l).1.testBit j=l.any fun x=>decide (x.1=j):=by
 rw[iq,(rE l _ j).1];simp
theorem D9 (j:Nat):(65535:Nat).testBit j=decide (j<16):=by
 have:=@Nat.testBit_two_pow_sub_one 16 j
 simpa using this
theorem AO (l:List (Nat×List Int)) (j:Nat):(iq l).2.testBit j=(decide (j<16)&&l.all fun x=>x.2.any fun k=>decide (k.toNat=j)):=by
 rw[iq,(rE l _ j).2,D9]
theorem D3 {l:List (Nat×List Int)} (h:∀x∈l,x.1<8):(iq l).1<256/\(iq l).2<65536:=by
 refine⟨vM (m:=8) fun j hj=> ?_,vM (m:=16) fun j hj=> ?_⟩
 ·rw[qh,List.any_eq_true] at hj
  obtain⟨x,hx,e⟩:=hj
  rw[<-of_decide_eq_true e];exact h x hx
 ·rw[AO,Bool.and_eq_true] at hj
  exact of_decide_eq_true hj.1
abbrev ctz (x:Nat):Nat:=Lib.ctz 32 x
theorem J0 {x:Nat} (h0:x≠0) (h:x<4294967296):x.testBit (ctz x)=true/\(∀j,j<ctz x->x.testBit j=false)/\ctz x<32:=by
 unfold ctz Lib.ctz
 rw[if_neg h0]
 obtain⟨m,hm,hk⟩:=Lib.ctzFrom_spec 32 x (Nat.pos_of_ne_zero h0) h
 generalize Lib.ctzFrom 32 x=k at *
 refine⟨?_,fun j hj=> ?_,hk⟩
 ·rw[hm,Nat.mul_comm,Nat.testBit_mul_two_pow];simp
 ·rw[hm,Nat.mul_comm,Nat.testBit_mul_two_pow];simp;omega
theorem EB {x j:Nat} (h0:x<4294967296) (h:x.testBit j=true) (hl:∀i,i<j->x.testBit i=false):ctz x=j:=by
 have hx:x≠0:=fun e=>by rw[e,Nat.zero_testBit] at h;cases h
 obtain⟨h1,h2,_⟩:=J0 hx h0
 by_cases hj:j<ctz x
 ·rw[h2 j hj] at h;cases h
 ·by_cases hj2:ctz x<j
  ·rw[hl _ hj2] at h1;cases h1
  ·omega
theorem xf {x:Nat} (h0:x≠0) (h:x<4294967296) (j:Nat):(x&&& (x - 1)).testBit j=(x.testBit j&&decide (j≠ctz x)):=by
 unfold ctz Lib.ctz
 rw[if_neg h0]
 obtain⟨m,hm,hk⟩:=Lib.ctzFrom_spec 32 x (Nat.pos_of_ne_zero h0) h
 generalize Lib.ctzFrom 32 x=k at *
 have e1:x - 1=2^k * (2 * m)+(2^k - 1):=by
  rw[hm,Nat.mul_add,Nat.mul_one]
  have:=Nat.one_le_two_pow (n:=k)
  omega
 have hlt:2^k - 1<2^k:=by have:=Nat.one_le_two_pow (n:=k);omega
 rw[Nat.testBit_and,e1,Nat.testBit_two_pow_mul_add _ hlt]
 by_cases hj:j<k
 ·rw[if_pos hj,Nat.testBit_two_pow_sub_one,decide_eq_true hj,Bool.and_true,decide_eq_true (by omega),Bool.and_true]
 ·rw[if_neg hj]
  have e2:x.testBit j=(2 * m+1).testBit (j - k):=by
   rw[hm,Nat.mul_comm,Nat.testBit_mul_two_pow,decide_eq_true (by omega)];simp
  rw[e2]
  by_cases e:j=k
  ·subst e;simp
  ·obtain⟨i,hi⟩:∃i,j - k=i+1:=⟨j - k - 1,by omega⟩
   rw[hi,Nat.testBit_succ,Nat.testBit_succ,show(2 * m+1) /2=m by omega,show(2 * m) /2=m by omega,decide_eq_true e]
   simp
theorem pred_lt {x:Nat} (h0:x≠0):x&&& (x - 1)<x:=by
 have:x&&& (x - 1)<=x - 1:=Nat.and_le_right
 omega
def tj:Nat->Nat->List Int
 |0,_=>[]
 |f+1,x=>if x=0 then[] else(ctz x:Int)::tj f (x&&& (x - 1))
def bits (x:Nat):List Int:=tj x x
theorem n9:∀(f x:Nat),x<=f->tj f x=bits x
 |0,x,h=>by have:x=0:=by omega
            subst this;rfl
 |f+1,x,h=>by
  by_cases h0:x=0
  ·subst h0;rfl
  ·obtain⟨y,rfl⟩:∃y,x=y+1:=⟨x - 1,by omega⟩
   have:=pred_lt h0
   rw[tj,if_neg h0,bits,tj,if_neg h0,n9 f _ (by omega),n9 y _ (by omega)]
theorem pK {x:Nat} (h0:x≠0):bits x=(ctz x:Int)::bits (x&&& (x - 1)):=by
 obtain⟨y,rfl⟩:∃y,x=y+1:=⟨x - 1,by omega⟩
 have:=pred_lt h0
 rw[bits,tj,if_neg h0,n9 y _ (by omega)]
def rL (p:Nat×Nat):cF:=if p.1=0 then⟨0,0,0⟩ else if p.1&&& (p.1 - 1)=0 then⟨1,ctz p.1,0⟩ else if p.2≠0 then⟨2,0,ctz p.2⟩ else⟨3,0,0⟩
def w6 (tl:List (Nat×List Int)) (l:Nat):Bool:=tl.all fun x=>x.2.any fun k=>decide (k=(l:Int))
def mH (bz:Nat) (tl:List (Nat×List Int)):cF:=
 match tl with
 |[]=>⟨0,0,0⟩
 |(t,l)::r=>if(r.all fun x=>decide (x.1=t))=true then⟨1,t,0⟩ else match(List.range bz).find? (w6 ((t,l)::r)) with
  |some k=>⟨2,0,k⟩
  |none=>⟨3,0,0⟩
theorem BQ {bz:Nat} {tl:List (Nat×List Int)} (hl:bz<=16) (ht:∀x∈tl,x.1<8/\∀k∈x.2,0<=k/\k<bz):rL (if tl=[] then(0,0) else iq tl)=mH bz tl:=by
 match tl,ht with
 |[],_=>rfl
 |(t,l)::r,ht=>
  rw[if_neg (by simp)]
  have hlt:=D3 (l:=(t,l)::r) fun x hx=>(ht x hx).1
  have h1:(iq ((t,l)::r)).1.testBit t=true:=by rw[qh];simp
  have hne:(iq ((t,l)::r)).1≠0:=fun e=>by rw[e,Nat.zero_testBit] at h1;cases h1
  have hg:∀j,(iq ((t,l)::r)).2.testBit j=(decide (j<16)&&w6 ((t,l)::r) j):=fun j=>by
   rw[AO]
   congr 1
   unfold w6
   rw[Bool.eq_iff_iff,List.all_eq_true,List.all_eq_true]
   refine forall_congr' fun x=>forall_congr' fun hx=> ?_
   rw[List.any_eq_true,List.any_eq_true]
   refine exists_congr fun k=>and_congr_right fun hk=> ?_
   have:=((ht x hx).2 k hk).1
   rw[decide_eq_true_eq,decide_eq_true_eq];omega
  unfold rL mH
  rw[if_neg hne]
  simp only
  by_cases hs:(r.all fun x=>decide (x.1=t))=true
  ·rw[if_pos hs]
   have hall:∀j,(iq ((t,l)::r)).1.testBit j=decide (j=t):=fun j=>by
    rw[qh,Bool.eq_iff_iff,List.any_eq_true,decide_eq_true_eq]
    constructor
    ·rintro⟨x,hx,e⟩
     rcases List.mem_cons.1 hx with rfl|hx
     ·exact(of_decide_eq_true e).symm
     ·rw[<-of_decide_eq_true e];exact of_decide_eq_true (List.all_eq_true.1 hs x hx)
    ·rintro rfl;exact⟨(j,l),by simp,by simp⟩
   have hc:ctz (iq ((t,l)::r)).1=t:=EB (by omega) h1 fun i hi=>by rw[hall];exact decide_eq_false (by omega)
   have hz:(iq ((t,l)::r)).1&&& ((iq ((t,l)::r)).1 - 1)=0:=Nat.eq_of_testBit_eq fun j=>by
    rw[xf hne (by omega),hall,hc,Nat.zero_testBit]
    by_cases e:j=t<;>simp[e]
   rw[if_pos hz,hc]
  ·rw[if_neg hs]
   have hz:¬(iq ((t,l)::r)).1&&& ((iq ((t,l)::r)).1 - 1)=0:=fun hz=>by
    apply hs
    have one:∀j,(iq ((t,l)::r)).1.testBit j=true->j=ctz (iq ((t,l)::r)).1:=fun j hj=>by
     have:=xf hne (by omega) j
     rw[hz,Nat.zero_testBit,hj,Bool.true_and] at this
     exact Classical.byContradiction fun h=>by rw[decide_eq_true h] at this;cases this
    have ht0:=one t h1
    rw[List.all_eq_true]
    intro x hx
    have:(iq ((t,l)::r)).1.testBit x.1=true:=by
     rw[qh,List.any_eq_true];exact⟨x,List.mem_cons_of_mem _ hx,by simp⟩
    rw[decide_eq_true_eq,one x.1 this,<-ht0]
   rw[if_neg hz]
   cases hf:(List.range bz).find? (w6 ((t,l)::r)) with
   |none=>
    have hz2:(iq ((t,l)::r)).2=0:=Nat.eq_of_testBit_eq fun j=>by
     rw[hg,Nat.zero_testBit]
     by_cases hj:j<bz
     ·have:=List.find?_eq_none.1 hf j (List.mem_range.2 hj)
      simp only[Bool.not_eq_true] at this
      rw[this,Bool.and_false]
     ·have hnb:w6 ((t,l)::r) j=false:=by
       rw[Bool.eq_false_iff,ne_eq]
       intro h
       have h2:=List.all_eq_true.1 h (t,l) (by simp)
       rw[List.any_eq_true] at h2
       obtain⟨k,hk,e⟩:=h2
       have e:=of_decide_eq_true e
       have:=((ht (t,l) (by simp)).2 k hk).2
       omega
      rw[hnb,Bool.and_false]
    rw[hz2];rfl
   |some k=>
    obtain⟨hk1,hk2⟩:=List.find?_eq_some_iff_append.1 hf
    obtain⟨pre,bs,eab,hno⟩:=hk2
    have hkm:k∈List.range bz:=by rw[eab];simp
    have hkl:=List.mem_range.1 hkm
    have hkl2:pre.length=k:=by
     have h1:(List.range bz)[pre.length]?=some k:=by rw[eab];simp
     rw[List.getElem?_range] at h1
     ·cases h1;rfl
     ·have:=congrArg List.length eab
      simp at this;omega
    have hbit:(iq ((t,l)::r)).2.testBit k=true:=by rw[hg,hk1,decide_eq_true (by omega)];rfl
    have hne2:(iq ((t,l)::r)).2≠0:=fun e=>by rw[e,Nat.zero_testBit] at hbit;cases hbit
    rw[if_pos hne2]
    have hc:ctz (iq ((t,l)::r)).2=k:=EB (by omega) hbit fun i hi=>by
     have him:i∈pre:=by
      have h1:(List.range bz)[i]?=some i:=by rw[List.getElem?_range (by omega)]
      rw[eab,List.getElem?_append_left (by omega)] at h1
      exact List.mem_of_getElem? h1
     have:=hno i him
     simp only[Bool.not_eq_true',] at this
     rw[hg,this,Bool.and_false]
    rw[hc]
noncomputable def ck (u:bq):List cF:=(List.range u.shared.length).map fun(v:Nat)=>mH u.bz.length (fH (iJ u u.bo.length) v)
end Go.Proofs.YtmonponfppdgfaaGreatDoor
namespace Go.dD
open Go.RowKit
theorem aD {α:Type} {g:Option Bool} {x:Option α} {K:α->Prop} {a:α} (h:Gd g->x=some a) (k:Go (K a)):jk g x K:=jk.of h k
theorem dI.refl (c:Cx):∀bs:List AV,dI c c bs bs
 |[]=> .nil
 |_::bs=> .cons (fun _ hv=>hv) (dI.refl c bs)
theorem dI.map {α:Type} {c:Cx} {f g:α->AV} (h:∀a,dk c c (f a) (g a)):∀l:List α,dI c c (l.map f) (l.map g)
 |[]=> .nil
 |a::l=> .cons (h a) (dI.map h l)
theorem Pure.args {P:Program} {f:FuncId} {bs bs2:List AV} {R:AV->Prop} (h:Pure P f bs2 R) (hle:∀c,dI c c bs bs2):Pure P f bs R:=
 ⟨h.1,fun M w vs hM hv=>h.2 M w vs hM ((hle _).O2 hv)⟩
theorem cM.args {P:Program} {f:FuncId} {bs bs2:List AV} {H:Hp} {nx:Nat} {R:AV->Hp->Nat->Prop} (h:cM P f bs2 H nx R) (hle:∀c,dI c c bs bs2):cM P f bs H nx R:=
 ⟨h.1,fun w0 c vs h1 h2 h3 hv=>h.2 w0 c vs h1 h2 h3 ((hle _).O2 hv)⟩
theorem dk.mV (c c2:Cx) (sz:Nat) (d:AV):dk c c2 (.sc (.slice none 0 0)) (.im sz d []):=by
 intro v hv
 rw[VR] at hv
 subst hv
 rw[VR]
 exact⟨none,0,rfl,by simp, .inl rfl⟩
def nW (H:Hp) (nx:Nat) (e:TypeId) (sz:Nat) (es:List AV):AV->Hp->Nat->Prop:=fun r H' n=>∃b' d',r= .sl b' es.length/\nx<=b'/\b'<n/\nx<=n/\bk H' b'=some (.row e sz d' es)/\∀b,b<nx->bk H' b=bk H b
theorem nW.of {P:Program} {f:FuncId} {args:List AV} {H:Hp} {nx:Nat} {e:TypeId} {sz:Nat} {es:List AV} (hsz:0<sz) (h:cM P f args H nx (fun r H' n=>(r= .sc (.slice none 0 0)/\es=[]/\nx<=n/\∀b,b<nx->bk H' b=bk H b)\/nW H nx e sz es r H' n)):cM P f args H nx (nW H nx e sz es):=by
 refine h.wk ?_
 rintro r H' n (⟨rfl,rfl,h1,h2⟩|h1)
 ·refine⟨_,_,_,Wk.nil (nx:=n) e sz .any hsz,n, .any,rfl,h1,Nat.lt_succ_self _,by omega,ch _ _ _,fun b hb=> ?_⟩
  rw[cQ (by omega)];exact h2 b hb
 ·exact⟨r,H',n,Wk.refl _ _ _,h1⟩
end Go.dD
namespace Go.Proofs.YtmonponfppdgfaaGreatDoor
open Go Go.dD Go.Proofs
set_option linter.unusedSimpArgs false
set_option linter.unusedVariables false
def dV (l:List Int):AV:= .im 1 .any (l.map i64)
def fE (l:List Bool):AV:= .im 1 .any (l.map bl)
theorem cV {P:Program} {f:FuncId} {args:List AV} {u:AV} (h:cM P f args [] 0 (fun r H _=>dD.de H 6 r=u)) (hf:cJ 0 u):Pure P f args (fun r=>r=u):=by
 refine⟨h.1,fun M w vs hM hv=> ?_⟩
 have hS:dO w ⟨fun _=>none,bk [],fun _=>False,w,M⟩:=⟨⟨rfl,rfl,rfl,Nat.le_refl _,fun _ _=>rfl⟩,hM,fun b e sz d es he=>by simp[bk] at he,fun b b' k k' blk o z o' z' hk=>by simp[bk] at hk⟩
 refine(h.2 w _ vs hS rfl (fun _ h=>h.elim) hv).mono ?_
 rintro en w' ⟨v1,r1,H1,nx',ρ,U,he,hz,hU,hS',_,g2⟩
 have h3:=ki hS' rfl 6 (a:=r1) (v:=v1) (by rw[hz];exact hf) g2
 rw[hz] at h3
 exact⟨v1,_,he,rfl,hf,h3,hS'.below⟩
theorem pure_or {P:Program} {f:FuncId} {args:List AV} {u v:AV} (h:cM P f args [] 0 (fun r H _=>dD.de H 6 r=u\/dD.de H 6 r=v)) (hu:cJ 0 u) (hv:cJ 0 v):Pure P f args (fun r=>r=u\/r=v):=by
 refine⟨h.1,fun M w vs hM hv'=> ?_⟩
 have hS:dO w ⟨fun _=>none,bk [],fun _=>False,w,M⟩:=⟨⟨rfl,rfl,rfl,Nat.le_refl _,fun _ _=>rfl⟩,hM,fun b e sz d es he=>by simp[bk] at he,fun b b' k k' blk o z o' z' hk=>by simp[bk] at hk⟩
 refine(h.2 w _ vs hS rfl (fun _ h=>h.elim) hv').mono ?_
 rintro en w' ⟨v1,r1,H1,nx',ρ,U,he,hz,hU,hS',_,g2⟩
 rcases hz with hz|hz
 ·have h3:=ki hS' rfl 6 (a:=r1) (v:=v1) (by rw[hz];exact hu) g2
  rw[hz] at h3
  exact⟨v1,_,he, .inl rfl,hu,h3,hS'.below⟩
 ·have h3:=ki hS' rfl 6 (a:=r1) (v:=v1) (by rw[hz];exact hv) g2
  rw[hz] at h3
  exact⟨v1,_,he, .inr rfl,hv,h3,hS'.below⟩
theorem mw {P:Program} {f:FuncId} {args:List AV} {u v:AV} (h:Pure P f args (fun r=>r=u\/r=v)) (hv:cJ 0 v) (hle:∀c,dk c c u v):Pure P f args (fun r=>r=v):=
 ⟨h.1,fun M w vs hM hv'=>(h.2 M w vs hM hv').mono fun en w' ⟨x,r,h2,h3,h4,h5,h6⟩=>by
  rcases h3 with rfl|rfl
  ·exact⟨x,_,h2,rfl,hv,hle _ _ h5,h6⟩
  ·exact⟨x,_,h2,rfl,hv,h5,h6⟩⟩
theorem oj {P:Program} {f:FuncId} {args:List AV} {sz:Nat} {es:List AV} (hf:cJ 0 (.im sz .any es)) (h:cM P f args [] 0 (fun r H _=>dD.de H 6 r= .sc (.slice none 0 0)/\es=[]\/dD.de H 6 r= .im sz .any es)):Pure P f args (fun r=>r= .im sz .any es):=by
 by_cases hl:es=[]
 ·subst hl
  exact mw (pure_or (h.mono fun r H n h=>h.imp (·.1) id) (by simp[cJ,cL]) hf) hf (fun c=>dD.dk.mV c c _ _)
 ·exact cV (h.mono fun r H n h=>h.elim (fun h=>absurd h.2 hl) id) hf
theorem lS (op:Int):Pure Tryz.prog 110 [u8 op] (fun r=>r=bl (decide (0<op/\op<19))):=by
 refine aG xH rfl ?_
 repeat' (first|refine aQ ?_|exact aC|with_reducible refine aB ?_ ?_|(apply aA;(·exact bp))|refine aH ?_|((with_reducible refine aE ?_ ?_)<;>intro hc<;>try(exfalso;omega)))
 simp only[decide_eq_true_eq]
 exact cn (by by_cases h:0<op<;>simp[h])
theorem fP (op:Int):Pure Tryz.prog 94 [u8 op] (fun r=>r=bl (eB op)):=by
 refine aG HX rfl ?_
 repeat' (first|refine aQ ?_|exact aC|with_reducible refine aB ?_ ?_|(apply aA;(·exact bp))|refine aH ?_|((with_reducible refine aE ?_ ?_)<;>intro hc<;>try(exfalso;omega)))
 all_goals simp_all[eB,yO]
theorem eU (c:Int):Pure Tryz.prog 104 [u8 c] (fun r=>r=bl (decide (48<=c)&&decide (c<=57))):=by
 refine aG xB rfl ?_
 repeat' (first|refine aQ ?_|exact aC|with_reducible refine aB ?_ ?_|(apply aA;(·exact bp))|refine aH ?_|((with_reducible refine aE ?_ ?_)<;>intro hc<;>try(exfalso;omega)))
 all_goals simp_all[yO]
set_option maxHeartbeats 1000000 in
theorem lQ (n:Node):Pure Tryz.prog 90 [n.av] (fun r=>r=dV n.fold):=by
 refine oj (by simp[cJ,cK]) ?_
 refine aI HT rfl ?_
 repeat' (first|refine aQ ?_|exact cP|with_reducible refine aB ?_ ?_|((with_reducible refine Ask.mk ?_);first|exact bx|exact bt|(intro h;simp_all[Node.cells]<;>fail)|(simp_all[Node.cells]<;>fail))|(apply aA;(·exact bp))|refine aH ?_|((with_reducible refine aE ?_ ?_)<;>intro hc<;>try(exfalso;omega)))
 all_goals refine⟨?_⟩
 all_goals first|exact .inl ⟨rfl,by simp_all[Node.fold]⟩|(refine .inr ((dM bm (by simp)).trans ?_);rw[cf _ (by simp[cL,cJ])];first|(simp_all[dV,Node.fold];done)|(unfold Node.fold;rw[if_neg (by assumption),if_neg (fun h=>hc.elim (fun a=>a h.1) (fun a=>h.2 a))];rfl))
set_option maxHeartbeats 1000000 in
theorem tB (n:Node):Pure Tryz.prog 76 [n.av] (fun r=>r=dV n.fold):=by
 refine oj (by simp[cJ,cK]) ?_
 refine aI HD rfl ?_
 repeat' (first|refine aQ ?_|exact cP|with_reducible refine aB ?_ ?_|((with_reducible refine Ask.mk ?_);first|exact bx|exact bt|(intro h;simp_all[Node.cells]<;>fail)|(simp_all[Node.cells]<;>fail))|(apply aA;(·exact bp))|refine aH ?_|((with_reducible refine aE ?_ ?_)<;>intro hc<;>try(exfalso;omega)))
 all_goals refine⟨?_⟩
 all_goals first|exact .inl ⟨rfl,by simp_all[Node.fold]⟩|(refine .inr ((dM bm (by simp)).trans ?_);rw[cf _ (by simp[cL,cJ])];first|(simp_all[dV,Node.fold];done)|(unfold Node.fold;rw[if_neg (by assumption),if_neg (fun h=>hc.elim (fun a=>a h.1) (fun a=>h.2 a))];rfl))
set_option maxHeartbeats 1000000 in
theorem gI (n:Node):Pure Tryz.prog 49 [n.av] (fun r=>r=dV n.dQ):=by
 refine oj (by simp[cJ,cK]) ?_
 refine aI GN rfl ?_
 repeat' (first|refine aQ ?_|exact cP|with_reducible refine aB ?_ ?_|((with_reducible refine Ask.mk ?_);first|exact bx|exact bt|(intro h;simp_all[Node.cells]<;>fail)|(simp_all[Node.cells]<;>fail))|(apply aA;(·exact bp))|refine aH ?_|((with_reducible refine aE ?_ ?_)<;>intro hc<;>try(exfalso;omega)))
 all_goals refine⟨?_⟩
 all_goals first|exact .inl ⟨rfl,by simp_all[Node.dQ]⟩|(refine .inr ((dM bm (by simp)).trans ?_);rw[cf _ (by simp[cL,cJ])];simp_all[dV,Node.dQ])
end Go.Proofs.YtmonponfppdgfaaGreatDoor
