import Derived.Test.YtjopoheligmmoaaGreatDoorM42
import Derived.Test.YtjopoheligmmoaaGreatDoorM37
import Derived.Test.YtjopoheligmmoaaGreatDoorM38
import Derived.Test.YtjopoheligmmoaaGreatDoorM41
import Derived.Test.YtjopoheligmmoaaGreatDoorM35
import Derived.Test.YtjopoheligmmoaaGreatDoorM33
import Derived.Test.YtjopoheligmmoaaGreatDoorM39
import Derived.Test.YtjopoheligmmoaaGreatDoorM30
import Derived.Test.YtjopoheligmmoaaGreatDoorM31
namespace Go.Proofs.YtjopoheligmmoaaGreatDoor
open Go Go.dA Go.Proofs
set_option linter.unusedSimpArgs false
set_option linter.unusedVariables false
set_option maxRecDepth 8000
def jS (out:List Int) (x:Int):Nat:=(out.takeWhile fun y=>decide (y<x)).length
theorem zi {out:List Int} {x:Int} {p:Nat} (h1:p<=out.length) (h2:∀j,j<p->out.getD j 0<x) (h3:p=out.length\/¬out.getD p 0<x):jS out x=p:=by
 unfold jS
 induction out generalizing p with
 |nil=>simp at h1;simp[h1]
 |cons a r ih=>
  rw[List.takeWhile_cons]
  cases p with
  |zero=>
   rcases h3 with h3|h3
   ·simp at h3
   ·have:¬a<x:=by simpa[List.getD] using h3
    simp[this]
  |succ q=>
   have ha:a<x:=by simpa[List.getD] using h2 0 (by omega)
   rw[if_pos (by simpa using ha),List.length_cons]
   rw[ih (p:=q) (by simpa using h1) (fun j hj=>by simpa[List.getD] using h2 (j+1) (by omega)) (by
    rcases h3 with h3|h3
    ·left;simpa using h3
    ·right;simpa[List.getD] using h3)]
theorem zj (out:List Int) (x:Int):jS out x<=out.length:=by
 unfold jS
 exact(List.takeWhile_prefix _).length_le
def mS (out:List Int) (x:Int):List Int:=if jS out x<out.length/\out.getD (jS out x) 0=x then out else out.take (jS out x)++[x]++out.drop (jS out x)
theorem NB (out:List Int) (x z:Int):z∈mS out x↔z∈out\/z=x:=by
 unfold mS
 by_cases h:jS out x<out.length/\out.getD (jS out x) 0=x
 ·rw[if_pos h]
  refine⟨.inl,fun e=>e.elim id fun e=> ?_⟩
  rw[e,<-h.2];exact cQ 0 h.1
 ·rw[if_neg h]
  have hz:z∈out↔z∈out.take (jS out x)\/z∈out.drop (jS out x):=by
   rw[<-List.mem_append,List.take_append_drop]
  rw[hz]
  simp only[List.mem_append,List.mem_cons,List.not_mem_nil,or_false]
  constructor
  ·rintro((a|a)|a)
   ·exact .inl (.inl a)
   ·exact .inr a
   ·exact .inl (.inr a)
  ·rintro((a|a)|a)
   ·exact .inl (.inl a)
   ·exact .inr a
   ·exact .inl (.inr a)
theorem NA (out:List Int) (x:Int):(mS out x).length<=out.length+1:=by
 unfold mS
 have:=zj out x
 split
 ·omega
 ·simp;omega
def j6 (l:List Int):List Int:=l.foldl mS []
theorem OD (l:List Int) (x:Int):j6 (l++[x])=mS (j6 l) x:=by simp[j6]
theorem JS {l:List Int} {i:Nat} (h:i<l.length):j6 (l.take (i+1))=mS (j6 (l.take i)) (l.getD i 0):=by
 rw[List.take_succ_eq_append_getElem h,OD];simp[List.getD,h]
theorem HZ (l:List Int):∀(o:List Int) (z:Int),z∈l.foldl mS o↔z∈o\/z∈l:=by
 induction l with
 |nil=>simp
 |cons a r ih=>
  intro o z
  rw[List.foldl_cons,ih,NB]
  simp only[List.mem_cons]
  constructor
  ·rintro((a|a)|a)
   ·exact .inl a
   ·exact .inr (.inl a)
   ·exact .inr (.inr a)
  ·rintro(a|a|a)
   ·exact .inl (.inl a)
   ·exact .inl (.inr a)
   ·exact .inr a
theorem OF (l:List Int) (z:Int):z∈j6 l↔z∈l:=by
 unfold j6;rw[HZ];simp
theorem HY (l:List Int):∀(o:List Int),(l.foldl mS o).length<=o.length+l.length:=by
 induction l with
 |nil=>simp
 |cons a r ih=>
  intro o
  rw[List.foldl_cons]
  have:=ih (mS o a)
  have:=NA o a
  simp;omega
theorem OE (l:List Int):(j6 l).length<=l.length:=by
 have:=HY l []
 simpa[j6] using this
theorem OH {e:TypeId} {s:Nat} {d:AV} {es es2:List AV} (h:es=es2):some (fD.row e s d es)=some (fD.row e s d es2):=by rw[h]
set_option maxRecDepth 4000 in
set_option maxHeartbeats 4000000 in
theorem AT (l:List Int) (hl:l.length<=5000):Pure Tryz.prog 131 [eP l] (fun r=>r=eP (j6 l)):=by
 have hm:(l.map i64).length=l.length:=by simp
 refine cz ?_ (by simp[eP,cP,cL])
 refine aM W4 rfl ?_
 unfold eP
 repeat' (first|refine aQ ?_|exact aC|with_reducible refine aB ?_ ?_|(apply aA;(·exact cK))|refine aH ?_|((with_reducible refine aE ?_ ?_)<;>intro hc<;>try(exfalso;omega)))
 refine aV (fun σ:Nat×Nat×Nat=>[(0,eP l),(3, .sl σ.2.1 σ.2.2),(4,i64 σ.1)])
  (fun σ H n=>σ.1<=l.length/\σ.2.1<n/\σ.2.2=(j6 (l.take σ.1)).length/\∃d,cC H σ.2.1=some (.row 3 1 d ((j6 (l.take σ.1)).map i64))) (fun σ=>l.length - σ.1) (0,3,0) ⟨_,_,_,Rt.nil 3 3 1 (by omega) rfl,cJ,Nat.zero_le _,cZ,rfl,⟨_,cE⟩⟩ ?_
 rintro⟨i,b,bn⟩ H n ⟨hi,hb,hbn,d,r⟩
 dsimp only at hi hb hbn r ⊢
 subst hbn
 unfold eP
 by_cases hil:i<l.length
 ·have ei:=fun d=>gw hil d
  have hnx:=JS hil
  have hol:=OE (l.take i)
  rw[List.length_take] at hol
  generalize hx:l.getD i 0=x at *
  generalize j6 (l.take i)=out at *
  have hom:(out.map i64).length=out.length:=by simp
  repeat' (first|refine aQ ?_|exact eE|with_reducible refine aB ?_ ?_|((with_reducible refine Ask.mk ?_);first|exact cw|(exact hm)|(exact hom)|exact cX)|(apply aA;(·(first|exact ei _|exact cK)))|refine aH ?_|((with_reducible refine aE ?_ ?_)<;>intro hc<;>try(exfalso;omega)))
  refine aI (fun p:Nat=>[(0,eP l),(3, .sl b out.length),(4,i64 i),(5,i64 p)])
   (fun p H n2=>n<=n2/\p<=out.length/\(∀j,j<p->out.getD j 0<x)/\∃d,cC H b=some (.row 3 1 d (out.map i64))) (fun p=>out.length - p) 0 cJ ⟨cZ,Nat.zero_le _,fun j hj=>by omega,_,cE⟩ ?_
  clear r
  rintro p H2 n2 ⟨hn2,hp,hlt,d,r⟩
  unfold eP
  by_cases hpl:p<out.length
  ·have ep:=fun d=>gw hpl d
   by_cases hlx:out.getD p 0<x
   ·repeat' (first|refine aQ ?_|exact eE|with_reducible refine aB ?_ ?_|((with_reducible refine Ask.mk ?_);first|exact cw|(exact hm)|(exact hom)|exact cX)|(apply aA;(·(first|exact ei _|exact ep _|exact cK)))|refine aH ?_|((with_reducible refine aE ?_ ?_)<;>intro hc<;>try(exfalso;omega)))
    exact⟨p+1,by omega,cJ,cZ,by omega,fun j hj=>by
     by_cases e:j=p
     ·rw[e];exact hlx
     ·exact hlt j (by omega),_,cE⟩
   ·have hat:=zi hp hlt (.inr hlx)
    by_cases hex:out.getD p 0=x
    ·have hin:mS out x=out:=by unfold mS;rw[hat,if_pos ⟨hpl,hex⟩]
     repeat' (first|refine aQ ?_|exact eE|with_reducible refine aB ?_ ?_|((with_reducible refine Ask.mk ?_);first|exact cw|(exact hm)|(exact hom)|exact cX)|(apply aA;(·(first|exact ei _|exact ep _|exact cK)))|refine aH ?_|((with_reducible refine aE ?_ ?_)<;>intro hc<;>try(exfalso;omega)))
     exact⟨(i+1,b,out.length),by dsimp only;omega,_,_,_,Rt.refl _ _ _,cJ,by dsimp only;omega,cZ,by dsimp only;rw[hnx,hin],⟨_,by dsimp only;rw[hnx,hin];exact cE⟩⟩
    ·have hin:mS out x=out.take p++[x]++out.drop p:=by unfold mS;rw[hat,if_neg (fun h=>hex h.2)]
     have htk:List.take ((p:Int).toNat - 0) (List.drop 0 (List.map i64 out))=List.map i64 (out.take p):=by simp[List.map_take]
     have hdr:List.take (out.length - (p:Int).toNat) (List.drop (p:Int).toNat (List.map i64 out))=List.map i64 (out.drop p):=by rw[Int.toNat_natCast,<-List.map_drop,List.take_of_length_le (by simp)]
     repeat' (first|refine aQ ?_|exact eE|with_reducible refine aB ?_ ?_|((with_reducible refine Ask.mk ?_);first|exact cw|(exact hm)|(exact hom)|(simp[gX]<;>omega)|exact cX)|(apply aA;(·(first|exact ei _|exact ep _|exact cK)))|((with_reducible apply aZ);(·exact yG (es:=List.map i64 out) cE hom vF vF SS))|refine aH ?_|((with_reducible refine aE ?_ ?_)<;>intro hc<;>try(exfalso;omega)))
     all_goals refine⟨(i+1,_,_),by dsimp only;omega,_,_,_,Rt.refl _ _ _,cJ,by dsimp only;omega,cZ, ?_,⟨_,Eq.trans (b:=some (.row 3 1 _ _)) cE (OH ?_)⟩⟩
     all_goals dsimp only
     all_goals rw[hnx,hin]
     ·simp;omega
     ·rw[htk,hdr,List.map_append,List.map_append];rfl
  ·have:p=out.length:=by omega
   subst this
   have hat:=zi (Nat.le_refl _) hlt (.inl rfl)
   have hin:mS out x=out++[x]:=by unfold mS;rw[hat,if_neg (fun h=>Nat.lt_irrefl _ h.1)];simp
   have htk:List.take ((out.length:Int).toNat - 0) (List.drop 0 (List.map i64 out))=List.map i64 out:=by rw[Int.toNat_natCast,Nat.sub_zero,List.drop_zero,List.take_of_length_le (by simp)]
   have hdr:List.take (out.length - (out.length:Int).toNat) (List.drop (out.length:Int).toNat (List.map i64 out))=[]:=by simp
   have hll:decide ((out.length:Int)<(out.length:Int))=false:=by simp
   repeat' (first|refine aQ ?_|exact eE|with_reducible refine aB ?_ ?_|((with_reducible refine Ask.mk ?_);first|exact cw|(exact hm)|(exact hom)|(simp[gX]<;>omega)|exact cX)|(apply aA;(·(first|exact ei _|exact cK)))|(simp only[hll])|((with_reducible apply aZ);(·exact yG (es:=List.map i64 out) cE hom vF vF SS))|refine aH ?_|((with_reducible refine aE ?_ ?_)<;>intro hc<;>try(exfalso;omega)))
   all_goals refine⟨(i+1,_,_),by dsimp only;omega,_,_,_,Rt.refl _ _ _,cJ,by dsimp only;omega,cZ, ?_,⟨_,Eq.trans (b:=some (.row 3 1 _ _)) cE (OH ?_)⟩⟩
   all_goals dsimp only
   all_goals rw[hnx,hin]
   ·simp
   ·rw[htk,hdr,List.map_append,List.append_nil];rfl
 ·have:i=l.length:=by omega
  subst this
  rw[List.take_length] at r ⊢
  repeat' (first|refine aQ ?_|exact eE|with_reducible refine aB ?_ ?_|((with_reducible refine Ask.mk ?_);first|exact cw|(exact hm)|exact cX)|(apply aA;(·exact cK))|refine aH ?_|((with_reducible refine aE ?_ ?_)<;>intro hc<;>try(exfalso;omega)))
  exact⟨(dN cE (by simp)).trans (by rw[cr _ (zI _ _)])⟩
abbrev oP (L:List (List Int)):AV:= .im 1 .any (L.map eP)
theorem qG (L:List (List Int)):cg 0 (L.map eP):=(cL _ _).2 fun _ _=>by simp[eP,cP,cL]
set_option maxRecDepth 4000 in
theorem D0 (g:cG) (hg:g.Wf) (hw:Whole g) (hh:(dc g).2<0):Pure Tryz.prog 130 [g.av] (fun r=>r= .dQ [oP (dc g).1,bl true]):=by
 refine aG W3 rfl ?_
 have h1:=A7 g hg hw
 have h2:=uc g hg hw
 unfold j4 at h2
 repeat' (first|refine aQ ?_|exact eE|with_reducible refine aB ?_ ?_|((with_reducible refine Ask.mk ?_);first|exact cw|exact cX|(intro h;simp_all[cG.cells]<;>fail)|(simp_all[cG.cells]<;>fail))|(apply aA;(·exact cK))|refine aK (h1) ?_|refine aK (h2) ?_|refine aH ?_|((with_reducible refine aE ?_ ?_)<;>intro hc<;>try(exfalso;omega)))
 rw[decide_eq_true hh]
 exact KS.eq (by simp only[cP,cg];exact⟨qG _,trivial,trivial⟩) rfl
set_option maxRecDepth 4000 in
set_option maxHeartbeats 4000000 in
theorem z8 (g:cG) (hg:g.Wf) (hw:Whole g) (hh:(dc g).2<0) (hlk:∀i,((dc g).1.getD i []).length<=5000):Pure Tryz.prog 79 [g.av] (fun r=>r=oP ((dc g).1.map j6)):=by
 have h1:=D0 g hg hw hh
 have hL:=(jR hw hh).2.1
 refine cz ?_ (by simp only[cP];exact qG _)
 refine aM aAc rfl ?_
 have hl4:=hw.2.1
 generalize hLg:(dc g).1=L at *
 have hlm:(L.map eP).length=L.length:=by simp
 repeat' (first|refine aQ ?_|exact eE|with_reducible refine aB ?_ ?_|((with_reducible refine Ask.mk ?_);first|exact cw|exact cX|(intro h;simp_all[cG.cells]<;>fail)|(simp_all[cG.cells]<;>fail))|(apply aA;(·exact cK))|refine aK (h1) ?_|refine aH ?_|((with_reducible refine aE ?_ ?_)<;>intro hc<;>try(exfalso;omega)))
 refine aV (fun i:Nat=>[(3,oP L),(5, .sl 10 i),(6,i64 i)])
  (fun i H n=>i<=L.length/\11<=n/\∃d,cC H 10=some (.row 31 1 d (((L.take i).map j6).map eP))) (fun i=>L.length - i) 0 ⟨_,_,_,Rt.nil 5 31 1 (by omega) rfl,cJ,Nat.zero_le _,cZ,⟨_,cE⟩⟩ ?_
 rintro i H n ⟨hi,hn,d,r⟩
 have hrm:(((L.take i).map j6).map eP).length=i:=by simp;omega
 by_cases hil:i<L.length
 ·have ei:∀d,(L.map eP).getD (i:Int).toNat d= .im 1 .any ((L.getD i []).map i64):=fun d=>by
   have:=j5 (l:=L) (i:=(i:Int)) (by rw[Int.toNat_natCast];exact hil) d
   rw[Int.toNat_natCast] at this ⊢;exact this
  have hr:=AT (L.getD i []) (hlk i)
  unfold eP at hr
  have hnx:((L.take (i+1)).map j6).map eP=((L.take i).map j6).map eP++[eP (j6 (L.getD i []))]:=by
   rw[List.take_succ_eq_append_getElem hil,List.map_append,List.map_append,show L.getD i []=L[i] by simp[List.getD,hil]];rfl
  repeat' (first|refine aQ ?_|exact eE|with_reducible refine aB ?_ ?_|((with_reducible refine Ask.mk ?_);first|exact cw|(exact hlm)|(exact hrm)|exact cX)|(apply aA;(·(first|exact ei _|exact cK)))|refine aK (hr) ?_|refine aH ?_|((with_reducible refine aE ?_ ?_)<;>intro hc<;>try(exfalso;omega)))
  exact⟨i+1,by omega,_,_,_,Rt.refl _ _ _,cJ,by omega,cZ,⟨_,by rw[hnx];exact cE⟩⟩
 ·have:i=L.length:=by omega
  subst this
  rw[List.take_length] at r
  repeat' (first|refine aQ ?_|exact eE|with_reducible refine aB ?_ ?_|((with_reducible refine Ask.mk ?_);first|exact cw|(exact hlm)|exact cX)|(apply aA;(·exact cK))|refine aH ?_|((with_reducible refine aE ?_ ?_)<;>intro hc<;>try(exfalso;omega)))
  exact⟨(dN cE (by simp)).trans (by rw[cr _ (qG _)])⟩
theorem C5 {u:cF} {g:cG} (h:eR u g) (i:Nat):((dc g).1.getD i []).length<=5000:=by
 have:=wS g i
 have:=h.len
 omega
theorem DA (out:List Int) (x:Int):(∀j,j<jS out x->out.getD j 0<x)/\(jS out x=out.length\/¬out.getD (jS out x) 0<x):=by
 unfold jS
 induction out with
 |nil=>exact⟨fun j hj=>by simp at hj, .inl rfl⟩
 |cons a r ih=>
  rw[List.takeWhile_cons]
  by_cases ha:a<x
  ·rw[if_pos (by simpa using ha),List.length_cons,List.length_cons]
   refine⟨fun j hj=> ?_,ih.2.imp (fun h=>by omega) id⟩
   cases j with
   |zero=>exact ha
   |succ j=>exact ih.1 j (by omega)
  ·rw[if_neg (by simpa using ha)]
   exact⟨fun j hj=>by simp at hj, .inr ha⟩
theorem IS {out:List Int} (x:Int) (h:out.Pairwise (·<·)):(mS out x).Pairwise (·<·):=by
 obtain⟨h1,h2⟩:=DA out x
 have hle:=zj out x
 unfold mS
 generalize jS out x=p at *
 split
 ·exact h
 ·rename_i hc
  rw[List.append_assoc,List.pairwise_append]
  have hmemT:∀a∈out.take p,a<x:=fun a ha=>by
   obtain⟨i,hi,e⟩:=List.getElem_of_mem ha
   rw[List.length_take] at hi
   have:=h1 i (by omega)
   rw[show out.getD i 0=(out.take p)[i]'(by rw[List.length_take];omega) by simp[List.getD,List.getElem_take,show i<out.length by omega]] at this
   omega
  have hmemD:∀b∈out.drop p,x<b:=fun b hb=>by
   by_cases hp:p<out.length
   ·have h3:¬out.getD p 0<x:=h2.resolve_left (by omega)
    have h4:out.getD p 0≠x:=fun e=>hc ⟨hp,e⟩
    have h5:=List.drop_eq_getElem_cons hp
    rw[show out.getD p 0=out[p] by simp[List.getD,hp]] at h3 h4
    have h6:(out.drop p).Pairwise (·<·):=h.sublist (List.drop_sublist _ _)
    rw[h5] at hb h6
    rcases List.mem_cons.1 hb with rfl|hb
    ·omega
    ·have:=(List.pairwise_cons.1 h6).1 b hb
     omega
   ·rw[List.drop_eq_nil_of_le (by omega)] at hb;cases hb
  refine⟨h.sublist (List.take_sublist _ _), ?_,fun a ha b hb=> ?_⟩
  ·rw[List.singleton_append,List.pairwise_cons]
   exact⟨hmemD,h.sublist (List.drop_sublist _ _)⟩
  ·have:=hmemT a ha
   rw[List.singleton_append,List.mem_cons] at hb
   rcases hb with rfl|hb
   ·exact this
   ·have:=hmemD b hb;omega
theorem JT (l:List Int):(j6 l).Pairwise (·<·):=by
 have:∀(l o:List Int),o.Pairwise (·<·)->(l.foldl mS o).Pairwise (·<·):=by
  intro l
  induction l with
  |nil=>exact fun o h=>h
  |cons a l ih=>exact fun o h=>ih _ (IS a h)
 exact this l [] List.Pairwise.nil
theorem G4:∀(x:Nat),x<4294967296->(bits x).Pairwise (·<·):=by
 intro x
 induction x using Nat.strongRecOn with
 |_ x ih=>
  intro hx
  by_cases h0:x=0
  ·subst h0;exact List.Pairwise.nil
  ·have hp:=pred_lt h0
   rw[oB h0,List.pairwise_cons]
   refine⟨fun k hk=> ?_,ih _ hp (by omega)⟩
   obtain⟨k0,k1⟩:=(qV _ (by omega) _).1 hk
   rw[u6 h0 hx,Bool.and_eq_true] at k1
   have h2:=(FP h0 hx).2.1 k.toNat
   have h3:=of_decide_eq_true k1.2
   have:¬k.toNat<ctz x:=fun h=>by rw[h2 h] at k1;cases k1.1
   omega
theorem GL:∀{a b:List Int},a.Pairwise (·<·)->b.Pairwise (·<·)->(∀x,x∈a↔x∈b)->a=b
 |[],[],_,_,_=>rfl
 |[],y::b,_,_,h=>by have:=(h y).2 (by simp);cases this
 |x::a,[],_,_,h=>by have:=(h x).1 (by simp);cases this
 |x::a,y::b,ha,hb,h=>by
  obtain⟨a1,a2⟩:=List.pairwise_cons.1 ha
  obtain⟨b1,b2⟩:=List.pairwise_cons.1 hb
  have hxy:x=y:=by
   rcases List.mem_cons.1 ((h x).1 (by simp)) with e|e
   ·exact e
   ·rcases List.mem_cons.1 ((h y).2 (by simp)) with e2|e2
    ·exact e2.symm
    ·have:=b1 x e;have:=a1 y e2;omega
  subst hxy
  rw[GL a2 b2 fun z=> ?_]
  constructor
  ·intro hz
   rcases List.mem_cons.1 ((h z).1 (List.mem_cons_of_mem _ hz)) with e|e
   ·have:=a1 z hz;omega
   ·exact e
  ·intro hz
   rcases List.mem_cons.1 ((h z).2 (List.mem_cons_of_mem _ hz)) with e|e
   ·have:=b1 z hz;omega
   ·exact e
theorem Q0 {u:cF} {g:cG} (hk:eR u g) (hl:u.cI.length<=16) (i:Nat):j6 (I1 g i)=mn g i:=
 GL (JT _) (G4 _ (by have:=xj hk hl i;omega)) fun x=>by rw[OF,GB hk hl]
set_option maxRecDepth 8000 in
theorem AR (u:cF) (hu:u.Wf) (hr:cj u) {t:Nat} (ht:t<u.cD.length):Pure Tryz.prog 38 [u.av,i64 t] (fun r=>r= .dQ [oP ((dc (u.gr t)).1.map j6),i64 0]):=by
 have c0:=ng u hu
 rw[jG.2 hr] at c0
 have hgk:=hr.gr ht
 have c1:=z8 (u.gr t) (hu.cD _ (cQ default ht)) hgk.whole hgk.held (C5 hgk)
 have e0:∀d,(u.cD.map cG.av).getD ((t:Int)).toNat d=(u.gr t).av:=fun d=>kZ ht d
 have a0:(u.cD.map cG.av).length=u.cD.length:=List.length_map _
 refine aG aAM rfl ?_
 refine ca ?_
 exact KS.eq (by simp only[cP,cg];exact⟨qG _,trivial,trivial⟩) rfl
theorem u9 (u:cF) (hu:u.Wf) (hr:¬cj u):Pure Tryz.prog 14 [u.av] (fun r=>r= .dQ [.sc (.slice none 0 0),i64 60]):=by
 have c0:=ng u hu
 have hb:=mG hr
 generalize gu u=ck at *
 obtain⟨x,y,z⟩:=ck
 dsimp only at hb
 subst hb
 refine aG W5 rfl ?_
 refine ca ?_
 first|exact rfl|trivial
theorem H8 {H:Hp} {b n:Nat} {e:TypeId} {d:AV} {l:List dO} (h:cC H b=some (.row e 4 d (l.map dO.av))) (hl:l.length=n):dA.df H 6 (.dQ [.sl b n, .sc (.int .i64 0)])= .dQ [eV l,i64 0]:=by
 show AV.dQ (List.map (dA.df H 5) [.sl b n, .sc (.int .i64 0)])=_
 rw[List.map_cons,List.map_cons,List.map_nil,dN h (by rw[List.length_map,hl]),cr _ (oE l),dX _ (show cP 0 (i64 0) by simp[cP])]
set_option maxHeartbeats 4000000 in
theorem sR (u:cF) (hu:u.Wf) (hr:cj u):Pure Tryz.prog 14 [u.av] (fun r=>r= .dQ [eV (dK u),i64 0]):=by
 have c0:=ng u hu
 rw[jG.2 hr] at c0
 have hfew:=hr.qD
 have a0:(u.cD.map cG.av).length=u.cD.length:=List.length_map _
 refine cz ?_ (by simp only[cP,cg];exact⟨oE _,trivial,trivial⟩)
 refine aM W5 rfl ?_
 refine ca ?_
 refine aV (fun σ:Nat×Nat=>[(1, .pt 0 1 0 0),(7, .sl σ.1 (gv u σ.2).length),(8,i64 σ.2)])
  (fun σ H n=>σ.2<=u.cD.length/\1<=σ.1/\σ.1<n/\(∃d,cC H 0=some (.row 25 3 d [u.av]))/\∃d,cC H σ.1=some (.row 69 4 d ((gv u σ.2).map dO.av))) (fun σ=>u.cD.length - σ.2)
  (_,0) ⟨_,_,_,Rt.nil 7 69 4 (by omega) rfl,cJ,Nat.zero_le _,cZ,cZ,⟨_,cE⟩,⟨_,cE⟩⟩ ?_
 clear c0
 rintro⟨b,t⟩ H n ⟨ht,hb0,hb,⟨d0,r0'⟩,⟨d1,r1'⟩⟩
 dsimp only at ht hb0 hb r1' ⊢
 by_cases htl:t<u.cD.length
 ·have c0:=AR u hu hr htl
  have hgk:=hr.gr htl
  have hnl:=hgk.len
  have hLl:((dc (u.gr t)).1.map j6).length=(u.gr t).nodes.length:=by rw[List.length_map];exact(jR hgk.whole hgk.held).2.1
  have hLa:∀i,i<(u.gr t).nodes.length->((dc (u.gr t)).1.map j6).getD i []=mn (u.gr t) i:=fun i hi=>by
   rw[List.length_map] at hLl
   rw[<-Q0 hgk hfew.2.1 i]
   have hi2:i<(dc (u.gr t)).1.length:=by omega
   unfold I1
   generalize (dc (u.gr t)).1=M at *
   simp[List.getD,hi2]
  have e1:∀d,(u.cD.map cG.av).getD ((t:Int)).toNat d=(u.gr t).av:=fun d=>kZ htl d
  generalize (dc (u.gr t)).1.map j6=L at *
  have a1:(L.map eP).length=(u.gr t).nodes.length:=by rw[List.length_map];exact hLl
  refine ca ?_
  refine aI (fun i:Nat=>[(1, .pt 0 1 0 0),(7, .sl b (ef u t i 0).length),(8,i64 t),(9,oP L),(11,i64 i)])
   (fun i H2 n2=>i<=(u.gr t).nodes.length/\b<n2/\(∃d,cC H2 0=some (.row 25 3 d [u.av]))/\∃d,cC H2 b=some (.row 69 4 d ((ef u t i 0).map dO.av))) (fun i=>(u.gr t).nodes.length - i) 0
   (by rw[kX];exact cJ) ⟨Nat.zero_le _,cZ,⟨_,cE⟩,⟨_,by rw[kX];exact cE⟩⟩ ?_
  clear c0 r0' r1'
  rintro i H2 n2 ⟨hi,hn2,⟨d0,r0'⟩,⟨d1,r1'⟩⟩
  have a2:((u.gr t).nodes.map Node.av).length=(u.gr t).nodes.length:=List.length_map _
  by_cases hil:i<(u.gr t).nodes.length
  ·have e0:∀d,((u.gr t).nodes.map Node.av).getD ((i:Int)).toNat d=((u.gr t).nd i).av:=fun d=>fx hil d
   by_cases h5:((u.gr t).nd i).kind=5
   ·have hle:=C7 hgk hfew.2.1 i
    have e2:∀d,(L.map eP).getD ((i:Int)).toNat d= .im 1 .any ((mn (u.gr t) i).map i64):=fun d=>by
     rw[Int.toNat_natCast,dI eP L i d (by omega),show L.getD i default=L.getD i [] from rfl,hLa i hil];rfl
    have r2:decide (((u.gr t).nd i).kind≠5)=false:=decide_eq_false fun h=>h h5
    refine ca ?_
    refine aI (fun σ:Nat×Nat=>[(1, .pt 0 1 0 0),(7, .sl b (ef u t i σ.2).length),(8,i64 t),(9,oP L),(11,i64 i),(12, .pt σ.1 1 0 0),(13,i64 σ.2)])
     (fun σ H3 n3=>σ.2<=(mn (u.gr t) i).length/\b<n3/\(∃d,cC H3 0=some (.row 25 3 d [u.av]))/\(∃d,cC H3 σ.1=some (.row 65 13 d [((u.gr t).nd i).av]))/\σ.1<n3/\b<σ.1/\∃d,cC H3 b=some (.row 69 4 d ((ef u t i σ.2).map dO.av))) (fun σ=>(mn (u.gr t) i).length - σ.2) (_,0)
     cJ ⟨Nat.zero_le _,cZ,⟨_,cE⟩,⟨_,cE⟩,cZ,cZ,⟨_,cE⟩⟩ ?_
    clear r0' r1'
    rintro⟨c,k⟩ H3 n3 ⟨hk,hn3,⟨d0,r0'⟩,⟨d3,r3'⟩,hc,hbc,⟨d1,r1'⟩⟩
    dsimp only at hk r3' hc hbc r1' ⊢
    have a3:((mn (u.gr t) i).map i64).length=(mn (u.gr t) i).length:=List.length_map _
    by_cases hkl:k<(mn (u.gr t) i).length
    ·have e0:∀d,((mn (u.gr t) i).map i64).getD ((k:Int)).toNat d=i64 ((mn (u.gr t) i).getD k 0):=fun d=>by
      rw[Int.toNat_natCast];exact dI i64 (mn (u.gr t) i) k d hkl
     have a4:((ef u t i k).map dO.av).length=(ef u t i k).length:=List.length_map _
     have hkk:=vq hr htl (i:=i) (k:=k) (by omega) (by omega)
     refine ca ?_
     refine⟨(c,k+1),by dsimp only;omega, ?_,by dsimp only;omega,cZ,⟨_,cE⟩,⟨_,cE⟩,cZ,hbc, ?_⟩
     ·dsimp only;rw[kV hkl,List.length_append];exact cJ
     ·dsimp only;rw[kV hkl,List.map_append];exact⟨_,cE⟩
    ·obtain rfl:k=(mn (u.gr t) i).length:=by omega
     rw[mJ h5] at r1'
     refine ca ?_
     exact⟨i+1,by omega,by rw[<-mJ h5];exact cJ,by omega,cZ,⟨_,cE⟩,⟨_,cE⟩⟩
   ·have r2:decide (((u.gr t).nd i).kind≠5)=true:=decide_eq_true h5
    refine ca ?_
    rw[kW h5] at r1'
    exact⟨i+1,by omega,by rw[<-kW h5];exact cJ,by omega,cZ,⟨_,cE⟩,⟨_,cE⟩⟩
  ·obtain rfl:i=(u.gr t).nodes.length:=by omega
   rw[jg] at r1'
   refine ca ?_
   exact⟨(b,t+1),by dsimp only;omega,_,_,_,Rt.refl _ _ _,by dsimp only;rw[<-jg];exact cJ,by dsimp only;omega,hb0,cZ,⟨_,cE⟩,⟨_,cE⟩⟩
 ·obtain rfl:t=u.cD.length:=by omega
  refine ca ?_
  exact⟨H8 cE rfl⟩
end Go.Proofs.YtjopoheligmmoaaGreatDoor
namespace Go.dA
open Go.RowKit
set_option linter.unusedSimpArgs false
set_option linter.unusedVariables false
theorem Wk.GO {r r2:AV} {cs:List AV} {H H2:Hp} {nx nx2:Nat} (h:Wk r H nx r2 H2 nx2):Wk (.dQ (r::cs)) H nx (.dQ (r2::cs)) H2 nx2:=by
 intro w0 ρ U w M0 hU hS
 obtain⟨ρ2,U2,k1,k2,k3,k4⟩:=h w0 ρ U w M0 hU hS
 refine⟨ρ2,U2,k1,k2,k3,fun v hv=> ?_⟩
 rw[VR] at hv ⊢
 obtain⟨us,hus,hv⟩:=hv
 refine⟨us,hus, ?_⟩
 rw[ct] at hv ⊢
 obtain⟨x,v3,hx3,h1,h2⟩:=hv
 exact⟨x,v3,hx3,k4 x h1,ct.cd k3 h2⟩
end Go.dA
namespace Go.Proofs.YtjopoheligmmoaaGreatDoor
open Go Go.dA Go.Proofs
set_option linter.unusedSimpArgs false
set_option linter.unusedVariables false
set_option maxRecDepth 8000
section
open Classical in
noncomputable def iz (u:cF):Option (List Int):=if cj u then jU u else none
open Classical in
noncomputable def hC (u:cF):Int:=if cj u then 0 else 60
open Classical in
noncomputable def iP (u:cF):List dO:=if cj u then dK u else[]
def YV (g f:Nat->AV) (n i:Nat):List AV:=(List.range n).map fun j=>if j<i then f j else g j
@[simp] theorem YW (g f:Nat->AV) (n i:Nat):(YV g f n i).length=n:=by simp[YV]
end
theorem OB (u:cF) (hu:u.Wf):Pure Tryz.prog 15 [u.av] (fun r=>r= .dQ [c8 ((iz u).getD []),bl (iz u).isSome,i64 (hC u)]):=by
 by_cases hr:cj u
 ·have hQ:iz u=jU u:=by unfold iz;rw[if_pos hr]
  have hE:hC u=0:=by unfold hC;rw[if_pos hr]
  rw[hQ,hE]
  exact SH u hu hr
 ·have hQ:iz u=none:=by unfold iz;rw[if_neg hr]
  have hE:hC u=60:=by unfold hC;rw[if_neg hr]
  rw[hQ,hE]
  exact iH (N9 u hu hr) (jy _ _ _) fun c=>dY.dQ (.cons (dY.ja _ _ _ _) (.cons (fun _ h=>h) (.cons (fun _ h=>h) .nil)))
theorem DF (u:cF) (h:Int):(fB u h).Pairwise (·<=·):=by
 have:=List.pairwise_mergeSort (le:=fun x y:Int=>decide (x<=y)) (fun a b c h1 h2=>by simp at h1 h2 ⊢;omega) (fun a b=>by simp;omega) (je (dK u) h)
 unfold fB eU
 exact this.imp fun h=>by simpa using h
theorem yl {lead:Int->List Int} {n k:Nat} (h:mE lead n (k:Int)=none):eM lead n (k+1)=eM lead n k:=by
 rw[eM,h]
theorem yk {lead:Int->List Int} {n k:Nat} {w:List Int} (h:mE lead n (k:Int)=some w):eM lead n (k+1)=if(eM lead n k).isSome=false\/w.length<((eM lead n k).getD []).length then some w else eM lead n k:=by
 rw[eM,h]
 cases hb:eM lead n k with
 |none=>simp
 |some b=>
  dsimp only
  by_cases hl:w.length<b.length
  ·rw[if_pos hl,if_pos (.inr hl)]
  ·rw[if_neg hl,if_neg]
   simp;omega
theorem B3 {lead:Int->List Int} {n:Nat} (hin:∀x,∀y∈lead x,0<=y/\y<(n:Int)):∀k,k<=n->((eM lead n k).getD []).length<=n/\((eM lead n k).isSome=true->0<((eM lead n k).getD []).length):=fun k hk=>by
 cases hb:eM lead n k with
 |none=>exact⟨Nat.zero_le _,fun h=>by cases h⟩
 |some b=>
  obtain⟨f,h1,h2,_⟩:=jw hb
  obtain⟨_,p2,p3,p4,_⟩:=(iO hin (by omega)).1 b h2
  exact⟨fW n b p3 p4,fun _=>p2.pos⟩
theorem MD {H:Hp} {b n:Nat} {e:TypeId} {d:AV} {l:List Int} {x:Bool} (h:cC H b=some (.row e 1 d (l.map i64))) (hl:l.length=n):dA.df H 6 (.dQ [.sl b n, .sc (.bool x), .sc (.int .i64 0)])= .dQ [c8 l,bl x,i64 0]:=by
 show AV.dQ (List.map (dA.df H 5) [.sl b n, .sc (.bool x), .sc (.int .i64 0)])=_
 rw[List.map_cons,List.map_cons,List.map_cons,List.map_nil,dN h (by rw[List.length_map,hl]),cr _ ((cL _ _).2 fun _ _=>by simp[cP]),dX _ (show cP 0 (bl x) by simp[cP]),dX _ (show cP 0 (i64 0) by simp[cP])]
set_option maxHeartbeats 4000000 in
theorem AX (u:cF) (hu:u.Wf) (hr:cj u):Pure Tryz.prog 16 [u.av] (fun r=>r= .dQ [c8 ((jU u).getD []),bl (jU u).isSome,i64 0]):=by
 have c0:=sR u hu hr
 have hfew:=hr.qD.2.1
 have hE:∀e∈dK u,(0<=e.held/\e.held<u.cI.length)/\0<=e.taken/\e.taken<u.cI.length:=fun e he=>qC hr he
 have hEl:(dK u).length<=1048576:=by
  have:=lV hr (m:=u.cD.length) (Nat.le_refl _)
  have:=hr.qD.2.2
  unfold dK;omega
 have hlead:∀h x,x∈fB u h↔∃e∈dK u,e.held=h/\e.taken=x:=fun h x=>oM
 have hsort:=DF u
 have hin:∀x,∀y∈fB u x,0<=y/\y<(u.cI.length:Int):=fun x=>uM hr x
 unfold jU
 have hfar:∀f,f<u.cI.length->(rO (dK u) u.cI.length f).length=u.cI.length:=fun f hf=>(rQ hE hf _).len
 generalize dK u=E at *
 generalize fB u=lead at *
 have a0:(u.cI.map Decl.av).length=u.cI.length:=List.length_map _
 refine cz ?_ (by simp[cP,cg,cL])
 refine aM XE rfl ?_
 refine ca ?_
 refine aV (fun σ:Nat×Nat=>[(1, .pt 0 1 0 0),(5,eV E),(7, .sl σ.1 ((eM lead u.cI.length σ.2).getD []).length),(8,i64 σ.2)])
  (fun σ H n=>σ.2<=u.cI.length/\σ.1<n/\1<=n/\(∃d,cC H 0=some (.row 25 3 d [u.av]))/\∃d,cC H σ.1=some (.row 3 1 d (((eM lead u.cI.length σ.2).getD []).map i64))) (fun σ=>u.cI.length - σ.2)
  (_,0) ⟨_,_,_,Rt.nil 7 3 1 (by omega) rfl,cJ,Nat.zero_le _,cZ,cZ,⟨_,cE⟩,⟨_,cE⟩⟩ ?_
 clear c0
 rintro⟨b,f⟩ H n ⟨hf,hb,hn1,⟨d0,r0'⟩,⟨d1,r1'⟩⟩
 dsimp only at hf hb r1' ⊢
 obtain⟨hBl,hBs⟩:=B3 hin f hf
 by_cases hfl:f<u.cI.length
 ·have c0:Pure Tryz.prog 42 [eV E,i64 ((u.cI.map Decl.av).length:Int),i64 f] (fun r=>r=c8 (rO E u.cI.length f)):=by rw[a0];exact L4 hE hfew hEl hfl
  have hdl:=hfar f hfl
  have c1:=qY hE hfew hEl hdl (f:Int)
  cases hw:mE lead u.cI.length (f:Int) with
  |none=>
   rw[JB hlead hE hfl hw] at c1
   have hnx:=yl hw
   generalize rO E u.cI.length f=d at *
   generalize eM lead u.cI.length f=B at *
   refine ca ?_
   refine⟨(b,f+1),by dsimp only;omega,_,_,_,Rt.refl _ _ _,by dsimp only;rw[hnx];exact cJ,by dsimp only;omega,cZ,cZ,⟨_,cE⟩,⟨_,by dsimp only;rw[hnx];exact cE⟩⟩
  |some w=>
   obtain⟨p1,p2,p3,p4,_⟩:=(iO hin (by omega)).1 w hw
   have hring:=fun i hi=>JC hlead hE hsort hfl hw (i:=i) hi
   have hnx:=yk hw
   have hp:=p2.pos
   have hwl:=fW _ w p3 p4
   obtain⟨g1,g2⟩:=hring 0 hp
   rw[p1] at g1
   rw[g1] at c1
   have hm:=p4 _ (cQ 0 (Nat.mod_lt (0+1) hp))
   have hmr:∀i,i<w.length->0<=w.getD i 0/\w.getD i 0<u.cI.length:=fun i hi=>p4 _ (cQ 0 hi)
   have hcn:∀i,i<w.length->Pure Tryz.prog 43 [eV E,c8 (rO E u.cI.length f),i64 (w.getD i 0)] (fun r=>r=i64 (w.getD ((i+1)%w.length) 0)):=fun i hi=>by
    have:=qY hE hfew hEl hdl (w.getD i 0)
    rw[(hring i hi).1] at this
    exact this
   generalize rO E u.cI.length f=d at *
   have aD:(d.map i64).length=u.cI.length:=by rw[List.length_map,hdl]
   have e0:∀x,(d.map i64).getD (w.getD ((0+1)%w.length) 0).toNat x=i64 ((w.length - 1 - 0:Nat):Int):=fun x=>by rw[<-g2];exact dI i64 d _ x (by omega)
   clear hring g1 g2 hE hEl hlead hsort hfar
   generalize hB:eM lead u.cI.length f=B at *
   have r0:decide (w.getD ((0+1)%w.length) 0<0)=false:=decide_eq_false (by omega)
   by_cases hgo:B.isSome=false\/w.length<(B.getD []).length
   ·rw[if_pos hgo] at hnx
    have hcond:¬(0<(B.getD []).length/\(B.getD []).length<=w.length):=by
     rintro⟨h1,h2⟩
     rcases hgo with h|h
     ·cases B with
      |none=>simp at h1
      |some x=>cases h
     ·omega
    have hw1:w.take (0+1)=[(f:Int)]:=by
     cases w with
     |nil=>simp at hp
     |cons x w=>rw[<-p1];rfl
    by_cases hB0:0<(B.getD []).length
    ·have r1:decide (0<((B.getD []).length:Int))=true:=decide_eq_true (by omega)
     have r2:decide (((B.getD []).length:Int)<=((w.length - 1 - 0:Nat):Int)+1)=false:=decide_eq_false (by omega)
     refine ca ?_
     refine aI (fun σ:Nat×Nat=>[(1, .pt 0 1 0 0),(5,eV E),(8,i64 f),(9,c8 d),(10,i64 (w.getD ((σ.2+1)%w.length) 0)),(11, .sl σ.1 (σ.2+1))])
      (fun σ H n=>σ.2<w.length/\σ.1<n/\1<=σ.1/\(∃d,cC H 0=some (.row 25 3 d [u.av]))/\∃d,cC H σ.1=some (.row 3 1 d ((w.take (σ.2+1)).map i64))) (fun σ=>w.length - σ.2)
      (_,0) cJ ⟨hp,cZ,cZ,⟨_,cE⟩,⟨_,by rw[hw1];exact cE⟩⟩ ?_
     clear r0' r1' c0 c1
     rintro⟨c,i⟩ H2 n2 ⟨hi,hc,hn2,⟨d2,r0'⟩,⟨d3,r1'⟩⟩
     dsimp only at hi hc hn2 r1' ⊢
     have aT:((w.take (i+1)).map i64).length=i+1:=by rw[List.length_map,List.length_take];omega
     by_cases hil:i+1<w.length
     ·have hmod:(i+1)%w.length=i+1:=Nat.mod_eq_of_lt hil
      have c0:=hcn (i+1) hil
      rw[hmod]
      have r0:decide (w.getD (i+1) 0≠(f:Int))=true:=decide_eq_true fun e=>by
       rw[<-p1] at e
       have:=nZ p3 hil hp e
       omega
      have hnx2:w.take (i+1+1)=w.take (i+1)++[w.getD (i+1) 0]:=by
       rw[List.take_succ_eq_append_getElem hil];simp[List.getD,hil]
      have hri:=hmr (i+1) hil
      refine ca ?_
      exact⟨(c,i+1),by dsimp only;omega,cJ,hil,cZ,hn2,⟨_,cE⟩,⟨_,by dsimp only;rw[hnx2,List.map_append];exact cE⟩⟩
     ·have hie:i+1=w.length:=by omega
      rw[hie,Nat.mod_self,p1]
      rw[hie,List.take_length] at r1'
      have r0:decide ((f:Int)≠(f:Int))=false:=decide_eq_false fun e=>e rfl
      refine ca ?_
      refine⟨(c,f+1),by dsimp only;omega,_,_,_,Rt.refl _ _ _,by dsimp only;rw[hnx];exact cJ,by dsimp only;omega,cZ,cZ,⟨_,cE⟩,⟨_,by dsimp only;rw[hnx];exact cE⟩⟩
    ·have r1:decide (0<((B.getD []).length:Int))=false:=decide_eq_false (by omega)
     refine ca ?_
     refine aI (fun σ:Nat×Nat=>[(1, .pt 0 1 0 0),(5,eV E),(8,i64 f),(9,c8 d),(10,i64 (w.getD ((σ.2+1)%w.length) 0)),(11, .sl σ.1 (σ.2+1))])
      (fun σ H n=>σ.2<w.length/\σ.1<n/\1<=σ.1/\(∃d,cC H 0=some (.row 25 3 d [u.av]))/\∃d,cC H σ.1=some (.row 3 1 d ((w.take (σ.2+1)).map i64))) (fun σ=>w.length - σ.2)
      (_,0) cJ ⟨hp,cZ,cZ,⟨_,cE⟩,⟨_,by rw[hw1];exact cE⟩⟩ ?_
     clear r0' r1' c0 c1
     rintro⟨c,i⟩ H2 n2 ⟨hi,hc,hn2,⟨d2,r0'⟩,⟨d3,r1'⟩⟩
     dsimp only at hi hc hn2 r1' ⊢
     have aT:((w.take (i+1)).map i64).length=i+1:=by rw[List.length_map,List.length_take];omega
     by_cases hil:i+1<w.length
     ·have hmod:(i+1)%w.length=i+1:=Nat.mod_eq_of_lt hil
      have c0:=hcn (i+1) hil
      rw[hmod]
      have r0:decide (w.getD (i+1) 0≠(f:Int))=true:=decide_eq_true fun e=>by
       rw[<-p1] at e
       have:=nZ p3 hil hp e
       omega
      have hnx2:w.take (i+1+1)=w.take (i+1)++[w.getD (i+1) 0]:=by
       rw[List.take_succ_eq_append_getElem hil];simp[List.getD,hil]
      have hri:=hmr (i+1) hil
      refine ca ?_
      exact⟨(c,i+1),by dsimp only;omega,cJ,hil,cZ,hn2,⟨_,cE⟩,⟨_,by dsimp only;rw[hnx2,List.map_append];exact cE⟩⟩
     ·have hie:i+1=w.length:=by omega
      rw[hie,Nat.mod_self,p1]
      rw[hie,List.take_length] at r1'
      have r0:decide ((f:Int)≠(f:Int))=false:=decide_eq_false fun e=>e rfl
      refine ca ?_
      refine⟨(c,f+1),by dsimp only;omega,_,_,_,Rt.refl _ _ _,by dsimp only;rw[hnx];exact cJ,by dsimp only;omega,cZ,cZ,⟨_,cE⟩,⟨_,by dsimp only;rw[hnx];exact cE⟩⟩
   ·rw[if_neg hgo] at hnx
    have hlen:0<(B.getD []).length/\(B.getD []).length<=w.length:=by
     constructor
     ·apply hBs
      cases h:B.isSome with
      |true=>rfl
      |false=>exact absurd (.inl h) hgo
     ·apply Nat.le_of_not_lt
      intro h
      exact hgo (.inr h)
    have r1:decide (0<((B.getD []).length:Int))=true:=decide_eq_true (by omega)
    have r2:decide (((B.getD []).length:Int)<=((w.length - 1 - 0:Nat):Int)+1)=true:=decide_eq_true (by omega)
    refine ca ?_
    refine⟨(b,f+1),by dsimp only;omega,_,_,_,Rt.refl _ _ _,by dsimp only;rw[hnx];exact cJ,by dsimp only;omega,cZ,cZ,⟨_,cE⟩,⟨_,by dsimp only;rw[hnx];exact cE⟩⟩
 ·obtain rfl:f=u.cI.length:=by omega
  refine ca ?_
  refine⟨?_⟩
  have hsome:decide (0<(((eM lead u.cI.length u.cI.length).getD []).length:Int))=(eM lead u.cI.length u.cI.length).isSome:=by
   cases hq:eM lead u.cI.length u.cI.length with
   |none=>rfl
   |some q=>rw[hq] at hBs;exact decide_eq_true (by have:=hBs rfl;omega)
  rw[hsome]
  exact MD cE rfl
theorem JW (u:cF) (hu:u.Wf):Pure Tryz.prog 16 [u.av] (fun r=>r= .dQ [c8 ((iz u).getD []),bl (iz u).isSome,i64 (hC u)]):=by
 by_cases hr:cj u
 ·have hQ:iz u=jU u:=by unfold iz;rw[if_pos hr]
  have hE:hC u=0:=by unfold hC;rw[if_pos hr]
  rw[hQ,hE]
  exact AX u hu hr
 ·have hQ:iz u=none:=by unfold iz;rw[if_neg hr]
  have hE:hC u=60:=by unfold hC;rw[if_neg hr]
  rw[hQ,hE]
  have c0:=u9 u hu hr
  have key:Pure Tryz.prog 16 [u.av] (fun r=>r= .dQ [.sc (.slice none 0 0),bl false,i64 60]):=by
   refine aG XE rfl ?_
   refine ca ?_
   first|exact rfl|trivial
  exact iH key (jy _ _ _) fun c=>dY.dQ (.cons (dY.ja _ _ _ _) (.cons (fun _ h=>h) (.cons (fun _ h=>h) .nil)))
theorem L7 (l:List dO) (e:Int):cP 0 (.dQ [eV l,i64 e]):=by
 simp only[cP,cg];exact⟨oE _,trivial,trivial⟩
theorem HF (u:cF) (hu:u.Wf):Pure Tryz.prog 13 [u.av] (fun r=>r= .dQ [eV (iP u),i64 (hC u)]):=by
 by_cases hr:cj u
 ·have hQ:iP u=dK u:=by unfold iP;rw[if_pos hr]
  have hE:hC u=0:=by unfold hC;rw[if_pos hr]
  rw[hQ,hE]
  exact pK u hu hr
 ·have hQ:iP u=[]:=by unfold iP;rw[if_neg hr]
  have hE:hC u=60:=by unfold hC;rw[if_neg hr]
  rw[hQ,hE]
  exact iH (vr u hu hr) (L7 _ _) fun c=>dY.dQ (.cons (dY.ja _ _ _ _) (.cons (fun _ h=>h) .nil))
theorem D4 (u:cF) (hu:u.Wf):Pure Tryz.prog 14 [u.av] (fun r=>r= .dQ [eV (iP u),i64 (hC u)]):=by
 by_cases hr:cj u
 ·have hQ:iP u=dK u:=by unfold iP;rw[if_pos hr]
  have hE:hC u=0:=by unfold hC;rw[if_pos hr]
  rw[hQ,hE]
  exact sR u hu hr
 ·have hQ:iP u=[]:=by unfold iP;rw[if_neg hr]
  have hE:hC u=60:=by unfold hC;rw[if_neg hr]
  rw[hQ,hE]
  exact iH (u9 u hu hr) (L7 _ _) fun c=>dY.dQ (.cons (dY.ja _ _ _ _) (.cons (fun _ h=>h) .nil))
section
structure ZS (u:cF) (m:MS) (mr a s me ho pr:Nat) (ids:List Nat) (H:Hp):Prop where
 rM:∃d,cC H mr=some (.row 96 8 d [m.rows u a s me ho pr])
 rA:∃d,cC H a=some (.row 3 1 d (m.at_.map i64))
 rS:∃d,cC H s=some (.row 93 1 d (eJ ids m.cH))
 rL:∀t,t<m.cH.length->∃d,cC H (ids.getD t 0)=some (.row 2 1 d ((m.cH.getD t []).map i64))
 rE:∃d,cC H me=some (.row 2 1 d (m.mem.map i64))
 rH:∃d,cC H ho=some (.row 3 1 d (m.hold.map i64))
 rP:∃d,cC H pr=some (.row 155 2 d (m.cW.map de.av))
 len:ids.length=m.cH.length
 nodup:(mr::a::s::me::ho::pr::ids).Nodup
abbrev ML.Nt (L:ML) (u:cF) (m:MS) (H:Hp):Prop:=ZS u m L.mr L.a L.s L.me L.ho L.pr L.ids H
theorem ZS.CZ {u:cF} {m:MS} {mr a s me ho pr:Nat} {ids:List Nat} {H:Hp} (h:ZS u m mr a s me ho pr ids H) (k:Nat):dA.df H (k+4) (.pt mr 1 0 0)=m.fz u:=by
 obtain⟨d1,h1⟩:=h.rM
 obtain⟨d2,h2⟩:=h.rA
 obtain⟨d3,h3⟩:=h.rS
 obtain⟨d4,h4⟩:=h.rE
 obtain⟨d5,h5⟩:=h.rH
 obtain⟨d6,h6⟩:=h.rP
 have hsl:(eJ ids m.cH).length=m.cH.length:=by unfold eJ;rw[List.length_map,List.length_zip,h.len];simp
 have hs:(eJ ids m.cH).map (dA.df H (k+1))=m.cH.map c8:=by
  apply List.ext_getElem (by simp[hsl])
  intro t q1 q2
  have ht:t<m.cH.length:=by simpa using q2
  have hti:t<ids.length:=by rw[h.len];exact ht
  obtain⟨d,hd⟩:=h.rL t ht
  rw[show ids.getD t 0=ids[t] by simp[List.getD,hti],show m.cH.getD t []=m.cH[t] by simp[List.getD,ht]] at hd
  rw[List.getElem_map,List.getElem_map]
  simp only[eJ,List.getElem_map,List.getElem_zip]
  rw[dN hd (by simp),cr _ ((cL _ _).2 fun _ _=>by simp[cP])]
 simp only[dA.df,h1]
 simp only[List.length_cons,List.length_nil,if_true,List.map_cons,List.map_nil,MS.rows]
 rw[oI]
 simp only[List.map_cons,List.map_nil]
 rw[dN h2 (by simp),dN h3 hsl,dN h4 (by simp),dN h5 (by simp),dN h6 (by simp),hs]
 rw[cr _ ((cL _ _).2 fun _ _=>by simp[cP]),cr _ ((cL _ _).2 fun _ _=>by simp[cP]),cr _ ((cL _ _).2 fun _ _=>by simp[cP]),cr _ ((cL _ _).2 fun _ _=>by simp[cP])]
 rw[dX _ (show cP 0 (cq u.shared) by simp[cP,cL]),dX _ (show cP 0 (cq u.cI) by simp[cP,cL]),dX _ (show cP 0 (dy u.cD) by simp[cP,cL])]
 rfl
section
variable {u:cF} {m:MS} {L:ML} {H H':Hp}
theorem ML.Nt.mem (h:L.Nt u m H):(∀x∈[L.a,L.s,L.me,L.ho,L.pr],x∈L.all):=by
 intro x hx
 simp only[List.mem_cons,List.not_mem_nil,or_false] at hx
 simp only[ML.all,List.mem_cons]
 omega
theorem oS (h:L.Nt u m H) {t:Nat} (ht:t<m.cH.length):L.it t∈L.all:=by
 have:L.it t∈L.ids:=eW (by rw[h.len];exact ht)
 simp only[ML.all,List.mem_cons]
 exact .inr (.inr (.inr (.inr (.inr (.inr this)))))
theorem T3 (h:L.Nt u m H) {t s:Nat} (ht:t<m.cH.length) (hs:s<m.cH.length) (e:s≠t):L.it s≠L.it t:=by
 have h1:=(List.nodup_cons.1 (List.nodup_cons.1 (List.nodup_cons.1 (List.nodup_cons.1 (List.nodup_cons.1 (List.nodup_cons.1 h.nodup).2).2).2).2).2).2
 have hl:=h.len
 intro he
 have ht':t<L.ids.length:=by omega
 have hs':s<L.ids.length:=by omega
 have:L.ids[s]=L.ids[t]:=by simpa[ML.it,List.getD,ht',hs'] using he
 exact e ((List.getElem_inj h1).1 this)
theorem mY (h:L.Nt u m H) {t:Nat} (ht:t<m.cH.length):L.RR t:=by
 have hn:=h.nodup
 have hi:L.it t∈L.ids:=eW (by rw[h.len];exact ht)
 have hne:∀x,x∉L.ids->L.it t≠x:=fun x hx e=>hx (e▸hi)
 simp only[List.nodup_cons,List.mem_cons,not_or] at hn
 obtain⟨⟨a1,a2,a3,a4,a5,a6⟩,⟨b1,b2,b3,b4,b5⟩,⟨c1,c2,c3,c4⟩,⟨d1,d2,d3⟩,⟨e1,e2⟩,f1,_⟩:=hn
 exact⟨⟨a1,a2,a3,a4,a5,b1,b2,b3,b4,c1,c2,c3,d1,d2,e1⟩,hne _ a6,hne _ b5,hne _ c4,hne _ d3,hne _ e2,hne _ f1⟩
theorem ML.Nt.cd (h:L.Nt u m H) (hk:∀y∈L.all,cC H' y=cC H y):L.Nt u m H':=by
 have hm:=h.mem
 obtain⟨d1,h1⟩:=h.rM
 obtain⟨d2,h2⟩:=h.rA
 obtain⟨d3,h3⟩:=h.rS
 obtain⟨d4,h4⟩:=h.rE
 obtain⟨d5,h5⟩:=h.rH
 obtain⟨d6,h6⟩:=h.rP
 refine⟨⟨d1,(hk _ (by simp)).trans h1⟩,⟨d2,(hk _ (hm _ (by simp))).trans h2⟩,⟨d3,(hk _ (hm _ (by simp))).trans h3⟩,fun t ht=> ?_,⟨d4,(hk _ (hm _ (by simp))).trans h4⟩,⟨d5,(hk _ (hm _ (by simp))).trans h5⟩,⟨d6,(hk _ (hm _ (by simp))).trans h6⟩,h.len,h.nodup⟩
 obtain⟨d,hd⟩:=h.rL t ht
 exact⟨d,(hk _ (oS h ht)).trans hd⟩
theorem ML.Nt.gC (h:L.Nt u m H) {t:Nat} (ht:t<m.cH.length) (k w:Int) (hit:∃d,cC H' (L.it t)=some (.row 2 1 d (((m.cH.getD t []).map i64).set k.toNat (i64 w)))) (hk:∀y∈L.all,y≠L.it t->cC H' y=cC H y):L.Nt u (m.gC t k w) H':=by
 obtain⟨-,n1,n2,n3,n4,n5,n6⟩:=mY h ht
 have hm:=h.mem
 obtain⟨d1,h1⟩:=h.rM
 obtain⟨d2,h2⟩:=h.rA
 obtain⟨d3,h3⟩:=h.rS
 obtain⟨d4,h4⟩:=h.rE
 obtain⟨d5,h5⟩:=h.rH
 obtain⟨d6,h6⟩:=h.rP
 have hl:(m.gC t k w).cH.length=m.cH.length:=by simp[MS.gC]
 have hrow:eJ L.ids (m.gC t k w).cH=eJ L.ids m.cH:=by
  unfold eJ MS.gC
  apply List.ext_getElem (by simp)
  intro i q1 q2
  simp only[List.getElem_map,List.getElem_zip,AV.sl.injEq,true_and]
  rw[List.getElem_set]
  have hi:i<m.cH.length:=by simp at q2;omega
  split
  ·rename_i e;subst e;rw[List.length_set];simp[List.getD,hi]
  ·rfl
 refine⟨⟨d1, ?_⟩,⟨d2,(hk _ (hm _ (by simp)) gp).trans h2⟩,⟨d3,by rw[hrow];exact(hk _ (hm _ (by simp)) gp).trans h3⟩,fun s hs=> ?_,⟨d4,(hk _ (hm _ (by simp)) gp).trans h4⟩,⟨d5,(hk _ (hm _ (by simp)) gp).trans h5⟩,⟨d6,(hk _ (hm _ (by simp)) gp).trans h6⟩,by rw[hl];exact h.len,h.nodup⟩
 ·rw[show(m.gC t k w).rows u L.a L.s L.me L.ho L.pr=m.rows u L.a L.s L.me L.ho L.pr by simp[MS.rows,MS.gC]]
  exact(hk _ (by simp) gp).trans h1
 ·rw[hl] at hs
  by_cases e:s=t
  ·subst e
   obtain⟨d,hd⟩:=hit
   refine⟨d,hd.trans ?_⟩
   rw[show(m.gC s k w).cH.getD s []=(m.cH.getD s []).set k.toNat w from eu hs,List.map_set]
  ·obtain⟨d,hd⟩:=h.rL s hs
   refine⟨d, ?_⟩
   rw[show(m.gC t k w).cH.getD s []=m.cH.getD s [] from getD_set_ne (Ne.symm e)]
   exact(hk _ (oS h hs) (T3 h ht hs e)).trans hd
theorem ML.Nt.gJ (h:L.Nt u m H) {t:Nat} (ht:t<m.cH.length) (k w:Int) (hme:∃d,cC H' L.me=some (.row 2 1 d ((m.mem.map i64).set k.toNat (i64 w)))) (hk:∀y∈L.all,y≠L.me->cC H' y=cC H y):L.Nt u { m with mem:=m.mem.set k.toNat w } H':=by
 obtain⟨⟨a1,a2,a3,a4,a5,b1,b2,b3,b4,c1,c2,c3,e1,e2,f1⟩,n1,n2,n3,n4,n5,n6⟩:=mY h ht
 have hm:=h.mem
 obtain⟨d1,h1⟩:=h.rM
 obtain⟨d2,h2⟩:=h.rA
 obtain⟨d3,h3⟩:=h.rS
 obtain⟨d4,h4⟩:=hme
 obtain⟨d5,h5⟩:=h.rH
 obtain⟨d6,h6⟩:=h.rP
 refine⟨⟨d1, ?_⟩,⟨d2,(hk _ (hm _ (by simp)) gp).trans h2⟩,⟨d3,(hk _ (hm _ (by simp)) gp).trans h3⟩,fun s hs=> ?_,⟨d4,by rw[List.map_set];exact h4⟩,⟨d5,(hk _ (hm _ (by simp)) gp).trans h5⟩,⟨d6,(hk _ (hm _ (by simp)) gp).trans h6⟩,h.len,h.nodup⟩
 ·rw[show({ m with mem:=m.mem.set k.toNat w }:MS).rows u L.a L.s L.me L.ho L.pr=m.rows u L.a L.s L.me L.ho L.pr by simp[MS.rows]]
  exact(hk _ (by simp) gp).trans h1
 ·obtain⟨d,hd⟩:=h.rL s hs
  obtain⟨m1,m2,m3,m4,m5,m6⟩:=(mY h hs).it
  exact⟨d,(hk _ (oS h hs) gp).trans hd⟩
theorem ML.Nt.M7 (h:L.Nt u m H) {t:Nat} (ht:t<m.cH.length) (k w:Int) (hho:∃d,cC H' L.ho=some (.row 3 1 d ((m.hold.map i64).set k.toNat (i64 w)))) (hk:∀y∈L.all,y≠L.ho->cC H' y=cC H y):L.Nt u { m with hold:=m.hold.set k.toNat w } H':=by
 obtain⟨⟨a1,a2,a3,a4,a5,b1,b2,b3,b4,c1,c2,c3,e1,e2,f1⟩,n1,n2,n3,n4,n5,n6⟩:=mY h ht
 have hm:=h.mem
 obtain⟨d1,h1⟩:=h.rM
 obtain⟨d2,h2⟩:=h.rA
 obtain⟨d3,h3⟩:=h.rS
 obtain⟨d4,h4⟩:=h.rE
 obtain⟨d5,h5⟩:=hho
 obtain⟨d6,h6⟩:=h.rP
 refine⟨⟨d1, ?_⟩,⟨d2,(hk _ (hm _ (by simp)) gp).trans h2⟩,⟨d3,(hk _ (hm _ (by simp)) gp).trans h3⟩,fun s hs=> ?_,⟨d4,(hk _ (hm _ (by simp)) gp).trans h4⟩,⟨d5,by rw[List.map_set];exact h5⟩,⟨d6,(hk _ (hm _ (by simp)) gp).trans h6⟩,h.len,h.nodup⟩
 ·rw[show({ m with hold:=m.hold.set k.toNat w }:MS).rows u L.a L.s L.me L.ho L.pr=m.rows u L.a L.s L.me L.ho L.pr by simp[MS.rows]]
  exact(hk _ (by simp) gp).trans h1
 ·obtain⟨d,hd⟩:=h.rL s hs
  obtain⟨m1,m2,m3,m4,m5,m6⟩:=(mY h hs).it
  exact⟨d,(hk _ (oS h hs) gp).trans hd⟩
theorem ML.Nt.ZK (h:L.Nt u m H) {t:Nat} (ht:t<m.cH.length) (k:Nat) (w:Int) (hat:∃d,cC H' L.a=some (.row 3 1 d ((m.at_.map i64).set k (i64 w)))) (hk:∀y∈L.all,y≠L.a->cC H' y=cC H y):L.Nt u { m with at_:=m.at_.set k w } H':=by
 obtain⟨⟨a1,a2,a3,a4,a5,b1,b2,b3,b4,c1,c2,c3,e1,e2,f1⟩,n1,n2,n3,n4,n5,n6⟩:=mY h ht
 have hm:=h.mem
 obtain⟨d1,h1⟩:=h.rM
 obtain⟨d2,h2⟩:=hat
 obtain⟨d3,h3⟩:=h.rS
 obtain⟨d4,h4⟩:=h.rE
 obtain⟨d5,h5⟩:=h.rH
 obtain⟨d6,h6⟩:=h.rP
 refine⟨⟨d1, ?_⟩,⟨d2,by rw[List.map_set];exact h2⟩,⟨d3,(hk _ (hm _ (by simp)) gp).trans h3⟩,fun s hs=> ?_,⟨d4,(hk _ (hm _ (by simp)) gp).trans h4⟩,⟨d5,(hk _ (hm _ (by simp)) gp).trans h5⟩,⟨d6,(hk _ (hm _ (by simp)) gp).trans h6⟩,h.len,h.nodup⟩
 ·rw[show({ m with at_:=m.at_.set k w }:MS).rows u L.a L.s L.me L.ho L.pr=m.rows u L.a L.s L.me L.ho L.pr by simp[MS.rows]]
  exact(hk _ (by simp) gp).trans h1
 ·obtain⟨d,hd⟩:=h.rL s hs
  obtain⟨m1,m2,m3,m4,m5,m6⟩:=(mY h hs).it
  exact⟨d,(hk _ (oS h hs) gp).trans hd⟩
theorem ML.Nt.N1 (h:L.Nt u m H) {t:Nat} (ht:t<m.cH.length) (p:de) (hmr:∃d,cC H' L.mr=some (.row 96 8 d [({ m with cW:=m.cW++[p] }:MS).rows u L.a L.s L.me L.ho L.pr])) (hpr:∃d,cC H' L.pr=some (.row 155 2 d (m.cW.map de.av++[p.av]))) (hk:∀y∈L.all,y≠L.pr->y≠L.mr->cC H' y=cC H y):L.Nt u { m with cW:=m.cW++[p] } H':=by
 obtain⟨⟨a1,a2,a3,a4,a5,b1,b2,b3,b4,c1,c2,c3,e1,e2,f1⟩,n1,n2,n3,n4,n5,n6⟩:=mY h ht
 have hm:=h.mem
 obtain⟨d2,h2⟩:=h.rA
 obtain⟨d3,h3⟩:=h.rS
 obtain⟨d4,h4⟩:=h.rE
 obtain⟨d5,h5⟩:=h.rH
 obtain⟨d6,h6⟩:=hpr
 refine⟨hmr,⟨d2,(hk _ (hm _ (by simp)) gp gp).trans h2⟩,⟨d3,(hk _ (hm _ (by simp)) gp gp).trans h3⟩,fun s hs=> ?_,⟨d4,(hk _ (hm _ (by simp)) gp gp).trans h4⟩,⟨d5,(hk _ (hm _ (by simp)) gp gp).trans h5⟩,⟨d6,by rw[List.map_append];exact h6⟩,h.len,h.nodup⟩
 obtain⟨d,hd⟩:=h.rL s hs
 obtain⟨m1,m2,m3,m4,m5,m6⟩:=(mY h hs).it
 exact⟨d,(hk _ (oS h hs) gp gp).trans hd⟩
end
end
abbrev VL (x y:List UInt8):Bool:=Op.bytesLess x y
def spot (l:List (List UInt8)) (k:List UInt8):Nat:=l.countP fun x=>VL x k
theorem S3 (a b:ByteArray):(a==b)=decide (a=b):=by
 obtain⟨d⟩:=a
 obtain⟨d'⟩:=b
 show(d==d')=_
 rw[Bool.eq_iff_iff]
 simp
theorem Decl.HL {a b:Decl} (h1:a.name=b.name) (h2:a.word=b.word) (h3:a.at_=b.at_):a=b:=by
 obtain⟨a1,a2,a3⟩:=a
 obtain⟨b1,b2,b3⟩:=b
 simp only at h1 h2 h3
 subst h1;subst h2;subst h3;rfl
theorem jd.HL {a b:jd} (h1:a.iC=b.iC) (h2:a.slot=b.slot) (h3:a.word=b.word):a=b:=by
 obtain⟨a1,a2,a3⟩:=a
 obtain⟨b1,b2,b3⟩:=b
 simp only at h1 h2 h3
 subst h1;subst h2;subst h3;rfl
theorem LS {l:List Decl} {i:Nat} (h:i<l.length) (d:AV):(l.map Decl.av).getD ((i:Int)).toNat d=(l.getD i default).av:=by rw[Int.toNat_natCast];exact dI Decl.av l i d h
theorem xi {α:Type} {l m:List α} (d:α) (hlm:l.length=m.length) (h:∀j,j<l.length->l.getD j d=m.getD j d):l=m:=by
 refine List.ext_getElem hlm fun j h1 h2=> ?_
 have:=h j h1
 simpa[List.getD,h1,h2] using this
theorem Node.Z1 {a b:Node} (h1:a.kind=b.kind) (h2:a.op=b.op) (h3:a.slot=b.slot) (h4:a.cV=b.cV) (h5:a.a=b.a) (h6:a.b=b.b) (h7:a.next=b.next) (h8:a.sY=b.sY) (h9:a.origin=b.origin):a=b:=by
 obtain⟨a1,a2,a3,a4,a5,a6,a7,a8,a9⟩:=a
 obtain⟨b1,b2,b3,b4,b5,b6,b7,b8,b9⟩:=b
 simp only at h1 h2 h3 h4 h5 h6 h7 h8 h9
 subst h1;subst h2;subst h3;subst h4;subst h5;subst h6;subst h7;subst h8;subst h9;rfl
theorem cG.Z0 {a b:cG} (h1:a.name=b.name) (h2:a.locals=b.locals) (h3:a.cH=b.cH) (h4:a.nodes=b.nodes):a=b:=by
 obtain⟨a1,a2,a3,a4⟩:=a
 obtain⟨b1,b2,b3,b4⟩:=b
 simp only at h1 h2 h3 h4
 subst h1;subst h2;subst h3;subst h4;rfl
theorem rR (l:List Decl):cg 0 (l.map Decl.av):=(cL _ _).2 fun _ _=>by simp[cP,cg,Decl.cells]
theorem rU (l:List Node):cg 0 (l.map Node.av):=(cL _ _).2 fun _ _=>by simp[cP,cg,Node.cells]
theorem CT (l:List cG):cg 0 (l.map cG.av):=(cL _ _).2 fun _ _=>by simp[cP,cg,cG.cells,rU]
theorem cF.HL {a b:cF} (h1:a.shared=b.shared) (h2:a.cI=b.cI) (h3:a.cD=b.cD):a=b:=by
 obtain⟨a1,a2,a3⟩:=a
 obtain⟨b1,b2,b3⟩:=b
 simp only at h1 h2 h3
 subst h1;subst h2;subst h3;rfl
theorem sF (g:cG):cP 0 g.av:=by simp[cP,cg,cG.cells,rU]
theorem CU (u:cF):cP 0 u.av:=by simp[cP,cg,cF.cells,rR,CT]
abbrev wL (x:Nat) (g:cG):AV:= .agg [st g.name,i64 g.locals,i64 g.cH, .sl x g.nodes.length]
def mQ (ids:List Nat) (gs:List cG):List AV:=List.zipWith wL ids gs
abbrev OX (sh lk gr:Nat) (u:cF):AV:= .agg [.sl sh u.shared.length, .sl lk u.cI.length, .sl gr u.cD.length]
theorem qI {ids:List Nat} {gs:List cG} (h:ids.length=gs.length):(mQ ids gs).length=gs.length:=by simp[mQ,h]
theorem zP {ids:List Nat} {gs:List cG} (h:ids.length=gs.length) {t:Nat} (ht:t<gs.length) (d:AV):(mQ ids gs).getD t d=wL (ids.getD t 0) (gs.getD t default):=by
 have h1:t<(mQ ids gs).length:=by rw[qI h];exact ht
 rw[gd h1,gd (by omega),gd ht]
 simp[mQ]
theorem MG {ids:List Nat} {gs:List cG} (h:ids.length=gs.length) (x:Nat) (g:cG):mQ (ids++[x]) (gs++[g])=mQ ids gs++[wL x g]:=by
 unfold mQ
 rw[List.zipWith_append h];rfl
structure RT (sh lk gr:Nat) (ids:List Nat) (u:cF) (H:Hp):Prop where
 nodup:(sh::lk::gr::ids).Nodup
 len:ids.length=u.cD.length
 sh:∃d,cC H sh=some (.row 85 3 d (u.shared.map Decl.av))
 lk:∃d,cC H lk=some (.row 85 3 d (u.cI.map Decl.av))
 gr:∃d,cC H gr=some (.row 60 4 d (mQ ids u.cD))
 nds:∀t,t<u.cD.length->∃d,cC H (ids.getD t 0)=some (.row 65 13 d ((u.gr t).nodes.map Node.av))
theorem RT.cd {sh lk gr:Nat} {ids:List Nat} {u:cF} {H H':Hp} (h:RT sh lk gr ids u H) (hk:∀x∈sh::lk::gr::ids,cC H' x=cC H x):RT sh lk gr ids u H':=by
 refine⟨h.nodup,h.len, ?_, ?_, ?_,fun t ht=> ?_⟩
 ·rw[hk sh (by simp)];exact h.sh
 ·rw[hk lk (by simp)];exact h.lk
 ·rw[hk gr (by simp)];exact h.gr
 ·rw[hk _ (List.mem_cons_of_mem _ (List.mem_cons_of_mem _ (List.mem_cons_of_mem _ (eW (by rw[h.len];exact ht)))))];exact h.nds t ht
theorem RT.df {sh lk gr:Nat} {ids:List Nat} {u:cF} {H:Hp} (h:RT sh lk gr ids u H) (k:Nat):dA.df H (k+4) (OX sh lk gr u)=u.av:=by
 obtain⟨d1,h1⟩:=h.sh
 obtain⟨d2,h2⟩:=h.lk
 obtain⟨d3,h3⟩:=h.gr
 rw[oI]
 simp only[List.map_cons,List.map_nil]
 rw[dN h1 (by simp),dN h2 (by simp),dN h3 (qI h.len),cr _ (rR _),cr _ (rR _)]
 have:(mQ ids u.cD).map (dA.df H (k+2))=u.cD.map cG.av:=by
  apply List.ext_getElem (by simp[mQ,h.len])
  intro t q1 q2
  have ht:t<u.cD.length:=by simpa using q2
  obtain⟨d,hd⟩:=h.nds t ht
  have e1:(mQ ids u.cD)[t]'(by simpa using q1)=wL (ids.getD t 0) (u.gr t):=by rw[<-zP h.len ht .any,gd]
  rw[List.getElem_map,e1,List.getElem_map,oI]
  simp only[List.map_cons,List.map_nil]
  rw[dX _ (by simp[cP]),dX _ (by simp[cP]),dX _ (by simp[cP]),dN hd (by simp),cr _ (rU _)]
  have:u.gr t=u.cD[t]:=by simp[cF.gr,List.getD,ht]
  rw[this];rfl
 rw[this];rfl
set_option maxRecDepth 4000 in
theorem CC (g:cG) (hg:g.Wf) (h96:g.nodes.length * 96<=140737488351232):cT Tryz.prog 34 [g.av] [] 0 (fun r H n=>∃b d,r= .agg ([st g.name,i64 g.locals,i64 g.cH]++[.sl b (g.nodes.map Node.av).length])/\cC H b=some (.row 65 13 d (g.nodes.map Node.av))):=by
 have hl:=hg.len
 refine aM aAI rfl ?_
 repeat' (first|refine aQ ?_|exact eE|with_reducible refine aB ?_ ?_|((with_reducible refine Ask.mk ?_);first|exact cw|(refine jZ (m:=g.nodes.length) (by simp) ?_;omega)|(simp only[List.length_map];omega)|exact cX|(intro h;simp_all[cG.cells]<;>fail)|(simp_all[cG.cells]<;>fail))|(apply aA;(·exact cK))|refine aH ?_|((with_reducible refine aE ?_ ?_)<;>intro hc<;>try(exfalso;omega)))
 exact⟨⟨2,_,by simp[cG.cells],cE⟩⟩
set_option maxRecDepth 4000 in
set_option maxHeartbeats 4000000 in
theorem E5 (u:cF) (hu:u.Wf) (h96:∀g∈u.cD,g.nodes.length * 96<=140737488351232) (H0:Hp) (nx:Nat):cT Tryz.prog 12 [u.av] H0 nx (fun r H n=>∃sh lk gr ids,r=OX sh lk gr u/\RT sh lk gr ids u H/\(∀x∈sh::lk::gr::ids,nx<=x/\x<n)/\nx<=n/\∀y,y<nx->cC H y=cC H0 y):=by
 have hs:=hu.kC
 have hk:=hu.lj
 have hgl:=hu.l7
 refine aM Z9 rfl ?_
 repeat' (first|refine aQ ?_|exact eE|with_reducible refine aB ?_ ?_|((with_reducible refine Ask.mk ?_);first|exact cw|(refine jZ rfl ?_;simp only[List.length_map];omega)|exact cX|(intro h;simp_all[cF.cells]<;>fail)|(simp_all[cF.cells]<;>fail))|(apply aA;(·exact cK))|refine aH ?_|((with_reducible refine aE ?_ ?_)<;>intro hc<;>try(exfalso;omega)))
 have z1:0+(u.shared.map Decl.av).length=u.shared.length:=by simp
 have z2:0+(u.cI.map Decl.av).length=u.cI.length:=by simp
 try rw[z1]
 try rw[z2]
 refine aV (fun σ:Nat×List Nat=>[(1, .pt nx 1 0 0),(2, .pt (nx+1) 1 0 0),(3, .pt (nx+11) 1 0 0),(4,i64 σ.1)])
  (fun σ H n=>σ.1<=u.cD.length/\nx+15<=n/\σ.2.length=σ.1/\σ.2.Nodup/\(∀x∈σ.2,nx+15<=x/\x<n)/\(∃d,cC H nx=some (.row 25 3 d [u.av]))/\(∃d,cC H (nx+1)=some (.row 25 3 d [hP true [.slice none 0 0, .slice none 0 0, .slice none 0 0]]))/\(∃d,cC H (nx+11)=some (.row 25 3 d [.agg [.sl (nx+2) u.shared.length, .sl (nx+6) u.cI.length, .sl (nx+14) σ.1]]))/\(∃d,cC H (nx+2)=some (.row 85 3 d (u.shared.map Decl.av)))/\(∃d,cC H (nx+6)=some (.row 85 3 d (u.cI.map Decl.av)))/\(∃d,cC H (nx+14)=some (.row 60 4 d (mQ σ.2 (u.cD.take σ.1))))/\(∀t,t<σ.1->∃d,cC H (σ.2.getD t 0)=some (.row 65 13 d ((u.gr t).nodes.map Node.av)))/\∀y,y<nx->cC H y=cC H0 y) (fun σ=>u.cD.length - σ.1) (0,[])
  ⟨_,_,_,Rt.wk (Wk.oR (b:=nx+11) (e:=60) (sz:=4) (by simp only[List.length_cons,List.length_nil];omega) (by omega) (te:=25) (tz:=3) (cs:=[.sl (nx+2) u.shared.length, .sl (nx+6) u.cI.length, .sc (.slice none 0 0)]) (j:=2) cE (by show 2<3;omega) rfl),cJ,Nat.zero_le _,cZ,rfl,List.nodup_nil,fun x hx=>by simp at hx,⟨_,cE⟩,⟨_,cE⟩,⟨_,cE⟩,⟨_,cE⟩,⟨_,cE⟩,⟨_,cE⟩,fun t ht=>absurd ht (Nat.not_lt_zero _),fun y hy=>cM⟩ ?_
 rintro⟨t,ids⟩ H n ⟨ht,hn,hil,hnd,hin,⟨d0,r0⟩,⟨d1,r1⟩,⟨d11,r11⟩,⟨d2,r2⟩,⟨d6,r6⟩,⟨d14,r14⟩,hnds,hkp⟩
 dsimp only at ht hil hnd hin r11 r14 hnds ⊢
 have htk:(u.cD.take t).length=t:=by rw[List.length_take];omega
 have hgl:(mQ ids (u.cD.take t)).length=t:=by rw[qI (by rw[hil,htk]),htk]
 by_cases htl:t<u.cD.length
 ·have eg:=fun d=>kZ (l:=u.cD) htl d
  have hgm:=cQ (default:cG) htl
  have hcg:=CC (u.cD.getD t default) (hu.cD _ hgm) (h96 _ hgm)
  have hnx:mQ (ids++[n+12]) (u.cD.take (t+1))=mQ ids (u.cD.take t)++[wL (n+12) (u.cD.getD t default)]:=by
   rw[List.take_succ_eq_append_getElem htl,MG (by rw[hil,htk]),show u.cD.getD t default=u.cD[t] by simp[List.getD,htl]]
  have hgr:u.gr t=u.cD.getD t default:=rfl
  generalize u.cD.getD t default=g at *
  have hfz:∀H1:Hp,[g.av].map (dA.df H1 6)=[g.av]:=fun H1=>by rw[List.map_cons,List.map_nil,dX 6 (sF g)]
  have hft:cg 0 [g.av]:=⟨sF g,trivial⟩
  have hflat:∀i,i<(g.nodes.map Node.av).length->fu ((g.nodes.map Node.av).getD i .any):=fun i hi=>by
   rw[dI Node.av _ _ _ (by simpa using hi)]
   simp[fu,kY,Node.cells]
  repeat' (first|refine aQ ?_|exact eE|with_reducible refine aB ?_ ?_|((with_reducible refine Ask.mk ?_);first|exact cw|(exact hgl)|(refine jZ rfl ?_;simp only[List.length_map];omega)|exact cX|(intro h;simp_all[cF.cells]<;>fail)|(simp_all[cF.cells]<;>fail))|(apply aA;(·(first|exact eg _|exact cK)))|(refine bB [] .any (cs:=[st g.name,i64 g.locals,i64 g.cH]) trivial hcg hflat (fun H1 _=>hfz H1) hft ?_)|refine aH ?_|((with_reducible refine aE ?_ ?_)<;>intro hc<;>try(exfalso;omega)))
  refine⟨(t+1,ids++[n+12]),by dsimp only;omega,_,_,_,Rt.refl _ _ _,cJ,by dsimp only;omega,by omega,by simp[hil], ?_, ?_,⟨_,cE⟩,⟨_,cE⟩,⟨_,cE⟩,⟨_,cE⟩,⟨_,cE⟩,⟨_,by dsimp only;rw[hnx,List.length_map];exact cE⟩, ?_,fun y hy=>Eq.trans cM (hkp y hy)⟩
  ·refine List.nodup_append.2 ⟨hnd,by simp,fun a ha b hb=> ?_⟩
   simp only[List.mem_cons,List.not_mem_nil,or_false] at hb
   have:=hin _ ha;omega
  ·intro x hx
   rcases List.mem_append.1 hx with hx|hx
   ·have:=hin _ hx;exact⟨this.1,Nat.lt_of_lt_of_le this.2 cZ⟩
   ·simp only[List.mem_cons,List.not_mem_nil,or_false] at hx
    subst hx;exact⟨by omega,cZ⟩
  ·intro q hq
   have hq:q<t+1:=hq
   by_cases e:q=t
   ·subst e
    have e2:(ids++[n+12]).getD q 0=n+12:=by rw[List.getD,List.getElem?_append_right (by omega),hil,Nat.sub_self];rfl
    dsimp only
    rw[e2,hgr];exact⟨_,cE⟩
   ·obtain⟨d,hd⟩:=hnds q (by omega)
    have e2:(ids++[n+12]).getD q 0=ids.getD q 0:=by simp[List.getD,List.getElem?_append,show q<ids.length by omega]
    have:=hin _ (eW (l:=ids) (q:=q) (by omega))
    dsimp only
    rw[e2];exact⟨d,Eq.trans cM hd⟩
 ·have:t=u.cD.length:=by omega
  subst this
  rw[List.take_length] at r14
  repeat' (first|refine aQ ?_|exact eE|with_reducible refine aB ?_ ?_|((with_reducible refine Ask.mk ?_);first|exact cw|exact cX|(intro h;simp_all[cF.cells]<;>fail)|(simp_all[cF.cells]<;>fail))|(apply aA;(·exact cK))|refine aH ?_|((with_reducible refine aE ?_ ?_)<;>intro hc<;>try(exfalso;omega)))
  refine⟨⟨nx+2,nx+6,nx+14,ids,rfl,⟨?_,hil,⟨_,cE⟩,⟨_,cE⟩,⟨_,cE⟩,fun t ht=> ?_⟩, ?_,cZ,fun y hy=>Eq.trans cM (hkp y hy)⟩⟩
  ·refine List.nodup_cons.2 ⟨?_,List.nodup_cons.2 ⟨?_,List.nodup_cons.2 ⟨fun h=> ?_,hnd⟩⟩⟩
   ·simp only[List.mem_cons,not_or]
    exact⟨by omega,by omega,fun h=>by have:=hin _ h;omega⟩
   ·simp only[List.mem_cons,not_or]
    exact⟨by omega,fun h=>by have:=hin _ h;omega⟩
   ·have:=hin _ h;omega
  ·obtain⟨d,hd⟩:=hnds t ht
   have:=hin _ (eW (l:=ids) (q:=t) (by omega))
   exact⟨d,Eq.trans cM hd⟩
  ·intro x hx
   simp only[List.mem_cons] at hx
   rcases hx with rfl|rfl|rfl|hx
   ·exact⟨by omega,by omega⟩
   ·exact⟨by omega,by omega⟩
   ·exact⟨by omega,by omega⟩
   ·have:=hin _ hx;exact⟨by omega,by omega⟩
theorem HC (u:cF) (hu:u.Wf) (h96:∀g∈u.cD,g.nodes.length * 96<=140737488351232):Pure Tryz.prog 12 [u.av] (fun r=>r=u.av):=by
 refine cz ((E5 u hu h96 [] 0).mono ?_) (CU u)
 rintro r H n ⟨sh,lk,gr,ids,rfl,hA,_⟩
 exact hA.df 2
def wi (S:List Nat) (H:Hp):Hp:=H.filter fun q=>decide (q.1∈S)
theorem kA {S:List Nat} {b:Nat} (hb:b∈S):∀H:Hp,cC (wi S H) b=cC H b
 |[]=>rfl
 |(d,v)::H=>by
  unfold wi
  by_cases hd:d∈S
  ·rw[List.filter_cons_of_pos (by simpa using hd)]
   by_cases e:b=d
   ·subst e;rw[cx,cx]
   ·rw[cc e,cc e];exact kA hb H
  ·rw[List.filter_cons_of_neg (by simpa using hd),cc (fun e=>hd (by rw[<-e];exact hb))]
   exact kA hb H
theorem sj {G:Hp} {k:Nat} {cs:List AV}:dA.pT G (k+1) (.agg cs)= .agg (cs.map (dA.pT G k)):=rfl
theorem M9 (G:Hp) (k:Nat) (n:Node):dA.pT G k n.av=n.av:=by
 cases k with
 |zero=>rfl
 |succ k=>rw[sj];simp only[Node.cells,List.map_cons,List.map_nil,uH];rfl
theorem M8 (G:Hp) (k:Nat) (n:Decl):dA.pT G k n.av=n.av:=by
 cases k with
 |zero=>rfl
 |succ k=>rw[sj];simp only[Decl.cells,List.map_cons,List.map_nil,uH];rfl
theorem RT.pT {sh lk gr:Nat} {ids:List Nat} {u:cF} {H:Hp} (h:RT sh lk gr ids u H) (k:Nat):dA.pT (wi (sh::lk::gr::ids) H) (k+4) (OX sh lk gr u)=u.av:=by
 obtain⟨d1,h1⟩:=h.sh
 obtain⟨d2,h2⟩:=h.lk
 obtain⟨d3,h3⟩:=h.gr
 have g1:=(kA (S:=sh::lk::gr::ids) (b:=sh) (by simp) H).trans h1
 have g2:=(kA (S:=sh::lk::gr::ids) (b:=lk) (by simp) H).trans h2
 have g3:=(kA (S:=sh::lk::gr::ids) (b:=gr) (by simp) H).trans h3
 rw[sj]
 simp only[List.map_cons,List.map_nil]
 rw[pU g1 (by simp),pU g2 (by simp),pU g3 (qI h.len)]
 have e1:∀(l:List Decl) k,(l.map Decl.av).map (dA.pT (wi (sh::lk::gr::ids) H) k)=l.map Decl.av:=fun l k=>by rw[List.map_map];exact List.map_congr_left fun d _=>M8 _ _ d
 have e2:∀(l:List Node) k,(l.map Node.av).map (dA.pT (wi (sh::lk::gr::ids) H) k)=l.map Node.av:=fun l k=>by rw[List.map_map];exact List.map_congr_left fun d _=>M9 _ _ d
 rw[e1,e1]
 have:(mQ ids u.cD).map (dA.pT (wi (sh::lk::gr::ids) H) (k+2))=u.cD.map cG.av:=by
  apply List.ext_getElem (by simp[mQ,h.len])
  intro t q1 q2
  have ht:t<u.cD.length:=by simpa using q2
  obtain⟨d,hd⟩:=h.nds t ht
  have g4:=(kA (S:=sh::lk::gr::ids) (b:=ids.getD t 0) (List.mem_cons_of_mem _ (List.mem_cons_of_mem _ (List.mem_cons_of_mem _ (eW (by rw[h.len];exact ht))))) H).trans hd
  have e1:(mQ ids u.cD)[t]'(by simpa using q1)=wL (ids.getD t 0) (u.gr t):=by rw[<-zP h.len ht .any,gd]
  rw[List.getElem_map,e1,List.getElem_map,sj]
  simp only[List.map_cons,List.map_nil]
  rw[uH,uH,uH,pU g4 (by simp),e2]
  have:u.gr t=u.cD[t]:=by simp[cF.gr,List.getD,ht]
  rw[this];rfl
 rw[this];rfl
theorem VM (a b:ByteArray):(a != b)= !decide (a=b):=by rw[bne,S3]
theorem sQ (l m:List Decl) (hl:l.length * 32<=140737488351232) (hm:m.length * 32<=140737488351232):Pure Tryz.prog 45 [cq l,cq m] (fun r=>r=bl (decide (l=m))):=by
 refine aG aAS rfl ?_
 repeat' (first|refine aQ ?_|exact aC|with_reducible refine aB ?_ ?_|(apply aA;(·exact cK))|refine aH ?_|((with_reducible refine aE ?_ ?_)<;>intro hc<;>try(exfalso;omega)))
 ·refine dw (Eq.symm ?_)
  exact decide_eq_false fun e=>hc (by rw[e])
 ·have hlm:l.length=m.length:=by omega
  refine aI (fun i:Nat=>[(0,cq l),(1,cq m),(5,i64 i)])
   (fun i H n=>i<=l.length/\∀j,j<i->l.getD j default=m.getD j default) (fun i=>l.length - i) 0 cJ ⟨Nat.zero_le _,fun _ h=>by omega⟩ ?_
  rintro i H n ⟨hi,hall⟩
  by_cases hil:i<l.length
  ·have e1:=fun d=>LS (l:=l) hil d
   have e2:=fun d=>LS (l:=m) (i:=i) (by omega) d
   repeat' (first|refine aQ ?_|exact eE|with_reducible refine aB ?_ ?_|((with_reducible refine Ask.mk ?_);first|exact cw|exact cX|(intro h;simp_all[Decl.cells]<;>fail)|(simp_all[Decl.cells]<;>fail))|(apply aA;(·(first|exact e1 _|exact e2 _|exact cK)))|refine aH ?_|((with_reducible refine aE ?_ ?_)<;>intro hc<;>try(exfalso;omega)))
   ·refine dw (Eq.symm ?_)
    refine decide_eq_false fun e=> ?_
    rw[e] at hc
    simp[S3] at hc
   ·refine⟨i+1,by omega,cJ,by omega,fun j hj=> ?_⟩
    by_cases hji:j=i
    ·subst hji
     obtain⟨h1,h2,h3,_⟩:=hc
     rw[S3,decide_eq_true_eq] at h1
     exact Decl.HL h1 h2 h3
    ·exact hall j (by omega)
  ·have:i=l.length:=by omega
   subst this
   repeat' (first|refine aQ ?_|exact aC|with_reducible refine aB ?_ ?_|(apply aA;(·exact cK))|refine aH ?_|((with_reducible refine aE ?_ ?_)<;>intro hc<;>try(exfalso;omega)))
   refine dw (Eq.symm ?_)
   exact decide_eq_true (xi default hlm hall)
set_option maxRecDepth 4000 in
set_option maxHeartbeats 8000000 in
theorem AQ (a b:cG) (ha:a.Wf) (hb:b.Wf):Pure Tryz.prog 46 [a.av,b.av] (fun r=>r=bl (decide (a=b))):=by
 have hla:=ha.len
 have hlb:=hb.len
 refine aG aAT rfl ?_
 repeat' (first|refine aQ ?_|exact eE|with_reducible refine aB ?_ ?_|((with_reducible refine Ask.mk ?_);first|exact cw|exact cX|(intro h;simp_all[cG.cells]<;>fail)|(simp_all[cG.cells]<;>fail))|(apply aA;(·exact cK))|refine aH ?_|((with_reducible refine aE ?_ ?_)<;>intro hc<;>try(exfalso;omega)))
 ·refine dw (Eq.symm ?_)
  refine decide_eq_false fun e=> ?_
  rw[e] at hc
  simp[VM] at hc
 ·have hnm:a.name=b.name/\a.locals=b.locals/\a.cH=b.cH/\a.nodes.length=b.nodes.length:=by
   simp[VM] at hc
   exact⟨hc.1.1.1,hc.1.1.2,hc.1.2,by have:=hc.2;omega⟩
  refine aI (fun i:Nat=>[(2, .pt 0 1 0 0),(3, .pt 1 1 0 0),(5,i64 i)])
   (fun i H n=>i<=a.nodes.length/\2<=n/\(∃d,cC H 0=some (.row 60 4 d [a.av]))/\(∃d,cC H 1=some (.row 60 4 d [b.av]))/\∀j,j<i->a.nodes.getD j default=b.nodes.getD j default) (fun i=>a.nodes.length - i) 0 cJ ⟨Nat.zero_le _,cZ,⟨_,cE⟩,⟨_,cE⟩,fun _ h=>by omega⟩ ?_
  clear hc
  rintro i H n ⟨hi,hn,⟨d0,r0⟩,⟨d1,r1⟩,hall⟩
  by_cases hil:i<a.nodes.length
  ·have e1:=fun d=>fx (l:=a.nodes) hil d
   have e2:=fun d=>fx (l:=b.nodes) (i:=i) (by omega) d
   repeat' (first|refine aQ ?_|exact eE|with_reducible refine aB ?_ ?_|((with_reducible refine Ask.mk ?_);first|exact cw|exact cX|(intro h;simp_all[cG.cells,Node.cells]<;>fail)|(simp_all[cG.cells,Node.cells]<;>fail))|(apply aA;(·(first|exact e1 _|exact e2 _|exact cK)))|refine aH ?_|((with_reducible refine aE ?_ ?_)<;>intro hc<;>try(exfalso;omega)))
   ·refine dw (Eq.symm ?_)
    refine decide_eq_false fun e=> ?_
    rw[e] at hc
    simp at hc
   ·refine⟨i+1,by omega,cJ,by omega,cZ,⟨_,cE⟩,⟨_,cE⟩,fun j hj=> ?_⟩
    by_cases hji:j=i
    ·subst hji
     obtain⟨h1,h2,h3,h4,h5,h6,h7,h8,h9,h10,h11,h12,h13,_⟩:=hc
     exact Node.Z1 h1 h2 h3 h4 (jd.HL (by simpa using h5) h6 h7) (jd.HL (by simpa using h8) h9 h10) h11 h12 h13
    ·exact hall j (by omega)
  ·have:i=a.nodes.length:=by omega
   subst this
   repeat' (first|refine aQ ?_|exact eE|with_reducible refine aB ?_ ?_|((with_reducible refine Ask.mk ?_);first|exact cw|exact cX|(intro h;simp_all[cG.cells]<;>fail)|(simp_all[cG.cells]<;>fail))|(apply aA;(·exact cK))|refine aH ?_|((with_reducible refine aE ?_ ?_)<;>intro hc<;>try(exfalso;omega)))
   refine dw (Eq.symm ?_)
   exact decide_eq_true (cG.Z0 hnm.1 hnm.2.1 hnm.2.2.1 (xi default hnm.2.2.2 hall))
set_option maxRecDepth 4000 in
set_option maxHeartbeats 4000000 in
theorem EG (u v:cF) (hu:u.Wf) (hv:v.Wf):Pure Tryz.prog 19 [u.av,v.av] (fun r=>r=bl (decide (u=v))):=by
 have h1:=sQ u.shared v.shared hu.kC hv.kC
 have h2:=sQ u.cI v.cI hu.lj hv.lj
 have hgl:=hu.l7
 have hgl2:=hv.l7
 refine aG aAC rfl ?_
 repeat' (first|refine aQ ?_|exact eE|with_reducible refine aB ?_ ?_|((with_reducible refine Ask.mk ?_);first|exact cw|exact cX|(intro h;simp_all[cF.cells]<;>fail)|(simp_all[cF.cells]<;>fail))|(apply aA;(·exact cK))|refine aK (h1) ?_|refine aK (h2) ?_|refine aH ?_|((with_reducible refine aE ?_ ?_)<;>intro hc<;>try(exfalso;omega)))
 ·refine dw (Eq.symm ?_)
  refine decide_eq_false fun e=> ?_
  rw[e] at hc
  simp at hc
 ·have hnm:u.cD.length=v.cD.length/\u.shared=v.shared/\u.cI=v.cI:=by
   simp at hc
   exact⟨by have:=hc.1.1;omega,hc.1.2,hc.2⟩
  refine aI (fun i:Nat=>[(2, .pt 0 1 0 0),(3, .pt 1 1 0 0),(5,i64 i)])
   (fun i H n=>i<=u.cD.length/\2<=n/\(∃d,cC H 0=some (.row 25 3 d [u.av]))/\(∃d,cC H 1=some (.row 25 3 d [v.av]))/\∀j,j<i->u.cD.getD j default=v.cD.getD j default) (fun i=>u.cD.length - i) 0 cJ ⟨Nat.zero_le _,cZ,⟨_,cE⟩,⟨_,cE⟩,fun _ h=>by omega⟩ ?_
  clear hc h1 h2
  rintro i H n ⟨hi,hn,⟨d0,r0⟩,⟨d1,r1⟩,hall⟩
  by_cases hil:i<u.cD.length
  ·have e1:=fun d=>kZ (l:=u.cD) hil d
   have e2:=fun d=>kZ (l:=v.cD) (i:=i) (by omega) d
   have hg:=AQ (u.cD.getD i default) (v.cD.getD i default) (hu.cD _ (cQ default hil)) (hv.cD _ (cQ default (by omega)))
   by_cases heq:u.cD.getD i default=v.cD.getD i default
   ·rw[decide_eq_true heq] at hg
    repeat' (first|refine aQ ?_|exact eE|with_reducible refine aB ?_ ?_|((with_reducible refine Ask.mk ?_);first|exact cw|exact cX|(intro h;simp_all[cF.cells,cG.cells]<;>fail)|(simp_all[cF.cells,cG.cells]<;>fail))|(apply aA;(·(first|exact e1 _|exact e2 _|exact cK)))|refine aK (hg) ?_|refine aH ?_|((with_reducible refine aE ?_ ?_)<;>intro hc<;>try(exfalso;omega)))
    refine⟨i+1,by omega,cJ,by omega,cZ,⟨_,cE⟩,⟨_,cE⟩,fun j hj=> ?_⟩
    by_cases hji:j=i
    ·subst hji;exact heq
    ·exact hall j (by omega)
   ·rw[decide_eq_false heq] at hg
    repeat' (first|refine aQ ?_|exact eE|with_reducible refine aB ?_ ?_|((with_reducible refine Ask.mk ?_);first|exact cw|exact cX|(intro h;simp_all[cF.cells,cG.cells]<;>fail)|(simp_all[cF.cells,cG.cells]<;>fail))|(apply aA;(·(first|exact e1 _|exact e2 _|exact cK)))|refine aK (hg) ?_|refine aH ?_|((with_reducible refine aE ?_ ?_)<;>intro hc<;>try(exfalso;omega)))
    refine dw (Eq.symm ?_)
    exact decide_eq_false fun e=>heq (by rw[e])
  ·have:i=u.cD.length:=by omega
   subst this
   repeat' (first|refine aQ ?_|exact eE|with_reducible refine aB ?_ ?_|((with_reducible refine Ask.mk ?_);first|exact cw|exact cX|(intro h;simp_all[cF.cells]<;>fail)|(simp_all[cF.cells]<;>fail))|(apply aA;(·exact cK))|refine aH ?_|((with_reducible refine aE ?_ ?_)<;>intro hc<;>try(exfalso;omega)))
   refine dw (Eq.symm ?_)
   exact decide_eq_true (cF.HL hnm.2.1 hnm.2.2 (xi default hnm.1 hall))
theorem vJ (u:cF) (hu:u.Wf) (h96:∀g∈u.cD,g.nodes.length * 96<=140737488351232):Pure Tryz.prog 3 [u.av] (fun r=>r=bl true):=by
 have c0:=HC u hu h96
 have c1:=HF u hu
 have c2:=D4 u hu
 have c3:=OB u hu
 have c4:=JW u hu
 have hel:(iP u).length<=1048576:=by
  unfold iP
  split
  ·rename_i hr
   have h1:=lV hr (m:=u.cD.length) (Nat.le_refl _)
   have h2:=hr.qD.2.2
   unfold dK
   omega
  ·exact Nat.zero_le _
 have hal:((iz u).getD []).length<=16:=by
  unfold iz
  split
  ·rename_i hr
   cases hq:jU u with
   |none=>exact Nat.zero_le _
   |some a=>exact Nat.le_trans (fW _ _ (GK hr hq).nd (GK hr hq).inn) hr.qD.2.1
  ·exact Nat.zero_le _
 have c5:=uf (iP u) hel
 have c6:=k8 ((iz u).getD []) ((iz u).getD []) (by omega) (by omega)
 rw[decide_eq_true rfl] at c6
 have c7:=EG u u hu hu
 rw[decide_eq_true rfl] at c7
 generalize iP u=E at *
 generalize (iz u).getD []=l at *
 generalize (iz u).isSome=b at *
 generalize hC u=e at *
 have r0:decide (e=e)=true:=decide_eq_true rfl
 refine aG lf3 rfl ?_
 cases b
 ·refine ca ?_
  clear c0 c1 c2
  have c0:=sE
  refine ca ?_
  first|exact rfl|trivial
 ·refine ca ?_
  clear c0 c1 c2
  have c0:=sE
  refine ca ?_
  first|exact rfl|trivial
end Go.Proofs.YtjopoheligmmoaaGreatDoor
