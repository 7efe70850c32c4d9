import Derived.Test.YtjopoheligmmoaaGreatDoorM37
import Derived.Shelf.Spec.TrailingZeros
import Derived.Test.YtjopoheligmmoaaGreatDoorProg
import Derived.Test.YtjopoheligmmoaaGreatDoorM23
import Derived.Test.YtjopoheligmmoaaGreatDoorM27
import Derived.Test.YtjopoheligmmoaaGreatDoorM24
import Derived.Test.YtjopoheligmmoaaGreatDoorM26
import Derived.Test.YtjopoheligmmoaaGreatDoorM36
import Derived.Laws.IdiomRangeMap
import Derived.Shelf.SortM.Plain
import Derived.Shelf.SortM.SortNone
import Derived.Test.YtjopoheligmmoaaGreatDoorM5
namespace Go.Proofs.YtjopoheligmmoaaGreatDoor
open Go Go.cp Go.Proofs
set_option linter.unusedSimpArgs false
set_option linter.unusedVariables false
structure mO where
 at_:Int
 from_:Int
 dep:Nat
 deriving Inhabited,DecidableEq
abbrev hP (l:List mO):List Int:=l.map mO.at_
def CV (first:Int) (k d:Nat):List Int->List mO->Option (List mO)
 |[],l=>some l
 |x::r,l=>if x=first then none else CV first k d r (if x∈hP l then l else l++[⟨x,k,d+1⟩])
def tD (l:List mO):Nat->Int->List Int
 |0,_=>[]
 |f+1,k=>if k<0 then[] else(l.getD k.toNat default).at_::tD l f (l.getD k.toNat default).from_
def pJ (l:List mO) (k:Nat):List Int:=(tD l (k+1) k).reverse
def wh (lead:Int->List Int) (first:Int):Nat->Nat->List mO->Option (List Int)
 |0,_,_=>none
 |f+1,k,l=>if k<l.length then(match CV first k (l.getD k default).dep (lead (l.getD k default).at_) l with
  |none=>some (pJ l k)
  |some l'=>wh lead first f (k+1) l') else none
def q9 (lead:Int->List Int) (n:Nat) (first:Int):Option (List Int):=wh lead first (n+1) 0 [⟨first,-1,0⟩]
structure tF (lead:Int->List Int) (c:List Int):Prop where
 pos:0<c.length
 on:∀i,i<c.length->c.getD ((i+1)%c.length) 0∈lead (c.getD i 0)
theorem jq {α:Type} {l l':List α} {d:α} (h:l<+:l') {i:Nat} (hi:i<l.length):l'.getD i d=l.getD i d:=by
 obtain⟨r,rfl⟩:=h
 exact eY d hi
structure jW (lead:Int->List Int) (first:Int) (k:Nat) (l:List mO):Prop where
 pos:0<l.length
 zero:l.getD 0 default=⟨first,-1,0⟩
 nd:(hP l).Nodup
 par:∀i,0<i->i<l.length->∃p,p<i/\p<=k/\(l.getD i default).from_=(p:Nat)/\(l.getD i default).at_∈lead (l.getD p default).at_/\(l.getD i default).dep=(l.getD p default).dep+1
 mono:∀i j,i<=j->j<l.length->(l.getD i default).dep<=(l.getD j default).dep
 nf:∀i,0<i->i<l.length->(l.getD i default).at_≠first
theorem jW.start (lead:Int->List Int) (first:Int):jW lead first 0 [⟨first,-1,0⟩] where
 pos:=by simp
 zero:=rfl
 nd:=by simp
 par:=fun i h0 hi=>by simp at hi;omega
 mono:=fun i j hij hj=>by
  simp at hj
  have:i=j:=by omega
  rw[this];exact Nat.le_refl _
 nf:=fun i h0 hi=>by simp at hi;omega
section
variable {lead:Int->List Int} {first:Int} {k:Nat} {l:List mO}
theorem jW.on (h:jW lead first k l):jW lead first (k+1) l:=
 ⟨h.pos,h.zero,h.nd,fun i h0 hi=>by obtain⟨p,h1,h2,h3⟩:=h.par i h0 hi;exact⟨p,h1,by omega,h3⟩,h.mono,h.nf⟩
theorem jW.top (h:jW lead first k l) (hk:k<l.length) {i:Nat} (hi:i<l.length):(l.getD i default).dep<=(l.getD k default).dep+1:=by
 by_cases h0:i=0
 ·subst h0;rw[h.zero];exact Nat.zero_le _
 ·obtain⟨p,h1,h2,_,_,h5⟩:=h.par i (by omega) hi
  have:=h.mono p k h2 hk
  omega
theorem jW.add (h:jW lead first k l) (hk:k<l.length) {x:Int} (hx:x∈lead (l.getD k default).at_) (hf:x≠first) (hn:x∉hP l):jW lead first k (l++[⟨x,k,(l.getD k default).dep+1⟩]):=by
 have hp:=h.pos
 refine⟨by simp,by rw[eY _ hp];exact h.zero, ?_,fun i h0 hi=> ?_,fun i j hij hj=> ?_,fun i h0 hi=> ?_⟩
 ·unfold hP
  rw[List.map_append]
  exact List.nodup_append.2 ⟨h.nd,by simp,fun a ha b hb=>by
   simp only[List.map_cons,List.map_nil,List.mem_cons,List.not_mem_nil,or_false] at hb
   subst hb
   exact fun e=>hn (e▸ha)⟩
 ·rw[List.length_append,List.length_cons,List.length_nil] at hi
  by_cases e:i=l.length
  ·subst e
   refine⟨k,hk,Nat.le_refl _, ?_⟩
   rw[fE,eY _ hk]
   exact⟨rfl,hx,rfl⟩
  ·obtain⟨p,h1,h2,h3,h4,h5⟩:=h.par i h0 (by omega)
   rw[eY _ (show i<l.length by omega)]
   refine⟨p,h1,h2,h3, ?_⟩
   rw[eY _ (show p<l.length by omega)]
   exact⟨h4,h5⟩
 ·rw[List.length_append,List.length_cons,List.length_nil] at hj
  by_cases e:j=l.length
  ·subst e
   rw[fE]
   by_cases e2:i=l.length
   ·subst e2;rw[fE];exact Nat.le_refl _
   ·rw[eY _ (show i<l.length by omega)]
    exact h.top hk (by omega)
  ·rw[eY _ (show i<l.length by omega),eY _ (show j<l.length by omega)]
   exact h.mono i j hij (by omega)
 ·rw[List.length_append,List.length_cons,List.length_nil] at hi
  by_cases e:i=l.length
  ·subst e;rw[fE];exact hf
  ·rw[eY _ (show i<l.length by omega)];exact h.nf i h0 (by omega)
theorem mh {x:Int}:x∈hP l↔∃i,i<l.length/\(l.getD i default).at_=x:=by
 constructor
 ·intro h
  obtain⟨e,he,rfl⟩:=List.mem_map.1 h
  obtain⟨i,hi,e2⟩:=List.getElem_of_mem he
  exact⟨i,hi,by simp[List.getD,hi,e2]⟩
 ·rintro⟨i,hi,rfl⟩
  exact List.mem_map.2 ⟨_,cS default hi,rfl⟩
theorem ss {d:Nat}:∀{xs:List Int} {l l':List mO},jW lead first k l->k<l.length->d=(l.getD k default).dep->(∀x∈xs,x∈lead (l.getD k default).at_)->CV first k d xs l=some l'->
 jW lead first k l'/\l<+:l'/\∀x∈xs,x≠first/\x∈hP l'
 |[],l,l',h,hk,hd,hx,he=>by rw[CV] at he;cases he;exact⟨h,List.prefix_refl _,fun x hx=>by cases hx⟩
 |x::r,l,l',h,hk,hd,hx,he=>by
  rw[CV] at he
  split at he
  ·cases he
  ·rename_i hf
   have hxr:=fun y hy=>hx y (List.mem_cons_of_mem _ hy)
   by_cases hm:x∈hP l
   ·rw[if_pos hm] at he
    obtain⟨h1,h2,h3⟩:=ss h hk hd hxr he
    refine⟨h1,h2,fun y hy=> ?_⟩
    rcases List.mem_cons.1 hy with rfl|hy
    ·refine⟨hf, ?_⟩
     obtain⟨i,hi,e⟩:=mh.1 hm
     exact mh.2 ⟨i,Nat.lt_of_lt_of_le hi h2.length_le,by rw[jq h2 hi];exact e⟩
    ·exact h3 y hy
   ·rw[if_neg hm,hd] at he
    have ha:=h.add hk (hx x (by simp)) hf hm
    have hpre:l<+:l++[⟨x,k,(l.getD k default).dep+1⟩]:=List.prefix_append _ _
    have hkk:k<(l++[(⟨x,k,(l.getD k default).dep+1⟩:mO)]).length:=by simp;omega
    have hgk:=jq (d:=default) hpre hk
    obtain⟨h1,h2,h3⟩:=ss ha hkk (by rw[hgk]) (by rw[hgk];exact hxr) he
    refine⟨h1,hpre.trans h2,fun y hy=> ?_⟩
    rcases List.mem_cons.1 hy with rfl|hy
    ·refine⟨hf,mh.2 ⟨l.length,Nat.lt_of_lt_of_le (by simp) h2.length_le, ?_⟩⟩
     rw[jq h2 (by simp),fE]
    ·exact h3 y hy
theorem y6 {d:Nat}:∀{xs:List Int} {l:List mO},CV first k d xs l=none↔first∈xs
 |[],l=>by simp[CV]
 |x::r,l=>by
  rw[CV]
  by_cases e:x=first
  ·rw[if_pos e];simp[e]
  ·rw[if_neg e,y6,List.mem_cons]
   exact⟨fun h=> .inr h,fun h=>h.resolve_left fun e2=>e e2.symm⟩
theorem CX {l l':List mO} (h:l<+:l'):∀(f:Nat) (k:Int),k<l.length->(∀i,i<l.length->(l.getD i default).from_<l.length)->tD l' f k=tD l f k
 |0,_,_,_=>rfl
 |f+1,k,hk,hf=>by
  rw[tD,tD]
  split
  ·rfl
  ·rw[jq h (by omega),CX h f _ (hf _ (by omega)) hf]
theorem y8 (h:jW lead first k l):∀(i:Nat),i<l.length->∀f,i<f->tD l f i=tD l (i+1) i:=by
 intro i
 induction i using Nat.strongRecOn with
 |_ i ih=>
  intro hi f hf
  obtain⟨f,rfl⟩:∃g,f=g+1:=⟨f - 1,by omega⟩
  rw[tD,tD,if_neg (by omega),if_neg (by omega),Int.toNat_natCast]
  by_cases h0:i=0
  ·subst h0
   rw[h.zero]
   dsimp only
   have e:∀g,tD l g (-1)=[]:=fun g=>by cases g<;>rw[tD];rw[if_pos (by omega)]
   rw[e,e]
  ·obtain⟨p,h1,h2,h3,_,_⟩:=h.par i (by omega) hi
   rw[h3,ih p h1 (by omega) f (by omega),ih p h1 (by omega) i (by omega)]
theorem F2 (h:jW lead first k l):pJ l 0=[first]:=by
 unfold pJ
 rw[tD,if_neg (by omega),show((0:Nat):Int).toNat=0 from rfl,h.zero]
 dsimp only
 rw[tD];rfl
theorem F1 (h:jW lead first k l) {i p:Nat} (hi:i<l.length) (hp:p<i) (hf:(l.getD i default).from_=(p:Nat)):pJ l i=pJ l p++[(l.getD i default).at_]:=by
 unfold pJ
 rw[tD,if_neg (by omega),Int.toNat_natCast,hf,y8 h p (by omega) i hp,List.reverse_cons]
structure QH (lead:Int->List Int) (first x:Int) (d:Nat) (l:List mO) (i:Nat) (w:List Int):Prop where
 len:w.length=d+1
 zero:w.getD 0 0=first
 last:w.getD d 0=x
 on:∀j,j<d->w.getD (j+1) 0∈lead (w.getD j 0)
 from_:∀y∈w,∃q,q<=i/\(l.getD q default).at_=y
 nd:w.Nodup
theorem J8 (h:jW lead first k l):∀(i:Nat),i<l.length->QH lead first (l.getD i default).at_ (l.getD i default).dep l i (pJ l i):=by
 intro i
 induction i using Nat.strongRecOn with
 |_ i ih=>
  intro hi
  by_cases h0:i=0
  ·subst h0
   rw[F2 h,h.zero]
   exact⟨rfl,rfl,rfl,fun j hj=>by simp at hj,fun y hy=>⟨0,Nat.le_refl _,by
    simp only[List.mem_cons,List.not_mem_nil,or_false] at hy
    rw[h.zero,hy]⟩,by simp⟩
  ·obtain⟨p,h1,h2,h3,h4,h5⟩:=h.par i (by omega) hi
   have hw:=ih p h1 (by omega)
   rw[F1 h hi h1 h3,h5]
   generalize pJ l p=w at *
   have hl:=hw.len
   refine⟨by simp[hl],by rw[eY _ (by omega)];exact hw.zero,by rw[<-hl,fE],fun j hj=> ?_,fun y hy=> ?_,List.nodup_append.2 ⟨hw.nd,by simp,fun a ha b hb=> ?_⟩⟩
   ·by_cases e:j=(l.getD p default).dep
    ·rw[e,<-hl,fE,eY _ (by omega),hw.last];exact h4
    ·rw[eY _ (by omega),eY _ (by omega)];exact hw.on j (by omega)
   ·rcases List.mem_append.1 hy with hy|hy
    ·obtain⟨q,q1,q2⟩:=hw.from_ y hy
     exact⟨q,by omega,q2⟩
    ·simp only[List.mem_cons,List.not_mem_nil,or_false] at hy
     exact⟨i,Nat.le_refl _,hy.symm⟩
   ·simp only[List.mem_cons,List.not_mem_nil,or_false] at hb
    subst hb
    obtain⟨q,q1,q2⟩:=hw.from_ a ha
    intro e
    rw[<-q2] at e
    have e1:∀i,i<l.length->(hP l).getD i 0=(l.getD i default).at_:=fun i hi=>by simp[List.getD,hi]
    have:=sX h.nd (i:=q) (j:=i) (by simp;omega) (by simpa using hi) (by rw[e1 q (by omega),e1 i hi];exact e)
    omega
def NA (lead:Int->List Int) (first:Int) (l:List mO) (k:Nat):Prop:=∀j,j<k->j<l.length->∀x∈lead (l.getD j default).at_,x≠first/\∃i,i<l.length/\(l.getD i default).at_=x/\(l.getD i default).dep<=(l.getD j default).dep+1
theorem se {c:List Int} (h:jW lead first k l) (hd:NA lead first l k) (hc:tF lead c) (h0:c.getD 0 0=first) (hlt:k<l.length->c.length<=(l.getD k default).dep):False:=by
 have hp:=hc.pos
 have key:∀i,i<c.length->∃q,q<l.length/\(l.getD q default).at_=c.getD i 0/\(l.getD q default).dep<=i:=by
  intro i
  induction i with
  |zero=>intro _;exact⟨0,h.pos,by rw[h.zero,h0],by rw[h.zero];exact Nat.le_refl _⟩
  |succ i ih=>
   intro hi
   obtain⟨q,q1,q2,q3⟩:=ih (by omega)
   have hqk:q<k:=by
    rcases Nat.lt_or_ge q k with h2|h2
    ·exact h2
    ·have:=hlt (by omega)
     have:=h.mono k q h2 q1
     omega
   have hon:=hc.on i (by omega)
   rw[Nat.mod_eq_of_lt hi,<-q2] at hon
   obtain⟨_,q',g1,g2,g3⟩:=hd q hqk q1 _ hon
   exact⟨q',g1,g2,by omega⟩
 obtain⟨q,q1,q2,q3⟩:=key (c.length - 1) (by omega)
 have hqk:q<k:=by
  rcases Nat.lt_or_ge q k with h2|h2
  ·exact h2
  ·have:=hlt (by omega)
   have:=h.mono k q h2 q1
   omega
 have hon:=hc.on (c.length - 1) (by omega)
 rw[show c.length - 1+1=c.length by omega,Nat.mod_self,h0,<-q2] at hon
 exact(hd q hqk q1 _ hon).1 rfl
theorem tu {n:Nat} (hin:∀x,∀y∈lead x,0<=y/\y<n) (hf0:0<=first/\first<n):∀(f k:Nat) (l:List mO),k+f=n+1->jW lead first k l->NA lead first l k->(∀x∈hP l,0<=x/\x<n)->
 (∀w,wh lead first f k l=some w->w.getD 0 0=first/\tF lead w/\w.Nodup/\(∀x∈w,0<=x/\x<n)/\∀c,tF lead c->c.getD 0 0=first->w.length<=c.length)/\
 (wh lead first f k l=none->∀c,tF lead c->c.getD 0 0≠first)
 |0,k,l,he,h,hd,hr=>by
  have:=gG n _ h.nd hr
  rw[List.length_map] at this
  rw[wh]
  exact⟨(fun w hw=>by cases hw),fun _ c hc h0=>se h hd hc h0 fun hk=>by omega⟩
 |f+1,k,l,he,h,hd,hr=>by
  rw[wh]
  by_cases hk:k<l.length
  ·rw[if_pos hk]
   cases ht:CV first k (l.getD k default).dep (lead (l.getD k default).at_) l with
   |none=>
    dsimp only
    have hm:=y6.1 ht
    have hw:=J8 h k hk
    generalize pJ l k=w at *
    refine⟨fun w' hw'=> ?_,fun hn=>by cases hn⟩
    cases hw'
    have hl:=hw.len
    refine⟨hw.zero,⟨by omega,fun i hi=> ?_⟩,hw.nd,fun x hx=> ?_,fun c hc h0=> ?_⟩
    ·by_cases e:i+1=w.length
     ·rw[e,Nat.mod_self,hw.zero,show i=(l.getD k default).dep by omega,hw.last];exact hm
     ·rw[Nat.mod_eq_of_lt (by omega)];exact hw.on i (by omega)
    ·obtain⟨q,q1,q2⟩:=hw.from_ x hx
     exact hr x (mh.2 ⟨q,by omega,q2⟩)
    ·apply Nat.le_of_not_lt
     intro hlt
     exact se h hd hc h0 fun _=>by omega
   |some l'=>
    dsimp only
    obtain⟨h1,h2,h3⟩:=ss h hk rfl (fun x hx=>hx) ht
    have hk':k<l'.length:=Nat.lt_of_lt_of_le hk h2.length_le
    refine tu hin hf0 f (k+1) l' (by omega) h1.on (fun j hj hjl x hx=> ?_) fun x hx=> ?_
    ·by_cases e:j=k
     ·subst e
      rw[jq h2 hk] at hx ⊢
      obtain⟨g1,g2⟩:=h3 x hx
      obtain⟨i,hi,g3⟩:=mh.1 g2
      refine⟨g1,i,hi,g3, ?_⟩
      have:=h1.top hk' hi
      rw[jq h2 hk] at this
      exact this
     ·rw[jq h2 (show j<l.length by omega)] at hx ⊢
      obtain⟨g1,i,hi,g2,g3⟩:=hd j (by omega) (by omega) x hx
      exact⟨g1,i,Nat.lt_of_lt_of_le hi h2.length_le,by rw[jq h2 hi];exact g2,by rw[jq h2 hi];exact g3⟩
    ·obtain⟨i,hi,e⟩:=mh.1 hx
     by_cases h0:i=0
     ·subst h0;rw[h1.zero] at e;rw[<-e];exact hf0
     ·obtain⟨p,_,_,_,g4,_⟩:=h1.par i (by omega) hi
      rw[e] at g4
      exact hin _ _ g4
  ·rw[if_neg hk]
   exact⟨(fun w hw=>by cases hw),fun _ c hc h0=>se h hd hc h0 fun hk2=>by omega⟩
end
theorem rK {lead:Int->List Int} {n:Nat} {first:Int} (hin:∀x,∀y∈lead x,0<=y/\y<n) (hf0:0<=first/\first<n):
 (∀w,q9 lead n first=some w->w.getD 0 0=first/\tF lead w/\w.Nodup/\(∀x∈w,0<=x/\x<n)/\∀c,tF lead c->c.getD 0 0=first->w.length<=c.length)/\
 (q9 lead n first=none->∀c,tF lead c->c.getD 0 0≠first):=
 tu hin hf0 (n+1) 0 _ (by omega) (.start lead first) (fun j hj=>by omega) fun x hx=>by
  simp only[hP,List.map_cons,List.map_nil,List.mem_cons,List.not_mem_nil,or_false] at hx
  rw[hx];exact hf0
def jE (lead:Int->List Int) (n:Nat):Nat->Option (List Int)
 |0=>none
 |k+1=>match q9 lead n (k:Int),jE lead n k with
  |none,b=>b
  |some l,none=>some l
  |some l,some b=>if l.length<b.length then some l else some b
theorem tq {lead:Int->List Int} {n:Nat}:∀{k:Nat},jE lead n k=none->∀f:Nat,f<k->q9 lead n (f:Int)=none
 |0,_,f,h=>by omega
 |k+1,he,f,h=>by
  rw[jE] at he
  split at he
  ·rename_i e
   by_cases hf:f=k
   ·subst hf;exact e
   ·exact tq he f (by omega)
  ·cases he
  ·split at he<;>cases he
theorem mS {lead:Int->List Int} {n:Nat}:∀{k:Nat} {b:List Int},jE lead n k=some b->∃f:Nat,f<k/\q9 lead n (f:Int)=some b/\∀g:Nat,g<k->∀l,q9 lead n (g:Int)=some l->b.length<=l.length/\(b.length=l.length->f<=g)
 |0,b,he=>by cases he
 |k+1,b,he=>by
  rw[jE] at he
  split at he
  ·rename_i e
   obtain⟨f,h1,h2,h3⟩:=mS he
   refine⟨f,by omega,h2,fun g hg l hl=> ?_⟩
   by_cases hgk:g=k
   ·subst hgk;rw[e] at hl;cases hl
   ·exact h3 g (by omega) l hl
  ·rename_i l0 e e2
   cases he
   refine⟨k,by omega,e,fun g hg l hl=> ?_⟩
   by_cases hgk:g=k
   ·subst hgk;rw[e] at hl;cases hl;exact⟨Nat.le_refl _,fun _=>Nat.le_refl _⟩
   ·rw[tq e2 g (by omega)] at hl;cases hl
  ·rename_i l0 b0 e e2
   obtain⟨f,h1,h2,h3⟩:=mS e2
   split at he
   ·rename_i hlt
    cases he
    refine⟨k,by omega,e,fun g hg l hl=> ?_⟩
    by_cases hgk:g=k
    ·subst hgk;rw[e] at hl;cases hl;exact⟨Nat.le_refl _,fun _=>Nat.le_refl _⟩
    ·have:=h3 g (by omega) l hl
     exact⟨by omega,fun _=>by omega⟩
   ·rename_i hlt
    cases he
    refine⟨f,by omega,h2,fun g hg l hl=> ?_⟩
    by_cases hgk:g=k
    ·subst hgk;rw[e] at hl;cases hl;exact⟨by omega,fun _=>by omega⟩
    ·exact h3 g (by omega) l hl
theorem tF.gq {lead:Int->List Int} {c:List Int} (h:tF lead c) {i:Nat} (hi:i<c.length):∃d,tF lead d/\d.getD 0 0=c.getD i 0/\d.length=c.length:=by
 have hp:=h.pos
 refine⟨(List.range c.length).map fun j=>c.getD ((i+j)%c.length) 0,⟨by simpa using hp,fun j hj=> ?_⟩, ?_,by simp⟩
 ·rw[List.length_map,List.length_range] at hj ⊢
  have gd:∀q,q<c.length->((List.range c.length).map fun j=>c.getD ((i+j)%c.length) 0).getD q 0=c.getD ((i+q)%c.length) 0:=fun q hq=>by simp[List.getD,hq]
  rw[gd j hj,gd _ (Nat.mod_lt _ hp)]
  have:=h.on ((i+j)%c.length) (Nat.mod_lt _ hp)
  have e:(i+(j+1)%c.length)%c.length=((i+j)%c.length+1)%c.length:=by
   rw[Nat.add_mod,Nat.mod_mod,<-Nat.add_mod,Nat.mod_add_mod];rfl
  rw[e]
  exact this
 ·simp[List.getD,hp,Nat.mod_eq_of_lt hi]
end Go.Proofs.YtjopoheligmmoaaGreatDoor
namespace Go.Proofs
open Go.Shelf
def Tryz.zl:Go.Shelf.Ren:=⟨fun|28=>123|n=>n,fun|27=>132|3=>3|4=>4|25=>142|53=>229|0=>0|5=>5|n=>n,fun|0=>0|n=>n⟩
theorem Tryz.O0:Go.Proofs.Lays7.n28 Tryz.prog Tryz.zl:={
 mixed:=by kernel_rfl
 f28:=Tryz.func123.trans (congrArg some (by kernel_rfl))
 t0:=Tryz.underlying0
 a0:=Tryz.isAgg0
 z0:=Tryz.sizeOf0
 v0:=Tryz.zeroValue0
 i0:=by kernel_rfl
 t3:=Tryz.underlying3
 a3:=Tryz.isAgg3
 z3:=Tryz.sizeOf3
 v3:=Tryz.zeroValue3
 i3:=by kernel_rfl
 t4:=Tryz.underlying4
 a4:=Tryz.isAgg4
 z4:=Tryz.sizeOf4
 v4:=Tryz.zeroValue4
 i4:=by kernel_rfl
 t5:=Tryz.underlying5
 a5:=Tryz.isAgg5
 z5:=Tryz.sizeOf5
 v5:=Tryz.zeroValue5
 i5:=by kernel_rfl
 t25:=Tryz.underlying142
 a25:=Tryz.isAgg142
 z25:=Tryz.sizeOf142
 v25:=Tryz.zeroValue142
 i25:=by kernel_rfl
 t27:=Tryz.underlying132
 a27:=Tryz.isAgg132
 z27:=Tryz.sizeOf132
 v27:=Tryz.zeroValue132
 i27:=by kernel_rfl
 t53:=Tryz.underlying229
 a53:=Tryz.isAgg229
 z53:=Tryz.sizeOf229
 v53:=Tryz.zeroValue229
 i53:=by kernel_rfl
 g0:=by kernel_rfl }
open Go.RowKit Go.Lib in
theorem Tryz.V0 (x:Nat) (hx:x<4294967296) (w:World) (hT:x≠0->TabAt 0 Lib.deBruijn32tab w):
 Calls Tryz.prog 123 #[.int .u32 x] w fun e w'=>e= .returned (.int .i64 (Lib.ctz 32 x))/\w'=w:=Any7.bits_TrailingZeros32 Tryz.O0 x hx w hT
end Go.Proofs
namespace Go.Proofs.YtjopoheligmmoaaGreatDoor
open Go Go.cp Go.Proofs
set_option linter.unusedSimpArgs false
set_option linter.unusedVariables false
set_option maxRecDepth 8000
abbrev u32 (n:Nat):AV:= .sc (.int .u32 (n:Int))
theorem M7 (x:Nat) (hx:x<4294967296):Pure Tryz.prog 123 [u32 x] (fun r=>r=i64 (ctz x)):=by
 refine⟨⟨_,Tryz.func123,by kernel_rfl,by kernel_rfl⟩,fun M w vs hM hv=> ?_⟩
 rw[cg] at hv
 obtain⟨v,vs',rfl,h1,h2⟩:=hv
 rw[VR] at h1
 rw[cg] at h2
 subst h1
 subst h2
 refine(Tryz.V0 x hx w fun _=>(hM.TN (0,_) (by unfold PS;exact List.mem_singleton_self _)).2.2).mono ?_
 rintro e w' ⟨rfl,rfl⟩
 exact⟨_,_,rfl,rfl,by simp[cK],by rw[VR], .refl _ _⟩
theorem wrap32 {n:Int} (h1:0<=n) (h2:n<4294967296):IntKind.u32.wrap n=n:=by rw[wrap_u32'];omega
theorem QK {a b:Nat} (ha:a<4294967296) (hb:b<4294967296):IntKind.u32.wrap (BitVec.ofInt IntKind.u32.bits (a:Int)&&& BitVec.ofInt IntKind.u32.bits (b:Int)).toNat=((a&&& b:Nat):Int):=bits_and_u32_nat a b ha hb
theorem VS {a b:Nat} (ha:a<4294967296) (hb:b<4294967296):IntKind.u32.wrap (BitVec.ofInt IntKind.u32.bits (a:Int)|||BitVec.ofInt IntKind.u32.bits (b:Int)).toNat=((a|||b:Nat):Int):=by
 have hx:a|||b<2^32:=Nat.or_lt_two_pow (by omega) (by omega)
 have h1:(BitVec.ofInt IntKind.u32.bits (a:Int)).toNat=a:=by
  show(BitVec.ofInt 32 (a:Int)).toNat=a
  rw[BitVec.ofInt_natCast,BitVec.toNat_ofNat];exact Nat.mod_eq_of_lt (by omega)
 have h2:(BitVec.ofInt IntKind.u32.bits (b:Int)).toNat=b:=by
  show(BitVec.ofInt 32 (b:Int)).toNat=b
  rw[BitVec.ofInt_natCast,BitVec.toNat_ofNat];exact Nat.mod_eq_of_lt (by omega)
 rw[BitVec.toNat_or,h1,h2,wrap32 (by omega) (by omega)]
theorem PC {x:Nat} (h0:x≠0) (hx:x<4294967296):IntKind.u32.wrap ((x:Int) - 1)=((x - 1:Nat):Int):=by
 rw[wrap32 (by omega) (by omega)];omega
theorem EN (x:Nat) (hx:x<65536):cO Tryz.prog 75 [u32 x] [] 0 (fun r H n=>∃b d,r= .sl b (bits x).length/\bw H b=some (.row 3 1 d ((bits x).map i64))):=by
 refine aJ VH rfl ?_
 repeat' (first|refine aQ ?_|exact aC|with_reducible refine aD ?_ ?_|(apply aA;(·exact cU))|refine aH ?_|((with_reducible refine aE ?_ ?_)<;>intro hc<;>try(exfalso;omega)))
 refine aU (fun s:Nat×List Int=>[(0,u32 s.1),(3, .sl 2 s.2.length)])
  (fun s H n=>3<=n/\s.1<=x/\s.2++bits s.1=bits x/\s.2.length+s.1<=x/\∃d,bw H 2=some (.row 3 1 d (s.2.map i64)))
  (fun s=>s.1) (x,[]) ⟨_,_,_,Rt.nil 3 3 1 (by omega) rfl,cI,ca,Nat.le_refl _,rfl,by simp,⟨_,cA⟩⟩ ?_
 rintro⟨y,l⟩ H n ⟨hn,hy,hb,hlen,⟨d,r2⟩⟩
 dsimp only at hy hb hlen r2 ⊢
 by_cases h0:y=0
 ·subst h0
  repeat' (first|refine aQ ?_|exact aC|with_reducible refine aD ?_ ?_|(apply aA;(·exact cU))|refine aH ?_|((with_reducible refine aE ?_ ?_)<;>intro hc<;>try(exfalso;omega)))
  rw[show bits 0=[] from rfl,List.append_nil] at hb
  rw[<-hb]
  exact⟨⟨2,d,rfl,cA⟩⟩
 ·rw[pW h0] at hb
  have hp:=pred_lt h0
  have e1:=PC h0 (show y<4294967296 by omega)
  have e2:=QK (show y<4294967296 by omega) (show y - 1<4294967296 by omega)
  have ht:=M7 y (by omega)
  repeat' (first|refine aQ ?_|exact aC|with_reducible refine aD ?_ ?_|(apply aA;(·exact cU))|refine aK (ht) ?_|(simp only[e1])|(simp only[e2])|refine aH ?_|((with_reducible refine aE ?_ ?_)<;>intro hc<;>try(exfalso;omega)))
  exact⟨(y&&& (y - 1),l++[(ctz y:Int)]),hp,_,_,_,Rt.refl _ _ _,cI,ca,by dsimp only;omega,by dsimp only;rw[<-hb];simp,by dsimp only;simp only[List.length_append,List.length_cons,List.length_nil];omega,⟨_,by dsimp only;rw[<-jJ];exact cA⟩⟩
theorem EO (x:Nat) (hx:x<65536):Pure Tryz.prog 75 [u32 x] (fun r=>r=fV (bits x)):=by
 refine cm ((EN x hx).mono ?_) (by simp[fV,cK,cD])
 rintro r H n ⟨b,d,rfl,hb⟩
 rw[dZ hb (by simp),cx _ (HQ _ _)];rfl
theorem ux {g:cF} (h:Whole g):lK g=true:=F3.2 h
theorem HM (L:List (List Int)):c8 0 (L.map fV):=(cD _ _).2 fun _ _=>by simp[fV,cK,cD]
theorem C1 (g:cF) (hg:g.Wf) (hw:Whole g) (hh:(eO g).2<0):Pure Tryz.prog 167 [g.av] (fun r=>r= .dO [.im 1 .any ((eO g).1.map fV),bl true]):=by
 refine aG R4 rfl ?_
 have h1:=tA g hg
 rw[ux hw] at h1
 have h2:=u0 g hg hw
 unfold pd at h2
 have e:decide ((eO g).2<0)=true:=decide_eq_true hh
 repeat' (first|refine aQ ?_|exact gH|with_reducible refine aD ?_ ?_|((with_reducible refine Ask.mk ?_);first|exact dy|exact dC|(intro h;simp_all[cF.cells]<;>fail)|(simp_all[cF.cells]<;>fail))|(apply aA;(·exact cU))|refine aK (h1) ?_|refine aK (h2) ?_|refine aH ?_|((with_reducible refine aE ?_ ?_)<;>intro hc<;>try(exfalso;omega)))
 rw[e]
 exact KK.eq (by simp only[cK,c8];exact⟨HM _,trivial,trivial⟩) rfl
noncomputable def ng (g:cF):AV:= .agg [CG (fY g (-1)), .im 1 .any (((eO g).1.map hb).map u32)]
theorem LL {l:List Int} {j:Nat} (h:j<l.length):hb (l.take (j+1))=hb (l.take j)|||2^(l.getD j 0).toNat:=by
 rw[List.take_succ_eq_append_getElem h,OT,gd h]
theorem TJ {k:Int} (h0:0<=k) (h1:k<16):IntKind.u32.wrap (1 * 2^(min k.toNat IntKind.u32.bits))=((2^k.toNat:Nat):Int):=by
 have:k.toNat<16:=by omega
 generalize k.toNat=m at *
 have hm:min m IntKind.u32.bits=m:=by show min m 32=m;omega
 rw[hm]
 have:(2:Nat)^m<2^16:=Nat.pow_lt_pow_right (by omega) this
 have e:(1:Int) * 2^m=((2^m:Nat):Int):=by rw[Int.one_mul];simp
 have h2:(2:Nat)^m<4294967296:=by omega
 rw[e]
 exact wrap32 (Int.natCast_nonneg _) (Int.ofNat_lt.2 h2)
def kO (L:List (List Int)) (i x:Nat):List Nat:=(L.take i).map hb++x::List.replicate (L.length - (i+1)) 0
theorem oS {L:List (List Int)} {i:Nat} (h:i<L.length):((L.take i).map hb).length=i:=by simp;omega
theorem uZ {L:List (List Int)} {i:Nat} (h:i<L.length) (x:Nat):(kO L i x).length=L.length:=by
 rw[kO,List.length_append,oS h];simp;omega
theorem D8 {L:List (List Int)} {i:Nat} (h:i<L.length) (x:Nat) (d:AV):((kO L i x).map u32).getD ((i:Int)).toNat d=u32 x:=by
 rw[Int.toNat_natCast,dJ u32 _ _ _ (by rw[uZ h];exact h),kO,List.getD,List.getElem?_append_right (by rw[oS h];exact Nat.le_refl _),oS h,Nat.sub_self];rfl
theorem D9 {L:List (List Int)} {i:Nat} (h:i<L.length) (x v:Nat):((kO L i x).map u32).set ((i:Int)).toNat (u32 v)=(kO L i v).map u32:=by
 rw[Int.toNat_natCast,<-List.map_set,kO,List.set_append,if_neg (by rw[oS h];omega),oS h,Nat.sub_self];rfl
theorem zf {L:List (List Int)} {i:Nat} (h:i<L.length):(L.take i).map hb++List.replicate (L.length - i) 0=kO L i 0:=by
 rw[kO,show L.length - i=(L.length - (i+1))+1 by omega,List.replicate_succ]
theorem ze {L:List (List Int)} {i:Nat} (h:i<L.length):kO L i (hb (L.getD i []))=(L.take (i+1)).map hb++List.replicate (L.length - (i+1)) 0:=by
 rw[kO,List.take_succ_eq_append_getElem h,gd h,List.map_append,List.append_assoc];rfl
theorem nb {m:Nat} {now:List Int} (hn:now.length<=m):∀(l:List Int) (s s':HS),db now l s= .inl s'->(∀i,(s.cG.getD i []).length<=m)->∀i,(s'.cG.getD i []).length<=m
 |[],s,s',h,hs=>by rw[db] at h;cases h;exact hs
 |k::r,s,s',h,hs=>by
  rw[db] at h
  split at h
  ·refine nb hn r _ s' h fun i=> ?_
   dsimp only
   rw[fA]
   split
   ·exact hn
   ·exact hs i
  ·split at h
   ·exact nb hn r s s' h hs
   ·cases h
theorem xX {n:Node} {l now:List Int} (h:dh n l=some now):now.length<=l.length+1:=by
 unfold dh at h
 split at h
 ·cases h;simp
 ·split at h
  ·split at h
   ·cases h;simp;omega
   ·cases h
  ·split at h
   ·split at h
    ·cases h;omega
    ·cases h
   ·cases h;omega
theorem qR (g:cF):∀(f:Nat) (s:HS) (k:Nat),(∀i,(s.cG.getD i []).length<=k)->∀i,((fb g f s k).1.getD i []).length<=k+f
 |0,s,k,h,i=>by rw[fb];exact h i
 |f+1,s,k,h,i=>by
  rw[fb]
  split
  ·split
   ·simp
   ·rename_i now hn
    have h2:=xX hn
    have h3:=h (s.todo.getD k 0).toNat
    unfold HS.l at h2
    split
    ·rename_i s' ht
     have:=qR g f s' (k+1) (nb (m:=k+1) (by omega) _ _ _ ht fun i=>Nat.le_succ_of_le (h i)) i
     omega
    ·simp
  ·have:=h i;dsimp only;omega
theorem EA (g:cF) (i:Nat):((eO g).1.getD i []).length<=g.nodes.length+1:=by
 have:=qR g (g.nodes.length+1) (vi g) 0 (fun i=>by simp only[vi,List.getD,List.getElem?_replicate];split<;>exact Nat.zero_le _) i
 rw[Nat.zero_add] at this;exact this
set_option maxHeartbeats 4000000 in
theorem xo {u:bx} (g:cF) (hg:g.Wf) (hk:eL u g) (hl16:u.cG.length<=16):cO Tryz.prog 122 [g.av] [] 0 (fun r H n=>∃d,r= .agg [CG (fY g (-1)), .sl 7 (eO g).1.length]/\bw H 7=some (.row 133 1 d (((eO g).1.map hb).map u32))):=by
 have hw:=hk.whole
 have h1:=wD g hg (ux hw) (yR g hg hw (-1) (by unfold eP;omega))
 have h2:=C1 g hg hw hk.held
 obtain⟨_,hLl,_,_⟩:=kP hw hk.held
 have hin:=CE hk
 have hlen:=hk.len
 have hgl:=hg.len
 have hlens:=EA g
 generalize hL:(eO g).1=L at *
 refine aJ RN rfl ?_
 repeat' (first|refine aQ ?_|exact gH|with_reducible refine aD ?_ ?_|((with_reducible refine Ask.mk ?_);first|exact dy|exact dC|(intro h;simp_all[cF.cells]<;>fail)|(simp_all[cF.cells]<;>fail))|(apply aA;(·exact cU))|refine aK (h1) ?_|refine aK (h2) ?_|refine aH ?_|((with_reducible refine aE ?_ ?_)<;>intro hc<;>try(exfalso;omega)))
 have e0:(((L.take 0).map hb++List.replicate (L.length - 0) 0).map u32:List AV)=List.replicate L.length (u32 0):=by simp
 simp only[List.length_map,Int.toNat_natCast]
 refine aL (fun i:Nat=>[(2, .pt 1 1 0 0),(3, .pt 9 1 0 0),(22, .im 1 .any (L.map fV)),(23,i64 L.length),(24,i64 i)])
  (fun i H n=>i<=L.length/\18<=n/\(∃d,bw H 1=some (.row 131 2 d [.agg [.sc (.slice none 0 0), .sc (.slice none 0 0)]]))/\(∃d,bw H 9=some (.row 131 2 d [.agg [CG (fY g (-1)), .sl 7 g.nodes.length]]))/\(∃d,bw H 7=some (.row 133 1 d (((L.take i).map hb++List.replicate (L.length - i) 0).map u32)))) (fun i=>L.length - i) 0 cI ⟨Nat.zero_le _,ca,⟨_,cA⟩, ?_, ?_⟩ ?_
 ·apply Exists.intro
  exact cA
 ·apply Exists.intro
  rw[e0,hLl]
  exact cA
 rintro i H n ⟨hi,hn,⟨d1,r1⟩,⟨d9,r9⟩,⟨d7,r7⟩⟩
 by_cases hil:i<L.length
 ·rw[zf hil] at r7
  have hll:=hlens i
  have e1:=fun d=>pf (l:=L) (i:=(i:Int)) (by rw[Int.toNat_natCast];exact hil) d
  rw[Int.toNat_natCast] at e1
  have hin2:=hin i
  have hnx:=ze hil
  generalize hl:L.getD i []=l at *
  repeat' (first|refine aQ ?_|exact aC|with_reducible refine aD ?_ ?_|(apply aA;(·(first|exact e1 _|exact cU)))|refine aH ?_|((with_reducible refine aE ?_ ?_)<;>intro hc<;>try(exfalso;omega)))
  simp only[List.length_map]
  refine aL (fun j:Nat=>[(2, .pt 1 1 0 0),(3, .pt 9 1 0 0),(6,i64 i),(22, .im 1 .any (L.map fV)),(23,i64 L.length),(24,i64 i),(29, .im 1 .any (l.map i64)),(30,i64 l.length),(31,i64 j)])
   (fun j H2 n2=>j<=l.length/\n<=n2/\(∃d,bw H2 1=some (.row 131 2 d [.agg [.sc (.slice none 0 0), .sc (.slice none 0 0)]]))/\(∃d,bw H2 9=some (.row 131 2 d [.agg [CG (fY g (-1)), .sl 7 g.nodes.length]]))/\(∃d,bw H2 7=some (.row 133 1 d ((kO L i (hb (l.take j))).map u32)))) (fun j=>l.length - j) 0 cI ⟨Nat.zero_le _,ca,⟨_,cA⟩,⟨_,cA⟩,⟨_,cA⟩⟩ ?_
  clear r1 r9 r7
  rintro j H2 n2 ⟨hj,hn2,⟨d1,r1⟩,⟨d9,r9⟩,⟨d7,r7⟩⟩
  by_cases hjl:j<l.length
  ·obtain⟨k0,k1⟩:=hin2 _ (cS 0 hjl)
   have e2:=fun d=>lA hjl d
   have e3:=fun d=>D8 hil (hb (l.take j)) d
   have hml:((kO L i (hb (l.take j))).map u32).length=g.nodes.length:=by rw[List.length_map,uZ hil,hLl]
   have e4:=TJ k0 (by omega:l.getD j 0<16)
   have hlt:∀m,hb (l.take m)<65536:=fun m=>NM (m:=16) fun k hk=>by have:=hin2 k (List.mem_of_mem_take hk);omega
   have e5:=LL hjl
   have hp:2^(l.getD j 0).toNat<65536:=Nat.pow_lt_pow_right (by omega) (by omega:(l.getD j 0).toNat<16)
   have e6:=VS (show hb (l.take j)<4294967296 from Nat.lt_trans (hlt j) (by omega)) (show 2^(l.getD j 0).toNat<4294967296 by omega)
   rw[<-e5] at e6
   repeat' (first|refine aQ ?_|exact gH|with_reducible refine aD ?_ ?_|((with_reducible refine Ask.mk ?_);first|exact dy|(exact hml)|exact dC)|(apply aA;(·(first|exact e2 _|exact e3 _|exact cU)))|(simp only[e4])|(simp only[e6])|refine aH ?_|((with_reducible refine aE ?_ ?_)<;>intro hc<;>try(exfalso;omega)))
   exact⟨j+1,by omega,cI,by omega,ca,⟨_,cA⟩,⟨_,cA⟩,⟨_,by rw[<-D9 hil (hb (l.take j)) (hb (l.take (j+1)))];exact cA⟩⟩
  ·have:j=l.length:=by omega
   subst this
   rw[List.take_length,hnx] at r7
   repeat' (first|refine aQ ?_|exact aC|with_reducible refine aD ?_ ?_|(apply aA;(·exact cU))|refine aH ?_|((with_reducible refine aE ?_ ?_)<;>intro hc<;>try(exfalso;omega)))
   exact⟨i+1,by omega,cI,by omega,by omega,⟨_,cA⟩,⟨_,cA⟩,⟨_,cA⟩⟩
 ·have:i=L.length:=by omega
  subst this
  rw[List.take_length,Nat.sub_self,List.replicate_zero,List.append_nil] at r7
  repeat' (first|refine aQ ?_|exact aC|with_reducible refine aD ?_ ?_|(apply aA;(·exact cU))|refine aH ?_|((with_reducible refine aE ?_ ?_)<;>intro hc<;>try(exfalso;omega)))
  rw[<-hLl]
  exact⟨⟨d7,rfl,cA⟩⟩
theorem xp {u:bx} (g:cF) (hg:g.Wf) (hk:eL u g) (hl16:u.cG.length<=16):Pure Tryz.prog 122 [g.av] (fun r=>r=ng g):=by
 have hfit:cK 0 (ng g):=by unfold ng;simp[cK,c8,CG,cD]
 refine cm ((xo g hg hk hl16).mono ?_) hfit
 rintro r H n ⟨d,rfl,hb⟩
 have e1:cp.dX H 6 (.agg [CG (fY g (-1)), .sl 7 (eO g).1.length])= .agg [cp.dX H 5 (CG (fY g (-1))),cp.dX H 5 (.sl 7 (eO g).1.length)]:=by
  simp only[dX,List.map_cons,List.map_nil]
 rw[e1,dZ hb (by simp),cx _ ((cD _ _).2 fun _ _=>by simp[cK]),dj 5 (by simp[CG,cK,cD])]
 rfl
noncomputable def fw (u:bx) (m:Nat):List AV:=(u.bz.take m).map ng
theorem zq {u:bx} {t:Nat} (h:t<u.bz.length):fw u (t+1)=fw u t++[ng (u.gr t)]:=by
 rw[fw,List.take_succ_eq_append_getElem h,fw,List.map_append,show u.gr t=u.bz[t] from gd h _];rfl
theorem po {u:bx} {t:Nat} (h:t<=u.bz.length):(fw u t).length=t:=by simp[fw];omega
theorem p7 (u:bx) (m:Nat):c8 0 (fw u m):=(cD _ _).2 fun _ _=>by unfold ng;simp[cK,c8,CG,cD]
set_option maxHeartbeats 4000000 in
theorem yo (u:bx) (hu:u.Wf):Pure Tryz.prog 74 [u.av] (fun r=>r=if AR u=true then .dO [.im 2 .any (fw u u.bz.length),i64 0] else .dO [.sc (.slice none 0 0),i64 60]):=by
 have hck:=kj u hu
 by_cases hr:cW u
 ·rw[kF.2 hr] at hck
  rw[if_pos (nk.2 hr)]
  have hfew:=hr.qa
  refine cm ?_ (by simp only[cK,c8];exact⟨p7 _ _,trivial,trivial⟩)
  refine aJ S5 rfl ?_
  repeat' (first|refine aQ ?_|exact gH|with_reducible refine aD ?_ ?_|((with_reducible refine Ask.mk ?_);first|exact dy|exact dC|(intro h;simp_all[bx.cells]<;>fail)|(simp_all[bx.cells]<;>fail))|(apply aA;(·exact cU))|refine aK (hck) ?_|refine aH ?_|((with_reducible refine aE ?_ ?_)<;>intro hc<;>try(exfalso;omega)))
  simp only[List.length_map]
  refine aU (fun t:Nat=>[(7, .sl 18 t),(20,df u.bz),(21,i64 u.bz.length),(22,i64 t)])
   (fun t H n=>t<=u.bz.length/\19<=n/\(∃d,bw H 18=some (.row 131 2 d (fw u t)))) (fun t=>u.bz.length - t) 0 ⟨_,_,_,Rt.nil 7 131 2 (by omega) rfl,cI,Nat.zero_le _,ca,⟨_,cA⟩⟩ ?_
  rintro t H n ⟨ht,hn,⟨d,r18⟩⟩
  by_cases htl:t<u.bz.length
  ·have hl:=po (u:=u) ht
   have hg:=hu.bz _ (cS default htl)
   have hlk:=xp (u.gr t) hg (hr.gr htl) hfew.2.1
   have hnx:=zq htl
   have eg:=fun d=>sF htl d
   repeat' (first|refine aQ ?_|exact gH|with_reducible refine aD ?_ ?_|((with_reducible refine Ask.mk ?_);first|exact dy|(exact hl)|exact dC|(intro h;simp_all[cF.cells]<;>fail)|(simp_all[cF.cells]<;>fail))|(apply aA;(·(first|exact eg _|exact cU)))|refine aK (hlk) ?_|refine aH ?_|((with_reducible refine aE ?_ ?_)<;>intro hc<;>try(exfalso;omega)))
   exact⟨t+1,by omega,_,_,_,Rt.refl _ _ _,cI,by omega,ca,⟨_,by rw[hnx];exact cA⟩⟩
  ·have:t=u.bz.length:=by omega
   subst this
   repeat' (first|refine aQ ?_|exact aC|with_reducible refine aD ?_ ?_|(apply aA;(·exact cU))|refine aH ?_|((with_reducible refine aE ?_ ?_)<;>intro hc<;>try(exfalso;omega)))
   refine⟨?_⟩
   have e1:∀H,cp.dX H 6 (.dO [.sl 18 u.bz.length,i64 0])= .dO [cp.dX H 5 (.sl 18 u.bz.length),i64 0]:=fun H=>by
    simp only[dX,List.map_cons,List.map_nil]
   refine(e1 _).trans ?_
   rw[dZ cA (po (Nat.le_refl _)),cx _ (p7 _ _)]
 ·have h1:=rR hr
  rw[if_neg (mt nk.1 hr)]
  generalize jF u=r at *
  obtain⟨a,b,c⟩:=r
  dsimp only at h1 hck
  subst h1
  unfold yy at hck
  refine aG S5 rfl ?_
  repeat' (first|refine aQ ?_|exact gH|with_reducible refine aD ?_ ?_|((with_reducible refine Ask.mk ?_);first|exact dy|exact dC|(intro h;simp_all[bx.cells]<;>fail)|(simp_all[bx.cells]<;>fail))|(apply aA;(·exact cU))|refine aK (hck) ?_|refine aH ?_|((with_reducible refine aE ?_ ?_)<;>intro hc<;>try(exfalso;omega)))
  exact rfl
def sH (g:cF):List (List Int):=(eO g).1.map fun l=>bits (hb l)
theorem IM {u:bx} {g:cF} (hk:eL u g):(sH g).length=g.nodes.length:=by
 unfold sH;rw[List.length_map];exact(kP hk.whole hk.held).2.1
theorem LN {u:bx} {g:cF} (hk:eL u g) {i:Nat} (hi:i<g.nodes.length):(sH g).getD i []=qS g i:=by
 have:i<(eO g).1.length:=by rw[(kP hk.whole hk.held).2.1];exact hi
 simp[sH,qS,I6,List.getD,this]
theorem HN (L:List (List Int)):c8 0 (L.map fV):=(cD _ _).2 fun _ _=>by simp[fV,cK,cD]
theorem I8 {u:bx} {t:Nat} (ht:t<u.bz.length) (d:AV):(fw u u.bz.length).getD ((t:Int)).toNat d= .agg [CG (fY (u.gr t) (-1)), .im 1 .any (((eO (u.gr t)).1.map hb).map u32)]:=by
 rw[Int.toNat_natCast]
 unfold fw
 rw[List.take_length,dJ ng u.bz t d ht]
 rfl
set_option maxHeartbeats 2000000 in
theorem zg (u:bx) (hu:u.Wf) (hr:cW u) {t:Nat} (ht:t<u.bz.length):Pure Tryz.prog 36 [u.av,i64 t] (fun r=>r= .dO [.im 1 .any ((sH (u.gr t)).map fV),i64 0]):=by
 have c0:=yo u hu
 rw[if_pos (nk.2 hr)] at c0
 have hfl:=p7 u u.bz.length
 have hgk:=hr.gr ht
 have hnl:=hgk.len
 have hL:=(kP hgk.whole hgk.held).2.1
 have hfew:=hr.qa
 have e0:=I8 ht
 have a0:(fw u u.bz.length).length=u.bz.length:=po (Nat.le_refl _)
 have hb16:∀i,hb ((eO (u.gr t)).1.getD i [])<65536:=fun i=>zp hgk hfew.2.1 i
 have hres:sH (u.gr t)=(eO (u.gr t)).1.map fun l=>bits (hb l):=rfl
 rw[hres]
 generalize fw u u.bz.length=X at *
 generalize fY (u.gr t) (-1)=B at *
 generalize (eO (u.gr t)).1=A at *
 refine cm ?_ (by simp only[cK,c8];exact⟨HN _,trivial,trivial⟩)
 refine aJ UT rfl ?_
 have a1:((A.map hb).map u32).length=A.length:=by simp
 have r0:decide (((t:Nat):Int)<0)=false:=decide_eq_false (by omega)
 refine cV ?_
 refine aV (fun hc=>absurd hc (by simp;omega)) fun hc=> ?_
 refine cV ?_
 simp only[List.length_map]
 refine aU (fun i:Nat=>[(8, .sl 27 i),(31, .im 1 .any ((A.map hb).map u32)),(32,i64 A.length),(33,i64 i)])
  (fun i H n=>i<=A.length/\28<=n/\∃d,bw H 27=some (.row 31 1 d (((A.take i).map fun l=>bits (hb l)).map fV))) (fun i=>A.length - i) 0
  ⟨_,_,_,Rt.nil 8 31 1 (by omega) rfl,cI,Nat.zero_le _,ca,⟨_,cA⟩⟩ ?_
 rintro i H n ⟨hi,hn,⟨d,r1⟩⟩
 have a2:(((A.take i).map fun l=>bits (hb l)).map fV).length=i:=by simp;omega
 by_cases hil:i<A.length
 ·have c0:=EO (hb (A.getD i [])) (hb16 i)
  have e1:∀d,((A.map hb).map u32).getD ((i:Int)).toNat d=u32 (hb (A.getD i [])):=fun d=>by
   rw[Int.toNat_natCast];simp[List.getD,hil]
  refine cV ?_
  exact⟨i+1,by omega,_,_,_,Rt.refl _ _ _,cI,by omega,ca,⟨_,by
   rw[List.take_succ_eq_append_getElem hil,List.map_append,List.map_append]
   rw[show A.getD i []=A[i] by simp[List.getD,hil]]
   exact cA⟩⟩
 ·obtain rfl:i=A.length:=by omega
  rw[List.take_length] at r1
  refine cV ?_
  refine⟨?_⟩
  show AV.dO [cp.dX _ 5 (.sl 27 A.length),i64 0]=_
  rw[dZ (k:=4) cA (by simp),cx _ (HN _)]
def fC (u:bx) (t i k:Nat):List eU:=gW u t++iM (u.gr t) t i++((qS (u.gr t) i).take k).map fun h=>⟨h,((u.gr t).nd i).cR,t,i⟩
theorem qM (u:bx) (t:Nat):fC u t 0 0=gW u t:=by simp[fC,iM]
theorem qK {u:bx} {t i k:Nat} (hk:k<(qS (u.gr t) i).length):fC u t i (k+1)=fC u t i k++[⟨(qS (u.gr t) i).getD k 0,((u.gr t).nd i).cR,t,i⟩]:=by
 unfold fC
 generalize qS (u.gr t) i=l at *
 generalize ((u.gr t).nd i).cR=th at *
 have e:l.getD k 0=l[k]:=by simp[List.getD,hk]
 rw[List.take_succ_eq_append_getElem hk,e,List.map_append,List.append_assoc,List.append_assoc,List.append_assoc]
 rfl
theorem rf {u:bx} {t i:Nat} (h5:((u.gr t).nd i).kind=5):fC u t i (qS (u.gr t) i).length=fC u t (i+1) 0:=by
 unfold fC
 rw[List.take_length,iM,lj,if_pos h5]
 simp
theorem qL {u:bx} {t i:Nat} (h5:((u.gr t).nd i).kind≠5):fC u t i 0=fC u t (i+1) 0:=by
 unfold fC
 rw[iM,lj,if_neg h5]
 simp
theorem oK (u:bx) (t:Nat):fC u t (u.gr t).nodes.length 0=gW u (t+1):=by
 unfold fC
 rw[gW]
 simp
theorem DH {u:bx} (hr:cW u) {t i k:Nat} (ht:t<u.bz.length) (hi:i<=(u.gr t).nodes.length) (hk:k<=16):(fC u t i k).length<=1048576:=by
 unfold fC
 have h1:=p6 hr (m:=t) (by omega)
 have h2:=pZ (hr.gr ht) hr.qa.2.1 t i
 have h3:=(hr.gr ht).len.2
 have h4:=hr.qa.2.2
 simp only[List.length_append,List.length_map,List.length_take]
 omega
set_option maxHeartbeats 4000000 in
theorem zN (u:bx) (hu:u.Wf) (hr:cW u):cO Tryz.prog 13 [u.av] [] 0 (fun r H n=>∃b d,r= .dO [.sl b (dS u).length,i64 0]/\bw H b=some (.row 69 4 d ((dS u).map eU.av))):=by
 have c0:=kj u hu
 rw[kF.2 hr] at c0
 unfold yy at c0
 have hfew:=hr.qa
 have hE:dS u=gW u u.bz.length:=rfl
 rw[hE]
 refine aJ UM rfl ?_
 refine cV ?_
 simp only[List.length_map]
 refine aU (fun t:Nat=>[(1, .pt 0 1 0 0),(7, .sl 18 (gW u t).length),(26,df u.bz),(27,i64 u.bz.length),(28,i64 t)])
  (fun t H n=>t<=u.bz.length/\19<=n/\(∃d,bw H 0=some (.row 25 3 d [u.av]))/\∃d,bw H 18=some (.row 69 4 d ((gW u t).map eU.av))) (fun t=>u.bz.length - t) 0
  ⟨_,_,_,Rt.nil 7 69 4 (by omega) rfl,cI,Nat.zero_le _,ca,⟨_,cA⟩,⟨_,cA⟩⟩ ?_
 rintro t H n ⟨ht,hn,⟨d0,r0⟩,⟨d1,r1⟩⟩
 by_cases htl:t<u.bz.length
 ·have c1:=zg u hu hr htl
  have hgk:=hr.gr htl
  have hnl:=hgk.len
  have hhl:=IM hgk
  have e0:∀d,(u.bz.map cF.av).getD ((t:Int)).toNat d=(u.gr t).av:=fun d=>sF htl d
  have a0:(u.bz.map cF.av).length=u.bz.length:=by simp
  refine cV ?_
  simp only[List.length_map]
  clear c0 c1 e0
  refine aL (fun i:Nat=>[(1, .pt 0 1 0 0),(7, .sl 18 (fC u t i 0).length),(8,i64 t),(10, .im 1 .any ((sH (u.gr t)).map fV)),(26,df u.bz),(27,i64 u.bz.length),(28,i64 t),(40,iZ (u.gr t).nodes),(41,i64 (u.gr t).nodes.length),(42,i64 i)])
   (fun i H2 n2=>i<=(u.gr t).nodes.length/\n+18<=n2/\(∃d,bw H2 0=some (.row 25 3 d [u.av]))/\∃d,bw H2 18=some (.row 69 4 d ((fC u t i 0).map eU.av))) (fun i=>(u.gr t).nodes.length - i) 0
   (by rw[qM];exact cI) ⟨Nat.zero_le _,ca,⟨_,cA⟩,⟨_,by rw[qM];exact cA⟩⟩ ?_
  rintro i H2 n2 ⟨hi,hn2,⟨d0,r0⟩,⟨d1,r1⟩⟩
  have a0:((u.gr t).nodes.map Node.av).length=(u.gr t).nodes.length:=by simp
  by_cases hil:i<(u.gr t).nodes.length
  ·have e0:∀d,((u.gr t).nodes.map Node.av).getD ((i:Int)).toNat d=((u.gr t).nd i).av:=fun d=>j9 hil d
   by_cases h5:((u.gr t).nd i).kind=5
   ·have hh:=LN hgk hil
    have hle:=IN hgk hfew.2.1 i
    have e1:∀d,((sH (u.gr t)).map fV).getD ((i:Int)).toNat d= .im 1 .any ((qS (u.gr t) i).map i64):=fun d=>by
     rw[Int.toNat_natCast,dJ fV (sH (u.gr t)) i d (by rw[hhl];exact hil),<-hh];rfl
    have a1:((sH (u.gr t)).map fV).length=(u.gr t).nodes.length:=by rw[List.length_map];exact hhl
    have r2:decide (((u.gr t).nd i).kind≠5)=false:=decide_eq_false fun h=>h h5
    refine cV ?_
    simp only[List.length_map]
    clear e0 e1
    refine aL (fun k:Nat=>[(1, .pt 0 1 0 0),(7, .sl 18 (fC u t i k).length),(8,i64 t),(10, .im 1 .any ((sH (u.gr t)).map fV)),(12,i64 i),(13, .pt (n2+4) 1 0 0),(26,df u.bz),(27,i64 u.bz.length),(28,i64 t),(40,iZ (u.gr t).nodes),(41,i64 (u.gr t).nodes.length),(42,i64 i),(53, .im 1 .any ((qS (u.gr t) i).map i64)),(54,i64 (qS (u.gr t) i).length),(55,i64 k)])
     (fun k H3 n3=>k<=(qS (u.gr t) i).length/\n2+5<=n3/\(∃d,bw H3 0=some (.row 25 3 d [u.av]))/\(∃d,bw H3 (n2+4)=some (.row 65 13 d [((u.gr t).nd i).av]))/\∃d,bw H3 18=some (.row 69 4 d ((fC u t i k).map eU.av))) (fun k=>(qS (u.gr t) i).length - k) 0
     cI ⟨Nat.zero_le _,ca,⟨_,cA⟩,⟨_,cA⟩,⟨_,cA⟩⟩ ?_
    rintro k H3 n3 ⟨hk,hn3,⟨d0,r0⟩,⟨d3,r3⟩,⟨d1,r1⟩⟩
    by_cases hkl:k<(qS (u.gr t) i).length
    ·have e0:∀d,((qS (u.gr t) i).map i64).getD ((k:Int)).toNat d=i64 ((qS (u.gr t) i).getD k 0):=fun d=>by
      rw[Int.toNat_natCast];exact dJ i64 (qS (u.gr t) i) k d hkl
     have a2:((qS (u.gr t) i).map i64).length=(qS (u.gr t) i).length:=by rw[List.length_map]
     have a3:((fC u t i k).map eU.av).length=(fC u t i k).length:=by rw[List.length_map]
     have hkk:=DH hr htl (i:=i) (k:=k) (by omega) (by omega)
     refine cV ?_
     refine⟨k+1,by omega, ?_,by omega,ca,⟨_,cA⟩,⟨_,cA⟩, ?_⟩
     ·rw[qK hkl,List.length_append];exact cI
     ·rw[qK hkl,List.map_append];exact⟨_,cA⟩
    ·obtain rfl:k=(qS (u.gr t) i).length:=by omega
     rw[rf h5] at r1
     refine cV ?_
     exact⟨i+1,by omega,by rw[<-rf h5];exact cI,by omega,ca,⟨_,cA⟩,⟨_,cA⟩⟩
   ·have r2:decide (((u.gr t).nd i).kind≠5)=true:=decide_eq_true h5
    refine cV ?_
    rw[qL h5] at r1
    exact⟨i+1,by omega,by rw[<-qL h5];exact cI,by omega,ca,⟨_,cA⟩,⟨_,cA⟩⟩
  ·obtain rfl:i=(u.gr t).nodes.length:=by omega
   rw[oK] at r1
   refine cV ?_
   exact⟨t+1,by omega,_,_,_,Rt.refl _ _ _,by rw[<-oK];exact cI,by omega,ca,⟨_,cA⟩,⟨_,cA⟩⟩
 ·obtain rfl:t=u.bz.length:=by omega
  refine cV ?_
  exact⟨⟨18,d1,rfl,cA⟩⟩
theorem ri (u:bx) (hu:u.Wf) (hr:cW u):Pure Tryz.prog 13 [u.av] (fun r=>r= .dO [v7 (dS u),i64 0]):=by
 have hf:=DS (dS u)
 refine cm ((zN u hu hr).mono ?_) (by simp only[cK,c8];exact⟨hf,trivial,trivial⟩)
 rintro r H n ⟨b,d,rfl,hb⟩
 show AV.dO [cp.dX H 5 (.sl b (dS u).length),i64 0]=_
 rw[dZ (k:=4) hb (by simp),cx _ hf]
end Go.Proofs.YtjopoheligmmoaaGreatDoor
namespace Go.cp
open Go.RowKit
set_option linter.unusedSimpArgs false
set_option linter.unusedVariables false
def WC (P:Program) (n lo:Nat) (code:Code) (fr:Fr) (H:Hp) (nx:Nat) (Q:QT):Prop:=
 ∀w0 M0 c0 a w,Holds w0 M0 c0 lo n fr H nx a w->code.wp P (LQ w0 M0 c0 lo n Q) a w
section
variable {P:Program} {n lo:Nat} {fr:Fr} {H:Hp} {nx:Nat} {Q:QT}
theorem WC.low {code:Code} {lc:LC} (hl:cq P n code=some lc) (h:WL P n lo lc fr H nx Q):WC P n lo code fr H nx Q:=h code hl
theorem WC.seq {x y:Code} (h:WC P n lo x fr H nx (gw (fun fr H nx=>WC P n lo y fr H nx Q) Q)):WC P n lo (.seq x y) fr H nx Q:=by
 intro w0 M0 c0 a w hh
 refine wp_seq (Code.wp_mono ?_ (h w0 M0 c0 a w hh))
 rintro e a' w' ⟨x',fr',H',nx',rfl,hQ,hh'⟩
 cases x' with
 |normal=>exact hQ w0 M0 c0 a' w' hh'
 |exit id=>exact⟨.exit id,fr',H',nx',rfl,hQ,hh'⟩
 |ret=>exact⟨.ret,fr',H',nx',rfl,hQ,hh'⟩
theorem WC.rt {code:Code} {fr2:Fr} {H2:Hp} {nx2:Nat} (hw:Rt fr H nx fr2 H2 nx2) (h:WC P n lo code fr2 H2 nx2 Q):WC P n lo code fr H nx Q:=
 fun w0 M0 c0 a w hh=>h w0 M0 c0 a w (hw _ _ _ _ _ _ _ hh)
theorem WC.cut {x y:Code} {lx:LC} (hl:cq P n x=some lx) (h:Go (W P n lo lx fr H nx (gw (fun fr' H' nx'=>∃fr2 H2 nx2,Rt fr' H' nx' fr2 H2 nx2/\WC P n lo y fr2 H2 nx2 Q) Q))):WC P n lo (.seq x y) fr H nx Q:=
 WC.seq (WC.low hl ((ew h).mono fun e fr H nx hh=>by
  cases e with
  |normal=>
   obtain⟨fr2,H2,nx2,h1,h2⟩:=hh
   exact WC.rt h1 h2
  |exit id=>exact hh
  |ret=>exact hh))
theorem cO.L3 {f:FuncId} {fn:Func} {code:Code} {args:List AV} {lrs:List jj} {R:AV->Hp->Nat->Prop} (hf:P.funcs[f]?=some fn) (hname:(fn.name== "runtime.NumGoroutine")=false)
 (hb:fn.body=some code) (hr:gM P fn.results.toList=some lrs) (ha:args.length<=fn.ntmps)
 (h:WC P fn.ntmps nx code (jI 0 args) H nx (sd lrs R)):cO P f args H nx R:=by
 refine⟨⟨fn,hf,by simp[hb],hname⟩,fun w0 c vs hS hH hU hv=>calls_of_wp hf hb ?_⟩
 obtain⟨ρ0,H0,U0,w,M0⟩:=c
 simp only at hH hU
 subst hH
 have hlen:=hv.length
 refine Code.wp_mono ?_ (h w0 M0 ⟨ρ0,bw H,U0,w,M0⟩ _ w ⟨?_,rfl,ρ0,U0,hU,hS,fun t=> ?_,hU,Cx.le.refl _⟩)
 ·rintro e a' w' ⟨x,fr',H',nx',rfl,hQ,hn,hd,ρ,U,hU',hS',hF,_,hle⟩
  have hQ:=wF hQ
  have fin:mD (ig fr' H' lrs) (fun rs=>R (pack rs) H' nx')->a'.defers=[]/\∃v,(results fn a'.tmps).run P w'= .ok v w'/\
   ∃v1 r H1 nx1 ρ1 U1,Ending.returned v= .returned v1/\R r H1 nx1/\(∀b,U1 b->b<nx1)/\dY w0 ⟨ρ1,bw H1,U1,w',M0⟩/\Cx.le ⟨ρ0,bw H,U0,w,M0⟩ ⟨ρ1,bw H1,U1,w',M0⟩/\VR ⟨ρ1,bw H1,U1,w',M0⟩ r v1:=by
   intro hq
   cases hres:ig fr' H' lrs with
   |none=>rw[hres] at hq;exact hq.elim
   |some avs=>
    rw[hres] at hq
    obtain⟨v,g1,g2⟩:=mE (P:=P) (fn:=fn) hS' rfl hF hr hres
    exact⟨hd,v,g1,v,_,H',nx',ρ,U,rfl,hq,hU',hS',hle,g2⟩
  cases x with
  |normal=>exact fin hQ
  |ret=>exact fin hQ
  |exit id=>exact hQ.elim
 ·simp[hlen];omega
 ·have:=mc (c:=⟨ρ0,bw H,U0,w,M0⟩) (args:=args) (vs:=vs) (k:=0) (pre:=[]) (post:=List.replicate (fn.ntmps - vs.length) undef) hv rfl t
  have e:(vs.toArray++Array.replicate (fn.ntmps - vs.toArray.size) undef)=([]++vs++List.replicate (fn.ntmps - vs.length) undef).toArray:=by
   apply Array.ext';simp
  simp only[e]
  exact this
theorem eu {ops:Array Oper} {o:Oper} {rest:List Oper} {a:Act} {w w':World} {v:Value} {Q:Exit->Act->World->Prop} (hg:o.guard=none) (hr:(execOp a.eval o).run P w= .ok (.value v) w') (h:wpList P ops Q rest (a.put o.dst v) w'):wpList P ops Q (o::rest) a w:=
 wpList_plain hg fun K hK=>by
  unfold Oper.wp
  rw[hr,Oper.upon_value]
  exact hK _ _ h
end
def qq (w w':World):Prop:=∀blk o sz v,0<sz->At w blk o sz v->At w' blk o sz v
mutual
theorem VR.gq {c:Cx} {w':World} (h:qq c.w w'):∀{a:AV} {v:Value},VR c a v->VR { c with w:=w' } a v
 | .sc u,v,hv=>by rw[VR] at hv ⊢;exact hv
 | .any,_,_=>by rw[VR];trivial
 | .im sz d es,v,hv=>by
  rw[VR] at hv ⊢
  obtain⟨a,cap,rfl,hc,hr⟩:=hv
  refine⟨a,cap,rfl,hc, ?_⟩
  rcases hr with h0|⟨blk,o,rfl,hz,hm,hr⟩
  ·exact .inl h0
  ·exact .inr ⟨blk,o,rfl,hz,hm,da.gq h hz hr⟩
 | .ip sz d es i off,v,hv=>by
  rw[VR] at hv ⊢
  obtain⟨hi,ho,blk,o,rfl,hm,hr⟩:=hv
  exact⟨hi,ho,blk,o,rfl,hm,da.gq h (by omega) hr⟩
 | .sl b len,v,hv=>by rw[VR] at hv ⊢;exact hv
 | .pt b len i off,v,hv=>by rw[VR] at hv ⊢;exact hv
 | .zc,v,hv=>by rw[VR] at hv ⊢;exact hv
 | .agg cs,v,hv=>by
  rw[VR] at hv ⊢
  obtain⟨vs,rfl,hr⟩:=hv
  exact⟨vs,rfl,cg.gq h hr⟩
 | .dO cs,v,hv=>by
  rw[VR] at hv ⊢
  obtain⟨vs,rfl,hr⟩:=hv
  exact⟨vs,rfl,cg.gq h hr⟩
 | .fn f p q,v,hv=>by
  rw[VR] at hv ⊢
  obtain⟨ps,qs,rfl,hp,hq⟩:=hv
  exact⟨ps,qs,rfl,cg.gq h hp,cg.gq h hq⟩
 | .lY t x,v,hv=>by
  rw[VR] at hv ⊢
  obtain⟨u,rfl,hu⟩:=hv
  exact⟨u,rfl,VR.gq h hu⟩
 | .mp b,v,hv=>by rw[VR] at hv ⊢;exact hv
 | .ab,v,hv=>by rw[VR] at hv ⊢;exact hv
 | .sv b len lo n,v,hv=>by rw[VR] at hv ⊢;exact hv
theorem da.gq {c:Cx} {w':World} (h:qq c.w w') {sz:Nat} (hz:0<sz):∀{es:List AV} {blk o:Nat},da c sz es blk o->da { c with w:=w' } sz es blk o
 |[],_,_,_=>by rw[da];trivial
 |e::es,blk,o,hv=>by
  rw[da] at hv ⊢
  obtain⟨⟨v,h1,h2⟩,h3⟩:=hv
  exact⟨⟨v,h _ _ _ _ hz h1,VR.gq h h2⟩,da.gq h hz h3⟩
theorem cg.gq {c:Cx} {w':World} (h:qq c.w w'):∀{az:List AV} {vs:List Value},cg c az vs->cg { c with w:=w' } az vs
 |[],vs,hv=>by rw[cg] at hv ⊢;exact hv
 |a::az,vs,hv=>by
  rw[cg] at hv ⊢
  obtain⟨v,vs',rfl,h1,h2⟩:=hv
  exact⟨v,vs',rfl,VR.gq h h1,cg.gq h h2⟩
end
structure pP (w w':World) (it:Nat):Prop where
 os:w'.os=w.os
 tape:w'.tape=w.tape
 output:w'.output=w.output
 size:w.heap.size<=w'.heap.size
 cT:∀k,k<w.heap.size->k≠it->w'.heap[k]?=w.heap[k]?
 V8:it<w.heap.size->∃m s l c,w.heap[it]?=some (.mapIter m s l c)
theorem pP.at_ {w w':World} {it:Nat} (h:pP w w' it):qq w w':=fun blk o sz v hz ha=>by
 have hlt:=ha.lt hz
 refine ha.cT (h.cT blk hlt fun e=> ?_)
 subst e
 obtain⟨m,s,l,c,hm⟩:=h.V8 hlt
 have:=ha.2.1 0 hz
 have h0:v.cells[0]?=some (v.cells[0]'(by rw[ha.1];exact hz)):=Array.getElem?_eq_getElem _
 rw[h0] at this
 simp[World.cell?,hm] at this
theorem dY.gq {w0:World} {c:Cx} {w':World} {it:Nat} (h:dY w0 c) (ht:pP c.w w' it) (hlow:w0.heap.size<=it):dY w0 { c with w:=w' }:=by
 have hat:=ht.at_
 refine⟨⟨ht.os.trans h.below.os,ht.tape.trans h.below.tape,ht.output.trans h.below.output,Nat.le_trans h.below.size ht.size,fun k hk=> ?_⟩,h.m0,fun b e sz d es he=> ?_,h.inj⟩
 ·rw[ht.cT k (Nat.lt_of_lt_of_le hk h.below.size) (by omega)];exact h.below.block k hk
 ·obtain⟨h1,h2⟩:=h.row b e sz d es he
  refine⟨h1, ?_⟩
  have blkNe:∀blk o,blk<c.w.heap.size->c.w.heap[blk]?=some o->(∀m s l q,o≠ .mapIter m s l q)->w'.heap[blk]?=some o:=fun blk o hl ho hn=>by
   rw[ht.cT blk hl fun e=> ?_];exact ho
   subst e
   obtain⟨m,s,l,q,hm⟩:=ht.V8 hl
   rw[ho] at hm
   exact hn _ _ _ _ (Option.some.inj hm)
  rcases h2 with⟨hz,h3⟩|⟨hz,h3⟩
  ·refine .inl ⟨hz, ?_⟩
   rcases h3 with h4|⟨blk,o,z,h4,h5,⟨arr,h6,h7⟩,h8,h9⟩
   ·exact .inl h4
   ·exact .inr ⟨blk,o,z,h4,h5,⟨arr,blkNe blk _ (Array.getElem?_eq_some_iff.1 h6).1 h6 (by intros;simp),h7⟩,h8,da.gq hat hz h9⟩
  ·obtain⟨r,x,ms,clk,h4,h5,h6,h7,h8,h9⟩:=h3
   exact .inr ⟨hz,r,x,ms,clk,h4,h5,blkNe r _ (Array.getElem?_eq_some_iff.1 h6).1 h6 (by intros;simp),h7,VR.gq hat h8,h9⟩
theorem l5.gq {c0 c:Cx} {lo:Nat} {w':World} {it:Nat} (h:l5 c0 lo c) (ht:pP c.w w' it) (hlow:c0.w.heap.size<=it):l5 c0 lo { c with w:=w' }:=
 ⟨h.1,⟨h.2.U,Nat.le_trans h.2.sz ht.size,fun b hb hl=>by
  obtain⟨h1,h2⟩:=h.2.blk b hb hl
  exact⟨(ht.cT b (Nat.lt_of_lt_of_le hl h.2.sz) (by omega)).trans h1,h2⟩,h.2.row⟩⟩
theorem FR.gq {c:Cx} {fr:Fr} {tmps:Array Value} {w':World} (h:FR c fr tmps) (ht:qq c.w w'):FR { c with w:=w' } fr tmps:=fun t=>VR.gq ht (h t)
theorem FR.VX {c:Cx} {fr:Fr} {tmps tmps':Array Value} (h:FR c fr tmps) (hk:∀t,cc fr t≠ .any->tmps'.getD t undef=tmps.getD t undef):FR c fr tmps':=fun t=>by
 by_cases e:cc fr t= .any
 ·rw[e,VR];trivial
 ·rw[hk t e];exact h t
theorem qE {a:Act} {d t:Nat} {v:Value} (h:t≠d):(a.put (some d) v).tmps.getD t undef=a.tmps.getD t undef:=by
 simp only[Act.put]
 simp[Array.getD_eq_getD_getElem?,Array.getElem?_setIfInBounds,Ne.symm h]
theorem JJ {a:Act} {d:Nat} {v:Value} (h:d<a.tmps.size):(a.put (some d) v).tmps.getD d undef=v:=by
 simp[Act.put,Array.getD_eq_getD_getElem?,Array.getElem?_setIfInBounds,h]
theorem yN {P:Program} (w:World) (ty:TypeId) (it bm since c0:Nat) (seen:Array Nat) (es:Array MapEntry) (clock:Nat) (hi:w.heap[it]?=some (.mapIter (some bm) since seen c0)) (hb:w.heap[bm]?=some (.map es clock)) (hold:∀x∈es.toList,x.born<since) (hsc:since<=c0):
 ((leftOf es seen).size=0/\(Instr.next (.pointer (some ⟨it,0,none⟩)) false ty).run P w= .ok (.tuple #[.bool false]) w)\/
 ∃e∈(leftOf es seen).toList,∃w1:World,pP w w1 it/\w1.heap.size=w.heap.size/\w1.heap[it]?=some (.mapIter (some bm) since (seen.push e.born) clock)/\(Instr.next (.pointer (some ⟨it,0,none⟩)) false ty).run P w= .ok (.tuple #[.bool true,e.key,e.val]) w1:=by
 have hlt:it<w.heap.size:=(Array.getElem?_eq_some_iff.1 hi).1
 simp only[Instr.next,getObj,Sem.run_bind,Sem.run,hi,hb,Result.andThen,next_test_false seen es since c0 hold hsc,Bool.false_eq_true,if_false]
 unfold leftOf
 have hmem:∀x∈(Array.filter (fun e=> !seen.contains e.born) es).toList,x.born<since:=fun x hx=>hold x (by simp at hx ⊢;exact hx.1)
 generalize Array.filter (fun e=> !seen.contains e.born) es=L at hmem ⊢
 have e1:L.filter (fun x=>decide (x.born<since))=L:=Array.filter_eq_self.2 (fun x hx=>by simpa using hmem x (by simpa using hx))
 have e2:L.filter (fun x=>decide (x.born≥since))=#[]:=by
  rw[Array.filter_eq_empty_iff]
  intro x hx
  have:=hmem x (by simpa using hx)
  simp
  omega
 simp only[e1,e2,Array.append_empty]
 by_cases h0:L.size=0
 ·left
  have:L=#[]:=Array.eq_empty_of_size_eq_zero h0
  subst this
  refine⟨rfl, ?_⟩
  simp[choose,Sem.run,Question.forced]
 ·right
  have hne:L.isEmpty=false:=by simp[Array.isEmpty,h0]
  simp only[hne,Bool.false_eq_true,if_false,Array.empty_append,Array.size_map]
  have hch:∃(j:Nat) (w1:World),j<L.size/\(w1.heap=w.heap/\w1.os=w.os/\w1.tape=w.tape/\w1.output=w.output)/\(choose (Question.mapNext L.size)).run P w= .ok j w1:=by
   by_cases hf:L.size<=1
   ·exact⟨0,w,by omega,⟨rfl,rfl,rfl,rfl⟩,by simp[choose,Sem.run,Question.forced,hf]⟩
   ·exact⟨_,w.drew,Nat.mod_lt _ (by omega),⟨rfl,rfl,rfl,rfl⟩,by
     simp only[choose,Sem.run,Question.forced,decide_eq_true_eq,hf,if_false,Question.cut]
     rfl⟩
  obtain⟨j,w1,hj,⟨a1,a2,a3,a4⟩,hrun⟩:=hch
  refine⟨L[j],by simp,{ w1 with heap:=w1.heap.setIfInBounds it (.mapIter (some bm) since (seen.push L[j].born) clock) },⟨a2,a3,a4,by simp[a1],fun k hk hne=>by simp[a1,Array.getElem?_setIfInBounds,Ne.symm hne],fun _=>⟨_,_,_,_,hi⟩⟩,by simp[a1],by simp[a1,hlt], ?_⟩
  have hset:∀(o':Obj),(setObj it o').run P w1= .ok () { w1 with heap:=w1.heap.setIfInBounds it o' }:=fun o'=>by
   simp only[setObj,Sem.run,a1,hi]
  simp only[hrun,Array.getElem?_map,Array.getElem?_eq_getElem hj,Option.map_some,Sem.run_bind,hset,Result.andThen]
  rfl
theorem wI {P:Program} (w:World) (it bm since:Nat) (seen:Array Nat) (es:Array MapEntry) (clock:Nat) (e:MapEntry) (hi:w.heap[it]?=some (.mapIter (some bm) since (seen.push e.born) clock)) (hb:w.heap[bm]?=some (.map es clock)) (he:e∈es.toList) (hn:(es.toList.map (·.born)).Nodup):
 (Instr.entry (.pointer (some ⟨it,0,none⟩))).run P w= .ok (.tuple #[e.key,e.val]) w:=by
 have hf:es.find? (·.born==e.born)=some e:=by rw[<-Array.find?_toList];exact find_born e es.toList hn he
 simp only[Instr.entry,getObj,Sem.run_bind,Sem.run,hi,hb,Result.andThen,Array.back?_push,bne_self_eq_false,Bool.false_eq_true,if_false,hf]
 rfl
end Go.cp
namespace Go.Proofs
open Go.Shelf
def Tryz.FK:Go.Shelf.Ren:=⟨fun|5=>40|8=>82|7=>81|19=>141|20=>142|10=>132|11=>133|12=>134|13=>135|14=>136|15=>137|16=>138|17=>139|18=>140|30=>172|31=>173|32=>174|33=>175|34=>176|35=>104|40=>200|n=>n,fun|23=>31|25=>3|3=>3|32=>142|22=>31|0=>0|44=>132|46=>206|4=>4|36=>198|35=>197|41=>203|5=>5|9=>9|53=>231|57=>235|63=>266|64=>267|n=>n,fun|n=>n⟩
theorem Tryz.eG:Go.Proofs.SlLaysM.n5 Tryz.prog Tryz.FK:={
 mixed:=by kernel_rfl
 f5:=⟨Tryz.f40.name,by decide,Tryz.func40.trans (congrArg some (by kernel_rfl))⟩
 f7:=⟨Tryz.f81.name,by decide,Tryz.func81.trans (congrArg some (by kernel_rfl))⟩
 f8:=Tryz.func82.trans (congrArg some (by kernel_rfl))
 f10:=⟨Tryz.f132.name,by decide,Tryz.func132.trans (congrArg some (by kernel_rfl))⟩
 f11:=⟨Tryz.f133.name,by decide,Tryz.func133.trans (congrArg some (by kernel_rfl))⟩
 f12:=⟨Tryz.f134.name,by decide,Tryz.func134.trans (congrArg some (by kernel_rfl))⟩
 f13:=⟨Tryz.f135.name,by decide,Tryz.func135.trans (congrArg some (by kernel_rfl))⟩
 f14:=⟨Tryz.f136.name,by decide,Tryz.func136.trans (congrArg some (by kernel_rfl))⟩
 f15:=⟨Tryz.f137.name,by decide,Tryz.func137.trans (congrArg some (by kernel_rfl))⟩
 f16:=⟨Tryz.f138.name,by decide,Tryz.func138.trans (congrArg some (by kernel_rfl))⟩
 f17:=⟨Tryz.f139.name,by decide,Tryz.func139.trans (congrArg some (by kernel_rfl))⟩
 f18:=⟨Tryz.f140.name,by decide,Tryz.func140.trans (congrArg some (by kernel_rfl))⟩
 f19:=Tryz.func141.trans (congrArg some (by kernel_rfl))
 f20:=Tryz.func142.trans (congrArg some (by kernel_rfl))
 f30:=⟨Tryz.f172.name,by decide,Tryz.func172.trans (congrArg some (by kernel_rfl))⟩
 f31:=Tryz.func173.trans (congrArg some (by kernel_rfl))
 f32:=Tryz.func174.trans (congrArg some (by kernel_rfl))
 f33:=⟨Tryz.f175.name,by decide,Tryz.func175.trans (congrArg some (by kernel_rfl))⟩
 f34:=⟨Tryz.f176.name,by decide,Tryz.func176.trans (congrArg some (by kernel_rfl))⟩
 f35:=⟨Tryz.f104.name,by decide,Tryz.func104.trans (congrArg some (by kernel_rfl))⟩
 f40:=⟨Tryz.f200.name,by decide,Tryz.func200.trans (congrArg some (by kernel_rfl))⟩
 t0:=Tryz.underlying0
 a0:=Tryz.isAgg0
 z0:=Tryz.sizeOf0
 v0:=Tryz.zeroValue0
 t3:=Tryz.underlying3
 a3:=Tryz.isAgg3
 z3:=Tryz.sizeOf3
 v3:=Tryz.zeroValue3
 t4:=Tryz.underlying4
 a4:=Tryz.isAgg4
 z4:=Tryz.sizeOf4
 v4:=Tryz.zeroValue4
 t5:=Tryz.underlying5
 a5:=Tryz.isAgg5
 z5:=Tryz.sizeOf5
 v5:=Tryz.zeroValue5
 t9:=Tryz.underlying9
 a9:=Tryz.isAgg9
 z9:=Tryz.sizeOf9
 v9:=Tryz.zeroValue9
 t22:=Tryz.underlying31
 a22:=Tryz.isAgg31
 z22:=Tryz.sizeOf31
 v22:=Tryz.zeroValue31
 t23:=Tryz.underlying31
 a23:=Tryz.isAgg31
 z23:=Tryz.sizeOf31
 v23:=Tryz.zeroValue31
 t25:=Tryz.underlying3
 a25:=Tryz.isAgg3
 z25:=Tryz.sizeOf3
 v25:=Tryz.zeroValue3
 t32:=Tryz.underlying142
 a32:=Tryz.isAgg142
 z32:=Tryz.sizeOf142
 v32:=Tryz.zeroValue142
 t35:=Tryz.underlying197
 a35:=Tryz.isAgg197
 z35:=Tryz.sizeOf197
 v35:=Tryz.zeroValue197
 t36:=Tryz.underlying198
 a36:=Tryz.isAgg198
 z36:=Tryz.sizeOf198
 v36:=Tryz.zeroValue198
 t41:=Tryz.underlying203
 a41:=Tryz.isAgg203
 z41:=Tryz.sizeOf203
 v41:=Tryz.zeroValue203
 t44:=Tryz.underlying132
 a44:=Tryz.isAgg132
 z44:=Tryz.sizeOf132
 v44:=Tryz.zeroValue132
 t46:=Tryz.underlying206
 a46:=Tryz.isAgg206
 z46:=Tryz.sizeOf206
 v46:=Tryz.zeroValue206
 t53:=Tryz.underlying231
 a53:=Tryz.isAgg231
 z53:=Tryz.sizeOf231
 v53:=Tryz.zeroValue231
 t57:=Tryz.underlying235
 a57:=Tryz.isAgg235
 z57:=Tryz.sizeOf235
 v57:=Tryz.zeroValue235
 t63:=Tryz.underlying266
 a63:=Tryz.isAgg266
 z63:=Tryz.sizeOf266
 v63:=Tryz.zeroValue266
 t64:=Tryz.underlying267
 a64:=Tryz.isAgg267
 z64:=Tryz.sizeOf267
 v64:=Tryz.zeroValue267 }
end Go.Proofs
namespace Go.Proofs.YtjopoheligmmoaaGreatDoor
open Go Go.cp Go.Proofs Go.RowKit Go.Sort
set_option linter.unusedSimpArgs false
set_option linter.unusedVariables false
def eG (l:List Int):List Int:=l.mergeSort fun x y=>decide (x<=y)
theorem kX (l:List Int):(eG l).length=l.length:=List.length_mergeSort l
theorem FJ {l:List Int} {x:Int}:x∈eG l↔x∈l:=(List.mergeSort_perm l _).mem_iff
theorem A9 {w0:World} {c:Cx} (hS:dY w0 c) {b:Nat} {e:TypeId} {d:AV} {l:List Int} (hcb:c.H b=some (.row e 1 d (l.map i64))) (h0:l≠[]) (hl:l.length<4611686018427387904) {v:Value} (hv:VR c (.sl b l.length) v):
 Calls Tryz.prog 40 #[v] c.w fun en w'=>en= .returned (.tuple #[])/\dY w0 ⟨c.ρ,eo c.H b (some (.row e 1 d ((eG l).map i64))),c.U,w',c.M0⟩/\c.le ⟨c.ρ,eo c.H b (some (.row e 1 d ((eG l).map i64))),c.U,w',c.M0⟩/\
  c.w.heap.size<=w'.heap.size/\∀i,i<c.w.heap.size->(∀o z,c.ρ b≠some (i,o,z))->w'.heap[i]?=c.w.heap[i]?:=by
 rw[VR] at hv
 obtain⟨hUb,a,cap,rfl,hr⟩:=hv
 obtain⟨_,hr2⟩:=hr _ _ _ _ hcb
 have hr3:=hr2 (by simp)
 obtain⟨_,_,hor⟩:=hS.jU b _ _ _ _ hcb (.inr (by omega))
 have hln:0<l.length:=List.length_pos_iff.2 h0
 rcases hor with⟨_,hes⟩|⟨blk,o,z,hρ,hlow,⟨arr,harr,hsz⟩,hlz,hrow⟩
 ·exact absurd (List.map_eq_nil_iff.1 hes) h0
 rcases hr3 with⟨h1,_,_⟩|⟨blk',o',z',h1,rfl,hc1,hc2,hc3,_⟩
 ·rw[hρ] at h1;cases h1
 rw[hρ] at h1
 cases h1
 have hblk:blk<c.w.heap.size:=(Array.getElem?_eq_some_iff.1 harr).1
 rw[List.length_map] at hlz
 have hcell:∀j,j<l.length->c.w.cell? ⟨blk,o+j,none⟩=some (.int .i64 (l.getD j 0)):=fun j hj=>by
  obtain⟨v,⟨hv1,hv2,_⟩,hv3⟩:=de hrow j (by simpa using hj)
  rw[dJ i64 l j .any hj,VR] at hv3
  have:=hv2 0 (by omega)
  rw[hv3] at this
  rw[Nat.mul_one,Nat.add_zero] at this
  rw[this];rfl
 have hHolds:Go.Sort.Holds (Value.int .i64) c.w blk o l.toArray:=fun j hj=>by
  have hj':j<l.length:=by simpa using hj
  refine⟨?_, ?_⟩
  ·rw[hcell j hj',getElem!_pos l.toArray j hj]
   simp[List.getD,hj']
  ·simp only[World.frozen?,harr]
   simp
 refine(AnyM.slices_Sort_int Tryz.eG blk o cap l c.w hHolds hblk hl).mono ?_
 rintro en w' ⟨rfl,n,os,hw'⟩
 change w'=grow (putRow (Value.int .i64) (Go.Sort.ahead c.w n) blk o (eG l).toArray) os at hw'
 have hlen:=kX l
 have hsz1:(putRow (Value.int .i64) (Go.Sort.ahead c.w n) blk o (eG l).toArray).heap.size=c.w.heap.size:=by simp[Go.Sort.ahead]
 have hold:∀i,i<c.w.heap.size->w'.heap[i]?=(putRow (Value.int .i64) (Go.Sort.ahead c.w n) blk o (eG l).toArray).heap[i]?:=fun i hi=>by
  rw[hw',heap_grow_old _ _ (by rw[hsz1];exact hi)]
 have hne:∀i,i<c.w.heap.size->i≠blk->w'.heap[i]?=c.w.heap[i]?:=fun i hi hn=>by
  rw[hold i hi]
  simp[putRow,mapBlock,Go.Sort.ahead,Array.getElem?_modify,Ne.symm hn]
 have hat:w'.heap[blk]?=some (.cells (putCells (Value.int .i64) o (eG l).toArray arr) e (0,0)):=by
  rw[hold blk hblk]
  simp[putRow,mapBlock,Go.Sort.ahead,Array.getElem?_modify,harr,onCells]
 have hHn:∀j,j<l.length->w'.cell? ⟨blk,o+j,none⟩=some (.int .i64 ((eG l).getD j 0)):=fun j hj=>by
  have h1:Go.Sort.Holds (Value.int .i64) (putRow (Value.int .i64) (Go.Sort.ahead c.w n) blk o (eG l).toArray) blk o (eG l).toArray:=
   holds_putRow _ _ _ _ l.toArray (eG l).toArray (fun j hj=>hHolds j hj) (by simp[hlen])
  have hj2:j<(eG l).toArray.size:=by simp[hlen];exact hj
  have h2:=(h1 j hj2).1
  rw[World.cell?_of_block (a:=⟨blk,o+j,none⟩) (hold blk hblk),h2,getElem!_pos _ j hj2]
  have hj3:j<(eG l).length:=by rw[hlen];exact hj
  simp[List.getD,hj3]
 have hss:c.w.heap.size<=w'.heap.size:=by
  rw[hw']
  have:(putRow (Value.int .i64) (Go.Sort.ahead c.w n) blk o (eG l).toArray).heap.size<=(grow (putRow (Value.int .i64) (Go.Sort.ahead c.w n) blk o (eG l).toArray) os).heap.size:=by simp[grow]
  rw[hsz1] at this
  exact this
 have hput:=hS.ow (b:=b) (e:=e) (sz:=1) d (es:=(eG l).map i64) (w':=w') (blk:=blk) (o:=o) (z:=z) (arr:=putCells (Value.int .i64) o (eG l).toArray arr) (by omega)
  (.inr ⟨_,_,_,hcb, .inl ⟨by simp[hlen],hρ⟩⟩) (.inr ⟨_,_,_,hcb,hρ⟩) (by rw[hw'];rfl) (by rw[hw'];rfl) (by rw[hw'];rfl) hss hne hat (by simpa[putCells] using hsz) (by simp[hlen];omega) (fun hle i hi=>by
   have hi':i<l.length:=by simpa[hlen] using hi
   refine⟨.int .i64 ((eG l).getD i 0),⟨rfl,fun j hj=> ?_,fun j u hu=> ?_⟩, ?_⟩
   ·have:j=0:=by omega
    subst this
    rw[Nat.mul_one,Nat.add_zero,hHn i hi'];rfl
   ·have:u= .int .i64 ((eG l).getD i 0):=by
     have:=List.mem_of_getElem? (l:=[Value.int .i64 ((eG l).getD i 0)]) (by simpa[Value.cells] using hu)
     simpa using this
    rw[this];rfl
   ·rw[dJ i64 (eG l) i .any (by rw[hlen];exact hi'),VR];rfl)
 have hρe:eo c.ρ b (some (blk,o,z))=c.ρ:=by
  funext x
  by_cases hx:x=b
  ·subst hx;simp[hρ]
  ·exact eE _ _ hx
 have hUe:(fun x=>c.U x\/x=b)=c.U:=by
  funext x
  exact propext ⟨fun h=>h.elim id fun e=>e▸hUb, .inl⟩
 rw[hρe,hUe] at hput
 refine⟨rfl,hput.1,hput.2,hss,fun i hi hno=>hne i hi fun e=> ?_⟩
 subst e
 exact hno _ _ hρ
end Go.Proofs.YtjopoheligmmoaaGreatDoor
namespace Go.cp
open Go.RowKit
set_option linter.unusedSimpArgs false
set_option linter.unusedVariables false
theorem F4 {P:Program} {c:Code} {Q:Exit->Act->World->Prop} {a:Act} {w:World} (I:Nat->Act->World->Prop) {m0:Nat} (h0:I m0 a w)
 (round:∀m a w,I m a w->c.wp P (Exit.then (fun a' w'=>∃m',m'<m/\I m' a' w') Q) a w):(Code.loop c).wp P Q a w:=by
 intro b k cs
 have key:∀m a w,I m a w->∃e a' w',Q e a' w'/\Arrives P (lone (b.at a (.code c:: .inLoop c::k)) cs w) b k cs e a' w':=by
  intro m
  induction m using Nat.strongRecOn with
  |_ m ih=>
   intro a w hI
   obtain⟨e,a1,w1,hq,harr⟩:=round m a w hI b (.inLoop c::k) cs
   cases e with
   |normal=>
    obtain⟨m',hlt,hI1⟩:=hq
    obtain⟨e2,a2,w2,hq2,harr2⟩:=ih m' hlt a1 w1 hI1
    exact⟨e2,a2,w2,hq2, .of_steps (Steps.trans harr (.one step_inLoop)) harr2⟩
   |exit id=>exact⟨_,a1,w1,hq, .pass (x:= .inLoop c) rfl (fun _ _=> .inl (by simp)) harr⟩
   |goto l=>exact⟨_,a1,w1,hq, .pass (x:= .inLoop c) rfl (fun _ _=> .inl (by simp)) harr⟩
   |ret=>exact⟨_,a1,w1,hq, .pass (x:= .inLoop c) rfl (fun _ _=> .inl (by simp)) harr⟩
   |panic ch=>exact⟨_,a1,w1,hq, .pass (x:= .inLoop c) rfl (fun _ _=> .inl (by simp)) harr⟩
   |outgrown=>exact⟨_,a1,w1,hq, .pass (x:= .inLoop c) rfl (fun _ _=> .inl (by simp)) harr⟩
 obtain⟨e,a',w',hq,harr⟩:=key m0 a w h0
 exact⟨e,a',w',hq, .of_steps (.one step_loop) harr⟩
def L8 (a:Act):List (Nat×Value)->Act
 |[]=>a
 |(d,v)::r=>L8 (a.put (some d) v) r
theorem sa {t:Nat}:∀(l:List (Nat×Value)) (a:Act),(∀p∈l,t≠p.1)->(L8 a l).tmps.getD t undef=a.tmps.getD t undef
 |[],a,_=>rfl
 |(d,v)::r,a,h=>by
  rw[L8,sa r _ fun p hp=>h p (List.mem_cons_of_mem _ hp)]
  exact qE (h (d,v) (by simp))
theorem du {a:Act} {d:Nat} {v:Value} (h:d<a.tmps.size):(a.put (some d) v).eval (.tmp d)=v:=JJ h
theorem dL {a:Act} {d t:Nat} {v:Value} (h:t≠d):(a.put (some d) v).eval (.tmp t)=a.eval (.tmp t):=qE h
theorem wU {P:Program} {a:Act} {w:World} {o:Oper} {t kt e:TypeId} {x k:Operand} {d:TypeDesc} {str:Bool} {rr clk:Nat} {ms:Array MapEntry} {kv v:Value} {j:Nat} (ho:o.op= .lookup t x k false) (ht:P.underlying t=some (.map kt e)) (hu:P.underlying kt=some d) (hd:xd d=some str) (hok:j4 str kv=true)
 (hx:a.eval x= .map (some rr)) (hkk:a.eval k=kv) (hheap:w.heap[rr]?=some (.map ms clk)) (hf:Instr.findNow d kv ms.toList 0=some (some (j,v))):(execOp a.eval o).run P w= .ok (.value v) w:=by
 have hck:∀n,(Instr.checkKey ms.isEmpty (n+1) kt kv).run P w= .ok () w:=fun n=>oW hu hd hok _ n w
 have hget:=MapKept.run_getObj_map (P:=P) hheap
 have hfk:=kW (P:=P) hu hf w
 unfold execOp
 simp only[ho,Instr.lookup,Sem.run_bind,run_underlying ht,Result.andThen_ok,hx,hkk,hget,Sem.run_pure,hck,hfk]
 simp only[Sem.run_bind,Sem.run_pure,Result.andThen_ok,Bool.false_eq_true,if_false]
end Go.cp
namespace Go.Proofs.YtjopoheligmmoaaGreatDoor
open Go Go.cp Go.Proofs Go.RowKit
set_option linter.unusedSimpArgs false
set_option linter.unusedVariables false
def Code.l:Code->Code
 | .seq a _=>a
 |c=>c
def Code.r:Code->Code
 | .seq _ b=>b
 |c=>c
def OC {P:Program} {f:Nat} {fn:Func} (_:P.funcs[f]?=some fn):Option Code:=fn.body
noncomputable def iU:Code:=(OC Tryz.func15).getD .skip
noncomputable def TG:Code:=Code.l (Code.r (Code.r (Code.r (Code.r (Code.r iU)))))
def eV (L:List (Int×Nat)) (S:Int->List Int):List AV:=L.map fun p=>mz (.int .i64 p.1) (.sl p.2 (S p.1).length)
structure yh (L:List (Int×Nat)) (S:Int->List Int) (mb nx lo n:Nat) (fr:Fr) (H:Hp) (w0:World) (M0:Nat->Prop) (c0:Cx) (V:List Int) (H':Hp) (ρ:Nat->Option (Nat×Nat×Nat)) (U:Nat->Prop) (seen:Array Nat) (r:Nat) (ms:Array MapEntry) (clk it:Nat) (a:Act) (w:World):Prop where
 size:a.tmps.size=n
 defers:a.defers=[]
 rows:∀p∈L,∃d,bw H' p.2=some (.row 3 1 d ((if p.1∈V then eG (S p.1) else S p.1).map i64))
 rest:∀b,b∉L.map (·.2)->bw H' b=bw H b
 names:∀b,U b->b<nx
 PI:dY w0 ⟨ρ,bw H',U,w,M0⟩
 fr:FR ⟨ρ,bw H',U,w,M0⟩ fr a.tmps
 J3:l5 c0 lo ⟨ρ,bw H',U,w,M0⟩
 at_:ρ mb=some (r,0,0)
 map:w.heap[r]?=some (.map ms clk)
 born:lW ms clk
 ents:gF ⟨ρ,bw H',U,w,M0⟩ (eV L S) ms.toList
 iter:w.heap[it]?=some (.mapIter (some r) clk seen clk)
 WU:a.eval (.tmp 50)= .pointer (some ⟨it,0,none⟩)
 low:w0.heap.size<=it
 O6:c0.w.heap.size<=it
section
structure wW (c:Code):Prop where
 ok:∃i1 i2 i3 i4 o1 o2 o3 o4 o5 o6 o7 o8 o9 o10 o11,c= .seq (.region i1 #[o1,o2] false) (.block 2 (.loop (.seq (.region i2 #[o3,o4] false) (.seq (.cond (.tmp 52) .skip (.exit 2)) (.block 3 (.seq (.region i3 #[o5,o6,o7] false) (.region i4 #[o8,o9,o10,o11] false)))))))/\
  (o1.op= .move (.tmp 7)/\o1.dst=some 49/\o1.guard=none)/\(o2.op= .range 76 (.tmp 49)/\o2.dst=some 50/\o2.guard=none)/\
  (o3.op= .next (.tmp 50) false/\o3.dst=some 51/\o3.guard=none)/\(o4.op= .extract (.tmp 51) 0/\o4.dst=some 52/\o4.guard=none)/\
  (o5.op= .entry (.tmp 50)/\o5.dst=some 53/\o5.guard=none)/\(o6.op= .extract (.tmp 53) 0/\o6.dst=some 54/\o6.guard=none)/\(o7.op= .assign (.tmp 54)/\o7.dst=some 10/\o7.guard=none)/\
  (o8.op= .move (.tmp 7)/\o8.dst=some 55/\o8.guard=none)/\(o9.op= .move (.tmp 10)/\o9.dst=some 56/\o9.guard=none)/\(o10.op= .lookup 76 (.tmp 55) (.tmp 56) false/\o10.dst=some 57/\o10.guard=none)/\
  (o11.op= .call { callee:= .value (.func 40),args:=#[.tmp 57],argTypes:=#[31] }/\o11.dst=some 58/\o11.guard=none)
set_option maxRecDepth 100000 in
theorem FE:wW TG:=⟨⟨_,_,_,_,_,_,_,_,_,_,_,_,_,_,_,rfl,⟨rfl,rfl,rfl⟩,⟨rfl,rfl,rfl⟩,⟨rfl,rfl,rfl⟩,⟨rfl,rfl,rfl⟩,⟨rfl,rfl,rfl⟩,⟨rfl,rfl,rfl⟩,⟨rfl,rfl,rfl⟩,⟨rfl,rfl,rfl⟩,⟨rfl,rfl,rfl⟩,⟨rfl,rfl,rfl⟩,⟨rfl,rfl,rfl⟩⟩⟩
theorem u9 (L:List (Int×Nat)) (S:Int->List Int):(eV L S).length=L.length:=by simp[eV]
theorem ni {S:Int->List Int}:∀(L:List (Int×Nat)) (i:Nat) (p:Int×Nat),p∈L->(L.map (·.1)).Nodup->∃j,eZ false (.int .i64 p.1) (eV L S) i=some (some (j, .sl p.2 (S p.1).length))
 |[],_,p,h,_=>by cases h
 |q::r,i,p,h,hn=>by
  rw[List.map_cons,List.nodup_cons] at hn
  show ∃j,eZ false (.int .i64 p.1) (mz (.int .i64 q.1) (.sl q.2 (S q.1).length)::eV r S) i=_
  rcases List.mem_cons.1 h with rfl|h
  ·exact⟨i,by simp[eZ,rl,mz,zk]⟩
  ·have hne:p.1≠q.1:=fun e=>hn.1 (by rw[<-e];exact List.mem_map.2 ⟨p,h,rfl⟩)
   obtain⟨j,hj⟩:=ni r (i+1) p h hn.2
   exact⟨j,by simp[eZ,rl,mz,zk,hne];exact hj⟩
theorem I0 {c:Cx} {L:List (Int×Nat)} {S:Int->List Int} {ms:List MapEntry} (h:gF c (eV L S) ms) {e:MapEntry} (he:e∈ms):∃p∈L,e.key= .int .i64 p.1/\VR c (.sl p.2 (S p.1).length) e.val:=by
 rw[kA] at h
 obtain⟨i,hi,rfl⟩:=List.getElem_of_mem he
 have hl:i<L.length:=by rw[<-u9 L S,h.1];exact hi
 have:=h.2 i (mz (.int .i64 L[i].1) (.sl L[i].2 (S L[i].1).length)) ms[i] (by simp[eV,hl]) (by simp[hi])
 obtain⟨h1,h2⟩:=rn.1 this
 exact⟨L[i],List.getElem_mem hl,h1,h2⟩
theorem IZ {c:Cx} {L:List (Int×Nat)} {S:Int->List Int} {ms:List MapEntry} (h:gF c (eV L S) ms) {p:Int×Nat} (hp:p∈L):∃e∈ms,e.key= .int .i64 p.1:=by
 rw[kA] at h
 obtain⟨i,hi,rfl⟩:=List.getElem_of_mem hp
 have hl:i<ms.length:=by rw[<-h.1,u9];exact hi
 have:=h.2 i (mz (.int .i64 L[i].1) (.sl L[i].2 (S L[i].1).length)) ms[i] (by simp[eV,hi]) (by simp[hl])
 obtain⟨h1,_⟩:=rn.1 this
 exact⟨ms[i],List.getElem_mem hl,h1⟩
section
variable {L:List (Int×Nat)} {S:Int->List Int} {mb nx lo n:Nat} {fr:Fr} {H:Hp} {w0:World} {M0:Nat->Prop} {c0:Cx} {V:List Int} {H':Hp} {ρ:Nat->Option (Nat×Nat×Nat)} {U:Nat->Prop} {seen:Array Nat} {r:Nat} {ms:Array MapEntry} {clk it:Nat} {a:Act} {w:World}
def tR:List Nat:=[10,49,50,51,52,53,54,55,56,57,58]
theorem oO {c:Cx} (hfree:∀t∈tR,cc fr t= .any) (h:FR c fr a.tmps) (l:List (Nat×Value)) (hl:∀p∈l,p.1∈tR):FR c fr (L8 a l).tmps:=
 h.VX fun t ht=>sa l a fun p hp e=>ht (hfree t (e▸hl p hp))
theorem yh.sorted (hI:yh L S mb nx lo n fr H w0 M0 c0 V H' ρ U seen r ms clk it a w) (hfree:∀t∈tR,cc fr t= .any) (hb:(L.map (·.2)).Nodup) (hk:(L.map (·.1)).Nodup) (hmb:mb∉L.map (·.2)) (hmap:∃d,bw H mb=some (.row 3 0 d (mapA (eV L S)))) (hS:∀p∈L,S p.1≠[]/\(S p.1).length<4611686018427387904) {p:Int×Nat} (hp:p∈L) {v:Value}
 (hv:VR ⟨ρ,bw H',U,w,M0⟩ (.sl p.2 (S p.1).length) v) {a2:Act} (hsz:a2.tmps.size=n) (hdf:a2.defers=[]) (hfr:FR ⟨ρ,bw H',U,w,M0⟩ fr a2.tmps) (hreg:a2.eval (.tmp 50)= .pointer (some ⟨it,0,none⟩)):
 Calls Tryz.prog 40 #[v] w fun en w'=>en= .returned (.tuple #[])/\∀u,∃H2,yh L S mb nx lo n fr H w0 M0 c0 (p.1::V) H2 ρ U seen r ms clk it (a2.put (some 58) u) w':=by
 obtain⟨d,hrow⟩:=hI.rows p hp
 obtain⟨s0,s1⟩:=hS p hp
 have hlen:(if p.1∈V then Go.Proofs.YtjopoheligmmoaaGreatDoor.eG (S p.1) else S p.1).length=(S p.1).length:=by split<;>simp[kX]
 have hsort:Go.Proofs.YtjopoheligmmoaaGreatDoor.eG (if p.1∈V then Go.Proofs.YtjopoheligmmoaaGreatDoor.eG (S p.1) else S p.1)=Go.Proofs.YtjopoheligmmoaaGreatDoor.eG (S p.1):=by
  split
  ·exact List.mergeSort_of_pairwise (by
    have:=List.pairwise_mergeSort (le:=fun x y:Int=>decide (x<=y)) (fun a b c h1 h2=>by simp at *;omega) (fun a b=>by simp;omega) (S p.1)
    simpa[Go.Proofs.YtjopoheligmmoaaGreatDoor.eG] using this)
  ·rfl
 refine(A9 (l:=if p.1∈V then Go.Proofs.YtjopoheligmmoaaGreatDoor.eG (S p.1) else S p.1) hI.PI hrow (fun e=>by
  have:=congrArg List.length e
  rw[hlen] at this
  exact s0 (List.eq_nil_of_length_eq_zero this)) (by rw[hlen];exact s1) (by rw[hlen];exact hv)).mono ?_
 rintro en w' ⟨rfl,g1,g2,g3,g4⟩
 rw[hsort] at g1 g2
 refine⟨rfl,fun u=>⟨(p.2,some (.row 3 1 d ((Go.Proofs.YtjopoheligmmoaaGreatDoor.eG (S p.1)).map i64)))::H', ?_⟩⟩
 have hHe:bw ((p.2,some (.row 3 1 d ((Go.Proofs.YtjopoheligmmoaaGreatDoor.eG (S p.1)).map i64)))::H')=eo (bw H') p.2 (some (.row 3 1 d ((Go.Proofs.YtjopoheligmmoaaGreatDoor.eG (S p.1)).map i64))):=dV H' p.2 (.row 3 1 d ((Go.Proofs.YtjopoheligmmoaaGreatDoor.eG (S p.1)).map i64))
 have hl2:∀q∈L,q.2=p.2->q=p:=fun q hq e=>by
  obtain⟨i,hi,rfl⟩:=List.getElem_of_mem hq
  obtain⟨j,hj,rfl⟩:=List.getElem_of_mem hp
  have:=(List.getElem_inj (xs:=L.map (·.2)) (h₀:=by simpa using hi) (h₁:=by simpa using hj) hb).1 (by simpa using e)
  subst this;rfl
 have hl1:∀q∈L,q.1=p.1->q=p:=fun q hq e=>by
  obtain⟨i,hi,rfl⟩:=List.getElem_of_mem hq
  obtain⟨j,hj,rfl⟩:=List.getElem_of_mem hp
  have:=(List.getElem_inj (xs:=L.map (·.1)) (h₀:=by simpa using hi) (h₁:=by simpa using hj) hk).1 (by simpa using e)
  subst this;rfl
 have hpm:p.2∈L.map (·.2):=List.mem_map.2 ⟨p,hp,rfl⟩
 obtain⟨p1,p2⟩:=cy a2 (some 58) u
 have hmrow:bw H' mb=bw H mb:=hI.rest mb hmb
 obtain⟨dm,hmap⟩:=hmap
 have hrne:∀o z,ρ p.2≠some (r,o,z):=fun o z e=>hmb (by
  have:=hI.PI.inj mb p.2 _ _ r 0 0 o z (hmrow.trans hmap) hrow hI.at_ e
  rw[this];exact hpm)
 have hine:∀o z,ρ p.2≠some (it,o,z):=fun o z e=>by
  obtain⟨_,_,hor⟩:=hI.PI.jU p.2 _ _ _ _ hrow (.inr (by omega))
  rcases hor with⟨h0,_⟩|⟨blk,o',z',h0,_,⟨arr,h1,_⟩,_⟩
  ·simp only at h0;rw[e] at h0;cases h0
  ·simp only at h0 h1;rw[e] at h0;cases h0;rw[hI.iter] at h1;cases h1
 refine⟨p1.trans hsz,p2.trans hdf,fun q hq=> ?_,fun b hbn=> ?_,hI.names,by rw[hHe];exact g1, ?_,by rw[hHe];exact hI.J3.to g2,hI.at_,(g4 r (Array.getElem?_eq_some_iff.1 hI.map).1 hrne).trans hI.map,hI.born, ?_,(g4 it (Array.getElem?_eq_some_iff.1 hI.iter).1 hine).trans hI.iter,(dL (by decide)).trans hreg,hI.low,hI.O6⟩
 ·by_cases e:q.2=p.2
  ·have:=hl2 q hq e
   subst this
   exact⟨d,by simp[bw]⟩
  ·obtain⟨dq,hq2⟩:=hI.rows q hq
   refine⟨dq, ?_⟩
   simp only[bw,if_neg e]
   rw[hq2]
   have hne:q.1≠p.1:=fun e1=>e (by rw[hl1 q hq e1])
   simp[List.mem_cons,hne]
 ·have:b≠p.2:=fun e=>hbn (e▸hpm)
  simp only[bw,if_neg this]
  exact hI.rest b hbn
 ·rw[hHe]
  intro t
  have:=VR.cT g2 (hfr t)
  by_cases e:t=58
  ·rw[e,hfree 58 (by decide),VR];trivial
  ·rw[qE e];exact this
 ·rw[hHe]
  exact cg.cT g2 hI.ents
end
end
end Go.Proofs.YtjopoheligmmoaaGreatDoor
