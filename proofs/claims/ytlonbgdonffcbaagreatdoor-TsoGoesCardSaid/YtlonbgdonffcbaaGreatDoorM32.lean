import Derived.Test.YtlonbgdonffcbaaGreatDoorM25
import Derived.Test.YtlonbgdonffcbaaGreatDoorM20
import Derived.Test.YtlonbgdonffcbaaGreatDoorM28
import Derived.Test.YtlonbgdonffcbaaGreatDoorM31
import Derived.Test.YtlonbgdonffcbaaGreatDoorM26
section
/- Lists told by value: small words for the ends' texts. -/
namespace Go.Proofs.YtlonbgdonffcbaaGreatDoor
open Go Go.cY Go.Proofs
set_option linter.unusedSimpArgs false
set_option linter.unusedVariables false
abbrev jZ (l:List Int):AV:= .im 1 .any (l.map i64)
abbrev eA (l:List cH):AV:= .im 2 .any (l.map cH.av)
abbrev gM (l:List cC):AV:= .im 2 .any (l.map cC.av)
theorem ints_at {l:List Int} {k:Nat} (h:k<l.length) (d:AV):(l.map i64).getD ((k:Int)).toNat d=i64 (l.getD k 0):=by
 rw[Int.toNat_natCast];exact dR i64 l k d h
theorem lr {a b:Bool} (h:a=b):AV.sc (.bool a)=bl b:=by rw[h]
theorem gk {α:Type} {l:List α} {j:Nat} (d:α) (h:j<l.length):l.getD j d∈l:=by
 rw[show l.getD j d=l[j] by simp[List.getD,h]];exact List.getElem_mem h
theorem getD_set_ne {α:Type} {l:List α} {i j:Nat} {v d:α} (h:i≠j):(l.set i v).getD j d=l.getD j d:=by simp[List.getD,List.getElem?_set_ne h]
end Go.Proofs.YtlonbgdonffcbaaGreatDoor
end
section
/- A fork of a machine. -/
namespace Go.Proofs.YtlonbgdonffcbaaGreatDoor
open Go Go.cY Go.Proofs
set_option linter.unusedSimpArgs false
set_option linter.unusedVariables false
theorem qO {es:List AV} (hsz:es.length * 168≤140737488355328):bz Tryz.prog 91 [.im 19 .any es] [] 0 (gT [] 0 93 19 es):=by
 refine gT.of (by omega) ?_
 refine aO GZ rfl ?_
 cases hes:es with
 |nil=>
  repeat' (first|((with_reducible refine aF ?_);conv=>whnf)|refine aG ?_|exact aC|with_reducible refine aD ?_ ?_|(apply aA;(·exact cF))|refine aH ?_|((with_reducible refine aB ?_ ?_)<;>intro hc<;>(try simp only[List.length_map,ne_eq,dW] at hc)<;>try(exfalso;omega)))
  ·exact⟨.inl ⟨rfl,rfl,cO,dH⟩⟩
  ·exact⟨.inr ⟨_,_,rfl,cO,cO,cO,bo,dH⟩⟩
 |cons x t=>
  rw[hes] at hsz
  simp only[List.length_cons] at hsz
  repeat' (first|((with_reducible refine aF ?_);conv=>whnf)|refine aG ?_|exact aC|with_reducible refine aD ?_ ?_|(apply aA;(·exact cF))|refine aH ?_|((with_reducible refine aB ?_ ?_)<;>intro hc<;>(try simp only[List.length_map,ne_eq,dW] at hc)<;>try(exfalso;omega)))
  ·exact⟨.inr ⟨3,_,(by simp),cO,cO,cO,bo,dH⟩⟩
theorem qP {es:List AV} (hsz:es.length * 168≤140737488355328):bz Tryz.prog 91 [.im 19 .any es] [] 0 (fun r1 H1 _=>∃b d0,r1= .sl b es.length∧bf H1 b=some (.row 93 19 d0 es)):=
 (qO hsz).mono fun r H n ⟨b,d,h1,_,_,_,h2,_⟩=>⟨b,d,h1,h2⟩
def N1 (A B:Lay):Prop:=∀b∈A.ids,b∉B.ids
theorem N1.symm {A B:Lay} (h:N1 A B):N1 B A:=fun b hb hm=>h b hm hb
theorem N1.QO {A A' B:Lay} {n:Nat} (h:N1 A B) (hm:∀b,b∈A'.ids→b∈A.ids∨n≤b) (hl:∀b∈B.ids,b<n):N1 A' B:=fun b hb hB=>(hm b hb).elim (fun h1=>h b h1 hB) (fun h1=>by have:=hl b hB;omega)
abbrev mixed (s:bk) (B:List Nat):List AV:=List.zipWith bx.av s.bg B
structure ln (L:Lay) (s:bk) (H:Hp) (B:List Nat) (i lo n:Nat):Prop where
 len:B.length=s.bg.length
 j1:∀j,i≤j→j<s.bg.length→B.getD j 0=L.c9.getD j 0
 new:∀j,j<i→j<s.bg.length→lo≤B.getD j 0∧B.getD j 0<n∧∃d,bf H (B.getD j 0)=some (.row 125 3 d ((s.core j).buf.map cx.av))
 apart:∀j k,j<k→k<i→k<s.bg.length→B.getD j 0≠B.getD k 0
theorem ln.next {L:Lay} {s:bk} {H H':Hp} {B:List Nat} {i lo n n' b:Nat} (h:ln L s H B i lo n) (hi:i<s.bg.length) (hb:n≤b∧b<n') (hlo:lo≤n) (hr:∃d,bf H' b=some (.row 125 3 d ((s.core i).buf.map cx.av))) (hf:∀x,lo≤x→x<n→bf H' x=bf H x):ln L s H' (B.set i b) (i+1) lo n':=by
 have hib:i<B.length:=by rw[h.len];exact hi
 have same:(B.set i b).getD i 0=b:=by simp[List.getD,hib]
 have ne:∀j,j≠i→(B.set i b).getD j 0=B.getD j 0:=fun j hj=>by simp[List.getD,List.getElem?_set_ne (Ne.symm hj)]
 refine⟨by rw[List.length_set];exact h.len,fun j h1 h2=>by rw[ne j (by omega)];exact h.j1 j (by omega) h2,fun j h1 h2=> ?_,fun j k h1 h2 h3=> ?_⟩
 ·by_cases hj:j=i
  ·subst hj;rw[same];exact⟨by omega,by omega,hr⟩
  ·obtain⟨g1,g2,d,g3⟩:=h.new j (by omega) h2
   rw[ne j hj]
   exact⟨g1,by omega,d,(hf _ g1 g2).trans g3⟩
 ·by_cases hk:k=i
  ·subst hk
   rw[same,ne j (by omega)]
   have:=(h.new j (by omega) (by omega)).2.1
   omega
  ·rw[ne k hk,ne j (by omega)]
   exact h.apart j k h1 (by omega) h3
theorem ln.cP {L:Lay} {s:bk} {H H':Hp} {B:List Nat} {i lo n n':Nat} (h:ln L s H B i lo n) (hn:n≤n') (hf:∀x,lo≤x→x<n→bf H' x=bf H x):ln L s H' B i lo n':=
 ⟨h.len,h.j1,fun j h1 h2=>by obtain⟨g1,g2,d,g3⟩:=h.new j h1 h2;exact⟨g1,by omega,d,(hf _ g1 g2).trans g3⟩,h.apart⟩
theorem ln.mem {L:Lay} {s:bk} {H:Hp} {B:List Nat} {i lo n:Nat} (h:ln L s H B i lo n) (hi:s.bg.length≤i) {b:Nat} (hb:b∈B):lo≤b∧b<n:=by
 obtain⟨j,hj,rfl⟩:=List.mem_iff_getElem.1 hb
 have hj2:j<s.bg.length:=by rw[←h.len];exact hj
 obtain⟨g1,g2,_⟩:=h.new j (by omega) hj2
 have e:B.getD j 0=B[j]:=by simp[List.getD,hj]
 rw[e] at g1 g2
 exact⟨g1,g2⟩
theorem ln.nodup {L:Lay} {s:bk} {H:Hp} {B:List Nat} {i lo n:Nat} (h:ln L s H B i lo n) (hi:s.bg.length≤i):B.Nodup:=by
 refine List.pairwise_iff_getElem.2 fun j k hj hk hjk=> ?_
 have hk2:k<s.bg.length:=by rw[←h.len];exact hk
 have:=h.apart j k hjk (by omega) hk2
 simpa[List.getD,hj,hk] using this
def LU (o:Obj) (s:bk) (H:Hp) (nx:Nat):AV→Hp→Nat→Prop:=fun r H' n=>∃L,r= .pt L.m 1 0 0∧fS o s L H' n∧(∀b∈L.ids,nx≤b)∧nx≤n∧∀b,b<nx→bf H' b=bf H b
end Go.Proofs.YtlonbgdonffcbaaGreatDoor
end
section
/- A fork of a machine that is told by value. -/
namespace Go.Proofs.YtlonbgdonffcbaaGreatDoor
open Go Go.cY Go.Proofs
set_option linter.unusedSimpArgs false
set_option linter.unusedVariables false
set_option maxRecDepth 8000
def nP (s:bk) (B:List Nat):List AV:=List.zipWith bx.av s.bg B++(s.bg.drop B.length).map bx.frozen
theorem G7 {s:bk} {B:List Nat} (h:B.length≤s.bg.length):(nP s B).length=s.bg.length:=by simp[nP];omega
theorem nj {s:bk} {B:List Nat} (h:B.length≤s.bg.length):(List.zipWith bx.av s.bg B).length=B.length:=by simp;omega
theorem uy {s:bk} {i:Nat} (h:i<s.bg.length):s.core i=s.bg[i]:=by simp[bk.core,List.getD,h]
theorem tD {s:bk} {B:List Nat} (h:B.length<s.bg.length):nP s B=List.zipWith bx.av s.bg B++(s.core B.length).frozen::(s.bg.drop (B.length+1)).map bx.frozen:=by
 unfold nP
 rw[List.drop_eq_getElem_cons h,uy h];rfl
theorem JZ {s:bk} {B:List Nat} (h:B.length<s.bg.length) (d:AV):(nP s B).getD B.length d=(s.core B.length).frozen:=by
 rw[tD h,List.getD,List.getElem?_append_right (by rw[nj (by omega)];exact Nat.le_refl _),nj (by omega),Nat.sub_self];rfl
theorem xC {f:bx→Nat→AV}:∀{l:List bx} {B:List Nat} {b:Nat} (h:B.length<l.length),List.zipWith f l (B++[b])=List.zipWith f l B++[f (l.getD B.length default) b]
 |[],B,b,h=>by simp at h
 |c::l,[],b,h=>by simp
 |c::l,x::B,b,h=>by
  rw[List.cons_append,List.zipWith_cons_cons,List.zipWith_cons_cons,xC (by simpa using h)];rfl
theorem G8 {s:bk} {B:List Nat} (h:B.length<s.bg.length) (b:Nat):(nP s B).set B.length ((s.core B.length).av b)=nP s (B++[b]):=by
 rw[tD h,List.set_append_right _ _ (by rw[nj (by omega)];exact Nat.le_refl _),nj (by omega),Nat.sub_self,List.set_cons_zero]
 unfold nP
 rw[xC h,List.length_append,List.append_assoc];rfl
theorem G6 {s:bk} {B:List Nat} (h:B.length=s.bg.length):nP s B=List.zipWith bx.av s.bg B:=by
 unfold nP
 rw[h,List.drop_length];simp
theorem oh (l:List bx):cJ 0 (l.map bx.frozen):=(cI _ _).2 fun _ _=>by simp[cB]
set_option maxHeartbeats 4000000 in
theorem q6 {o:Obj} {s:bk} (hlk:eH s) (H:Hp) (nx:Nat):bz Tryz.prog 63 [s.frozen o] H nx (LU o s H nx):=by
 have hc8:=hlk.bg
 have hm4:=hlk.mem
 have hp4:=hlk.bh
 simp only[bk.frozen]
 refine aO GA rfl ?_
 refine ca ?_
 refine aY .any (qP (es:=s.bg.map bx.frozen) (by simp;omega)) (oh _) (by simp only[cJ,cB];exact⟨oh _,trivial⟩) ?_
 refine ca ?_
 refine aY .any (gC (es:=s.mem.map i64) (by simp;omega)) ((cI _ _).2 fun _ _=>by simp[cB]) (by simp[cJ,cB,cI]) ?_
 refine ca ?_
 refine aY .any (kS (es:=s.bh.map cH.av) (by simp;omega)) ((cI _ _).2 fun _ _=>by simp[cB,cJ]) (by simp[cJ,cB,cI]) ?_
 refine ca ?_
 simp only[List.length_map]
 have h0:nP s []=s.bg.map bx.frozen:=by simp[nP]
 refine aQ (fun σ:Nat×List Nat=>[(3, .pt (nx+23) 1 0 0),(32,i64 s.bg.length),(33,i64 σ.1)])
  (fun σ H2 n=>σ.1≤s.bg.length∧nx+24≤n∧σ.2.length=σ.1∧σ.2.Nodup∧(∀x∈σ.2,nx+24≤x∧x<n)∧(∃d,bf H2 (nx+23)=some (.row 77 8 d [.agg [.sc (.slice none 0 0),i64 o.shared,i64 o.iG,i64 o.buffer, .im 2 .any (o.bg.map Core.av), .sl (nx+11) s.bg.length, .sl (nx+16) s.mem.length, .sl (nx+21) s.bh.length]]))∧
   (∃d,bf H2 (nx+11)=some (.row 93 19 d (nP s σ.2)))∧(∃d,bf H2 (nx+16)=some (.row 2 1 d (s.mem.map i64)))∧(∃d,bf H2 (nx+21)=some (.row 68 2 d (s.bh.map cH.av)))∧
   (∀q,q<σ.1→∃d,bf H2 (σ.2.getD q 0)=some (.row 125 3 d ((s.core q).buf.map cx.av)))∧∀y,y<nx→bf H2 y=bf H y) (fun σ=>s.bg.length - σ.1) (0,[])
  ⟨_,_,_,Rt.refl _ _ _,cG,Nat.zero_le _,cO,rfl,List.nodup_nil,fun x hx=>(by cases hx),⟨_,bo⟩,⟨_,by dsimp only;rw[h0];exact bo⟩,⟨_,bo⟩,⟨_,bo⟩,fun q hq=>absurd hq (Nat.not_lt_zero _),fun y hy=>cA⟩ ?_
 rintro⟨i,B⟩ H2 n ⟨hi,hn,hBl,hnd,hin,⟨d1,r1'⟩,⟨d2,r2'⟩,⟨d3,r3'⟩,⟨d4,r4⟩,hbs,hk⟩
 dsimp only at hi hBl hnd hin r2' hbs ⊢
 have hml:=G7 (s:=s) (B:=B) (by omega)
 by_cases hil:i<s.bg.length
 ·have e0:∀d,(nP s B).getD ((i:Int)).toNat d=(s.core i).frozen:=fun d=>by rw[Int.toNat_natCast,←hBl];exact JZ (by omega) d
  have hbuf:=hlk.buf i hil
  refine ca ?_
  refine aY .any (kT (es:=(s.core i).buf.map cx.av) (by rw[List.length_map];omega)) ((cI _ _).2 fun _ _=>by simp[cB,cJ]) (by simp[cJ,cB,cI]) ?_
  refine ca ?_
  simp only[List.length_map]
  have hset:=G8 (s:=s) (B:=B) (by omega) (n+16)
  rw[hBl] at hset
  refine⟨(i+1,B++[n+16]),by dsimp only;omega,_,_,_,Rt.refl _ _ _,cG,by dsimp only;omega,cO,by simp[hBl], ?_, ?_,⟨_,bo⟩,⟨_,by dsimp only;rw[←hset];exact bo⟩,⟨_,bo⟩,⟨_,bo⟩, ?_,fun y hy=>Eq.trans cA (hk y hy)⟩
  ·refine List.nodup_append.2 ⟨hnd,by simp,fun a ha b hb=> ?_⟩
   simp only[List.mem_cons,List.not_mem_nil,or_false] at hb
   have:=hin _ ha;omega
  ·intro x hx
   rcases List.mem_append.1 hx with hx|hx
   ·have:=hin _ hx;exact⟨this.1,Nat.lt_of_lt_of_le this.2 cO⟩
   ·simp only[List.mem_cons,List.not_mem_nil,or_false] at hx
    subst hx;exact⟨by omega,cO⟩
  ·intro q hq
   have hq:q<i+1:=hq
   by_cases e:q=i
   ·subst e
    have e2:(B++[n+16]).getD q 0=n+16:=by rw[List.getD,List.getElem?_append_right (by omega),hBl,Nat.sub_self];rfl
    dsimp only
    rw[e2];exact⟨_,bo⟩
   ·obtain⟨d,hd⟩:=hbs q (by omega)
    have e2:(B++[n+16]).getD q 0=B.getD q 0:=by simp[List.getD,List.getElem?_append,show q<B.length by omega]
    have:=hin _ (kq (l:=B) (q:=q) (by omega))
    dsimp only
    rw[e2];exact⟨d,Eq.trans cA hd⟩
 ·obtain rfl:i=s.bg.length:=by omega
  rw[G6 hBl] at r2'
  refine ca ?_
  have hno:∀k,k<nx+24→k∉B:=fun k hk h=>by have:=hin _ h;omega
  refine⟨⟨⟨nx+23,nx+11,nx+16,nx+21,B⟩,rfl,⟨⟨_,bo⟩,⟨_,bo⟩,⟨_,bo⟩,⟨_,bo⟩,fun q hq=> ?_,hBl,fun b hb=> ?_, ?_⟩,fun b hb=> ?_,cO,fun y hy=>Eq.trans cA (hk y hy)⟩⟩
  ·obtain⟨d,hd⟩:=hbs q hq
   have:=hin _ (kq (l:=B) (q:=q) (by omega))
   exact⟨d,Eq.trans cA hd⟩
  ·simp only[Lay.ids,List.mem_cons] at hb
   rcases hb with rfl|rfl|rfl|rfl|hb
   ·exact cO
   ·exact cO
   ·exact cO
   ·exact cO
   ·exact Nat.lt_of_lt_of_le (hin _ hb).2 cO
  ·simp only[Lay.ids,List.nodup_cons,List.mem_cons,not_or]
   exact⟨⟨by omega,by omega,by omega,hno _ (by omega)⟩,⟨by omega,by omega,hno _ (by omega)⟩,⟨by omega,hno _ (by omega)⟩,hno _ (by omega),hnd⟩
  ·simp only[Lay.ids,List.mem_cons] at hb
   rcases hb with rfl|rfl|rfl|rfl|hb
   ·show nx≤nx+23;omega
   ·show nx≤nx+11;omega
   ·show nx≤nx+16;omega
   ·show nx≤nx+21;omega
   ·have:=hin _ hb;omega
end Go.Proofs.YtlonbgdonffcbaaGreatDoor
end
section
/- Exploring the machine in plain data. -/
namespace Go.Proofs.YtlonbgdonffcbaaGreatDoor
open Go Go.cY Go.Proofs
set_option linter.unusedSimpArgs false
set_option linter.unusedVariables false
def fU (o:Obj) (s:bk) (x:cC):List cC:=if(cj o s x.kind x.core).2.1.kind=3 then[x,⟨2,x.core⟩] else[x]
def de (p:Bool) (o:Obj) (s:bk):List (List cC):=if p then((dZ o s s.bg.length).filter fun x=>decide (x.kind=1)).map (fU o s) else(dZ o s s.bg.length).map fun x=>[x]
def gA (o:Obj):bk→List cC→bk
 |s,[]=>s
 |s,x::l=>gA o (cj o s x.kind x.core).1 l
structure bw where
 m:bk
 from_:Int
 xE:List cC
 deriving Inhabited
abbrev ed (l:List bw):List (List UInt8):=l.map fun f=>eD f.m
def CT (o:Obj) (most k:Nat) (mv:List cC) (l:List bw):Option (List bw):=
 if eD (gA o (l.getD k default).m mv)∈ed l then some l
 else if most≤l.length then none
 else some (l++[⟨gA o (l.getD k default).m mv,k,mv⟩])
def ru (o:Obj) (most k:Nat):List (List cC)→List bw→Option (List bw)
 |[],l=>some l
 |mv::ms,l=>match CT o most k mv l with
  |none=>none
  |some l'=>ru o most k ms l'
def rZ (p:Bool) (o:Obj) (most:Nat):Nat→Nat→List bw→Option (List bw)
 |0,_,l=>some l
 |n+1,k,l=>if k<l.length then(match ru o most k (de p o (l.getD k default).m) l with
  |none=>none
  |some l'=>rZ p o most n (k+1) l') else some l
def eu (o:Obj):List bw:=[⟨cZ o,-1,[]⟩]
def mF (p:Bool) (o:Obj) (most:Nat):Option (List bw):=rZ p o most most 0 (eu o)
theorem tJ {o:Obj} {s:bk} {x:cC} {n:Nat} (h:x∈dZ o s n):∃q:Nat,q<n∧x.core=q∧(x.kind=1∧(s.core q).halted=false∧eE o.buffer (s.core q) (iA o q (s.core q))=false∨x.kind=2∧(s.core q).buf≠[]):=by
 unfold dZ at h
 obtain⟨q,hq,hx⟩:=List.mem_flatMap.1 h
 refine⟨q,List.mem_range.1 hq, ?_⟩
 unfold ez at hx
 rcases List.mem_append.1 hx with hx|hx
 ·split at hx
  ·rename_i h1
   simp only[List.mem_singleton] at hx
   subst hx
   exact⟨rfl, .inl ⟨rfl,h1.1,h1.2⟩⟩
  ·cases hx
 ·split at hx
  ·rename_i h1
   simp only[List.mem_singleton] at hx
   subst hx
   exact⟨rfl, .inr ⟨rfl,fun e=>by rw[e] at h1;simp at h1⟩⟩
  ·cases hx
theorem qy {o:Obj} {s:bk} {q n:Nat} (hq:q<n) (h1:(s.core q).halted=false) (h2:eE o.buffer (s.core q) (iA o q (s.core q))=false):(⟨1,q⟩:cC)∈dZ o s n:=by
 unfold dZ
 refine List.mem_flatMap.2 ⟨q,List.mem_range.2 hq, ?_⟩
 unfold ez
 rw[if_pos ⟨h1,h2⟩]
 simp
theorem yB {o:Obj} {s:bk} {q n:Nat} (hq:q<n) (h1:(s.core q).buf≠[]):(⟨2,q⟩:cC)∈dZ o s n:=by
 unfold dZ
 refine List.mem_flatMap.2 ⟨q,List.mem_range.2 hq, ?_⟩
 unfold ez
 rw[if_pos (c:=0<(s.core q).buf.length) (List.length_pos_iff.2 h1)]
 simp
theorem l7 {p:Bool} {o:Obj} {s:bk} {mv:List cC} (h:mv∈de p o s):∃x∈dZ o s s.bg.length,mv=[x]∨p=true∧x.kind=1∧(cj o s x.kind x.core).2.1.kind=3∧mv=[x,⟨2,x.core⟩]:=by
 unfold de at h
 cases p with
 |false=>
  rw[if_neg (by simp)] at h
  obtain⟨x,hx,rfl⟩:=List.mem_map.1 h
  exact⟨x,hx, .inl rfl⟩
 |true=>
  rw[if_pos rfl] at h
  obtain⟨x,hx,rfl⟩:=List.mem_map.1 h
  rw[List.mem_filter] at hx
  refine⟨x,hx.1, ?_⟩
  unfold fU
  split
  ·rename_i h3;exact .inr ⟨rfl,of_decide_eq_true hx.2,h3,rfl⟩
  ·exact .inl rfl
theorem tE {p:Bool} {o:Obj} {s:bk} {mv:List cC} (h:mv∈de p o s):mv.length≤2:=by
 obtain⟨x,_,rfl|⟨_,_,_,rfl⟩⟩:=l7 h<;>simp
theorem tw (o:Obj) (s:bk) (k:Int):(cj o s 2 k).1.bh=s.bh:=by
 unfold cj
 rw[if_neg (by decide),if_pos rfl]
 unfold dD
 split
 ·rfl
 ·split<;>rfl
theorem A1 {p:Bool} {o:Obj} {s:bk} {mv:List cC} (h:mv∈de p o s):(gA o s mv).bh.length≤s.bh.length+1:=by
 obtain⟨x,_,rfl|⟨_,_,_,rfl⟩⟩:=l7 h
 ·exact lF _ _ _ _
 ·show(cj o (cj o s x.kind x.core).1 2 x.core).1.bh.length≤_
  rw[tw]
  exact lF _ _ _ _
theorem EH {o:Obj} (ok:cz o) (hw:lk o):∀(mv:List cC) {s:bk},pP o s→pP o (gA o s mv)
 |[],s,h=>h
 |x::mv,s,h=>EH ok hw mv (h.step ok hw x.kind x.core)
structure gw (p:Bool) (o:Obj) (l:List bw):Prop where
 pos:0<l.length
 first:l.getD 0 default=⟨cZ o,-1,[]⟩
 ok:∀i,i<l.length→pP o (l.getD i default).m∧(l.getD i default).m.bh.length≤i
 xP:∀i,0<i→i<l.length→∃(k:Nat) (mv:List cC),k<i∧mv∈de p o (l.getD k default).m∧l.getD i default=⟨gA o (l.getD k default).m mv,k,mv⟩
 keys:(ed l).Nodup
theorem iN {α:Type} {l:List α} {x d:α} {i:Nat} (h:i<l.length):(l++[x]).getD i d=l.getD i d:=by simp[List.getD,List.getElem?_append,h]
theorem zu {α:Type} {l:List α} {x d:α}:(l++[x]).getD l.length d=x:=by simp[List.getD]
theorem oY {α:Type} {l l':List α} {d:α} {i:Nat} (h:l<+:l') (hi:i<l.length):l'.getD i d=l.getD i d:=by
 obtain⟨q,rfl⟩:=h
 simp[List.getD,List.getElem?_append,hi]
theorem fu {α:Type} {l:List α} {j:Nat} (d:α) (h:j<l.length):l.getD j d∈l:=by
 rw[show l.getD j d=l[j] by simp[List.getD,h]];exact List.getElem_mem h
theorem gw.init {p:Bool} {o:Obj} (ok:cz o) (hw:lk o):gw p o (eu o) where
 pos:=by simp[eu]
 first:=rfl
 ok:=fun i hi=>by
  have:i=0:=by simp[eu] at hi;omega
  subst this
  exact⟨pP.init ok hw,Nat.le_refl _⟩
 xP:=fun i hi h=>by simp[eu] at h;omega
 keys:=by simp[ed,eu]
theorem gw.add {p:Bool} {o:Obj} {l:List bw} (ok:cz o) (hw:lk o) (h:gw p o l) {k:Nat} {mv:List cC} (hk:k<l.length) (hm:mv∈de p o (l.getD k default).m) (hn:eD (gA o (l.getD k default).m mv)∉ed l):gw p o (l++[⟨gA o (l.getD k default).m mv,k,mv⟩]) where
 pos:=by simp
 first:=by rw[iN h.pos];exact h.first
 ok:=fun i hi=>by
  rw[List.length_append] at hi
  by_cases e:i<l.length
  ·rw[iN e];exact h.ok i e
  ·have:i=l.length:=by simp at hi;omega
   subst this
   rw[zu]
   obtain⟨h1,h2⟩:=h.ok k hk
   refine⟨EH ok hw mv h1, ?_⟩
   have:=A1 hm
   dsimp only
   omega
 xP:=fun i h0 hi=>by
  rw[List.length_append] at hi
  by_cases e:i<l.length
  ·obtain⟨k',t',h1,h2,h3⟩:=h.xP i h0 e
   refine⟨k',t',h1, ?_, ?_⟩
   ·rw[iN (by omega)];exact h2
   ·rw[iN e,iN (by omega)];exact h3
  ·have:i=l.length:=by simp at hi;omega
   subst this
   refine⟨k,mv,hk, ?_, ?_⟩
   ·rw[iN hk];exact hm
   ·rw[zu,iN hk]
 keys:=by
  simp only[ed,List.map_append,List.map_cons,List.map_nil]
  refine List.nodup_append.2 ⟨h.keys,by simp,fun a ha b hb2=> ?_⟩
  simp only[List.mem_cons,List.not_mem_nil,or_false] at hb2
  subst hb2
  intro e
  exact hn (e▸ha)
theorem KS {p:Bool} {o:Obj} {l l':List bw} {most k:Nat} {mv:List cC} (ok:cz o) (hw:lk o) (h:gw p o l) (hl:l.length≤most) (hk:k<l.length) (hm:mv∈de p o (l.getD k default).m) (he:CT o most k mv l=some l'):gw p o l'∧l'.length≤most∧l<+:l'∧eD (gA o (l.getD k default).m mv)∈ed l':=by
 unfold CT at he
 split at he
 ·rename_i h1;cases he;exact⟨h,hl,List.prefix_refl _,h1⟩
 rename_i h2
 split at he
 ·cases he
 ·cases he
  refine⟨h.add ok hw hk hm h2, ?_,List.prefix_append _ _,by simp[ed]⟩
  simp only[List.length_append,List.length_cons,List.length_nil];omega
theorem vc {l l':List bw} (h:l<+:l') {x:List UInt8} (hx:x∈ed l):x∈ed l':=by
 obtain⟨q,rfl⟩:=h
 simp only[ed,List.map_append,List.mem_append]
 exact .inl hx
theorem zq {p:Bool} {o:Obj} {most k:Nat} (ok:cz o) (hw:lk o) (m:bk):∀{ms:List (List cC)} {l l':List bw},gw p o l→l.length≤most→k<l.length→(l.getD k default).m=m→(∀mv∈ms,mv∈de p o m)→ru o most k ms l=some l'→gw p o l'∧l'.length≤most∧l<+:l'∧∀mv∈ms,eD (gA o m mv)∈ed l'
 |[],l,l',h,hl,hk,hm,ht,he=>by cases he;exact⟨h,hl,List.prefix_refl _,by simp⟩
 |mv::ms,l,l',h,hl,hk,hm,ht,he=>by
  rw[ru] at he
  split at he
  ·cases he
  ·rename_i l2 h2
   obtain⟨g1,g2,g3,g4⟩:=KS ok hw h hl hk (by rw[hm];exact ht mv (by simp)) h2
   rw[hm] at g4
   obtain⟨q1,q2,q3,q4⟩:=zq ok hw m g1 g2 (Nat.lt_of_lt_of_le hk g3.length_le) (by rw[oY g3 hk];exact hm) (fun x hx=>ht x (by simp[hx])) he
   refine⟨q1,q2,g3.trans q3,fun x hx=> ?_⟩
   rcases List.mem_cons.1 hx with rfl|hx
   ·exact vc q3 g4
   ·exact q4 x hx
theorem yn {p:Bool} {o:Obj} {most:Nat} (ok:cz o) (hw:lk o):∀{n k:Nat} {l l':List bw},gw p o l→l.length≤most→most≤n+k→(∀i,i<k→i<l.length→∀mv∈de p o (l.getD i default).m,eD (gA o (l.getD i default).m mv)∈ed l)→rZ p o most n k l=some l'→gw p o l'∧l'.length≤most∧l<+:l'∧∀i,i<l'.length→∀mv∈de p o (l'.getD i default).m,eD (gA o (l'.getD i default).m mv)∈ed l'
 |0,k,l,l',h,hl,hn,hc,he=>by cases he;exact⟨h,hl,List.prefix_refl _,fun i hi=>hc i (by omega) hi⟩
 |n+1,k,l,l',h,hl,hn,hc,he=>by
  rw[rZ] at he
  split at he
  ·rename_i hk
   split at he
   ·cases he
   ·rename_i l2 h2
    obtain⟨g1,g2,g3,g4⟩:=zq ok hw _ h hl hk rfl (fun mv hx=>hx) h2
    obtain⟨q1,q2,q3,q4⟩:=yn ok hw g1 g2 (by omega) (fun i hi hi2 mv hmv=>by
     by_cases e:i=k
     ·subst e
      rw[oY g3 hk] at hmv ⊢
      exact g4 mv hmv
     ·have hil:i<l.length:=by omega
      rw[oY g3 hil] at hmv ⊢
      exact vc g3 (hc i (by omega) hil mv hmv)) he
    exact⟨q1,q2,g3.trans q3,q4⟩
  ·cases he;exact⟨h,hl,List.prefix_refl _,fun i hi=>hc i (by omega) hi⟩
theorem IZ {p:Bool} {o:Obj} {most:Nat} {l:List bw} (ok:cz o) (hw:lk o) (hm:1≤most) (h:mF p o most=some l):gw p o l∧l.length≤most∧eu o<+:l∧∀i,i<l.length→∀mv∈de p o (l.getD i default).m,eD (gA o (l.getD i default).m mv)∈ed l:=
 yn ok hw (gw.init ok hw) hm (by omega) (fun i hi=>by omega) h
end Go.Proofs.YtlonbgdonffcbaaGreatDoor
end
