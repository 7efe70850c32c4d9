import Derived.Test.YtlonbgdonffcbaaGreatDoorM25
import Derived.Test.YtlonbgdonffcbaaGreatDoorM20
import Derived.Test.YtlonbgdonffcbaaGreatDoorM28
import Derived.Test.YtlonbgdonffcbaaGreatDoorM31
import Derived.Test.YtlonbgdonffcbaaGreatDoorM26
section
/- Lists told by value: small words for the ends' texts. -/
namespace Go.Proofs.YtlonbgdonffcbaaGreatDoor
open Go Go.cW Go.Proofs
set_option linter.unusedSimpArgs false
set_option linter.unusedVariables false
abbrev jU (l:List Int):AV:= .im 1 .any (l.map i64)
abbrev dy (l:List cF):AV:= .im 2 .any (l.map cF.av)
abbrev nQ (l:List cQ):AV:= .im 2 .any (l.map cQ.av)
theorem ints_at {l:List Int} {k:Nat} (h:k<l.length) (d:AV):(l.map i64).getD ((k:Int)).toNat d=i64 (l.getD k 0):=by
 rw[Int.toNat_natCast];exact dh i64 l k d h
theorem oQ {a b:Bool} (h:a=b):AV.sc (.bool a)=bl b:=by rw[h]
theorem gX {α:Type} {l:List α} {j:Nat} (d:α) (h:j<l.length):l.getD j d∈l:=by
 rw[show l.getD j d=l[j] by simp[List.getD,h]];exact List.getElem_mem h
theorem getD_set_ne {α:Type} {l:List α} {i j:Nat} {v d:α} (h:i≠j):(l.set i v).getD j d=l.getD j d:=by simp[List.getD,List.getElem?_set_ne h]
end Go.Proofs.YtlonbgdonffcbaaGreatDoor
end
section
/- A fork of a machine. -/
namespace Go.Proofs.YtlonbgdonffcbaaGreatDoor
open Go Go.cW Go.Proofs
set_option linter.unusedSimpArgs false
set_option linter.unusedVariables false
theorem pw {es:List AV} (hsz:es.length * 168≤140737488355328):bx Tryz.prog 91 [.im 19 .any es] [] 0 (gP [] 0 93 19 es):=by
 refine gP.of (by omega) ?_
 refine aO F9 rfl ?_
 cases hes:es with
 |nil=>
  repeat' (first|((with_reducible refine aF ?_);conv=>whnf)|refine aG ?_|exact aC|with_reducible refine aD ?_ ?_|(apply aA;(·exact cB))|refine aH ?_|((with_reducible refine aB ?_ ?_)<;>intro hc<;>(try simp only[List.length_map,ne_eq,dQ] at hc)<;>try(exfalso;omega)))
  ·exact⟨.inl ⟨rfl,rfl,cN,dD⟩⟩
  ·exact⟨.inr ⟨_,_,rfl,cN,cN,cN,bo,dD⟩⟩
 |cons x t=>
  rw[hes] at hsz
  simp only[List.length_cons] at hsz
  repeat' (first|((with_reducible refine aF ?_);conv=>whnf)|refine aG ?_|exact aC|with_reducible refine aD ?_ ?_|(apply aA;(·exact cB))|refine aH ?_|((with_reducible refine aB ?_ ?_)<;>intro hc<;>(try simp only[List.length_map,ne_eq,dQ] at hc)<;>try(exfalso;omega)))
  ·exact⟨.inr ⟨3,_,(by simp),cN,cN,cN,bo,dD⟩⟩
theorem px {es:List AV} (hsz:es.length * 168≤140737488355328):bx Tryz.prog 91 [.im 19 .any es] [] 0 (fun r1 H1 _=>∃b d0,r1= .sl b es.length∧bf H1 b=some (.row 93 19 d0 es)):=
 (pw hsz).mono fun r H n ⟨b,d,h1,_,_,_,h2,_⟩=>⟨b,d,h1,h2⟩
def NG (A B:Lay):Prop:=∀b∈A.ids,b∉B.ids
theorem NG.symm {A B:Lay} (h:NG A B):NG B A:=fun b hb hm=>h b hm hb
theorem NG.PY {A A' B:Lay} {n:Nat} (h:NG A B) (hm:∀b,b∈A'.ids→b∈A.ids∨n≤b) (hl:∀b∈B.ids,b<n):NG A' B:=fun b hb hB=>(hm b hb).elim (fun h1=>h b h1 hB) (fun h1=>by have:=hl b hB;omega)
abbrev mixed (s:bj) (B:List Nat):List AV:=List.zipWith bw.av s.bd B
structure la (L:Lay) (s:bj) (H:Hp) (B:List Nat) (i lo n:Nat):Prop where
 len:B.length=s.bd.length
 jX:∀j,i≤j→j<s.bd.length→B.getD j 0=L.cY.getD j 0
 new:∀j,j<i→j<s.bd.length→lo≤B.getD j 0∧B.getD j 0<n∧∃d,bf H (B.getD j 0)=some (.row 125 3 d ((s.core j).buf.map cr.av))
 apart:∀j k,j<k→k<i→k<s.bd.length→B.getD j 0≠B.getD k 0
theorem la.next {L:Lay} {s:bj} {H H':Hp} {B:List Nat} {i lo n n' b:Nat} (h:la L s H B i lo n) (hi:i<s.bd.length) (hb:n≤b∧b<n') (hlo:lo≤n) (hr:∃d,bf H' b=some (.row 125 3 d ((s.core i).buf.map cr.av))) (hf:∀x,lo≤x→x<n→bf H' x=bf H x):la L s H' (B.set i b) (i+1) lo n':=by
 have hib:i<B.length:=by rw[h.len];exact hi
 have same:(B.set i b).getD i 0=b:=by simp[List.getD,hib]
 have ne:∀j,j≠i→(B.set i b).getD j 0=B.getD j 0:=fun j hj=>by simp[List.getD,List.getElem?_set_ne (Ne.symm hj)]
 refine⟨by rw[List.length_set];exact h.len,fun j h1 h2=>by rw[ne j (by omega)];exact h.jX j (by omega) h2,fun j h1 h2=> ?_,fun j k h1 h2 h3=> ?_⟩
 ·by_cases hj:j=i
  ·subst hj;rw[same];exact⟨by omega,by omega,hr⟩
  ·obtain⟨g1,g2,d,g3⟩:=h.new j (by omega) h2
   rw[ne j hj]
   exact⟨g1,by omega,d,(hf _ g1 g2).trans g3⟩
 ·by_cases hk:k=i
  ·subst hk
   rw[same,ne j (by omega)]
   have:=(h.new j (by omega) (by omega)).2.1
   omega
  ·rw[ne k hk,ne j (by omega)]
   exact h.apart j k h1 (by omega) h3
theorem la.cK {L:Lay} {s:bj} {H H':Hp} {B:List Nat} {i lo n n':Nat} (h:la L s H B i lo n) (hn:n≤n') (hf:∀x,lo≤x→x<n→bf H' x=bf H x):la L s H' B i lo n':=
 ⟨h.len,h.jX,fun j h1 h2=>by obtain⟨g1,g2,d,g3⟩:=h.new j h1 h2;exact⟨g1,by omega,d,(hf _ g1 g2).trans g3⟩,h.apart⟩
theorem la.mem {L:Lay} {s:bj} {H:Hp} {B:List Nat} {i lo n:Nat} (h:la L s H B i lo n) (hi:s.bd.length≤i) {b:Nat} (hb:b∈B):lo≤b∧b<n:=by
 obtain⟨j,hj,rfl⟩:=List.mem_iff_getElem.1 hb
 have hj2:j<s.bd.length:=by rw[←h.len];exact hj
 obtain⟨g1,g2,_⟩:=h.new j (by omega) hj2
 have e:B.getD j 0=B[j]:=by simp[List.getD,hj]
 rw[e] at g1 g2
 exact⟨g1,g2⟩
theorem la.nodup {L:Lay} {s:bj} {H:Hp} {B:List Nat} {i lo n:Nat} (h:la L s H B i lo n) (hi:s.bd.length≤i):B.Nodup:=by
 refine List.pairwise_iff_getElem.2 fun j k hj hk hjk=> ?_
 have hk2:k<s.bd.length:=by rw[←h.len];exact hk
 have:=h.apart j k hjk (by omega) hk2
 simpa[List.getD,hj,hk] using this
def K3 (o:Obj) (s:bj) (H:Hp) (nx:Nat):AV→Hp→Nat→Prop:=fun r H' n=>∃L,r= .pt L.m 1 0 0∧fq o s L H' n∧(∀b∈L.ids,nx≤b)∧nx≤n∧∀b,b<nx→bf H' b=bf H b
end Go.Proofs.YtlonbgdonffcbaaGreatDoor
end
section
/- A fork of a machine that is told by value. -/
namespace Go.Proofs.YtlonbgdonffcbaaGreatDoor
open Go Go.cW Go.Proofs
set_option linter.unusedSimpArgs false
set_option linter.unusedVariables false
set_option maxRecDepth 8000
def nC (s:bj) (B:List Nat):List AV:=List.zipWith bw.av s.bd B++(s.bd.drop B.length).map bw.frozen
theorem GI {s:bj} {B:List Nat} (h:B.length≤s.bd.length):(nC s B).length=s.bd.length:=by simp[nC];omega
theorem nU {s:bj} {B:List Nat} (h:B.length≤s.bd.length):(List.zipWith bw.av s.bd B).length=B.length:=by simp;omega
theorem qB {s:bj} {i:Nat} (h:i<s.bd.length):s.core i=s.bd[i]:=by simp[bj.core,List.getD,h]
theorem s8 {s:bj} {B:List Nat} (h:B.length<s.bd.length):nC s B=List.zipWith bw.av s.bd B++(s.core B.length).frozen::(s.bd.drop (B.length+1)).map bw.frozen:=by
 unfold nC
 rw[List.drop_eq_getElem_cons h,qB h];rfl
theorem JB {s:bj} {B:List Nat} (h:B.length<s.bd.length) (d:AV):(nC s B).getD B.length d=(s.core B.length).frozen:=by
 rw[s8 h,List.getD,List.getElem?_append_right (by rw[nU (by omega)];exact Nat.le_refl _),nU (by omega),Nat.sub_self];rfl
theorem wc {f:bw→Nat→AV}:∀{l:List bw} {B:List Nat} {b:Nat} (h:B.length<l.length),List.zipWith f l (B++[b])=List.zipWith f l B++[f (l.getD B.length default) b]
 |[],B,b,h=>by simp at h
 |c::l,[],b,h=>by simp
 |c::l,x::B,b,h=>by
  rw[List.cons_append,List.zipWith_cons_cons,List.zipWith_cons_cons,wc (by simpa using h)];rfl
theorem GJ {s:bj} {B:List Nat} (h:B.length<s.bd.length) (b:Nat):(nC s B).set B.length ((s.core B.length).av b)=nC s (B++[b]):=by
 rw[s8 h,List.set_append_right _ _ (by rw[nU (by omega)];exact Nat.le_refl _),nU (by omega),Nat.sub_self,List.set_cons_zero]
 unfold nC
 rw[wc h,List.length_append,List.append_assoc];rfl
theorem GH {s:bj} {B:List Nat} (h:B.length=s.bd.length):nC s B=List.zipWith bw.av s.bd B:=by
 unfold nC
 rw[h,List.drop_length];simp
theorem oU (l:List bw):cG 0 (l.map bw.frozen):=(cE _ _).2 fun _ _=>by simp[cC]
set_option maxHeartbeats 4000000 in
theorem qJ {o:Obj} {s:bj} (hlk:eH s) (H:Hp) (nx:Nat):bx Tryz.prog 63 [s.frozen o] H nx (K3 o s H nx):=by
 have hc8:=hlk.bd
 have hm4:=hlk.mem
 have hp4:=hlk.bh
 simp only[bj.frozen]
 refine aO FK rfl ?_
 refine cm ?_
 refine aX .any (px (es:=s.bd.map bw.frozen) (by simp;omega)) (oU _) (by simp only[cG,cC];exact⟨oU _,trivial⟩) ?_
 refine cm ?_
 refine aX .any (fx (es:=s.mem.map i64) (by simp;omega)) ((cE _ _).2 fun _ _=>by simp[cC]) (by simp[cG,cC,cE]) ?_
 refine cm ?_
 refine aX .any (kR (es:=s.bh.map cF.av) (by simp;omega)) ((cE _ _).2 fun _ _=>by simp[cC,cG]) (by simp[cG,cC,cE]) ?_
 refine cm ?_
 simp only[List.length_map]
 have h0:nC s []=s.bd.map bw.frozen:=by simp[nC]
 refine aR (fun σ:Nat×List Nat=>[(3, .pt (nx+23) 1 0 0),(32,i64 s.bd.length),(33,i64 σ.1)])
  (fun σ H2 n=>σ.1≤s.bd.length∧nx+24≤n∧σ.2.length=σ.1∧σ.2.Nodup∧(∀x∈σ.2,nx+24≤x∧x<n)∧(∃d,bf H2 (nx+23)=some (.row 77 8 d [.agg [.sc (.slice none 0 0),i64 o.shared,i64 o.iA,i64 o.buffer, .im 2 .any (o.bd.map Core.av), .sl (nx+11) s.bd.length, .sl (nx+16) s.mem.length, .sl (nx+21) s.bh.length]]))∧
   (∃d,bf H2 (nx+11)=some (.row 93 19 d (nC s σ.2)))∧(∃d,bf H2 (nx+16)=some (.row 2 1 d (s.mem.map i64)))∧(∃d,bf H2 (nx+21)=some (.row 68 2 d (s.bh.map cF.av)))∧
   (∀q,q<σ.1→∃d,bf H2 (σ.2.getD q 0)=some (.row 125 3 d ((s.core q).buf.map cr.av)))∧∀y,y<nx→bf H2 y=bf H y) (fun σ=>s.bd.length - σ.1) (0,[])
  ⟨_,_,_,Rt.refl _ _ _,cL,Nat.zero_le _,cN,rfl,List.nodup_nil,fun x hx=>(by cases hx),⟨_,bo⟩,⟨_,by dsimp only;rw[h0];exact bo⟩,⟨_,bo⟩,⟨_,bo⟩,fun q hq=>absurd hq (Nat.not_lt_zero _),fun y hy=>cD⟩ ?_
 rintro⟨i,B⟩ H2 n ⟨hi,hn,hBl,hnd,hin,⟨d1,r1'⟩,⟨d2,r2'⟩,⟨d3,r3'⟩,⟨d4,r4⟩,hbs,hk⟩
 dsimp only at hi hBl hnd hin r2' hbs ⊢
 have hml:=GI (s:=s) (B:=B) (by omega)
 by_cases hil:i<s.bd.length
 ·have e0:∀d,(nC s B).getD ((i:Int)).toNat d=(s.core i).frozen:=fun d=>by rw[Int.toNat_natCast,←hBl];exact JB (by omega) d
  have hbuf:=hlk.buf i hil
  refine cm ?_
  refine aX .any (kS (es:=(s.core i).buf.map cr.av) (by rw[List.length_map];omega)) ((cE _ _).2 fun _ _=>by simp[cC,cG]) (by simp[cG,cC,cE]) ?_
  refine cm ?_
  simp only[List.length_map]
  have hset:=GJ (s:=s) (B:=B) (by omega) (n+16)
  rw[hBl] at hset
  refine⟨(i+1,B++[n+16]),by dsimp only;omega,_,_,_,Rt.refl _ _ _,cL,by dsimp only;omega,cN,by simp[hBl], ?_, ?_,⟨_,bo⟩,⟨_,by dsimp only;rw[←hset];exact bo⟩,⟨_,bo⟩,⟨_,bo⟩, ?_,fun y hy=>Eq.trans cD (hk y hy)⟩
  ·refine List.nodup_append.2 ⟨hnd,by simp,fun a ha b hb=> ?_⟩
   simp only[List.mem_cons,List.not_mem_nil,or_false] at hb
   have:=hin _ ha;omega
  ·intro x hx
   rcases List.mem_append.1 hx with hx|hx
   ·have:=hin _ hx;exact⟨this.1,Nat.lt_of_lt_of_le this.2 cN⟩
   ·simp only[List.mem_cons,List.not_mem_nil,or_false] at hx
    subst hx;exact⟨by omega,cN⟩
  ·intro q hq
   have hq:q<i+1:=hq
   by_cases e:q=i
   ·subst e
    have e2:(B++[n+16]).getD q 0=n+16:=by rw[List.getD,List.getElem?_append_right (by omega),hBl,Nat.sub_self];rfl
    dsimp only
    rw[e2];exact⟨_,bo⟩
   ·obtain⟨d,hd⟩:=hbs q (by omega)
    have e2:(B++[n+16]).getD q 0=B.getD q 0:=by simp[List.getD,List.getElem?_append,show q<B.length by omega]
    have:=hin _ (kp (l:=B) (q:=q) (by omega))
    dsimp only
    rw[e2];exact⟨d,Eq.trans cD hd⟩
 ·obtain rfl:i=s.bd.length:=by omega
  rw[GH hBl] at r2'
  refine cm ?_
  have hno:∀k,k<nx+24→k∉B:=fun k hk h=>by have:=hin _ h;omega
  refine⟨⟨⟨nx+23,nx+11,nx+16,nx+21,B⟩,rfl,⟨⟨_,bo⟩,⟨_,bo⟩,⟨_,bo⟩,⟨_,bo⟩,fun q hq=> ?_,hBl,fun b hb=> ?_, ?_⟩,fun b hb=> ?_,cN,fun y hy=>Eq.trans cD (hk y hy)⟩⟩
  ·obtain⟨d,hd⟩:=hbs q hq
   have:=hin _ (kp (l:=B) (q:=q) (by omega))
   exact⟨d,Eq.trans cD hd⟩
  ·simp only[Lay.ids,List.mem_cons] at hb
   rcases hb with rfl|rfl|rfl|rfl|hb
   ·exact cN
   ·exact cN
   ·exact cN
   ·exact cN
   ·exact Nat.lt_of_lt_of_le (hin _ hb).2 cN
  ·simp only[Lay.ids,List.nodup_cons,List.mem_cons,not_or]
   exact⟨⟨by omega,by omega,by omega,hno _ (by omega)⟩,⟨by omega,by omega,hno _ (by omega)⟩,⟨by omega,hno _ (by omega)⟩,hno _ (by omega),hnd⟩
  ·simp only[Lay.ids,List.mem_cons] at hb
   rcases hb with rfl|rfl|rfl|rfl|hb
   ·show nx≤nx+23;omega
   ·show nx≤nx+11;omega
   ·show nx≤nx+16;omega
   ·show nx≤nx+21;omega
   ·have:=hin _ hb;omega
end Go.Proofs.YtlonbgdonffcbaaGreatDoor
end
section
/- Exploring the machine in plain data. -/
namespace Go.Proofs.YtlonbgdonffcbaaGreatDoor
open Go Go.cW Go.Proofs
set_option linter.unusedSimpArgs false
set_option linter.unusedVariables false
def eT (o:Obj) (s:bj) (x:cQ):List cQ:=if(ck o s x.kind x.core).2.1.kind=3 then[x,⟨2,x.core⟩] else[x]
def cy (p:Bool) (o:Obj) (s:bj):List (List cQ):=if p then((dW o s s.bd.length).filter fun x=>decide (x.kind=1)).map (eT o s) else(dW o s s.bd.length).map fun x=>[x]
def jA (o:Obj):bj→List cQ→bj
 |s,[]=>s
 |s,x::l=>jA o (ck o s x.kind x.core).1 l
structure bu where
 m:bj
 from_:Int
 C5:List cQ
 deriving Inhabited
abbrev dU (l:List bu):List (List UInt8):=l.map fun f=>dn f.m
def yQ (o:Obj) (most k:Nat) (mv:List cQ) (l:List bu):Option (List bu):=
 if dn (jA o (l.getD k default).m mv)∈dU l then some l
 else if most≤l.length then none
 else some (l++[⟨jA o (l.getD k default).m mv,k,mv⟩])
def pB (o:Obj) (most k:Nat):List (List cQ)→List bu→Option (List bu)
 |[],l=>some l
 |mv::ms,l=>match yQ o most k mv l with
  |none=>none
  |some l'=>pB o most k ms l'
def om (p:Bool) (o:Obj) (most:Nat):Nat→Nat→List bu→Option (List bu)
 |0,_,l=>some l
 |n+1,k,l=>if k<l.length then(match pB o most k (cy p o (l.getD k default).m) l with
  |none=>none
  |some l'=>om p o most n (k+1) l') else some l
def eW (o:Obj):List bu:=[⟨dM o,-1,[]⟩]
def iz (p:Bool) (o:Obj) (most:Nat):Option (List bu):=om p o most most 0 (eW o)
theorem BR {o:Obj} {s:bj} {x:cQ} {n:Nat} (h:x∈dW o s n):∃q:Nat,q<n∧x.core=q∧(x.kind=1∧(s.core q).halted=false∧dZ o.buffer (s.core q) (fI o q (s.core q))=false∨x.kind=2∧(s.core q).buf≠[]):=by
 unfold dW at h
 obtain⟨q,hq,hx⟩:=List.mem_flatMap.1 h
 refine⟨q,List.mem_range.1 hq, ?_⟩
 unfold ez at hx
 rcases List.mem_append.1 hx with hx|hx
 ·split at hx
  ·rename_i h1
   simp only[List.mem_singleton] at hx
   subst hx
   exact⟨rfl, .inl ⟨rfl,h1.1,h1.2⟩⟩
  ·cases hx
 ·split at hx
  ·rename_i h1
   simp only[List.mem_singleton] at hx
   subst hx
   exact⟨rfl, .inr ⟨rfl,fun e=>by rw[e] at h1;simp at h1⟩⟩
  ·cases hx
theorem kJ {o:Obj} {s:bj} {q n:Nat} (hq:q<n) (h1:(s.core q).halted=false) (h2:dZ o.buffer (s.core q) (fI o q (s.core q))=false):(⟨1,q⟩:cQ)∈dW o s n:=by
 unfold dW
 refine List.mem_flatMap.2 ⟨q,List.mem_range.2 hq, ?_⟩
 unfold ez
 rw[if_pos ⟨h1,h2⟩]
 simp
theorem qe {o:Obj} {s:bj} {q n:Nat} (hq:q<n) (h1:(s.core q).buf≠[]):(⟨2,q⟩:cQ)∈dW o s n:=by
 unfold dW
 refine List.mem_flatMap.2 ⟨q,List.mem_range.2 hq, ?_⟩
 unfold ez
 rw[if_pos (c:=0<(s.core q).buf.length) (List.length_pos_iff.2 h1)]
 simp
theorem oD {p:Bool} {o:Obj} {s:bj} {mv:List cQ} (h:mv∈cy p o s):∃x∈dW o s s.bd.length,mv=[x]∨p=true∧x.kind=1∧(ck o s x.kind x.core).2.1.kind=3∧mv=[x,⟨2,x.core⟩]:=by
 unfold cy at h
 cases p with
 |false=>
  rw[if_neg (by simp)] at h
  obtain⟨x,hx,rfl⟩:=List.mem_map.1 h
  exact⟨x,hx, .inl rfl⟩
 |true=>
  rw[if_pos rfl] at h
  obtain⟨x,hx,rfl⟩:=List.mem_map.1 h
  rw[List.mem_filter] at hx
  refine⟨x,hx.1, ?_⟩
  unfold eT
  split
  ·rename_i h3;exact .inr ⟨rfl,of_decide_eq_true hx.2,h3,rfl⟩
  ·exact .inl rfl
theorem BE {p:Bool} {o:Obj} {s:bj} {mv:List cQ} (h:mv∈cy p o s):mv.length≤2:=by
 obtain⟨x,_,rfl|⟨_,_,_,rfl⟩⟩:=oD h<;>simp
theorem tQ (o:Obj) (s:bj) (k:Int):(ck o s 2 k).1.bh=s.bh:=by
 unfold ck
 rw[if_neg (by decide),if_pos rfl]
 unfold cx
 split
 ·rfl
 ·split<;>rfl
theorem AH {p:Bool} {o:Obj} {s:bj} {mv:List cQ} (h:mv∈cy p o s):(jA o s mv).bh.length≤s.bh.length+1:=by
 obtain⟨x,_,rfl|⟨_,_,_,rfl⟩⟩:=oD h
 ·exact lE _ _ _ _
 ·show(ck o (ck o s x.kind x.core).1 2 x.core).1.bh.length≤_
  rw[tQ]
  exact lE _ _ _ _
theorem yk {o:Obj} (ok:ch o) (hw:gy o):∀(mv:List cQ) {s:bj},oi o s→oi o (jA o s mv)
 |[],s,h=>h
 |x::mv,s,h=>yk ok hw mv (h.step ok hw x.kind x.core)
structure iw (p:Bool) (o:Obj) (l:List bu):Prop where
 pos:0<l.length
 first:l.getD 0 default=⟨dM o,-1,[]⟩
 ok:∀i,i<l.length→oi o (l.getD i default).m∧(l.getD i default).m.bh.length≤i
 C6:∀i,0<i→i<l.length→∃(k:Nat) (mv:List cQ),k<i∧mv∈cy p o (l.getD k default).m∧l.getD i default=⟨jA o (l.getD k default).m mv,k,mv⟩
 keys:(dU l).Nodup
theorem gn {α:Type} {l:List α} {x d:α} {i:Nat} (h:i<l.length):(l++[x]).getD i d=l.getD i d:=by simp[List.getD,List.getElem?_append,h]
theorem z7 {α:Type} {l:List α} {x d:α}:(l++[x]).getD l.length d=x:=by simp[List.getD]
theorem jl {α:Type} {l l':List α} {d:α} {i:Nat} (h:l<+:l') (hi:i<l.length):l'.getD i d=l.getD i d:=by
 obtain⟨q,rfl⟩:=h
 simp[List.getD,List.getElem?_append,hi]
theorem eZ {α:Type} {l:List α} {j:Nat} (d:α) (h:j<l.length):l.getD j d∈l:=by
 rw[show l.getD j d=l[j] by simp[List.getD,h]];exact List.getElem_mem h
theorem iw.init {p:Bool} {o:Obj} (ok:ch o) (hw:gy o):iw p o (eW o) where
 pos:=by simp[eW]
 first:=rfl
 ok:=fun i hi=>by
  have:i=0:=by simp[eW] at hi;omega
  subst this
  exact⟨oi.init ok hw,Nat.le_refl _⟩
 C6:=fun i hi h=>by simp[eW] at h;omega
 keys:=by simp[dU,eW]
theorem iw.add {p:Bool} {o:Obj} {l:List bu} (ok:ch o) (hw:gy o) (h:iw p o l) {k:Nat} {mv:List cQ} (hk:k<l.length) (hm:mv∈cy p o (l.getD k default).m) (hn:dn (jA o (l.getD k default).m mv)∉dU l):iw p o (l++[⟨jA o (l.getD k default).m mv,k,mv⟩]) where
 pos:=by simp
 first:=by rw[gn h.pos];exact h.first
 ok:=fun i hi=>by
  rw[List.length_append] at hi
  by_cases e:i<l.length
  ·rw[gn e];exact h.ok i e
  ·have:i=l.length:=by simp at hi;omega
   subst this
   rw[z7]
   obtain⟨h1,h2⟩:=h.ok k hk
   refine⟨yk ok hw mv h1, ?_⟩
   have:=AH hm
   dsimp only
   omega
 C6:=fun i h0 hi=>by
  rw[List.length_append] at hi
  by_cases e:i<l.length
  ·obtain⟨k',t',h1,h2,h3⟩:=h.C6 i h0 e
   refine⟨k',t',h1, ?_, ?_⟩
   ·rw[gn (by omega)];exact h2
   ·rw[gn e,gn (by omega)];exact h3
  ·have:i=l.length:=by simp at hi;omega
   subst this
   refine⟨k,mv,hk, ?_, ?_⟩
   ·rw[gn hk];exact hm
   ·rw[z7,gn hk]
 keys:=by
  simp only[dU,List.map_append,List.map_cons,List.map_nil]
  refine List.nodup_append.2 ⟨h.keys,by simp,fun a ha b hb2=> ?_⟩
  simp only[List.mem_cons,List.not_mem_nil,or_false] at hb2
  subst hb2
  intro e
  exact hn (e▸ha)
theorem J7 {p:Bool} {o:Obj} {l l':List bu} {most k:Nat} {mv:List cQ} (ok:ch o) (hw:gy o) (h:iw p o l) (hl:l.length≤most) (hk:k<l.length) (hm:mv∈cy p o (l.getD k default).m) (he:yQ o most k mv l=some l'):iw p o l'∧l'.length≤most∧l<+:l'∧dn (jA o (l.getD k default).m mv)∈dU l':=by
 unfold yQ at he
 split at he
 ·rename_i h1;cases he;exact⟨h,hl,List.prefix_refl _,h1⟩
 rename_i h2
 split at he
 ·cases he
 ·cases he
  refine⟨h.add ok hw hk hm h2, ?_,List.prefix_append _ _,by simp[dU]⟩
  simp only[List.length_append,List.length_cons,List.length_nil];omega
theorem vN {l l':List bu} (h:l<+:l') {x:List UInt8} (hx:x∈dU l):x∈dU l':=by
 obtain⟨q,rfl⟩:=h
 simp only[dU,List.map_append,List.mem_append]
 exact .inl hx
theorem tq {p:Bool} {o:Obj} {most k:Nat} (ok:ch o) (hw:gy o) (m:bj):∀{ms:List (List cQ)} {l l':List bu},iw p o l→l.length≤most→k<l.length→(l.getD k default).m=m→(∀mv∈ms,mv∈cy p o m)→pB o most k ms l=some l'→iw p o l'∧l'.length≤most∧l<+:l'∧∀mv∈ms,dn (jA o m mv)∈dU l'
 |[],l,l',h,hl,hk,hm,ht,he=>by cases he;exact⟨h,hl,List.prefix_refl _,by simp⟩
 |mv::ms,l,l',h,hl,hk,hm,ht,he=>by
  rw[pB] at he
  split at he
  ·cases he
  ·rename_i l2 h2
   obtain⟨g1,g2,g3,g4⟩:=J7 ok hw h hl hk (by rw[hm];exact ht mv (by simp)) h2
   rw[hm] at g4
   obtain⟨q1,q2,q3,q4⟩:=tq ok hw m g1 g2 (Nat.lt_of_lt_of_le hk g3.length_le) (by rw[jl g3 hk];exact hm) (fun x hx=>ht x (by simp[hx])) he
   refine⟨q1,q2,g3.trans q3,fun x hx=> ?_⟩
   rcases List.mem_cons.1 hx with rfl|hx
   ·exact vN q3 g4
   ·exact q4 x hx
theorem yX {p:Bool} {o:Obj} {most:Nat} (ok:ch o) (hw:gy o):∀{n k:Nat} {l l':List bu},iw p o l→l.length≤most→most≤n+k→(∀i,i<k→i<l.length→∀mv∈cy p o (l.getD i default).m,dn (jA o (l.getD i default).m mv)∈dU l)→om p o most n k l=some l'→iw p o l'∧l'.length≤most∧l<+:l'∧∀i,i<l'.length→∀mv∈cy p o (l'.getD i default).m,dn (jA o (l'.getD i default).m mv)∈dU l'
 |0,k,l,l',h,hl,hn,hc,he=>by cases he;exact⟨h,hl,List.prefix_refl _,fun i hi=>hc i (by omega) hi⟩
 |n+1,k,l,l',h,hl,hn,hc,he=>by
  rw[om] at he
  split at he
  ·rename_i hk
   split at he
   ·cases he
   ·rename_i l2 h2
    obtain⟨g1,g2,g3,g4⟩:=tq ok hw _ h hl hk rfl (fun mv hx=>hx) h2
    obtain⟨q1,q2,q3,q4⟩:=yX ok hw g1 g2 (by omega) (fun i hi hi2 mv hmv=>by
     by_cases e:i=k
     ·subst e
      rw[jl g3 hk] at hmv ⊢
      exact g4 mv hmv
     ·have hil:i<l.length:=by omega
      rw[jl g3 hil] at hmv ⊢
      exact vN g3 (hc i (by omega) hil mv hmv)) he
    exact⟨q1,q2,g3.trans q3,q4⟩
  ·cases he;exact⟨h,hl,List.prefix_refl _,fun i hi=>hc i (by omega) hi⟩
theorem jt {p:Bool} {o:Obj} {most:Nat} {l:List bu} (ok:ch o) (hw:gy o) (hm:1≤most) (h:iz p o most=some l):iw p o l∧l.length≤most∧eW o<+:l∧∀i,i<l.length→∀mv∈cy p o (l.getD i default).m,dn (jA o (l.getD i default).m mv)∈dU l:=
 yX ok hw (iw.init ok hw) hm (by omega) (fun i hi=>by omega) h
theorem wG:∀{l K:List (List UInt8)},l.Nodup→(∀x∈l,x∈K)→l.length≤K.length
 |[],K,_,_=>Nat.zero_le _
 |x::l,K,h1,h2=>by
  have h3:=List.nodup_cons.1 h1
  have h4:=wG (l:=l) (K:=K.erase x) h3.2 fun y hy=>(List.mem_erase_of_ne (show y≠x from fun e=>h3.1 (e▸hy))).2 (h2 y (by simp[hy]))
  have hx:=h2 x (by simp)
  rw[List.length_erase_of_mem hx] at h4
  have:=List.length_pos_of_mem hx
  rw[List.length_cons]
  omega
theorem ql {o:Obj} {most k:Nat} {K:List (List UInt8)} (hK:K.length≤most) (m:bj):∀{ms:List (List cQ)} {l:List bu},(dU l).Nodup→(∀x∈dU l,x∈K)→k<l.length→(l.getD k default).m=m→(∀mv∈ms,dn (jA o m mv)∈K)→∃l',pB o most k ms l=some l'∧(dU l').Nodup∧(∀x∈dU l',x∈K)∧l<+:l'
 |[],l,hn,hs,hk,hm,ht=>⟨l,rfl,hn,hs,List.prefix_refl _⟩
 |mv::ms,l,hn,hs,hk,hm,ht=>by
  rw[pB]
  have hmv:=ht mv (by simp)
  unfold yQ
  rw[hm]
  by_cases h1:dn (jA o m mv)∈dU l
  ·rw[if_pos h1]
   exact ql hK m hn hs hk hm fun x hx=>ht x (by simp[hx])
  ·rw[if_neg h1]
   have hnn:(dU (l++[⟨jA o m mv,k,mv⟩])).Nodup:=by
    simp only[dU,List.map_append,List.map_cons,List.map_nil]
    refine List.nodup_append.2 ⟨hn,by simp,fun a ha b hb2=> ?_⟩
    simp only[List.mem_cons,List.not_mem_nil,or_false] at hb2
    subst hb2
    intro e
    exact h1 (e▸ha)
   have hss:∀x∈dU (l++[⟨jA o m mv,k,mv⟩]),x∈K:=fun x hx=>by
    simp only[dU,List.map_append,List.map_cons,List.map_nil,List.mem_append,List.mem_singleton] at hx
    rcases hx with hx|rfl
    ·exact hs x hx
    ·exact hmv
   have hlen:=wG hnn hss
   simp only[dU,List.length_map,List.length_append,List.length_cons,List.length_nil] at hlen
   rw[if_neg (by omega)]
   obtain⟨l',e1,e2,e3,e4⟩:=ql (ms:=ms) (k:=k) hK m hnn hss (by rw[List.length_append];omega) (by rw[gn hk];exact hm) fun x hx=>ht x (by simp[hx])
   exact⟨l',e1,e2,e3,(List.prefix_append _ _).trans e4⟩
theorem uN {p:Bool} {o:Obj} {most:Nat} (ok:ch o) (hw:gy o) {K:List (List UInt8)} (hK:K.length≤most) {Q:bj→Prop} (hQK:∀m,Q m→dn m∈K) (hQ:∀m mv,Q m→mv∈cy p o m→Q (jA o m mv)):∀{n k:Nat} {l:List bu},iw p o l→l.length≤most→(∀f∈l,Q f.m)→∃l',om p o most n k l=some l'∧∀f∈l',Q f.m
 |0,k,l,h,hl,hq=>⟨l,rfl,hq⟩
 |n+1,k,l,h,hl,hq=>by
  rw[om]
  by_cases hk:k<l.length
  ·rw[if_pos hk]
   have hsub:∀x∈dU l,x∈K:=fun x hx=>by
    obtain⟨f,hf,rfl⟩:=List.mem_map.1 hx
    exact hQK _ (hq f hf)
   have hqk:=hq _ (eZ default hk)
   obtain⟨l2,e1,e2,e3,e4⟩:=ql (o:=o) (most:=most) hK _ h.keys hsub hk rfl (ms:=cy p o (l.getD k default).m) fun mv hmv=>hQK _ (hQ _ mv hqk hmv)
   rw[e1]
   obtain⟨g1,g2,g3,g4⟩:=tq ok hw _ h hl hk rfl (fun mv hx=>hx) e1
   refine uN ok hw hK hQK hQ g1 g2 fun f hf=> ?_
   obtain⟨i,hi,rfl⟩:=List.mem_iff_getElem.1 hf
   rw[show l2[i]=l2.getD i default by simp[List.getD,hi]]
   by_cases hil:i<l.length
   ·rw[jl g3 hil];exact hq _ (eZ default hil)
   ·have:∀i,i<l2.length→Q (l2.getD i default).m:=by
     intro i
     induction i using Nat.strongRecOn with
     |_ i ih=>
      intro hi
      by_cases h0:0<i
      ·obtain⟨k',mv,q1,q2,q3⟩:=g1.C6 i h0 hi
       rw[q3]
       exact hQ _ mv (ih k' q1 (by omega)) q2
      ·have:i=0:=by omega
       subst this
       rw[jl g3 h.pos];exact hq _ (eZ default h.pos)
    exact this i hi
  ·rw[if_neg hk];exact⟨l,rfl,hq⟩
end Go.Proofs.YtlonbgdonffcbaaGreatDoor
end
