import Derived.Test.YtlonbgdonffcbaaGreatDoorM25
import Derived.Test.YtlonbgdonffcbaaGreatDoorM20
import Derived.Test.YtlonbgdonffcbaaGreatDoorM28
import Derived.Test.YtlonbgdonffcbaaGreatDoorM31
import Derived.Test.YtlonbgdonffcbaaGreatDoorM26
section
/- Lists told by value: small words for the ends' texts. -/
namespace Go.Proofs.YtlonbgdonffcbaaGreatDoor
open Go Go.cU Go.Proofs
set_option linter.unusedSimpArgs false
set_option linter.unusedVariables false
abbrev jN (l:List Int):AV:= .im 1 .any (l.map i64)
abbrev dw (l:List cF):AV:= .im 2 .any (l.map cF.av)
abbrev nF (l:List cV):AV:= .im 2 .any (l.map cV.av)
theorem ints_at {l:List Int} {k:Nat} (h:k<l.length) (d:AV):(l.map i64).getD ((k:Int)).toNat d=i64 (l.getD k 0):=by
 rw[Int.toNat_natCast];exact dS i64 l k d h
theorem iu {a b:Bool} (h:a=b):AV.sc (.bool a)=bl b:=by rw[h]
theorem gR {α:Type} {l:List α} {j:Nat} (d:α) (h:j<l.length):l.getD j d∈l:=by
 rw[show l.getD j d=l[j] by simp[List.getD,h]];exact List.getElem_mem h
theorem getD_set_ne {α:Type} {l:List α} {i j:Nat} {v d:α} (h:i≠j):(l.set i v).getD j d=l.getD j d:=by simp[List.getD,List.getElem?_set_ne h]
end Go.Proofs.YtlonbgdonffcbaaGreatDoor
end
section
/- A fork of a machine. -/
namespace Go.Proofs.YtlonbgdonffcbaaGreatDoor
open Go Go.cU Go.Proofs
set_option linter.unusedSimpArgs false
set_option linter.unusedVariables false
theorem p0 {es:List AV} (hsz:es.length * 168≤140737488355328):bw Tryz.prog 91 [.im 19 .any es] [] 0 (gI [] 0 93 19 es):=by
 refine gI.of (by omega) ?_
 refine aO F5 rfl ?_
 cases hes:es with
 |nil=>
  repeat' (first|((with_reducible refine aF ?_);conv=>whnf)|refine aG ?_|exact aC|with_reducible refine aD ?_ ?_|(apply aA;(·exact bz))|refine aH ?_|((with_reducible refine aB ?_ ?_)<;>intro hc<;>(try simp only[List.length_map,ne_eq,dL] at hc)<;>try(exfalso;omega)))
  ·exact⟨.inl ⟨rfl,rfl,cM,dC⟩⟩
  ·exact⟨.inr ⟨_,_,rfl,cM,cM,cM,bn,dC⟩⟩
 |cons x t=>
  rw[hes] at hsz
  simp only[List.length_cons] at hsz
  repeat' (first|((with_reducible refine aF ?_);conv=>whnf)|refine aG ?_|exact aC|with_reducible refine aD ?_ ?_|(apply aA;(·exact bz))|refine aH ?_|((with_reducible refine aB ?_ ?_)<;>intro hc<;>(try simp only[List.length_map,ne_eq,dL] at hc)<;>try(exfalso;omega)))
  ·exact⟨.inr ⟨3,_,(by simp),cM,cM,cM,bn,dC⟩⟩
theorem pa {es:List AV} (hsz:es.length * 168≤140737488355328):bw Tryz.prog 91 [.im 19 .any es] [] 0 (fun r1 H1 _=>∃b d0,r1= .sl b es.length∧bf H1 b=some (.row 93 19 d0 es)):=
 (p0 hsz).mono fun r H n ⟨b,d,h1,_,_,_,h2,_⟩=>⟨b,d,h1,h2⟩
def M6 (A B:Lay):Prop:=∀b∈A.ids,b∉B.ids
theorem M6.symm {A B:Lay} (h:M6 A B):M6 B A:=fun b hb hm=>h b hm hb
theorem M6.PN {A A' B:Lay} {n:Nat} (h:M6 A B) (hm:∀b,b∈A'.ids→b∈A.ids∨n≤b) (hl:∀b∈B.ids,b<n):M6 A' B:=fun b hb hB=>(hm b hb).elim (fun h1=>h b h1 hB) (fun h1=>by have:=hl b hB;omega)
abbrev mixed (s:bk) (B:List Nat):List AV:=List.zipWith bx.av s.bd B
structure lX (L:Lay) (s:bk) (H:Hp) (B:List Nat) (i lo n:Nat):Prop where
 len:B.length=s.bd.length
 jR:∀j,i≤j→j<s.bd.length→B.getD j 0=L.cZ.getD j 0
 new:∀j,j<i→j<s.bd.length→lo≤B.getD j 0∧B.getD j 0<n∧∃d,bf H (B.getD j 0)=some (.row 125 3 d ((s.core j).buf.map dA.av))
 apart:∀j k,j<k→k<i→k<s.bd.length→B.getD j 0≠B.getD k 0
theorem lX.next {L:Lay} {s:bk} {H H':Hp} {B:List Nat} {i lo n n' b:Nat} (h:lX L s H B i lo n) (hi:i<s.bd.length) (hb:n≤b∧b<n') (hlo:lo≤n) (hr:∃d,bf H' b=some (.row 125 3 d ((s.core i).buf.map dA.av))) (hf:∀x,lo≤x→x<n→bf H' x=bf H x):lX L s H' (B.set i b) (i+1) lo n':=by
 have hib:i<B.length:=by rw[h.len];exact hi
 have same:(B.set i b).getD i 0=b:=by simp[List.getD,hib]
 have ne:∀j,j≠i→(B.set i b).getD j 0=B.getD j 0:=fun j hj=>by simp[List.getD,List.getElem?_set_ne (Ne.symm hj)]
 refine⟨by rw[List.length_set];exact h.len,fun j h1 h2=>by rw[ne j (by omega)];exact h.jR j (by omega) h2,fun j h1 h2=> ?_,fun j k h1 h2 h3=> ?_⟩
 ·by_cases hj:j=i
  ·subst hj;rw[same];exact⟨by omega,by omega,hr⟩
  ·obtain⟨g1,g2,d,g3⟩:=h.new j (by omega) h2
   rw[ne j hj]
   exact⟨g1,by omega,d,(hf _ g1 g2).trans g3⟩
 ·by_cases hk:k=i
  ·subst hk
   rw[same,ne j (by omega)]
   have:=(h.new j (by omega) (by omega)).2.1
   omega
  ·rw[ne k hk,ne j (by omega)]
   exact h.apart j k h1 (by omega) h3
theorem lX.cL {L:Lay} {s:bk} {H H':Hp} {B:List Nat} {i lo n n':Nat} (h:lX L s H B i lo n) (hn:n≤n') (hf:∀x,lo≤x→x<n→bf H' x=bf H x):lX L s H' B i lo n':=
 ⟨h.len,h.jR,fun j h1 h2=>by obtain⟨g1,g2,d,g3⟩:=h.new j h1 h2;exact⟨g1,by omega,d,(hf _ g1 g2).trans g3⟩,h.apart⟩
theorem lX.mem {L:Lay} {s:bk} {H:Hp} {B:List Nat} {i lo n:Nat} (h:lX L s H B i lo n) (hi:s.bd.length≤i) {b:Nat} (hb:b∈B):lo≤b∧b<n:=by
 obtain⟨j,hj,rfl⟩:=List.mem_iff_getElem.1 hb
 have hj2:j<s.bd.length:=by rw[←h.len];exact hj
 obtain⟨g1,g2,_⟩:=h.new j (by omega) hj2
 have e:B.getD j 0=B[j]:=by simp[List.getD,hj]
 rw[e] at g1 g2
 exact⟨g1,g2⟩
theorem lX.nodup {L:Lay} {s:bk} {H:Hp} {B:List Nat} {i lo n:Nat} (h:lX L s H B i lo n) (hi:s.bd.length≤i):B.Nodup:=by
 refine List.pairwise_iff_getElem.2 fun j k hj hk hjk=> ?_
 have hk2:k<s.bd.length:=by rw[←h.len];exact hk
 have:=h.apart j k hjk (by omega) hk2
 simpa[List.getD,hj,hk] using this
def KT (o:Obj) (s:bk) (H:Hp) (nx:Nat):AV→Hp→Nat→Prop:=fun r H' n=>∃L,r= .pt L.m 1 0 0∧fh o s L H' n∧(∀b∈L.ids,nx≤b)∧nx≤n∧∀b,b<nx→bf H' b=bf H b
end Go.Proofs.YtlonbgdonffcbaaGreatDoor
end
section
/- A fork of a machine that is told by value. -/
namespace Go.Proofs.YtlonbgdonffcbaaGreatDoor
open Go Go.cU Go.Proofs
set_option linter.unusedSimpArgs false
set_option linter.unusedVariables false
set_option maxRecDepth 8000
def ml (s:bk) (B:List Nat):List AV:=List.zipWith bx.av s.bd B++(s.bd.drop B.length).map bx.frozen
theorem GC {s:bk} {B:List Nat} (h:B.length≤s.bd.length):(ml s B).length=s.bd.length:=by simp[ml];omega
theorem nK {s:bk} {B:List Nat} (h:B.length≤s.bd.length):(List.zipWith bx.av s.bd B).length=B.length:=by simp;omega
theorem ph {s:bk} {i:Nat} (h:i<s.bd.length):s.core i=s.bd[i]:=by simp[bk.core,List.getD,h]
theorem sW {s:bk} {B:List Nat} (h:B.length<s.bd.length):ml s B=List.zipWith bx.av s.bd B++(s.core B.length).frozen::(s.bd.drop (B.length+1)).map bx.frozen:=by
 unfold ml
 rw[List.drop_eq_getElem_cons h,ph h];rfl
theorem I5 {s:bk} {B:List Nat} (h:B.length<s.bd.length) (d:AV):(ml s B).getD B.length d=(s.core B.length).frozen:=by
 rw[sW h,List.getD,List.getElem?_append_right (by rw[nK (by omega)];exact Nat.le_refl _),nK (by omega),Nat.sub_self];rfl
theorem wV {f:bx→Nat→AV}:∀{l:List bx} {B:List Nat} {b:Nat} (h:B.length<l.length),List.zipWith f l (B++[b])=List.zipWith f l B++[f (l.getD B.length default) b]
 |[],B,b,h=>by simp at h
 |c::l,[],b,h=>by simp
 |c::l,x::B,b,h=>by
  rw[List.cons_append,List.zipWith_cons_cons,List.zipWith_cons_cons,wV (by simpa using h)];rfl
theorem GD {s:bk} {B:List Nat} (h:B.length<s.bd.length) (b:Nat):(ml s B).set B.length ((s.core B.length).av b)=ml s (B++[b]):=by
 rw[sW h,List.set_append_right _ _ (by rw[nK (by omega)];exact Nat.le_refl _),nK (by omega),Nat.sub_self,List.set_cons_zero]
 unfold ml
 rw[wV h,List.length_append,List.append_assoc];rfl
theorem GB {s:bk} {B:List Nat} (h:B.length=s.bd.length):ml s B=List.zipWith bx.av s.bd B:=by
 unfold ml
 rw[h,List.drop_length];simp
theorem oK (l:List bx):cH 0 (l.map bx.frozen):=(cD _ _).2 fun _ _=>by simp[cA]
set_option maxHeartbeats 4000000 in
theorem pz {o:Obj} {s:bk} (hlk:eK s) (H:Hp) (nx:Nat):bw Tryz.prog 63 [s.frozen o] H nx (KT o s H nx):=by
 have hc8:=hlk.bd
 have hm4:=hlk.mem
 have hp4:=hlk.bg
 simp only[bk.frozen]
 refine aO FG rfl ?_
 refine cc ?_
 refine aX .any (pa (es:=s.bd.map bx.frozen) (by simp;omega)) (oK _) (by simp only[cH,cA];exact⟨oK _,trivial⟩) ?_
 refine cc ?_
 refine aX .any (fp (es:=s.mem.map i64) (by simp;omega)) ((cD _ _).2 fun _ _=>by simp[cA]) (by simp[cH,cA,cD]) ?_
 refine cc ?_
 refine aX .any (kI (es:=s.bg.map cF.av) (by simp;omega)) ((cD _ _).2 fun _ _=>by simp[cA,cH]) (by simp[cH,cA,cD]) ?_
 refine cc ?_
 simp only[List.length_map]
 have h0:ml s []=s.bd.map bx.frozen:=by simp[ml]
 refine aS (fun σ:Nat×List Nat=>[(3, .pt (nx+23) 1 0 0),(32,i64 s.bd.length),(33,i64 σ.1)])
  (fun σ H2 n=>σ.1≤s.bd.length∧nx+24≤n∧σ.2.length=σ.1∧σ.2.Nodup∧(∀x∈σ.2,nx+24≤x∧x<n)∧(∃d,bf H2 (nx+23)=some (.row 77 8 d [.agg [.sc (.slice none 0 0),i64 o.shared,i64 o.fX,i64 o.buffer, .im 2 .any (o.bd.map Core.av), .sl (nx+11) s.bd.length, .sl (nx+16) s.mem.length, .sl (nx+21) s.bg.length]]))∧
   (∃d,bf H2 (nx+11)=some (.row 93 19 d (ml s σ.2)))∧(∃d,bf H2 (nx+16)=some (.row 2 1 d (s.mem.map i64)))∧(∃d,bf H2 (nx+21)=some (.row 68 2 d (s.bg.map cF.av)))∧
   (∀q,q<σ.1→∃d,bf H2 (σ.2.getD q 0)=some (.row 125 3 d ((s.core q).buf.map dA.av)))∧∀y,y<nx→bf H2 y=bf H y) (fun σ=>s.bd.length - σ.1) (0,[])
  ⟨_,_,_,Rt.refl _ _ _,cG,Nat.zero_le _,cM,rfl,List.nodup_nil,fun x hx=>(by cases hx),⟨_,bn⟩,⟨_,by dsimp only;rw[h0];exact bn⟩,⟨_,bn⟩,⟨_,bn⟩,fun q hq=>absurd hq (Nat.not_lt_zero _),fun y hy=>cE⟩ ?_
 rintro⟨i,B⟩ H2 n ⟨hi,hn,hBl,hnd,hin,⟨d1,r1'⟩,⟨d2,r2'⟩,⟨d3,r3'⟩,⟨d4,r4⟩,hbs,hk⟩
 dsimp only at hi hBl hnd hin r2' hbs ⊢
 have hml:=GC (s:=s) (B:=B) (by omega)
 by_cases hil:i<s.bd.length
 ·have e0:∀d,(ml s B).getD ((i:Int)).toNat d=(s.core i).frozen:=fun d=>by rw[Int.toNat_natCast,←hBl];exact I5 (by omega) d
  have hbuf:=hlk.buf i hil
  refine cc ?_
  refine aX .any (kJ (es:=(s.core i).buf.map dA.av) (by rw[List.length_map];omega)) ((cD _ _).2 fun _ _=>by simp[cA,cH]) (by simp[cH,cA,cD]) ?_
  refine cc ?_
  simp only[List.length_map]
  have hset:=GD (s:=s) (B:=B) (by omega) (n+16)
  rw[hBl] at hset
  refine⟨(i+1,B++[n+16]),by dsimp only;omega,_,_,_,Rt.refl _ _ _,cG,by dsimp only;omega,cM,by simp[hBl], ?_, ?_,⟨_,bn⟩,⟨_,by dsimp only;rw[←hset];exact bn⟩,⟨_,bn⟩,⟨_,bn⟩, ?_,fun y hy=>Eq.trans cE (hk y hy)⟩
  ·refine List.nodup_append.2 ⟨hnd,by simp,fun a ha b hb=> ?_⟩
   simp only[List.mem_cons,List.not_mem_nil,or_false] at hb
   have:=hin _ ha;omega
  ·intro x hx
   rcases List.mem_append.1 hx with hx|hx
   ·have:=hin _ hx;exact⟨this.1,Nat.lt_of_lt_of_le this.2 cM⟩
   ·simp only[List.mem_cons,List.not_mem_nil,or_false] at hx
    subst hx;exact⟨by omega,cM⟩
  ·intro q hq
   have hq:q<i+1:=hq
   by_cases e:q=i
   ·subst e
    have e2:(B++[n+16]).getD q 0=n+16:=by rw[List.getD,List.getElem?_append_right (by omega),hBl,Nat.sub_self];rfl
    dsimp only
    rw[e2];exact⟨_,bn⟩
   ·obtain⟨d,hd⟩:=hbs q (by omega)
    have e2:(B++[n+16]).getD q 0=B.getD q 0:=by simp[List.getD,List.getElem?_append,show q<B.length by omega]
    have:=hin _ (iR (l:=B) (q:=q) (by omega))
    dsimp only
    rw[e2];exact⟨d,Eq.trans cE hd⟩
 ·obtain rfl:i=s.bd.length:=by omega
  rw[GB hBl] at r2'
  refine cc ?_
  have hno:∀k,k<nx+24→k∉B:=fun k hk h=>by have:=hin _ h;omega
  refine⟨⟨⟨nx+23,nx+11,nx+16,nx+21,B⟩,rfl,⟨⟨_,bn⟩,⟨_,bn⟩,⟨_,bn⟩,⟨_,bn⟩,fun q hq=> ?_,hBl,fun b hb=> ?_, ?_⟩,fun b hb=> ?_,cM,fun y hy=>Eq.trans cE (hk y hy)⟩⟩
  ·obtain⟨d,hd⟩:=hbs q hq
   have:=hin _ (iR (l:=B) (q:=q) (by omega))
   exact⟨d,Eq.trans cE hd⟩
  ·simp only[Lay.ids,List.mem_cons] at hb
   rcases hb with rfl|rfl|rfl|rfl|hb
   ·exact cM
   ·exact cM
   ·exact cM
   ·exact cM
   ·exact Nat.lt_of_lt_of_le (hin _ hb).2 cM
  ·simp only[Lay.ids,List.nodup_cons,List.mem_cons,not_or]
   exact⟨⟨by omega,by omega,by omega,hno _ (by omega)⟩,⟨by omega,by omega,hno _ (by omega)⟩,⟨by omega,hno _ (by omega)⟩,hno _ (by omega),hnd⟩
  ·simp only[Lay.ids,List.mem_cons] at hb
   rcases hb with rfl|rfl|rfl|rfl|hb
   ·show nx≤nx+23;omega
   ·show nx≤nx+11;omega
   ·show nx≤nx+16;omega
   ·show nx≤nx+21;omega
   ·have:=hin _ hb;omega
end Go.Proofs.YtlonbgdonffcbaaGreatDoor
end
section
/- Exploring the machine in plain data. -/
namespace Go.Proofs.YtlonbgdonffcbaaGreatDoor
open Go Go.cU Go.Proofs
set_option linter.unusedSimpArgs false
set_option linter.unusedVariables false
def fO (o:Obj) (s:bk) (x:cV):List cV:=if(ck o s x.kind x.core).2.1.kind=3 then[x,⟨2,x.core⟩] else[x]
def dU (p:Bool) (o:Obj) (s:bk):List (List cV):=if p then((dV o s s.bd.length).filter fun x=>decide (x.kind=1)).map (fO o s) else(dV o s s.bd.length).map fun x=>[x]
def kS (o:Obj):bk→List cV→bk
 |s,[]=>s
 |s,x::l=>kS o (ck o s x.kind x.core).1 l
structure bu where
 m:bk
 from_:Int
 CW:List cV
 deriving Inhabited
abbrev eZ (l:List bu):List (List UInt8):=l.map fun f=>dz f.m
def BY (o:Obj) (most k:Nat) (mv:List cV) (l:List bu):Option (List bu):=
 if dz (kS o (l.getD k default).m mv)∈eZ l then some l
 else if most≤l.length then none
 else some (l++[⟨kS o (l.getD k default).m mv,k,mv⟩])
def rH (o:Obj) (most k:Nat):List (List cV)→List bu→Option (List bu)
 |[],l=>some l
 |mv::ms,l=>match BY o most k mv l with
  |none=>none
  |some l'=>rH o most k ms l'
def qw (p:Bool) (o:Obj) (most:Nat):Nat→Nat→List bu→Option (List bu)
 |0,_,l=>some l
 |n+1,k,l=>if k<l.length then(match rH o most k (dU p o (l.getD k default).m) l with
  |none=>none
  |some l'=>qw p o most n (k+1) l') else some l
def eh (o:Obj):List bu:=[⟨dY o,-1,[]⟩]
def kZ (p:Bool) (o:Obj) (most:Nat):Option (List bu):=qw p o most most 0 (eh o)
theorem BF {o:Obj} {s:bk} {x:cV} {n:Nat} (h:x∈dV o s n):∃q:Nat,q<n∧x.core=q∧(x.kind=1∧(s.core q).halted=false∧eH o.buffer (s.core q) (hC o q (s.core q))=false∨x.kind=2∧(s.core q).buf≠[]):=by
 unfold dV at h
 obtain⟨q,hq,hx⟩:=List.mem_flatMap.1 h
 refine⟨q,List.mem_range.1 hq, ?_⟩
 unfold eo at hx
 rcases List.mem_append.1 hx with hx|hx
 ·split at hx
  ·rename_i h1
   simp only[List.mem_singleton] at hx
   subst hx
   exact⟨rfl, .inl ⟨rfl,h1.1,h1.2⟩⟩
  ·cases hx
 ·split at hx
  ·rename_i h1
   simp only[List.mem_singleton] at hx
   subst hx
   exact⟨rfl, .inr ⟨rfl,fun e=>by rw[e] at h1;simp at h1⟩⟩
  ·cases hx
theorem q0 {o:Obj} {s:bk} {q n:Nat} (hq:q<n) (h1:(s.core q).halted=false) (h2:eH o.buffer (s.core q) (hC o q (s.core q))=false):(⟨1,q⟩:cV)∈dV o s n:=by
 unfold dV
 refine List.mem_flatMap.2 ⟨q,List.mem_range.2 hq, ?_⟩
 unfold eo
 rw[if_pos ⟨h1,h2⟩]
 simp
theorem xU {o:Obj} {s:bk} {q n:Nat} (hq:q<n) (h1:(s.core q).buf≠[]):(⟨2,q⟩:cV)∈dV o s n:=by
 unfold dV
 refine List.mem_flatMap.2 ⟨q,List.mem_range.2 hq, ?_⟩
 unfold eo
 rw[if_pos (c:=0<(s.core q).buf.length) (List.length_pos_iff.2 h1)]
 simp
theorem nq {p:Bool} {o:Obj} {s:bk} {mv:List cV} (h:mv∈dU p o s):∃x∈dV o s s.bd.length,mv=[x]∨p=true∧x.kind=1∧(ck o s x.kind x.core).2.1.kind=3∧mv=[x,⟨2,x.core⟩]:=by
 unfold dU at h
 cases p with
 |false=>
  rw[if_neg (by simp)] at h
  obtain⟨x,hx,rfl⟩:=List.mem_map.1 h
  exact⟨x,hx, .inl rfl⟩
 |true=>
  rw[if_pos rfl] at h
  obtain⟨x,hx,rfl⟩:=List.mem_map.1 h
  rw[List.mem_filter] at hx
  refine⟨x,hx.1, ?_⟩
  unfold fO
  split
  ·rename_i h3;exact .inr ⟨rfl,of_decide_eq_true hx.2,h3,rfl⟩
  ·exact .inl rfl
theorem A3 {p:Bool} {o:Obj} {s:bk} {mv:List cV} (h:mv∈dU p o s):mv.length≤2:=by
 obtain⟨x,_,rfl|⟨_,_,_,rfl⟩⟩:=nq h<;>simp
theorem tF (o:Obj) (s:bk) (k:Int):(ck o s 2 k).1.bg=s.bg:=by
 unfold ck
 rw[if_neg (by decide),if_pos rfl]
 unfold dP
 split
 ·rfl
 ·split<;>rfl
theorem zt {p:Bool} {o:Obj} {s:bk} {mv:List cV} (h:mv∈dU p o s):(kS o s mv).bg.length≤s.bg.length+1:=by
 obtain⟨x,_,rfl|⟨_,_,_,rfl⟩⟩:=nq h
 ·exact lA _ _ _ _
 ·show(ck o (ck o s x.kind x.core).1 2 x.core).1.bg.length≤_
  rw[tF]
  exact lA _ _ _ _
theorem DO {o:Obj} (ok:cx o) (hw:kW o):∀(mv:List cV) {s:bk},oi o s→oi o (kS o s mv)
 |[],s,h=>h
 |x::mv,s,h=>DO ok hw mv (h.step ok hw x.kind x.core)
structure jU (p:Bool) (o:Obj) (l:List bu):Prop where
 pos:0<l.length
 first:l.getD 0 default=⟨dY o,-1,[]⟩
 ok:∀i,i<l.length→oi o (l.getD i default).m∧(l.getD i default).m.bg.length≤i
 HX:∀i,0<i→i<l.length→∃(k:Nat) (mv:List cV),k<i∧mv∈dU p o (l.getD k default).m∧l.getD i default=⟨kS o (l.getD k default).m mv,k,mv⟩
 keys:(eZ l).Nodup
theorem iE {α:Type} {l:List α} {x d:α} {i:Nat} (h:i<l.length):(l++[x]).getD i d=l.getD i d:=by simp[List.getD,List.getElem?_append,h]
theorem zN {α:Type} {l:List α} {x d:α}:(l++[x]).getD l.length d=x:=by simp[List.getD]
theorem ny {α:Type} {l l':List α} {d:α} {i:Nat} (h:l<+:l') (hi:i<l.length):l'.getD i d=l.getD i d:=by
 obtain⟨q,rfl⟩:=h
 simp[List.getD,List.getElem?_append,hi]
theorem fP {α:Type} {l:List α} {j:Nat} (d:α) (h:j<l.length):l.getD j d∈l:=by
 rw[show l.getD j d=l[j] by simp[List.getD,h]];exact List.getElem_mem h
theorem jU.init {p:Bool} {o:Obj} (ok:cx o) (hw:kW o):jU p o (eh o) where
 pos:=by simp[eh]
 first:=rfl
 ok:=fun i hi=>by
  have:i=0:=by simp[eh] at hi;omega
  subst this
  exact⟨oi.init ok hw,Nat.le_refl _⟩
 HX:=fun i hi h=>by simp[eh] at h;omega
 keys:=by simp[eZ,eh]
theorem jU.add {p:Bool} {o:Obj} {l:List bu} (ok:cx o) (hw:kW o) (h:jU p o l) {k:Nat} {mv:List cV} (hk:k<l.length) (hm:mv∈dU p o (l.getD k default).m) (hn:dz (kS o (l.getD k default).m mv)∉eZ l):jU p o (l++[⟨kS o (l.getD k default).m mv,k,mv⟩]) where
 pos:=by simp
 first:=by rw[iE h.pos];exact h.first
 ok:=fun i hi=>by
  rw[List.length_append] at hi
  by_cases e:i<l.length
  ·rw[iE e];exact h.ok i e
  ·have:i=l.length:=by simp at hi;omega
   subst this
   rw[zN]
   obtain⟨h1,h2⟩:=h.ok k hk
   refine⟨DO ok hw mv h1, ?_⟩
   have:=zt hm
   dsimp only
   omega
 HX:=fun i h0 hi=>by
  rw[List.length_append] at hi
  by_cases e:i<l.length
  ·obtain⟨k',t',h1,h2,h3⟩:=h.HX i h0 e
   refine⟨k',t',h1, ?_, ?_⟩
   ·rw[iE (by omega)];exact h2
   ·rw[iE e,iE (by omega)];exact h3
  ·have:i=l.length:=by simp at hi;omega
   subst this
   refine⟨k,mv,hk, ?_, ?_⟩
   ·rw[iE hk];exact hm
   ·rw[zN,iE hk]
 keys:=by
  simp only[eZ,List.map_append,List.map_cons,List.map_nil]
  refine List.nodup_append.2 ⟨h.keys,by simp,fun a ha b hb2=> ?_⟩
  simp only[List.mem_cons,List.not_mem_nil,or_false] at hb2
  subst hb2
  intro e
  exact hn (e▸ha)
theorem JY {p:Bool} {o:Obj} {l l':List bu} {most k:Nat} {mv:List cV} (ok:cx o) (hw:kW o) (h:jU p o l) (hl:l.length≤most) (hk:k<l.length) (hm:mv∈dU p o (l.getD k default).m) (he:BY o most k mv l=some l'):jU p o l'∧l'.length≤most∧l<+:l'∧dz (kS o (l.getD k default).m mv)∈eZ l':=by
 unfold BY at he
 split at he
 ·rename_i h1;cases he;exact⟨h,hl,List.prefix_refl _,h1⟩
 rename_i h2
 split at he
 ·cases he
 ·cases he
  refine⟨h.add ok hw hk hm h2, ?_,List.prefix_append _ _,by simp[eZ]⟩
  simp only[List.length_append,List.length_cons,List.length_nil];omega
theorem vB {l l':List bu} (h:l<+:l') {x:List UInt8} (hx:x∈eZ l):x∈eZ l':=by
 obtain⟨q,rfl⟩:=h
 simp only[eZ,List.map_append,List.mem_append]
 exact .inl hx
theorem zK {p:Bool} {o:Obj} {most k:Nat} (ok:cx o) (hw:kW o) (m:bk):∀{ms:List (List cV)} {l l':List bu},jU p o l→l.length≤most→k<l.length→(l.getD k default).m=m→(∀mv∈ms,mv∈dU p o m)→rH o most k ms l=some l'→jU p o l'∧l'.length≤most∧l<+:l'∧∀mv∈ms,dz (kS o m mv)∈eZ l'
 |[],l,l',h,hl,hk,hm,ht,he=>by cases he;exact⟨h,hl,List.prefix_refl _,by simp⟩
 |mv::ms,l,l',h,hl,hk,hm,ht,he=>by
  rw[rH] at he
  split at he
  ·cases he
  ·rename_i l2 h2
   obtain⟨g1,g2,g3,g4⟩:=JY ok hw h hl hk (by rw[hm];exact ht mv (by simp)) h2
   rw[hm] at g4
   obtain⟨q1,q2,q3,q4⟩:=zK ok hw m g1 g2 (Nat.lt_of_lt_of_le hk g3.length_le) (by rw[ny g3 hk];exact hm) (fun x hx=>ht x (by simp[hx])) he
   refine⟨q1,q2,g3.trans q3,fun x hx=> ?_⟩
   rcases List.mem_cons.1 hx with rfl|hx
   ·exact vB q3 g4
   ·exact q4 x hx
theorem yO {p:Bool} {o:Obj} {most:Nat} (ok:cx o) (hw:kW o):∀{n k:Nat} {l l':List bu},jU p o l→l.length≤most→most≤n+k→(∀i,i<k→i<l.length→∀mv∈dU p o (l.getD i default).m,dz (kS o (l.getD i default).m mv)∈eZ l)→qw p o most n k l=some l'→jU p o l'∧l'.length≤most∧l<+:l'∧∀i,i<l'.length→∀mv∈dU p o (l'.getD i default).m,dz (kS o (l'.getD i default).m mv)∈eZ l'
 |0,k,l,l',h,hl,hn,hc,he=>by cases he;exact⟨h,hl,List.prefix_refl _,fun i hi=>hc i (by omega) hi⟩
 |n+1,k,l,l',h,hl,hn,hc,he=>by
  rw[qw] at he
  split at he
  ·rename_i hk
   split at he
   ·cases he
   ·rename_i l2 h2
    obtain⟨g1,g2,g3,g4⟩:=zK ok hw _ h hl hk rfl (fun mv hx=>hx) h2
    obtain⟨q1,q2,q3,q4⟩:=yO ok hw g1 g2 (by omega) (fun i hi hi2 mv hmv=>by
     by_cases e:i=k
     ·subst e
      rw[ny g3 hk] at hmv ⊢
      exact g4 mv hmv
     ·have hil:i<l.length:=by omega
      rw[ny g3 hil] at hmv ⊢
      exact vB g3 (hc i (by omega) hil mv hmv)) he
    exact⟨q1,q2,g3.trans q3,q4⟩
  ·cases he;exact⟨h,hl,List.prefix_refl _,fun i hi=>hc i (by omega) hi⟩
theorem yQ {p:Bool} {o:Obj} {most:Nat} {l:List bu} (ok:cx o) (hw:kW o) (hm:1≤most) (h:kZ p o most=some l):jU p o l∧l.length≤most∧eh o<+:l∧∀i,i<l.length→∀mv∈dU p o (l.getD i default).m,dz (kS o (l.getD i default).m mv)∈eZ l:=
 yO ok hw (jU.init ok hw) hm (by omega) (fun i hi=>by omega) h
end Go.Proofs.YtlonbgdonffcbaaGreatDoor
end
