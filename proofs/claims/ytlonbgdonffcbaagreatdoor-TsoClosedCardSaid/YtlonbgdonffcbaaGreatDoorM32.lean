import Derived.Test.YtlonbgdonffcbaaGreatDoorM25
import Derived.Test.YtlonbgdonffcbaaGreatDoorM20
import Derived.Test.YtlonbgdonffcbaaGreatDoorM28
import Derived.Test.YtlonbgdonffcbaaGreatDoorM31
import Derived.Test.YtlonbgdonffcbaaGreatDoorM26
section
/- Lists told by value: small words for the ends' texts. -/
namespace Go.Proofs.YtlonbgdonffcbaaGreatDoor
open Go Go.cW Go.Proofs
set_option linter.unusedSimpArgs false
set_option linter.unusedVariables false
abbrev jR (l:List Int):AV:= .im 1 .any (l.map i64)
abbrev dt (l:List cD):AV:= .im 2 .any (l.map cD.av)
abbrev kG (l:List cM):AV:= .im 2 .any (l.map cM.av)
theorem ints_at {l:List Int} {k:Nat} (h:k<l.length) (d:AV):(l.map i64).getD ((k:Int)).toNat d=i64 (l.getD k 0):=by
 rw[Int.toNat_natCast];exact dY i64 l k d h
theorem kJ {a b:Bool} (h:a=b):AV.sc (.bool a)=bl b:=by rw[h]
theorem gS {α:Type} {l:List α} {j:Nat} (d:α) (h:j<l.length):l.getD j d∈l:=by
 rw[show l.getD j d=l[j] by simp[List.getD,h]];exact List.getElem_mem h
theorem getD_set_ne {α:Type} {l:List α} {i j:Nat} {v d:α} (h:i≠j):(l.set i v).getD j d=l.getD j d:=by simp[List.getD,List.getElem?_set_ne h]
end Go.Proofs.YtlonbgdonffcbaaGreatDoor
end
section
/- A fork of a machine. -/
namespace Go.Proofs.YtlonbgdonffcbaaGreatDoor
open Go Go.cW Go.Proofs
set_option linter.unusedSimpArgs false
set_option linter.unusedVariables false
theorem pg {es:List AV} (hsz:es.length * 168≤140737488355328):bw Tryz.prog 91 [.im 19 .any es] [] 0 (gK [] 0 93 19 es):=by
 refine gK.of (by omega) ?_
 refine aO F4 rfl ?_
 cases hes:es with
 |nil=>
  repeat' (first|((with_reducible refine aF ?_);conv=>whnf)|refine aG ?_|exact aC|with_reducible refine aD ?_ ?_|(apply aA;(·exact cA))|refine aH ?_|((with_reducible refine aB ?_ ?_)<;>intro hc<;>(try simp only[List.length_map,ne_eq,dP] at hc)<;>try(exfalso;omega)))
  ·exact⟨.inl ⟨rfl,rfl,cO,dA⟩⟩
  ·exact⟨.inr ⟨_,_,rfl,cO,cO,cO,bo,dA⟩⟩
 |cons x t=>
  rw[hes] at hsz
  simp only[List.length_cons] at hsz
  repeat' (first|((with_reducible refine aF ?_);conv=>whnf)|refine aG ?_|exact aC|with_reducible refine aD ?_ ?_|(apply aA;(·exact cA))|refine aH ?_|((with_reducible refine aB ?_ ?_)<;>intro hc<;>(try simp only[List.length_map,ne_eq,dP] at hc)<;>try(exfalso;omega)))
  ·exact⟨.inr ⟨3,_,(by simp),cO,cO,cO,bo,dA⟩⟩
theorem ph {es:List AV} (hsz:es.length * 168≤140737488355328):bw Tryz.prog 91 [.im 19 .any es] [] 0 (fun r1 H1 _=>∃b d0,r1= .sl b es.length∧bd H1 b=some (.row 93 19 d0 es)):=
 (pg hsz).mono fun r H n ⟨b,d,h1,_,_,_,h2,_⟩=>⟨b,d,h1,h2⟩
def MZ (A B:Lay):Prop:=∀b∈A.ids,b∉B.ids
theorem MZ.symm {A B:Lay} (h:MZ A B):MZ B A:=fun b hb hm=>h b hm hb
theorem MZ.PL {A A' B:Lay} {n:Nat} (h:MZ A B) (hm:∀b,b∈A'.ids→b∈A.ids∨n≤b) (hl:∀b∈B.ids,b<n):MZ A' B:=fun b hb hB=>(hm b hb).elim (fun h1=>h b h1 hB) (fun h1=>by have:=hl b hB;omega)
abbrev mixed (s:bk) (B:List Nat):List AV:=List.zipWith bx.av s.bf B
structure lZ (L:Lay) (s:bk) (H:Hp) (B:List Nat) (i lo n:Nat):Prop where
 len:B.length=s.bf.length
 jV:∀j,i≤j→j<s.bf.length→B.getD j 0=L.cY.getD j 0
 new:∀j,j<i→j<s.bf.length→lo≤B.getD j 0∧B.getD j 0<n∧∃d,bd H (B.getD j 0)=some (.row 125 3 d ((s.core j).buf.map dC.av))
 apart:∀j k,j<k→k<i→k<s.bf.length→B.getD j 0≠B.getD k 0
theorem lZ.next {L:Lay} {s:bk} {H H':Hp} {B:List Nat} {i lo n n' b:Nat} (h:lZ L s H B i lo n) (hi:i<s.bf.length) (hb:n≤b∧b<n') (hlo:lo≤n) (hr:∃d,bd H' b=some (.row 125 3 d ((s.core i).buf.map dC.av))) (hf:∀x,lo≤x→x<n→bd H' x=bd H x):lZ L s H' (B.set i b) (i+1) lo n':=by
 have hib:i<B.length:=by rw[h.len];exact hi
 have same:(B.set i b).getD i 0=b:=by simp[List.getD,hib]
 have ne:∀j,j≠i→(B.set i b).getD j 0=B.getD j 0:=fun j hj=>by simp[List.getD,List.getElem?_set_ne (Ne.symm hj)]
 refine⟨by rw[List.length_set];exact h.len,fun j h1 h2=>by rw[ne j (by omega)];exact h.jV j (by omega) h2,fun j h1 h2=> ?_,fun j k h1 h2 h3=> ?_⟩
 ·by_cases hj:j=i
  ·subst hj;rw[same];exact⟨by omega,by omega,hr⟩
  ·obtain⟨g1,g2,d,g3⟩:=h.new j (by omega) h2
   rw[ne j hj]
   exact⟨g1,by omega,d,(hf _ g1 g2).trans g3⟩
 ·by_cases hk:k=i
  ·subst hk
   rw[same,ne j (by omega)]
   have:=(h.new j (by omega) (by omega)).2.1
   omega
  ·rw[ne k hk,ne j (by omega)]
   exact h.apart j k h1 (by omega) h3
theorem lZ.cL {L:Lay} {s:bk} {H H':Hp} {B:List Nat} {i lo n n':Nat} (h:lZ L s H B i lo n) (hn:n≤n') (hf:∀x,lo≤x→x<n→bd H' x=bd H x):lZ L s H' B i lo n':=
 ⟨h.len,h.jV,fun j h1 h2=>by obtain⟨g1,g2,d,g3⟩:=h.new j h1 h2;exact⟨g1,by omega,d,(hf _ g1 g2).trans g3⟩,h.apart⟩
theorem lZ.mem {L:Lay} {s:bk} {H:Hp} {B:List Nat} {i lo n:Nat} (h:lZ L s H B i lo n) (hi:s.bf.length≤i) {b:Nat} (hb:b∈B):lo≤b∧b<n:=by
 obtain⟨j,hj,rfl⟩:=List.mem_iff_getElem.1 hb
 have hj2:j<s.bf.length:=by rw[←h.len];exact hj
 obtain⟨g1,g2,_⟩:=h.new j (by omega) hj2
 have e:B.getD j 0=B[j]:=by simp[List.getD,hj]
 rw[e] at g1 g2
 exact⟨g1,g2⟩
theorem lZ.nodup {L:Lay} {s:bk} {H:Hp} {B:List Nat} {i lo n:Nat} (h:lZ L s H B i lo n) (hi:s.bf.length≤i):B.Nodup:=by
 refine List.pairwise_iff_getElem.2 fun j k hj hk hjk=> ?_
 have hk2:k<s.bf.length:=by rw[←h.len];exact hk
 have:=h.apart j k hjk (by omega) hk2
 simpa[List.getD,hj,hk] using this
def KO (o:Obj) (s:bk) (H:Hp) (nx:Nat):AV→Hp→Nat→Prop:=fun r H' n=>∃L,r= .pt L.m 1 0 0∧fe o s L H' n∧(∀b∈L.ids,nx≤b)∧nx≤n∧∀b,b<nx→bd H' b=bd H b
end Go.Proofs.YtlonbgdonffcbaaGreatDoor
end
section
/- A fork of a machine that is told by value. -/
namespace Go.Proofs.YtlonbgdonffcbaaGreatDoor
open Go Go.cW Go.Proofs
set_option linter.unusedSimpArgs false
set_option linter.unusedVariables false
set_option maxRecDepth 8000
def mr (s:bk) (B:List Nat):List AV:=List.zipWith bx.av s.bf B++(s.bf.drop B.length).map bx.frozen
theorem GB {s:bk} {B:List Nat} (h:B.length≤s.bf.length):(mr s B).length=s.bf.length:=by simp[mr];omega
theorem nL {s:bk} {B:List Nat} (h:B.length≤s.bf.length):(List.zipWith bx.av s.bf B).length=B.length:=by simp;omega
theorem po {s:bk} {i:Nat} (h:i<s.bf.length):s.core i=s.bf[i]:=by simp[bk.core,List.getD,h]
theorem sX {s:bk} {B:List Nat} (h:B.length<s.bf.length):mr s B=List.zipWith bx.av s.bf B++(s.core B.length).frozen::(s.bf.drop (B.length+1)).map bx.frozen:=by
 unfold mr
 rw[List.drop_eq_getElem_cons h,po h];rfl
theorem I1 {s:bk} {B:List Nat} (h:B.length<s.bf.length) (d:AV):(mr s B).getD B.length d=(s.core B.length).frozen:=by
 rw[sX h,List.getD,List.getElem?_append_right (by rw[nL (by omega)];exact Nat.le_refl _),nL (by omega),Nat.sub_self];rfl
theorem wZ {f:bx→Nat→AV}:∀{l:List bx} {B:List Nat} {b:Nat} (h:B.length<l.length),List.zipWith f l (B++[b])=List.zipWith f l B++[f (l.getD B.length default) b]
 |[],B,b,h=>by simp at h
 |c::l,[],b,h=>by simp
 |c::l,x::B,b,h=>by
  rw[List.cons_append,List.zipWith_cons_cons,List.zipWith_cons_cons,wZ (by simpa using h)];rfl
theorem GC {s:bk} {B:List Nat} (h:B.length<s.bf.length) (b:Nat):(mr s B).set B.length ((s.core B.length).av b)=mr s (B++[b]):=by
 rw[sX h,List.set_append_right _ _ (by rw[nL (by omega)];exact Nat.le_refl _),nL (by omega),Nat.sub_self,List.set_cons_zero]
 unfold mr
 rw[wZ h,List.length_append,List.append_assoc];rfl
theorem GA {s:bk} {B:List Nat} (h:B.length=s.bf.length):mr s B=List.zipWith bx.av s.bf B:=by
 unfold mr
 rw[h,List.drop_length];simp
theorem oO (l:List bx):cG 0 (l.map bx.frozen):=(cF _ _).2 fun _ _=>by simp[cC]
set_option maxHeartbeats 4000000 in
theorem qD {o:Obj} {s:bk} (hlk:eB s) (H:Hp) (nx:Nat):bw Tryz.prog 63 [s.frozen o] H nx (KO o s H nx):=by
 have hc8:=hlk.bf
 have hm4:=hlk.mem
 have hp4:=hlk.bg
 simp only[bk.frozen]
 refine aO FF rfl ?_
 refine ca ?_
 refine aX .any (ph (es:=s.bf.map bx.frozen) (by simp;omega)) (oO _) (by simp only[cG,cC];exact⟨oO _,trivial⟩) ?_
 refine ca ?_
 refine aX .any (fu (es:=s.mem.map i64) (by simp;omega)) ((cF _ _).2 fun _ _=>by simp[cC]) (by simp[cG,cC,cF]) ?_
 refine ca ?_
 refine aX .any (kK (es:=s.bg.map cD.av) (by simp;omega)) ((cF _ _).2 fun _ _=>by simp[cC,cG]) (by simp[cG,cC,cF]) ?_
 refine ca ?_
 simp only[List.length_map]
 have h0:mr s []=s.bf.map bx.frozen:=by simp[mr]
 refine aR (fun σ:Nat×List Nat=>[(3, .pt (nx+23) 1 0 0),(32,i64 s.bf.length),(33,i64 σ.1)])
  (fun σ H2 n=>σ.1≤s.bf.length∧nx+24≤n∧σ.2.length=σ.1∧σ.2.Nodup∧(∀x∈σ.2,nx+24≤x∧x<n)∧(∃d,bd H2 (nx+23)=some (.row 77 8 d [.agg [.sc (.slice none 0 0),i64 o.shared,i64 o.gu,i64 o.buffer, .im 2 .any (o.bf.map Core.av), .sl (nx+11) s.bf.length, .sl (nx+16) s.mem.length, .sl (nx+21) s.bg.length]]))∧
   (∃d,bd H2 (nx+11)=some (.row 93 19 d (mr s σ.2)))∧(∃d,bd H2 (nx+16)=some (.row 2 1 d (s.mem.map i64)))∧(∃d,bd H2 (nx+21)=some (.row 68 2 d (s.bg.map cD.av)))∧
   (∀q,q<σ.1→∃d,bd H2 (σ.2.getD q 0)=some (.row 125 3 d ((s.core q).buf.map dC.av)))∧∀y,y<nx→bd H2 y=bd H y) (fun σ=>s.bf.length - σ.1) (0,[])
  ⟨_,_,_,Rt.refl _ _ _,cH,Nat.zero_le _,cO,rfl,List.nodup_nil,fun x hx=>(by cases hx),⟨_,bo⟩,⟨_,by dsimp only;rw[h0];exact bo⟩,⟨_,bo⟩,⟨_,bo⟩,fun q hq=>absurd hq (Nat.not_lt_zero _),fun y hy=>cE⟩ ?_
 rintro⟨i,B⟩ H2 n ⟨hi,hn,hBl,hnd,hin,⟨d1,r1'⟩,⟨d2,r2'⟩,⟨d3,r3'⟩,⟨d4,r4⟩,hbs,hk⟩
 dsimp only at hi hBl hnd hin r2' hbs ⊢
 have hml:=GB (s:=s) (B:=B) (by omega)
 by_cases hil:i<s.bf.length
 ·have e0:∀d,(mr s B).getD ((i:Int)).toNat d=(s.core i).frozen:=fun d=>by rw[Int.toNat_natCast,←hBl];exact I1 (by omega) d
  have hbuf:=hlk.buf i hil
  refine ca ?_
  refine aX .any (kL (es:=(s.core i).buf.map dC.av) (by rw[List.length_map];omega)) ((cF _ _).2 fun _ _=>by simp[cC,cG]) (by simp[cG,cC,cF]) ?_
  refine ca ?_
  simp only[List.length_map]
  have hset:=GC (s:=s) (B:=B) (by omega) (n+16)
  rw[hBl] at hset
  refine⟨(i+1,B++[n+16]),by dsimp only;omega,_,_,_,Rt.refl _ _ _,cH,by dsimp only;omega,cO,by simp[hBl], ?_, ?_,⟨_,bo⟩,⟨_,by dsimp only;rw[←hset];exact bo⟩,⟨_,bo⟩,⟨_,bo⟩, ?_,fun y hy=>Eq.trans cE (hk y hy)⟩
  ·refine List.nodup_append.2 ⟨hnd,by simp,fun a ha b hb=> ?_⟩
   simp only[List.mem_cons,List.not_mem_nil,or_false] at hb
   have:=hin _ ha;omega
  ·intro x hx
   rcases List.mem_append.1 hx with hx|hx
   ·have:=hin _ hx;exact⟨this.1,Nat.lt_of_lt_of_le this.2 cO⟩
   ·simp only[List.mem_cons,List.not_mem_nil,or_false] at hx
    subst hx;exact⟨by omega,cO⟩
  ·intro q hq
   have hq:q<i+1:=hq
   by_cases e:q=i
   ·subst e
    have e2:(B++[n+16]).getD q 0=n+16:=by rw[List.getD,List.getElem?_append_right (by omega),hBl,Nat.sub_self];rfl
    dsimp only
    rw[e2];exact⟨_,bo⟩
   ·obtain⟨d,hd⟩:=hbs q (by omega)
    have e2:(B++[n+16]).getD q 0=B.getD q 0:=by simp[List.getD,List.getElem?_append,show q<B.length by omega]
    have:=hin _ (kj (l:=B) (q:=q) (by omega))
    dsimp only
    rw[e2];exact⟨d,Eq.trans cE hd⟩
 ·obtain rfl:i=s.bf.length:=by omega
  rw[GA hBl] at r2'
  refine ca ?_
  have hno:∀k,k<nx+24→k∉B:=fun k hk h=>by have:=hin _ h;omega
  refine⟨⟨⟨nx+23,nx+11,nx+16,nx+21,B⟩,rfl,⟨⟨_,bo⟩,⟨_,bo⟩,⟨_,bo⟩,⟨_,bo⟩,fun q hq=> ?_,hBl,fun b hb=> ?_, ?_⟩,fun b hb=> ?_,cO,fun y hy=>Eq.trans cE (hk y hy)⟩⟩
  ·obtain⟨d,hd⟩:=hbs q hq
   have:=hin _ (kj (l:=B) (q:=q) (by omega))
   exact⟨d,Eq.trans cE hd⟩
  ·simp only[Lay.ids,List.mem_cons] at hb
   rcases hb with rfl|rfl|rfl|rfl|hb
   ·exact cO
   ·exact cO
   ·exact cO
   ·exact cO
   ·exact Nat.lt_of_lt_of_le (hin _ hb).2 cO
  ·simp only[Lay.ids,List.nodup_cons,List.mem_cons,not_or]
   exact⟨⟨by omega,by omega,by omega,hno _ (by omega)⟩,⟨by omega,by omega,hno _ (by omega)⟩,⟨by omega,hno _ (by omega)⟩,hno _ (by omega),hnd⟩
  ·simp only[Lay.ids,List.mem_cons] at hb
   rcases hb with rfl|rfl|rfl|rfl|hb
   ·show nx≤nx+23;omega
   ·show nx≤nx+11;omega
   ·show nx≤nx+16;omega
   ·show nx≤nx+21;omega
   ·have:=hin _ hb;omega
end Go.Proofs.YtlonbgdonffcbaaGreatDoor
end
section
/- Exploring the machine in plain data. -/
namespace Go.Proofs.YtlonbgdonffcbaaGreatDoor
open Go Go.cW Go.Proofs
set_option linter.unusedSimpArgs false
set_option linter.unusedVariables false
def fQ (o:Obj) (s:bk) (x:cM):List cM:=if(cn o s x.kind x.core).2.1.kind=3 then[x,⟨2,x.core⟩] else[x]
def dU (p:Bool) (o:Obj) (s:bk):List (List cM):=if p then((dV o s s.bf.length).filter fun x=>decide (x.kind=1)).map (fQ o s) else(dV o s s.bf.length).map fun x=>[x]
def kV (o:Obj):bk→List cM→bk
 |s,[]=>s
 |s,x::l=>kV o (cn o s x.kind x.core).1 l
structure bu where
 m:bk
 from_:Int
 CW:List cM
 deriving Inhabited
abbrev eZ (l:List bu):List (List UInt8):=l.map fun f=>dx f.m
def BY (o:Obj) (most k:Nat) (mv:List cM) (l:List bu):Option (List bu):=
 if dx (kV o (l.getD k default).m mv)∈eZ l then some l
 else if most≤l.length then none
 else some (l++[⟨kV o (l.getD k default).m mv,k,mv⟩])
def rI (o:Obj) (most k:Nat):List (List cM)→List bu→Option (List bu)
 |[],l=>some l
 |mv::ms,l=>match BY o most k mv l with
  |none=>none
  |some l'=>rI o most k ms l'
def qy (p:Bool) (o:Obj) (most:Nat):Nat→Nat→List bu→Option (List bu)
 |0,_,l=>some l
 |n+1,k,l=>if k<l.length then(match rI o most k (dU p o (l.getD k default).m) l with
  |none=>none
  |some l'=>qy p o most n (k+1) l') else some l
def ef (o:Obj):List bu:=[⟨da o,-1,[]⟩]
def lX (p:Bool) (o:Obj) (most:Nat):Option (List bu):=qy p o most most 0 (ef o)
theorem BG {o:Obj} {s:bk} {x:cM} {n:Nat} (h:x∈dV o s n):∃q:Nat,q<n∧x.core=q∧(x.kind=1∧(s.core q).halted=false∧ez o.buffer (s.core q) (iR o q (s.core q))=false∨x.kind=2∧(s.core q).buf≠[]):=by
 unfold dV at h
 obtain⟨q,hq,hx⟩:=List.mem_flatMap.1 h
 refine⟨q,List.mem_range.1 hq, ?_⟩
 unfold ej at hx
 rcases List.mem_append.1 hx with hx|hx
 ·split at hx
  ·rename_i h1
   simp only[List.mem_singleton] at hx
   subst hx
   exact⟨rfl, .inl ⟨rfl,h1.1,h1.2⟩⟩
  ·cases hx
 ·split at hx
  ·rename_i h1
   simp only[List.mem_singleton] at hx
   subst hx
   exact⟨rfl, .inr ⟨rfl,fun e=>by rw[e] at h1;simp at h1⟩⟩
  ·cases hx
theorem q9 {o:Obj} {s:bk} {q n:Nat} (hq:q<n) (h1:(s.core q).halted=false) (h2:ez o.buffer (s.core q) (iR o q (s.core q))=false):(⟨1,q⟩:cM)∈dV o s n:=by
 unfold dV
 refine List.mem_flatMap.2 ⟨q,List.mem_range.2 hq, ?_⟩
 unfold ej
 rw[if_pos ⟨h1,h2⟩]
 simp
theorem xX {o:Obj} {s:bk} {q n:Nat} (hq:q<n) (h1:(s.core q).buf≠[]):(⟨2,q⟩:cM)∈dV o s n:=by
 unfold dV
 refine List.mem_flatMap.2 ⟨q,List.mem_range.2 hq, ?_⟩
 unfold ej
 rw[if_pos (c:=0<(s.core q).buf.length) (List.length_pos_iff.2 h1)]
 simp
theorem nu {p:Bool} {o:Obj} {s:bk} {mv:List cM} (h:mv∈dU p o s):∃x∈dV o s s.bf.length,mv=[x]∨p=true∧x.kind=1∧(cn o s x.kind x.core).2.1.kind=3∧mv=[x,⟨2,x.core⟩]:=by
 unfold dU at h
 cases p with
 |false=>
  rw[if_neg (by simp)] at h
  obtain⟨x,hx,rfl⟩:=List.mem_map.1 h
  exact⟨x,hx, .inl rfl⟩
 |true=>
  rw[if_pos rfl] at h
  obtain⟨x,hx,rfl⟩:=List.mem_map.1 h
  rw[List.mem_filter] at hx
  refine⟨x,hx.1, ?_⟩
  unfold fQ
  split
  ·rename_i h3;exact .inr ⟨rfl,of_decide_eq_true hx.2,h3,rfl⟩
  ·exact .inl rfl
theorem A4 {p:Bool} {o:Obj} {s:bk} {mv:List cM} (h:mv∈dU p o s):mv.length≤2:=by
 obtain⟨x,_,rfl|⟨_,_,_,rfl⟩⟩:=nu h<;>simp
theorem tG (o:Obj) (s:bk) (k:Int):(cn o s 2 k).1.bg=s.bg:=by
 unfold cn
 rw[if_neg (by decide),if_pos rfl]
 unfold dO
 split
 ·rfl
 ·split<;>rfl
theorem zu {p:Bool} {o:Obj} {s:bk} {mv:List cM} (h:mv∈dU p o s):(kV o s mv).bg.length≤s.bg.length+1:=by
 obtain⟨x,_,rfl|⟨_,_,_,rfl⟩⟩:=nu h
 ·exact jI _ _ _ _
 ·show(cn o (cn o s x.kind x.core).1 2 x.core).1.bg.length≤_
  rw[tG]
  exact jI _ _ _ _
theorem DN {o:Obj} (ok:cw o) (hw:kY o):∀(mv:List cM) {s:bk},ot o s→ot o (kV o s mv)
 |[],s,h=>h
 |x::mv,s,h=>DN ok hw mv (h.step ok hw x.kind x.core)
structure kU (p:Bool) (o:Obj) (l:List bu):Prop where
 pos:0<l.length
 first:l.getD 0 default=⟨da o,-1,[]⟩
 ok:∀i,i<l.length→ot o (l.getD i default).m∧(l.getD i default).m.bg.length≤i
 K8:∀i,0<i→i<l.length→∃(k:Nat) (mv:List cM),k<i∧mv∈dU p o (l.getD k default).m∧l.getD i default=⟨kV o (l.getD k default).m mv,k,mv⟩
 keys:(eZ l).Nodup
theorem iB {α:Type} {l:List α} {x d:α} {i:Nat} (h:i<l.length):(l++[x]).getD i d=l.getD i d:=by simp[List.getD,List.getElem?_append,h]
theorem zN {α:Type} {l:List α} {x d:α}:(l++[x]).getD l.length d=x:=by simp[List.getD]
theorem oC {α:Type} {l l':List α} {d:α} {i:Nat} (h:l<+:l') (hi:i<l.length):l'.getD i d=l.getD i d:=by
 obtain⟨q,rfl⟩:=h
 simp[List.getD,List.getElem?_append,hi]
theorem fR {α:Type} {l:List α} {j:Nat} (d:α) (h:j<l.length):l.getD j d∈l:=by
 rw[show l.getD j d=l[j] by simp[List.getD,h]];exact List.getElem_mem h
theorem kU.init {p:Bool} {o:Obj} (ok:cw o) (hw:kY o):kU p o (ef o) where
 pos:=by simp[ef]
 first:=rfl
 ok:=fun i hi=>by
  have:i=0:=by simp[ef] at hi;omega
  subst this
  exact⟨ot.init ok hw,Nat.le_refl _⟩
 K8:=fun i hi h=>by simp[ef] at h;omega
 keys:=by simp[eZ,ef]
theorem kU.add {p:Bool} {o:Obj} {l:List bu} (ok:cw o) (hw:kY o) (h:kU p o l) {k:Nat} {mv:List cM} (hk:k<l.length) (hm:mv∈dU p o (l.getD k default).m) (hn:dx (kV o (l.getD k default).m mv)∉eZ l):kU p o (l++[⟨kV o (l.getD k default).m mv,k,mv⟩]) where
 pos:=by simp
 first:=by rw[iB h.pos];exact h.first
 ok:=fun i hi=>by
  rw[List.length_append] at hi
  by_cases e:i<l.length
  ·rw[iB e];exact h.ok i e
  ·have:i=l.length:=by simp at hi;omega
   subst this
   rw[zN]
   obtain⟨h1,h2⟩:=h.ok k hk
   refine⟨DN ok hw mv h1, ?_⟩
   have:=zu hm
   dsimp only
   omega
 K8:=fun i h0 hi=>by
  rw[List.length_append] at hi
  by_cases e:i<l.length
  ·obtain⟨k',t',h1,h2,h3⟩:=h.K8 i h0 e
   refine⟨k',t',h1, ?_, ?_⟩
   ·rw[iB (by omega)];exact h2
   ·rw[iB e,iB (by omega)];exact h3
  ·have:i=l.length:=by simp at hi;omega
   subst this
   refine⟨k,mv,hk, ?_, ?_⟩
   ·rw[iB hk];exact hm
   ·rw[zN,iB hk]
 keys:=by
  simp only[eZ,List.map_append,List.map_cons,List.map_nil]
  refine List.nodup_append.2 ⟨h.keys,by simp,fun a ha b hb2=> ?_⟩
  simp only[List.mem_cons,List.not_mem_nil,or_false] at hb2
  subst hb2
  intro e
  exact hn (e▸ha)
theorem JV {p:Bool} {o:Obj} {l l':List bu} {most k:Nat} {mv:List cM} (ok:cw o) (hw:kY o) (h:kU p o l) (hl:l.length≤most) (hk:k<l.length) (hm:mv∈dU p o (l.getD k default).m) (he:BY o most k mv l=some l'):kU p o l'∧l'.length≤most∧l<+:l'∧dx (kV o (l.getD k default).m mv)∈eZ l':=by
 unfold BY at he
 split at he
 ·rename_i h1;cases he;exact⟨h,hl,List.prefix_refl _,h1⟩
 rename_i h2
 split at he
 ·cases he
 ·cases he
  refine⟨h.add ok hw hk hm h2, ?_,List.prefix_append _ _,by simp[eZ]⟩
  simp only[List.length_append,List.length_cons,List.length_nil];omega
theorem vD {l l':List bu} (h:l<+:l') {x:List UInt8} (hx:x∈eZ l):x∈eZ l':=by
 obtain⟨q,rfl⟩:=h
 simp only[eZ,List.map_append,List.mem_append]
 exact .inl hx
theorem zK {p:Bool} {o:Obj} {most k:Nat} (ok:cw o) (hw:kY o) (m:bk):∀{ms:List (List cM)} {l l':List bu},kU p o l→l.length≤most→k<l.length→(l.getD k default).m=m→(∀mv∈ms,mv∈dU p o m)→rI o most k ms l=some l'→kU p o l'∧l'.length≤most∧l<+:l'∧∀mv∈ms,dx (kV o m mv)∈eZ l'
 |[],l,l',h,hl,hk,hm,ht,he=>by cases he;exact⟨h,hl,List.prefix_refl _,by simp⟩
 |mv::ms,l,l',h,hl,hk,hm,ht,he=>by
  rw[rI] at he
  split at he
  ·cases he
  ·rename_i l2 h2
   obtain⟨g1,g2,g3,g4⟩:=JV ok hw h hl hk (by rw[hm];exact ht mv (by simp)) h2
   rw[hm] at g4
   obtain⟨q1,q2,q3,q4⟩:=zK ok hw m g1 g2 (Nat.lt_of_lt_of_le hk g3.length_le) (by rw[oC g3 hk];exact hm) (fun x hx=>ht x (by simp[hx])) he
   refine⟨q1,q2,g3.trans q3,fun x hx=> ?_⟩
   rcases List.mem_cons.1 hx with rfl|hx
   ·exact vD q3 g4
   ·exact q4 x hx
theorem yP {p:Bool} {o:Obj} {most:Nat} (ok:cw o) (hw:kY o):∀{n k:Nat} {l l':List bu},kU p o l→l.length≤most→most≤n+k→(∀i,i<k→i<l.length→∀mv∈dU p o (l.getD i default).m,dx (kV o (l.getD i default).m mv)∈eZ l)→qy p o most n k l=some l'→kU p o l'∧l'.length≤most∧l<+:l'∧∀i,i<l'.length→∀mv∈dU p o (l'.getD i default).m,dx (kV o (l'.getD i default).m mv)∈eZ l'
 |0,k,l,l',h,hl,hn,hc,he=>by cases he;exact⟨h,hl,List.prefix_refl _,fun i hi=>hc i (by omega) hi⟩
 |n+1,k,l,l',h,hl,hn,hc,he=>by
  rw[qy] at he
  split at he
  ·rename_i hk
   split at he
   ·cases he
   ·rename_i l2 h2
    obtain⟨g1,g2,g3,g4⟩:=zK ok hw _ h hl hk rfl (fun mv hx=>hx) h2
    obtain⟨q1,q2,q3,q4⟩:=yP ok hw g1 g2 (by omega) (fun i hi hi2 mv hmv=>by
     by_cases e:i=k
     ·subst e
      rw[oC g3 hk] at hmv ⊢
      exact g4 mv hmv
     ·have hil:i<l.length:=by omega
      rw[oC g3 hil] at hmv ⊢
      exact vD g3 (hc i (by omega) hil mv hmv)) he
    exact⟨q1,q2,g3.trans q3,q4⟩
  ·cases he;exact⟨h,hl,List.prefix_refl _,fun i hi=>hc i (by omega) hi⟩
theorem yR {p:Bool} {o:Obj} {most:Nat} {l:List bu} (ok:cw o) (hw:kY o) (hm:1≤most) (h:lX p o most=some l):kU p o l∧l.length≤most∧ef o<+:l∧∀i,i<l.length→∀mv∈dU p o (l.getD i default).m,dx (kV o (l.getD i default).m mv)∈eZ l:=
 yP ok hw (kU.init ok hw) hm (by omega) (fun i hi=>by omega) h
end Go.Proofs.YtlonbgdonffcbaaGreatDoor
end
