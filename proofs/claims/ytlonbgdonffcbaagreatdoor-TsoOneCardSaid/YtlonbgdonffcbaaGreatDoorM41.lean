import Derived.Test.YtlonbgdonffcbaaGreatDoorM40
import Derived.Test.YtlonbgdonffcbaaGreatDoorM37
import Derived.Test.YtlonbgdonffcbaaGreatDoorM21
section
/- The object by which the laws begin, and what exploring it comes to. -/
namespace Go.Proofs.YtlonbgdonffcbaaGreatDoor
open Go Go.cW Go.Proofs
set_option linter.unusedSimpArgs false
set_option linter.unusedVariables false
set_option maxRecDepth 20000
abbrev ME (k:Int):Instr:=⟨k,0,0,0,0,0,0,0,0⟩
def LL (i:Int):List Instr:=[⟨1,0,0,0,0,0,0,1,0⟩,⟨4,0,0,0,0,i,0,0,0⟩,⟨3,0,1,0,0,1 - i,0,0,0⟩,⟨7,0,0,1,0,0,0,0,0⟩,ME 10]
def uZ:Obj:=⟨[0,0],2,0,1,[⟨⟨#[65]⟩,LL 0⟩,⟨⟨#[66]⟩,LL 1⟩]⟩
def kY:Obj:=⟨[7],1,0,1,[⟨⟨#[65]⟩,[ME 7,ME 10]⟩]⟩
theorem C2:Pure Tryz.prog 21 [bl false] (fun r=>r=uZ.av):=fj (by simp[cC]) (by kernel_rfl)
def qh (s:bj):Nat:=(dn s).foldl (fun n c=>n * 256+c.toNat) 1
theorem qi:∀(l:List UInt8) (a b:Nat) (m:List UInt8),0<a→l.foldl (fun n c=>n * 256+c.toNat) a=m.foldl (fun n c=>n * 256+c.toNat) b→l.length=m.length→a=b∧l=m
 |[],a,b,[],_,h,_=>⟨h,rfl⟩
 |[],a,b,y::m,_,_,hl=>by simp at hl
 |x::l,a,b,[],_,_,hl=>by simp at hl
 |x::l,a,b,y::m,ha,h,hl=>by
  simp only[List.foldl_cons] at h
  obtain⟨h1,h2⟩:=qi l _ _ m (by omega) h (by simpa using hl)
  have hx:=x.toNat_lt
  have hy:=y.toNat_lt
  have e:x.toNat=y.toNat:=by omega
  exact⟨by omega,by rw[h2,UInt8.toNat_inj.1 e]⟩
theorem tZ:∀(l:List UInt8) (a:Nat),a * 256^l.length≤l.foldl (fun n c=>n * 256+c.toNat) a
 |[],a=>by simp
 |x::l,a=>by
  have:=tZ l (a * 256+x.toNat)
  rw[List.foldl_cons,List.length_cons,Nat.pow_succ]
  refine Nat.le_trans ?_ this
  rw[Nat.mul_comm (256^l.length),←Nat.mul_assoc]
  exact Nat.mul_le_mul_right _ (by omega)
theorem tY:∀(l:List UInt8) (a:Nat),l.foldl (fun n c=>n * 256+c.toNat) a<(a+1) * 256^l.length
 |[],a=>by simp
 |x::l,a=>by
  have:=tY l (a * 256+x.toNat)
  rw[List.foldl_cons,List.length_cons,Nat.pow_succ]
  refine Nat.lt_of_lt_of_le this ?_
  rw[Nat.mul_comm (256^l.length),←Nat.mul_assoc]
  have:=x.toNat_lt
  exact Nat.mul_le_mul_right _ (by omega)
theorem GM {l m:List UInt8} (h:l.foldl (fun n c=>n * 256+c.toNat) 1=m.foldl (fun n c=>n * 256+c.toNat) 1):l=m:=by
 have hl:l.length=m.length:=by
  have a1:=tZ l 1
  have a2:=tY l 1
  have b1:=tZ m 1
  have b2:=tY m 1
  rw[h] at a1 a2
  rw[Nat.one_mul] at a1 b1
  have p1:256^l.length<256^(m.length+1):=by rw[Nat.pow_succ];omega
  have p2:256^m.length<256^(l.length+1):=by rw[Nat.pow_succ];omega
  have q1:=(Nat.pow_lt_pow_iff_right (a:=256) (by omega)).1 p1
  have q2:=(Nat.pow_lt_pow_iff_right (a:=256) (by omega)).1 p2
  omega
 exact(qi l 1 1 m (by omega) h hl).2
def CT (k:Nat):List (Nat×bu)→Bool
 |[]=>false
 |x::l=>if Nat.beq x.1 k then true else CT k l
theorem pa (s:bj):∀l:List bu,CT (qh s) (l.map fun f=>(qh f.m,f))=true↔dn s∈dU l
 |[]=>by simp[CT,dU]
 |f::l=>by
  rw[List.map_cons,CT]
  simp only[dU,List.map_cons,List.mem_cons]
  have ih:=pa s l
  by_cases h:Nat.beq (qh f.m) (qh s)=true
  ·rw[if_pos h]
   exact⟨fun _=> .inl (GM (Nat.eq_of_beq_eq_true h).symm),fun _=>rfl⟩
  ·rw[if_neg h,ih]
   refine⟨.inr,fun hh=>hh.resolve_left fun e=>h ?_⟩
   have:qh f.m=qh s:=by unfold qh;rw[e]
   rw[this];exact Nat.beq_refl _
def G6 (o:Obj) (most k:Nat) (m:bj):List (List cQ)→List (Nat×bu)→Option (List (Nat×bu))
 |[],l=>some l
 |mv::ms,l=>if CT (qh (jA o m mv)) l then G6 o most k m ms l else if most≤l.length then none else G6 o most k m ms (l++[(qh (jA o m mv),⟨jA o m mv,k,mv⟩)])
def oo (p:Bool) (o:Obj) (most:Nat):Nat→Nat→List (Nat×bu)→Option (List (Nat×bu))
 |0,_,l=>some l
 |n+1,k,l=>match l[k]? with
  |none=>some l
  |some f=>match G6 o most k f.2.m (cy p o f.2.m) l with
   |none=>none
   |some l'=>oo p o most n (k+1) l'
abbrev gH (l:List bu):List (Nat×bu):=l.map fun f=>(qh f.m,f)
theorem tu {o:Obj} {most k:Nat} {m:bj}:∀(ms:List (List cQ)) (l:List bu),k<l.length→(l.getD k default).m=m→G6 o most k m ms (gH l)=(pB o most k ms l).map gH
 |[],l,hk,hm=>rfl
 |mv::ms,l,hk,hm=>by
  rw[G6,pB]
  unfold yQ
  rw[hm]
  by_cases h:dn (jA o m mv)∈dU l
  ·rw[if_pos ((pa _ l).2 h),if_pos h]
   exact tu ms l hk hm
  ·rw[if_neg (fun e=>h ((pa _ l).1 e)),if_neg h]
   rw[List.length_map]
   by_cases h2:most≤l.length
   ·rw[if_pos h2,if_pos h2];rfl
   ·rw[if_neg h2,if_neg h2]
    have:=tu (o:=o) (most:=most) (k:=k) (m:=m) ms (l++[⟨jA o m mv,k,mv⟩]) (by rw[List.length_append];omega) (by rw[gn hk];exact hm)
    rw[←this]
    congr 1
    simp[gH]
theorem yY {p:Bool} {o:Obj} {most:Nat}:∀(n k:Nat) (l:List bu),oo p o most n k (gH l)=(om p o most n k l).map gH
 |0,k,l=>rfl
 |n+1,k,l=>by
  rw[oo,om]
  by_cases hk:k<l.length
  ·rw[if_pos hk]
   have e:(gH l)[k]?=some (qh (l.getD k default).m,l.getD k default):=by
    rw[List.getElem?_map,List.getElem?_eq_getElem hk]
    simp[List.getD,hk]
   rw[e]
   dsimp only
   rw[tu _ l hk rfl]
   cases h:pB o most k (cy p o (l.getD k default).m) l with
   |none=>rfl
   |some l'=>exact yY n (k+1) l'
  ·rw[if_neg hk]
   have e:(gH l)[k]?=none:=by rw[List.getElem?_eq_none];rw[List.length_map];omega
   rw[e];rfl
end Go.Proofs.YtlonbgdonffcbaaGreatDoor
end
section
/- What exploring these objects comes to: the kernel's own answer. -/
namespace Go.Proofs.YtlonbgdonffcbaaGreatDoor
open Go Go.cW Go.Proofs
set_option maxRecDepth 100000
def LX:List Int→List Int→Bool
 |[],[]=>true
 |x::a,y::b=>decide (x=y)&&LX a b
 |_,_=>false
theorem yc:∀a b:List Int,LX a b=true↔a=b
 |[],[]=>by simp[LX]
 |[],y::b=>by simp[LX]
 |x::a,[]=>by simp[LX]
 |x::a,y::b=>by simp[LX,yc a b]
def KP:List cF→List cF→Bool
 |[],[]=>true
 |x::a,y::b=>decide (x.eF=y.eF)&&decide (x.word=y.word)&&KP a b
 |_,_=>false
theorem tR:∀a b:List cF,KP a b=true↔a=b
 |[],[]=>by simp[KP]
 |[],y::b=>by simp[KP]
 |x::a,[]=>by simp[KP]
 |x::a,y::b=>by
  have:x=y↔x.eF=y.eF∧x.word=y.word:=by cases x;cases y;simp
  simp[KP,tR a b,this]
def DO (a b:cM):Bool:=KP a.bh b.bh&&LX a.mem b.mem&&(a.ended==b.ended)
theorem mj (a b:cM):DO a b=true↔a=b:=by
 cases a;cases b
 simp[DO,tR,yc,and_assoc]
def mf (o:Obj) (l:List (Nat×bu)):List cM:=l.filterMap fun f=>if f.2.m.bd.all fW then some (kZ o f.2.m) else none
theorem ud (o:Obj) (l:List bu):mf o (gH l)=dJ o l l.length:=by
 unfold mf dJ
 rw[List.take_length,List.filterMap_map]
 rfl
def PI:cM:=⟨[⟨0,0⟩,⟨1,0⟩],[1,1],true⟩
def PJ:cM:=⟨[⟨1,0⟩,⟨0,0⟩],[1,1],true⟩
def LR (o:Obj) (most:Nat) (a b:cM):Bool:=match oo false o most most 0 (gH (eW o)),oo true o most most 0 (gH (eW o)) with
 |some l,some q=>(mf o l).all (fun e=>(mf o q).any (DO e)||DO e a||DO e b)&&(mf o l).any (DO a)&&(mf o l).any (DO b)&& !((mf o q).any (DO a))&& !((mf o q).any (DO b))
 |_,_=>false
theorem IF:LR uZ 2000 PI PJ=true:=by kernel_rfl
def DK:cM:=⟨[⟨0,0⟩],[7],true⟩
def LP (o:Obj) (most:Nat) (e:cM) (want:List cF):Bool:=match oo true o most most 0 (gH (eW o)),oo false o most most 0 (gH (eW o)) with
 |some l,some q=>(match mf o l with|[x]=>DO x e|_=>false)&&q.any fun f=>KP f.2.m.bh want
 |_,_=>false
theorem C7:LP kY 9 DK [⟨0,0⟩]=true:=by kernel_rfl
theorem LM:fB uZ=true:=by kernel_rfl
theorem JI:fB kY=true:=by kernel_rfl
end Go.Proofs.YtlonbgdonffcbaaGreatDoor
end
section
/- Ends: in order, each once; how many the laws' first object has that are not plain. -/
namespace Go.Proofs.YtlonbgdonffcbaaGreatDoor
open Go Go.cW Go.Proofs
set_option linter.unusedSimpArgs false
set_option linter.unusedVariables false
theorem xA (l:List cM):∀k,∀e∈kT l k,∃j,j<k∧e=l.getD j default
 |0,e,h=>by simp[kT] at h
 |1,e,h=>by simp only[kT,List.mem_cons,List.not_mem_nil,or_false] at h;exact⟨0,by omega,h⟩
 |k+2,e,h=>by
  rw[kT] at h
  split at h
  ·obtain⟨j,h1,h2⟩:=xA l (k+1) e h
   exact⟨j,by omega,h2⟩
  ·rcases List.mem_append.1 h with h|h
   ·obtain⟨j,h1,h2⟩:=xA l (k+1) e h
    exact⟨j,by omega,h2⟩
   ·simp only[List.mem_cons,List.not_mem_nil,or_false] at h
    exact⟨k+1,by omega,h⟩
theorem pJ (l:List cM):∀k j,j<k→l.getD j default∈kT l k
 |0,j,h=>by omega
 |1,j,h=>by
  obtain rfl:j=0:=by omega
  simp[kT]
 |k+2,j,h=>by
  rw[kT]
  split
  ·rename_i e
   by_cases hj:j=k+1
   ·rw[hj,e];exact pJ l (k+1) k (by omega)
   ·exact pJ l (k+1) j (by omega)
  ·by_cases hj:j=k+1
   ·rw[hj];exact List.mem_append.2 (.inr (by simp))
   ·exact List.mem_append.2 (.inl (pJ l (k+1) j (by omega)))
theorem tm {α:Type} {R:α→α→Prop} {l:List α} (h:l.Pairwise R) (d:α) {i j:Nat} (hi:i<j) (hj:j<l.length):R (l.getD i d) (l.getD j d):=by
 have:=List.pairwise_iff_getElem.1 h i j (by omega) hj hi
 simpa[List.getD,hj,show i<l.length by omega] using this
theorem mB {l:List cM} (h:l.Pairwise fun x y=>s4 gJ x y=true):∀k,k≤l.length→(kT l k).Pairwise fun x y=>gJ x y<0
 |0,_=>by simp[kT]
 |1,_=>by simp[kT]
 |k+2,hk=>by
  rw[kT]
  split
  ·exact mB h (k+1) (by omega)
  ·rename_i hne
   refine List.pairwise_append.2 ⟨mB h (k+1) (by omega),by simp,fun a ha b hb=> ?_⟩
   simp only[List.mem_cons,List.not_mem_nil,or_false] at hb
   subst hb
   obtain⟨j,hj,rfl⟩:=xA l _ a ha
   have h1:=tm h default (i:=j) (j:=k+1) (by omega) (by omega)
   have h2:s4 gJ (l.getD j default) (l.getD k default)=true:=by
    by_cases e:j=k
    ·rw[e];simp[s4,(jv.zero _ _).2 rfl]
    ·exact tm h default (by omega) (by omega)
   have h3:=tm h default (i:=k) (j:=k+1) (by omega) (by omega)
   have h4:gJ (l.getD j default) (l.getD (k+1) default)≠0:=fun e=>by
    have e1:=(jv.zero _ _).1 e
    rw[←e1] at h3
    have:=jv.yq h3 h2
    exact hne (by rw[this,←e1])
   simp only[s4,decide_eq_true_eq] at h1
   omega
theorem kA {o:Obj} {l:List bu} {e:cM}:e∈dJ o l l.length↔∃i,i<l.length∧(l.getD i default).m.bd.all fW=true∧e=kZ o (l.getD i default).m:=by
 unfold dJ
 rw[List.take_length,List.mem_filterMap]
 constructor
 ·rintro⟨f,hf,he⟩
  obtain⟨i,hi,rfl⟩:=List.mem_iff_getElem.1 hf
  split at he
  ·rename_i hs
   cases he
   refine⟨i,hi, ?_⟩
   rw[show l.getD i default=l[i] by simp[List.getD,hi]]
   exact⟨hs,rfl⟩
  ·cases he
 ·rintro⟨i,hi,hs,rfl⟩
  refine⟨l.getD i default,eZ default hi, ?_⟩
  rw[if_pos hs]
theorem ru {o:Obj} {l:List bu} {e:cM}:e∈fh o l↔e∈dJ o l l.length:=by
 refine⟨j9,fun h=> ?_⟩
 have h1:=(kO gJ _).mem_iff.2 h
 obtain⟨j,hj,rfl⟩:=List.mem_iff_getElem.1 h1
 have:=pJ (fU gJ (dJ o l l.length)) (dJ o l l.length).length j (by rw[jj] at hj;exact hj)
 rw[show(fU gJ (dJ o l l.length)).getD j default=(fU gJ (dJ o l l.length))[j] by simp[List.getD,hj]] at this
 exact this
theorem mg (o:Obj) (l:List bu):(fh o l).Pairwise fun x y=>gJ x y<0:=mB (jv.sorted _) _ (by rw[jj];exact Nat.le_refl _)
theorem uf (o:Obj) (l:List bu):(fh o l).Nodup:=(mg o l).imp fun h e=>by
 have:=(jv.zero _ _).2 e
 omega
theorem rp {p:Bool} {o:Obj} {most:Int} (h0:(cc p o most).1=0) {e:cM}:e∈fE p o most↔e∈dJ o (cc p o most).2 (cc p o most).2.length:=by
 unfold fE
 rw[if_pos h0];exact ru
theorem A2 {l q:List cM} {e:cM}:e∈lk l q↔e∈l∧e∉q:=by
 unfold lk
 rw[List.mem_filter]
 simp only[Bool.not_eq_true',List.any_eq_false,decide_eq_true_eq]
 refine and_congr_right fun _=>⟨fun h hq=>h e hq rfl,fun h x hx hxe=>h (hxe▸hx)⟩
theorem M9 {l:List cM} (hn:l.Nodup) {a b:cM} (hab:a≠b) (h:∀e,e∈l↔e=a∨e=b):l.length=2:=by
 have hp:l.Perm [a,b]:=(List.perm_ext_iff_of_nodup hn (by simp[hab])).2 fun e=>by rw[h];simp
 exact hp.length_eq
theorem mi {l:List cM} {a:cM}:l.any (DO a)=true↔a∈l:=by
 rw[List.any_eq_true]
 refine⟨fun⟨x,hx,h⟩=>(mj _ _).1 h▸hx,fun h=>⟨a,h,(mj _ _).2 rfl⟩⟩
theorem mh {p:Bool} {o:Obj} {most:Nat} (hok:fB o=true) (hm:1≤(most:Int)∧(most:Int)≤65536) {l:List (Nat×bu)} (h:oo p o most most 0 (gH (eW o))=some l):(cc p o (most:Int)).1=0∧l=gH (cc p o (most:Int)).2:=by
 rw[yY] at h
 have h2:(iz p o most).map gH=some l:=h
 cases hT:iz p o most with
 |none=>rw[hT] at h2;cases h2
 |some q=>
  rw[hT] at h2
  cases h2
  rw[yZ (l:=q) hok hm (by rw[Int.toNat_natCast];exact hT)]
  exact⟨rfl,rfl⟩
theorem LN:uZ.Wf where
 mem:=fun x hx=>by simp[uZ] at hx;subst hx;exact⟨by omega,by omega⟩
 GF:=by decide
 shared:=⟨by decide,by decide⟩
 iA:=⟨by decide,by decide⟩
 buffer:=⟨by decide,by decide⟩
 bd:=fun c hc=>by
  simp only[uZ,List.mem_cons,List.not_mem_nil,or_false] at hc
  rcases hc with rfl|rfl
  all_goals
   refine⟨by decide,fun i hi=> ?_,by decide⟩
   simp only[LL,List.mem_cons,List.not_mem_nil,or_false] at hi
   rcases hi with rfl|rfl|rfl|rfl|rfl<;>exact⟨by decide,by decide,⟨by decide,by decide⟩,⟨by decide,by decide⟩,⟨by decide,by decide⟩,⟨by decide,by decide⟩,⟨by decide,by decide⟩,⟨by decide,by decide⟩,⟨by decide,by decide⟩⟩
 ma:=by decide
theorem zO:kY.Wf where
 mem:=fun x hx=>by simp[kY] at hx;subst hx;exact⟨by omega,by omega⟩
 GF:=by decide
 shared:=⟨by decide,by decide⟩
 iA:=⟨by decide,by decide⟩
 buffer:=⟨by decide,by decide⟩
 bd:=fun c hc=>by
  simp only[kY,List.mem_cons,List.not_mem_nil,or_false] at hc
  subst hc
  refine⟨by decide,fun i hi=> ?_,by decide⟩
  simp only[List.mem_cons,List.not_mem_nil,or_false] at hi
  rcases hi with rfl|rfl<;>exact⟨by decide,by decide,⟨by decide,by decide⟩,⟨by decide,by decide⟩,⟨by decide,by decide⟩,⟨by decide,by decide⟩,⟨by decide,by decide⟩,⟨by decide,by decide⟩,⟨by decide,by decide⟩⟩
 ma:=by decide
theorem KF {o:Obj} {most:Nat} (hok:fB o=true) (hm:1≤(most:Int)∧(most:Int)≤65536) {a b:cM} (hab:a≠b) (h:LR o most a b=true):(cc false o (most:Int)).1=0∧(oe o (most:Int)).length=2:=by
 unfold LR at h
 revert h
 cases h1:oo false o most most 0 (gH (eW o)) with
 |none=>intro h;cases h
 |some l=>
  cases h2:oo true o most most 0 (gH (eW o)) with
  |none=>intro h;cases h
  |some q=>
   intro h
   obtain⟨e1,rfl⟩:=mh hok hm h1
   obtain⟨e2,rfl⟩:=mh hok hm h2
   refine⟨e1, ?_⟩
   simp only[ud,Bool.and_eq_true,Bool.not_eq_true'] at h
   obtain⟨⟨⟨⟨g1,g2⟩,g3⟩,g4⟩,g5⟩:=h
   have g2:=mi.1 g2
   have g3:=mi.1 g3
   have g4:a∉dJ o (cc true o most).2 (cc true o most).2.length:=fun hh=>by rw[mi.2 hh] at g4;cases g4
   have g5:b∉dJ o (cc true o most).2 (cc true o most).2.length:=fun hh=>by rw[mi.2 hh] at g5;cases g5
   have hw:oe o most=lk (fh o (cc false o most).2) (fE true o most):=by unfold oe;rw[if_pos e1]
   refine M9 (a:=a) (b:=b) ?_ hab fun e=> ?_
   ·rw[hw];exact(uf _ _).filter _
   ·rw[hw,A2,ru,rp e2]
    constructor
    ·rintro⟨m1,m2⟩
     have:=List.all_eq_true.1 g1 e m1
     simp only[Bool.or_eq_true] at this
     rcases this with(h|h)|h
     ·exact absurd (mi.1 h) m2
     ·exact .inl ((mj _ _).1 h)
     ·exact .inr ((mj _ _).1 h)
    ·rintro(rfl|rfl)
     ·exact⟨g2,g4⟩
     ·exact⟨g3,g5⟩
theorem GY {o:Obj} {most:Nat} (hok:fB o=true) (hm:1≤(most:Int)∧(most:Int)≤65536) {e:cM} {want:List cF} (h:LP o most e want=true):(cc true o (most:Int)).1=0∧fE true o (most:Int)=[e]∧(cc false o (most:Int)).1=0∧qt o (most:Int) want=true:=by
 unfold LP at h
 revert h
 cases h1:oo true o most most 0 (gH (eW o)) with
 |none=>intro h;cases h
 |some l=>
  cases h2:oo false o most most 0 (gH (eW o)) with
  |none=>intro h;cases h
  |some q=>
   intro h
   obtain⟨e1,rfl⟩:=mh hok hm h1
   obtain⟨e2,rfl⟩:=mh hok hm h2
   simp only[ud,Bool.and_eq_true] at h
   obtain⟨g1,g2⟩:=h
   refine⟨e1, ?_,e2, ?_⟩
   ·have:dJ o (cc true o most).2 (cc true o most).2.length=[e]:=by
     revert g1
     cases dJ o (cc true o most).2 (cc true o most).2.length with
     |nil=>intro h;cases h
     |cons x t=>
      cases t with
      |nil=>intro h;rw[(mj _ _).1 h]
      |cons y t=>intro h;cases h
    unfold fE
    rw[if_pos e1]
    unfold fh
    rw[this]
    simp[fU,kT]
   ·unfold qt
    rw[List.any_eq_true] at g2 ⊢
    obtain⟨f,hf,hp⟩:=g2
    obtain⟨f',hf',rfl⟩:=List.mem_map.1 hf
    exact⟨f',hf',decide_eq_true ((tR _ _).1 hp)⟩
theorem C3:(cc false uZ ((2000:Nat):Int)).1=0∧(oe uZ ((2000:Nat):Int)).length=2:=KF LM (by omega) (by decide) IF
theorem xe:(cc true kY ((9:Nat):Int)).1=0∧fE true kY ((9:Nat):Int)=[DK]∧(cc false kY ((9:Nat):Int)).1=0∧qt kY ((9:Nat):Int) [⟨0,0⟩]=true:=GY JI (by omega) C7
end Go.Proofs.YtlonbgdonffcbaaGreatDoor
end
section
/- How the laws begin: the walk. -/
namespace Go.cW
open Go.RowKit
section
variable {P:Program} {n lo:Nat} {fr:Fr} {H:Hp} {nx:Nat} {Q:QT}
theorem WL.rt {lc:LC} {fr2:Fr} {H2:Hp} {nx2:Nat} (hw:Rt fr H nx fr2 H2 nx2) (h:WL P n lo lc fr2 H2 nx2 Q):WL P n lo lc fr H nx Q:=
 fun code hc w0 M0 c0 a w hh=>h code hc w0 M0 c0 a w (hw _ _ _ _ _ _ _ hh)
theorem WL.cut {a b:LC} (h:Go (W P n lo a fr H nx (jP (fun fr' H' nx'=>∃fr2 H2 nx2,Rt fr' H' nx' fr2 H2 nx2∧WL P n lo b fr2 H2 nx2 Q) Q))):WL P n lo (.seq a b) fr H nx Q:=
 WL.seq ((fD h).mono fun e fr H nx hh=>by
  cases e with
  |normal=>
   obtain⟨fr2,H2,nx2,h1,h2⟩:=hh
   exact WL.rt h1 h2
  |exit id=>exact hh
  |ret=>exact hh)
theorem bR {f:FuncId} {args:List AV} {R:AV→Hp→Nat→Prop} (X:dB P f) (ha:Nat.ble args.length X.n=true) (h:WL P X.n nx X.lc (iZ 0 args) H nx (wU X.rs R)):bx P f args H nx R:=by
 obtain⟨fn,h1,h2,h3,h4,h5⟩:=X.ok
 have h6:X.n=fn.ntmps:=h5
 rw[h6] at h ha
 exact bx.jf h1 h2 h3 h4 (Nat.le_of_ble_eq_true ha) (h.mono fun _ _ _ _=>zX)
theorem aq {lc:LC} {b:Nat} {q:Option dz} (h:bf H b=q) (k:∀H2:Hp,bf H2 b=q→Go (W P n lo lc fr H2 nx Q)):W P n lo lc fr H nx Q:=k H h
end
end Go.cW
namespace Go.Proofs.YtlonbgdonffcbaaGreatDoor
open Go Go.cW Go.Proofs
set_option linter.unusedSimpArgs false
set_option linter.unusedVariables false
set_option maxRecDepth 8000
theorem zn {o1:Obj} {wk:List cM} (c0:Pure Tryz.prog 21 [bl false] (fun r=>r=o1.av)) (c1:Pure Tryz.prog 17 [o1.av,i64 2000] (fun r=>r= .dF [eO wk,i64 0])) (hwk:wk.length=2)
 (c2:Pure Tryz.prog 22 [kY.av,i64 9] (fun r=>r= .dF [eO [DK],i64 0])) (c3:Pure Tryz.prog 11 [kY.av,i64 9,dy [⟨0,0⟩]] (fun r=>r= .dF [bl true,i64 0])):Pure Tryz.prog 7 [] (fun r=>r=bl true):=by
 have hfw:=iV wk
 refine cz ?_ (by simp[cC])
 refine bR OG rfl ?_
 refine WL.cut ?_
 refine cm ?_
 refine⟨_,_,_,Rt.refl _ _ _,WL.cut ?_⟩
 refine cm ?_
 refine⟨_,_,_,Rt.refl _ _ _,WL.cut ?_⟩
 refine cm ?_
 refine⟨[(1,eO wk),(2,i64 0),(3, .pt 13 1 0 0)],_,_,(Rt.wk (Wk.gY (cb:=13) (jk [6,9,11] _) 5 .any rfl fun b q hq=>sk hq)).trans (Rt.less cL),fD ?_⟩
 refine aq (b:=13) (q:=some (.row 25 5 .any [kY.av])) rfl ?_
 intro H2 r3
 refine cm ?_
 refine aW c3 (by rfl) (by simp[cG,cC]) (by simp[jG]) ?_
 have r0:decide (((wk.map cM.av).length:Int)=2)=true:=by rw[List.length_map,hwk];rfl
 have a0:(DK.mem.map i64).length=1:=rfl
 have e0:∀d,(DK.mem.map i64).getD (0:Int).toNat d=i64 7:=fun _=>rfl
 refine cm ?_
 exact⟨rfl⟩
theorem uV:Pure Tryz.prog 7 [] (fun r=>r=bl true):=by
 obtain⟨w1,w2⟩:=C3
 obtain⟨p1,p2,p3,p4⟩:=xe
 have c1:=K0 LN ((2000:Nat):Int)
 have c2:=GX zO ((9:Nat):Int)
 have c3:=MX zO ((9:Nat):Int) [⟨0,0⟩] (by simp)
 rw[w1] at c1
 rw[p1,p2] at c2
 rw[p3,p4] at c3
 exact zn C2 c1 w2 c2 c3
end Go.Proofs.YtlonbgdonffcbaaGreatDoor
end
section
/- Has, stands: the walks. -/
namespace Go.Proofs.YtlonbgdonffcbaaGreatDoor
open Go Go.cW Go.Proofs
set_option linter.unusedSimpArgs false
set_option linter.unusedVariables false
set_option maxRecDepth 8000
end Go.Proofs.YtlonbgdonffcbaaGreatDoor
end
section
/- One core: one end at most, and it is plain. -/
namespace Go.Proofs.YtlonbgdonffcbaaGreatDoor
open Go Go.cW Go.Proofs
set_option linter.unusedSimpArgs false
set_option linter.unusedVariables false
set_option maxRecDepth 8000
theorem jz {s:bj}:s.bd.all fW=true↔lu s:=by
 rw[List.all_eq_true]
 constructor
 ·intro h q hq
  have:=h _ (pI hq)
  simpa[fW] using this
 ·intro h c hc
  obtain⟨q,hq,rfl⟩:=List.mem_iff_getElem.1 hc
  have:=h q hq
  rw[qB hq] at this
  simpa[fW] using this
theorem JM {o:Obj} (ho:o.Wf) (most:Int) (h1:o.bd.length=1):(fE false o most).length≤1∧oe o most=[]:=by
 unfold fE oe
 by_cases h0:(cc false o most).1=0
 ·rw[if_pos h0,if_pos h0]
  obtain⟨ok,hf,hl⟩:=pF ho h0
  obtain⟨hok,hm,hT⟩:=tC h0
  have hw:=ho.words
  obtain⟨lp,hTp⟩:=BM ok hw h1 (by omega) hT
  have hqp:=yZ (p:=true) hok hm hTp
  have hre:=hf.reach
  constructor
  ·have hs:=mg o (cc false o most).2
   match hE:fh o (cc false o most).2,hs with
   |[],_=>simp
   |[x],_=>simp
   |x::y::t,hs=>
    exfalso
    have hx:x∈fh o (cc false o most).2:=by rw[hE];simp
    have hy:y∈fh o (cc false o most).2:=by rw[hE];simp
    obtain⟨i,hi,ei,rfl⟩:=kA.1 (j9 hx)
    obtain⟨j,hj,ej,rfl⟩:=kA.1 (j9 hy)
    obtain⟨q1,q2⟩:=GR ok hw h1 (hre i hi) (hre j hj) (jz.1 ei) (jz.1 ej)
    have:kZ o ((cc false o most).2.getD i default).m=kZ o ((cc false o most).2.getD j default).m:=by unfold kZ;rw[q1,q2]
    have h3:=List.pairwise_cons.1 hs
    have:=h3.1 _ (List.mem_cons_self ..)
    rw[show kZ o ((cc false o most).2.getD i default).m=kZ o ((cc false o most).2.getD j default).m from by assumption,(jv.zero _ _).2 rfl] at this
    omega
  ·unfold lk
   rw[List.filter_eq_nil_iff]
   intro e he
   obtain⟨i,hi,ei,rfl⟩:=kA.1 (j9 he)
   obtain⟨j,hj,q1,q2,q3⟩:=JL ok hw h1 (by omega) hTp (hre i hi) (jz.1 ei)
   have hmem:kZ o ((cc false o most).2.getD i default).m∈fE true o most:=by
    rw[rp (by rw[hqp]),hqp]
    refine kA.2 ⟨j,hj,jz.2 q3, ?_⟩
    unfold kZ;rw[q1,q2]
   simp only[Bool.not_eq_true',Bool.not_eq_false,List.any_eq_true,decide_eq_true_eq]
   exact⟨_,hmem,rfl⟩
 ·rw[if_neg h0,if_neg h0]
  exact⟨by simp,rfl⟩
theorem GS {o:Obj} (ho:o.Wf) (most:Int):Pure Tryz.prog 5 [o.av,i64 most] (fun r=>r=bl true):=by
 have c0:=uV
 have c1:=N6 ho most
 have c2:=K0 ho most
 have hf1:=iV (fE false o most)
 have a0:(o.bd.map Core.av).length=o.bd.length:=List.length_map _
 by_cases h1:o.bd.length=1
 ·obtain⟨w1,w2⟩:=JM ho most h1
  rw[w2] at c2
  have a1:((fE false o most).map cM.av).length≤1:=by rw[List.length_map];exact w1
  generalize fE false o most=es at *
  generalize (cc false o most).1=er at *
  have r0:decide (((o.bd.map Core.av).length:Int)=1)=true:=by rw[a0,h1];rfl
  refine aI NO rfl ?_
  refine cm ?_
  have r1:decide (((es.map cM.av).length:Int)≤1)=true:=decide_eq_true (by omega)
  refine oQ ?_
  rw[r1]
  rfl
 ·have r0:decide (((o.bd.map Core.av).length:Int)≠1)=true:=by rw[a0];exact decide_eq_true (by omega)
  refine aI NO rfl ?_
  refine cm ?_
  trivial
end Go.Proofs.YtlonbgdonffcbaaGreatDoor
end
section
/- Of one core there is one end at most, and none is weak: for every object and every cap. No conditions. -/
namespace Go.Proofs.YtlonbgdonffcbaaGreatDoor
open Go Go.cW Go.Proofs Go.RowKit Go.ChangeShapes Go.WideShapes Go.ChangeAt
set_option linter.unusedSimpArgs false
set_option linter.unusedVariables false
set_option maxRecDepth 100000 in
theorem rU (os:Os) (started:os.Started) (H:Type) (enc:TypeId×Value→H):
 ReturnsInHanded {} Tryz.checked os 5 .any (fun w args=>(Rows.tsoOneSpec.pre enc Tryz.prog Tryz.f5 [] false w args∧laidMetH Tryz.prog vO w)∧sizedMet enc Tryz.prog Tryz.f5 (OpenSpec.ofChange Rows.tsoOneSpec) false w args) (Rows.tsoOneSpec.post enc Tryz.prog Tryz.f5 false true false false):=by
 refine returnsInHanded_of_change_and (C:=Tryz.checked) (X:=fun w _=>laidMetH Tryz.prog vO w) (fun _ _ _ hh h=>h.of_heap hh) own started (by kernel_rfl) Tryz.func5
  (ChangeSpec.witness_shaped (enc:=enc) (C:=Tryz.checked) (os:=os) (X:=fun w _=>laidMetH Tryz.prog vO w) false (World.doorLaid Tryz.prog 400 os) #[.agg #[.slice none 0 0, .int .i64 0, .int .i64 0, .int .i64 0, .slice none 0 0], .int .i64 0] 8 rfl (World.shaped_of_RefB (by kernel_rfl) (by kernel_rfl)) (by kernel_rfl) (by kernel_rfl) (by kernel_rfl) (DH os _)) ?_
 intro W base args ds gs before hval hW _ hr hL _
 refine tW (ts:=[25,3]) (tb:=4) laidOut (by kernel_rfl) rfl Tryz.underlying4 (by kernel_rfl) (fun ds h=> ?_) (fun t ht=> ?_)
  (ll (ag:=true) (by kernel_rfl) BN (fun h=>by cases h) (ll (ag:=false) (by kernel_rfl) (dt Tryz.underlying3) (fun _ _ _=>rfl) tc))
  (fun a h=> ?_) hval hW hr (JH hL)
 ·match ds,h with
  |[d0,d1],_=>rfl
 ·have:∀t∈[25,3],Tryz.prog.readableRec t=true∧t<Tryz.prog.types.size:=by
   simp only[List.forall_mem_cons]
   refine⟨⟨by kernel_rfl,of_decide_eq_true (by kernel_rfl)⟩,⟨by kernel_rfl,of_decide_eq_true (by kernel_rfl)⟩,by simp⟩
  exact this t ht
 ·exact GS (o:=a.1) h.1 a.2.1
theorem yR:Rows.TsoOneSaid:=
 OpenClaim.holds_of_wide 5 Tryz.f5 rfl rfl rfl rfl rfl rfl rfl ⟨rfl,rfl,rfl,rfl,rfl⟩ rfl rfl rfl rfl rfl (by kernel_rfl) Tryz.func5 (by kernel_rfl)
  (of_decide_eq_true (by kernel_rfl)) (by unfold Func.isWrapper;first|(rw[if_pos (by decide+kernel)];kernel_rfl)|(rw[if_neg (by decide+kernel)];exact⟨rfl,rfl⟩))
  (fun os started H enc _=>rU os started H enc)
set_option maxRecDepth 100000 in
theorem tsoOne_holds:Rows.TsoOneCardSaid:=
 Claim7.holds_tied_plain_at .later [] [.data, .data, .data] true (true, "d4ad994dce242371731b714917e4b718e5faa8c908ab88b1ad48a85915cf5659") false
  yR (fun _ h=>by cases h) (by kernel_rfl) (fun _ h=>by cases h) tsoOne_row_tie rfl ⟨rfl,rfl⟩ (by kernel_rfl) rfl
  (fun f fn hf hfn=>by
   obtain rfl:f=5:=Option.some.inj ((show Tryz.prog.funcNamed "stile/stilelaw20.TsoOne" =some 5 by kernel_rfl).symm.trans hf)|>.symm
   obtain rfl:fn=Tryz.f5:=(Option.some.inj (Tryz.func5.symm.trans hfn)).symm
   exact⟨by kernel_rfl,fun j t ht=>by
    rw[show Tryz.f5.params=#[25,3] by kernel_rfl] at ht
    have hm:t∈[25,3]:=by simpa using Array.mem_of_getElem? ht
    have hall:([25,3].all fun u=> !Tryz.prog.wantsStandIn u)=true:=by kernel_rfl
    exact(show Tryz.prog.wantsStandIn t=false by simpa using List.all_eq_true.1 hall t hm)⟩)
  (by kernel_rfl)
end Go.Proofs.YtlonbgdonffcbaaGreatDoor
end
