import Derived.Test.YtlonbgdonffcbaaGreatDoorM40
import Derived.Test.YtlonbgdonffcbaaGreatDoorM37
import Derived.Test.YtlonbgdonffcbaaGreatDoorM21
section
/- Way: the walk. -/
namespace Go.Proofs.YtlonbgdonffcbaaGreatDoor
open Go Go.cY Go.Proofs
set_option linter.unusedSimpArgs false
set_option linter.unusedVariables false
set_option maxRecDepth 8000
def ot (o:Obj) (e:cL) (s:bk):Bool:=s.bg.all fZ&&decide (jl o s=e)
def kW (o:Obj) (l:List bw) (e:cL) (k:Nat):Option Nat:=(List.range k).find? fun i=>ot o e (l.getD i default).m
theorem qc (o:Obj) (l:List bw) (e:cL) (k:Nat):kW o l e (k+1)=match kW o l e k with
 |some i=>some i
 |none=>if ot o e (l.getD k default).m=true then some k else none:=by
 unfold kW
 rw[List.range_succ,List.find?_append]
 cases(List.range k).find? fun i=>ot o e (l.getD i default).m with
 |some i=>rfl
 |none=>
  simp only[Option.none_or,List.find?_cons,List.find?_nil]
  split<;>simp_all
theorem xk {o:Obj} {l:List bw} {e:cL} {k i:Nat} (h:kW o l e k=some i):∀n,k≤n→kW o l e n=some i:=by
 intro n hn
 obtain⟨d,rfl⟩:∃d,n=k+d:=⟨n - k,by omega⟩
 induction d with
 |zero=>exact h
 |succ d ih=>
  rw[←Nat.add_assoc,qc,ih (by omega)]
def PL (l:List bw):Option Nat→List cC
 |none=>[]
 |some i=>(jH l i).reverse
def yi (o:Obj) (most:Int) (e:cL):List cC:=PL (cX false o most).2 (kW o (cX false o most).2 e (cX false o most).2.length)
def KZ (o:Obj) (most:Int) (e:cL):Bool:=(kW o (cX false o most).2 e (cX false o most).2.length).isSome
def CZ (o:Obj) (l:List bw) (e:cL):AV:=match kW o l e l.length with
 |none=> .dB [iw,bl false,i64 0]
 |some i=> .dB [gM (jH l i).reverse,bl true,i64 0]
theorem sa (l:List cC):cJ 0 (l.map cC.av):=(cI _ _).2 fun _ _=>by simp[cB,cJ]
theorem uA (l:List cC) (b:Bool) (e:Int):cB 0 (.dB [gM l,bl b,i64 e]):=by
 have:=sa l
 simp only[cB,cJ]
 exact⟨this,trivial,trivial,trivial⟩
set_option maxHeartbeats 2000000 in
theorem NX {o:Obj} (ho:o.Wf) (most:Int) {e:cL} (he1:e.bh.length<9223372036854775807) (he2:e.mem.length<9223372036854775807) (h0:(cX false o most).1=0):Pure Tryz.prog 19 [o.av,i64 most,e.av] (fun r=>r=CZ o (cX false o most).2 e):=by
 have c0:=qB (p:=false) ho (fun ok=>lX ok) most
 obtain⟨ok,hfs,hll⟩:=mi ho h0
 obtain⟨hok,_,_⟩:=pS h0
 have hsh:=oU hok
 rw[h0] at c0
 generalize (cX false o most).2=l at *
 refine cq ?_ (by unfold CZ;split;simp[cB,cJ];exact uA _ _ _)
 refine aO BN rfl ?_
 refine ca ?_
 rw[List.length_map]
 refine aQ (fun k:Nat=>[(3, .pt 0 1 0 0),(5, .pt 1 1 0 0),(9,fN o l),(23,fN o l),(24,i64 l.length),(25,i64 k)])
  (fun k H n=>k≤l.length∧2≤n∧kW o l e k=none∧(∃d,bf H 0=some (.row 25 5 d [o.av]))∧∃d,bf H 1=some (.row 48 3 d [e.av])) (fun k=>l.length - k) 0
  ⟨_,_,_,Rt.refl _ _ _,cG,Nat.zero_le _,cO,rfl,⟨_,bo⟩,⟨_,bo⟩⟩ ?_
 rintro k H n ⟨hk,hn,hhit,⟨d0,r0'⟩,⟨d1,r1'⟩⟩
 have a0:(l.map (bw.av o)).length=l.length:=List.length_map _
 by_cases hkl:k<l.length
 ·have e0:∀d,(l.map (bw.av o)).getD ((k:Int)).toNat d= .agg [(l.getD k default).m.frozen o,i64 (l.getD k default).from_,kj (l.getD k default).xE]:=fun d=>by rw[Int.toNat_natCast,dR (bw.av o) l k d hkl];rfl
  obtain⟨hm,hp⟩:=hfs.ok k hkl
  have hlk:=hm.look ok (by omega)
  have hgm:=hm.iE.mem
  have hml:=hlk.mem
  have hsu:=qc o l e k
  rw[hhit] at hsu
  dsimp only at hsu
  generalize hs:(l.getD k default).m=s at *
  have c1:=my o s hlk.bg
  have c2:=zj (o:=o) hlk (by rw[hgm];exact hsh)
  have c3:=mQ (jl o s) e (by show s.bh.length<_;omega) (by show(s.mem.take _).length<_;rw[List.length_take];omega)
  simp only[lP] at c3
  simp only[bk.frozen] at c1 c2
  cases hen:s.bg.all fZ with
  |false=>
   rw[hen] at c1
   rw[if_neg (by unfold ot;rw[hen];simp)] at hsu
   refine ca ?_
   exact⟨k+1,by omega,_,_,_,Rt.refl _ _ _,cG,by omega,cO,hsu,⟨_,bo⟩,⟨_,bo⟩⟩
  |true=>
   rw[hen] at c1
   by_cases hc:jl o s=e
   ·rw[if_pos (by unfold ot;rw[hen,decide_eq_true hc];rfl)] at hsu
    rw[decide_eq_true hc] at c3
    refine ca ?_
    have hres:CZ o l e= .dB [gM (jH l k).reverse,bl true,i64 0]:=by
     unfold CZ
     rw[xk hsu l.length (by omega)]
    rw[hres]
    clear hres c0 c1 c2 c3 e0 r0' r1' hsu hhit hlk hgm hml hp hm
    refine aQ (fun σ:Nat×List cC=>[(9,fN o l),(12, .sl (n+23) σ.2.length),(13,i64 σ.1)])
     (fun σ H2 n2=>σ.1<l.length∧σ.2++jH l σ.1=jH l k∧n+24≤n2∧(∃d,bf H2 (n+23)=some (.row 42 2 d (σ.2.map cC.av)))) (fun σ=>σ.1) (k,[])
     ⟨_,_,_,Rt.nil 12 42 2 (by omega) rfl,cG,hkl,rfl,cO,⟨_,bo⟩⟩ ?_
    rintro⟨at_,acc⟩ H2 n2 ⟨hat,hacc,hn2,⟨d4,r4'⟩⟩
    dsimp only at hat hacc r4' ⊢
    have hbl:=sN hfs k hkl
    have hal:acc.length≤65536:=by
     have:=congrArg List.length hacc
     rw[List.length_append] at this
     omega
    have a1:(acc.map cC.av).length=acc.length:=List.length_map _
    have e0:∀d,(l.map (bw.av o)).getD ((at_:Int)).toNat d= .agg [(l.getD at_ default).m.frozen o,i64 (l.getD at_ default).from_,kj (l.getD at_ default).xE]:=fun d=>by rw[Int.toNat_natCast,dR (bw.av o) l at_ d hat];rfl
    by_cases h0:0≤(l.getD at_ default).from_
    ·obtain⟨hlt,hpos⟩:=hfs.pZ hat h0
     have hon:=qI hfs hat h0
     obtain⟨q,hq⟩:∃q:Nat,(l.getD at_ default).from_=q:=⟨_,(Int.toNat_of_nonneg h0).symm⟩
     rw[hq] at e0 hlt hon
     rw[Int.toNat_natCast] at hlt hon
     obtain⟨k',mv,h1,hmv,h2⟩:=hfs.xP at_ hpos hat
     have hby:(l.getD at_ default).xE=mv:=by rw[h2]
     obtain⟨x,mv',rfl⟩:∃x mv',mv=x::mv':=by
      cases mv with
      |nil=>exact absurd rfl (wS hmv)
      |cons x mv'=>exact⟨x,mv',rfl⟩
     have hml:=tE hmv
     rw[hby] at e0 hon
     have e1:∀d,((x::mv').map cC.av).getD (0:Int).toNat d=x.av:=fun d=>rfl
     have a2:((x::mv').map cC.av).length=mv'.length+1:=by simp
     rw[show kj (x::mv')= .im 2 .any ((x::mv').map cC.av) from rfl] at e0
     generalize (x::mv').map cC.av=X at e0 e1 a2
     have hge:¬(q:Int)<0:=by omega
     refine ca ?_
     refine⟨(q,acc++[x]),hlt,_,_,_,Rt.refl _ _ _,by rw[List.length_append];exact cG,by dsimp only;omega,by dsimp only;rw[List.append_assoc,List.singleton_append];rw[hon] at hacc;exact hacc,cO,⟨_,by dsimp only;rw[List.map_append];exact bo⟩⟩
    ·have hon:=sM h0
     rw[hon,List.append_nil] at hacc
     subst hacc
     refine ca ?_
     refine aP (uS (b:=n+23) (l:=jH l k) ?_ (by omega) ⟨d4, ?_⟩) ?_
     ·exact cO
     ·exact bo
     rintro _ H3 n3 ⟨⟨d5,r5⟩,hn3,hk3⟩
     refine ca ?_
     refine⟨?_⟩
     show AV.dB [cY.eM H3 5 (.sl (n+23) (jH l k).length),bl true,i64 0]=_
     rw[mN (k:=4) r5 (by simp),eK _ (sa _)]
   ·rw[if_neg (by unfold ot;rw[hen,decide_eq_false hc];simp)] at hsu
    rw[decide_eq_false hc] at c3
    refine ca ?_
    exact⟨k+1,by omega,_,_,_,Rt.refl _ _ _,cG,by omega,cO,hsu,⟨_,bo⟩,⟨_,bo⟩⟩
 ·obtain rfl:k=l.length:=by omega
  refine ca ?_
  unfold CZ
  rw[hhit]
  exact⟨rfl⟩
theorem K0 {o:Obj} (ho:o.Wf) (most:Int) {e:cL} (h0:¬(cX false o most).1=0):Pure Tryz.prog 19 [o.av,i64 most,e.av] (fun r=>r= .dB [iw,bl false,i64 (cX false o most).1]):=by
 have c0:=qB (p:=false) ho (fun ok=>lX ok) most
 refine cq ?_ (by simp[cB,cJ])
 have hff:=gh o (cX false o most).2
 generalize (cX false o most).1=er at *
 generalize (cX false o most).2=l at *
 have r0:=decide_eq_true h0
 refine aO BN rfl ?_
 refine ca ?_
 exact⟨rfl⟩
theorem QK {o:Obj} (ho:o.Wf) (most:Int) {e:cL} (he1:e.bh.length<9223372036854775807) (he2:e.mem.length<9223372036854775807):Pure Tryz.prog 19 [o.av,i64 most,e.av] (fun r=>r= .dB [gM (yi o most e),bl (KZ o most e),i64 (cX false o most).1]):=by
 by_cases h0:(cX false o most).1=0
 ·refine iV (NX ho most he1 he2 h0) (uA _ _ _) fun c=> ?_
  rw[h0]
  unfold yi KZ CZ
  cases kW o (cX false o most).2 e (cX false o most).2.length with
  |none=>exact cc.dB (.cons (cc.rB _ _ _ _) (.cons (fun _ h=>h) (.cons (fun _ h=>h) .nil)))
  |some i=>exact fun _ h=>h
 ·refine iV (K0 ho most h0) (uA _ _ _) fun c=> ?_
  unfold yi KZ
  rw[pz h0]
  exact cc.dB (.cons (cc.rB _ _ _ _) (.cons (fun _ h=>h) (.cons (fun _ h=>h) .nil)))
end Go.Proofs.YtlonbgdonffcbaaGreatDoor
end
section
/- The object by which the laws begin, and what exploring it comes to. -/
namespace Go.Proofs.YtlonbgdonffcbaaGreatDoor
open Go Go.cY Go.Proofs
set_option linter.unusedSimpArgs false
set_option linter.unusedVariables false
set_option maxRecDepth 20000
abbrev M1 (k:Int):Instr:=⟨k,0,0,0,0,0,0,0,0⟩
def MA (i:Int):List Instr:=[⟨1,0,0,0,0,0,0,1,0⟩,⟨4,0,0,0,0,i,0,0,0⟩,⟨3,0,1,0,0,1 - i,0,0,0⟩,⟨7,0,0,1,0,0,0,0,0⟩,M1 10]
def ur:Obj:=⟨[0,0],2,0,1,[⟨⟨#[65]⟩,MA 0⟩,⟨⟨#[66]⟩,MA 1⟩]⟩
def ka:Obj:=⟨[7],1,0,1,[⟨⟨#[65]⟩,[M1 7,M1 10]⟩]⟩
theorem DO:Pure Tryz.prog 21 [bl false] (fun r=>r=ur.av):=fq (by simp[cB]) (by kernel_rfl)
def rC (s:bk):Nat:=(eD s).foldl (fun n c=>n * 256+c.toNat) 1
theorem rD:∀(l:List UInt8) (a b:Nat) (m:List UInt8),0<a→l.foldl (fun n c=>n * 256+c.toNat) a=m.foldl (fun n c=>n * 256+c.toNat) b→l.length=m.length→a=b∧l=m
 |[],a,b,[],_,h,_=>⟨h,rfl⟩
 |[],a,b,y::m,_,_,hl=>by simp at hl
 |x::l,a,b,[],_,_,hl=>by simp at hl
 |x::l,a,b,y::m,ha,h,hl=>by
  simp only[List.foldl_cons] at h
  obtain⟨h1,h2⟩:=rD l _ _ m (by omega) h (by simpa using hl)
  have hx:=x.toNat_lt
  have hy:=y.toNat_lt
  have e:x.toNat=y.toNat:=by omega
  exact⟨by omega,by rw[h2,UInt8.toNat_inj.1 e]⟩
theorem uI:∀(l:List UInt8) (a:Nat),a * 256^l.length≤l.foldl (fun n c=>n * 256+c.toNat) a
 |[],a=>by simp
 |x::l,a=>by
  have:=uI l (a * 256+x.toNat)
  rw[List.foldl_cons,List.length_cons,Nat.pow_succ]
  refine Nat.le_trans ?_ this
  rw[Nat.mul_comm (256^l.length),←Nat.mul_assoc]
  exact Nat.mul_le_mul_right _ (by omega)
theorem uH:∀(l:List UInt8) (a:Nat),l.foldl (fun n c=>n * 256+c.toNat) a<(a+1) * 256^l.length
 |[],a=>by simp
 |x::l,a=>by
  have:=uH l (a * 256+x.toNat)
  rw[List.foldl_cons,List.length_cons,Nat.pow_succ]
  refine Nat.lt_of_lt_of_le this ?_
  rw[Nat.mul_comm (256^l.length),←Nat.mul_assoc]
  have:=x.toNat_lt
  exact Nat.mul_le_mul_right _ (by omega)
theorem HB {l m:List UInt8} (h:l.foldl (fun n c=>n * 256+c.toNat) 1=m.foldl (fun n c=>n * 256+c.toNat) 1):l=m:=by
 have hl:l.length=m.length:=by
  have a1:=uI l 1
  have a2:=uH l 1
  have b1:=uI m 1
  have b2:=uH m 1
  rw[h] at a1 a2
  rw[Nat.one_mul] at a1 b1
  have p1:256^l.length<256^(m.length+1):=by rw[Nat.pow_succ];omega
  have p2:256^m.length<256^(l.length+1):=by rw[Nat.pow_succ];omega
  have q1:=(Nat.pow_lt_pow_iff_right (a:=256) (by omega)).1 p1
  have q2:=(Nat.pow_lt_pow_iff_right (a:=256) (by omega)).1 p2
  omega
 exact(rD l 1 1 m (by omega) h hl).2
def DF (k:Nat):List (Nat×bw)→Bool
 |[]=>false
 |x::l=>if Nat.beq x.1 k then true else DF k l
theorem qC (s:bk):∀l:List bw,DF (rC s) (l.map fun f=>(rC f.m,f))=true↔eD s∈ed l
 |[]=>by simp[DF,ed]
 |f::l=>by
  rw[List.map_cons,DF]
  simp only[ed,List.map_cons,List.mem_cons]
  have ih:=qC s l
  by_cases h:Nat.beq (rC f.m) (rC s)=true
  ·rw[if_pos h]
   exact⟨fun _=> .inl (HB (Nat.eq_of_beq_eq_true h).symm),fun _=>rfl⟩
  ·rw[if_neg h,ih]
   refine⟨.inr,fun hh=>hh.resolve_left fun e=>h ?_⟩
   have:rC f.m=rC s:=by unfold rC;rw[e]
   rw[this];exact Nat.beq_refl _
def HU (o:Obj) (most k:Nat) (m:bk):List (List cC)→List (Nat×bw)→Option (List (Nat×bw))
 |[],l=>some l
 |mv::ms,l=>if DF (rC (gA o m mv)) l then HU o most k m ms l else if most≤l.length then none else HU o most k m ms (l++[(rC (gA o m mv),⟨gA o m mv,k,mv⟩)])
def pF (p:Bool) (o:Obj) (most:Nat):Nat→Nat→List (Nat×bw)→Option (List (Nat×bw))
 |0,_,l=>some l
 |n+1,k,l=>match l[k]? with
  |none=>some l
  |some f=>match HU o most k f.2.m (de p o f.2.m) l with
   |none=>none
   |some l'=>pF p o most n (k+1) l'
abbrev gN (l:List bw):List (Nat×bw):=l.map fun f=>(rC f.m,f)
theorem uT {o:Obj} {most k:Nat} {m:bk}:∀(ms:List (List cC)) (l:List bw),k<l.length→(l.getD k default).m=m→HU o most k m ms (gN l)=(ru o most k ms l).map gN
 |[],l,hk,hm=>rfl
 |mv::ms,l,hk,hm=>by
  rw[HU,ru]
  unfold CT
  rw[hm]
  by_cases h:eD (gA o m mv)∈ed l
  ·rw[if_pos ((qC _ l).2 h),if_pos h]
   exact uT ms l hk hm
  ·rw[if_neg (fun e=>h ((qC _ l).1 e)),if_neg h]
   rw[List.length_map]
   by_cases h2:most≤l.length
   ·rw[if_pos h2,if_pos h2];rfl
   ·rw[if_neg h2,if_neg h2]
    have:=uT (o:=o) (most:=most) (k:=k) (m:=m) ms (l++[⟨gA o m mv,k,mv⟩]) (by rw[List.length_append];omega) (by rw[iN hk];exact hm)
    rw[←this]
    congr 1
    simp[gN]
theorem yo {p:Bool} {o:Obj} {most:Nat}:∀(n k:Nat) (l:List bw),pF p o most n k (gN l)=(rZ p o most n k l).map gN
 |0,k,l=>rfl
 |n+1,k,l=>by
  rw[pF,rZ]
  by_cases hk:k<l.length
  ·rw[if_pos hk]
   have e:(gN l)[k]?=some (rC (l.getD k default).m,l.getD k default):=by
    rw[List.getElem?_map,List.getElem?_eq_getElem hk]
    simp[List.getD,hk]
   rw[e]
   dsimp only
   rw[uT _ l hk rfl]
   cases h:ru o most k (de p o (l.getD k default).m) l with
   |none=>rfl
   |some l'=>exact yo n (k+1) l'
  ·rw[if_neg hk]
   have e:(gN l)[k]?=none:=by rw[List.getElem?_eq_none];rw[List.length_map];omega
   rw[e];rfl
end Go.Proofs.YtlonbgdonffcbaaGreatDoor
end
section
/- What exploring these objects comes to: the kernel's own answer. -/
namespace Go.Proofs.YtlonbgdonffcbaaGreatDoor
open Go Go.cY Go.Proofs
set_option maxRecDepth 100000
def MK:List Int→List Int→Bool
 |[],[]=>true
 |x::a,y::b=>decide (x=y)&&MK a b
 |_,_=>false
theorem zC:∀a b:List Int,MK a b=true↔a=b
 |[],[]=>by simp[MK]
 |[],y::b=>by simp[MK]
 |x::a,[]=>by simp[MK]
 |x::a,y::b=>by simp[MK,zC a b]
def LB:List cH→List cH→Bool
 |[],[]=>true
 |x::a,y::b=>decide (x.cn=y.cn)&&decide (x.word=y.word)&&LB a b
 |_,_=>false
theorem tx:∀a b:List cH,LB a b=true↔a=b
 |[],[]=>by simp[LB]
 |[],y::b=>by simp[LB]
 |x::a,[]=>by simp[LB]
 |x::a,y::b=>by
  have:x=y↔x.cn=y.cn∧x.word=y.word:=by cases x;cases y;simp
  simp[LB,tx a b,this]
def D7 (a b:cL):Bool:=LB a.bh b.bh&&MK a.mem b.mem&&(a.ended==b.ended)
theorem nD (a b:cL):D7 a b=true↔a=b:=by
 cases a;cases b
 simp[D7,tx,zC,and_assoc]
def mz (o:Obj) (l:List (Nat×bw)):List cL:=l.filterMap fun f=>if f.2.m.bg.all fZ then some (jl o f.2.m) else none
theorem vC (o:Obj) (l:List bw):mz o (gN l)=dM o l l.length:=by
 unfold mz dM
 rw[List.take_length,List.filterMap_map]
 rfl
def P8:cL:=⟨[⟨0,0⟩,⟨1,0⟩],[1,1],true⟩
def P9:cL:=⟨[⟨1,0⟩,⟨0,0⟩],[1,1],true⟩
def MF (o:Obj) (most:Nat) (a b:cL):Bool:=match pF false o most most 0 (gN (eu o)),pF true o most most 0 (gN (eu o)) with
 |some l,some q=>(mz o l).all (fun e=>(mz o q).any (D7 e)||D7 e a||D7 e b)&&(mz o l).any (D7 a)&&(mz o l).any (D7 b)&& !((mz o q).any (D7 a))&& !((mz o q).any (D7 b))
 |_,_=>false
theorem I7:MF ur 2000 P8 P9=true:=by kernel_rfl
def D4:cL:=⟨[⟨0,0⟩],[7],true⟩
def ME (o:Obj) (most:Nat) (e:cL) (want:List cH):Bool:=match pF true o most most 0 (gN (eu o)),pF false o most most 0 (gN (eu o)) with
 |some l,some q=>(match mz o l with|[x]=>D7 x e|_=>false)&&q.any fun f=>LB f.2.m.bh want
 |_,_=>false
theorem DR:ME ka 9 D4 [⟨0,0⟩]=true:=by kernel_rfl
theorem MB:fC ur=true:=by kernel_rfl
theorem J6:fC ka=true:=by kernel_rfl
end Go.Proofs.YtlonbgdonffcbaaGreatDoor
end
section
/- Ends: in order, each once; how many the laws' first object has that are not plain. -/
namespace Go.Proofs.YtlonbgdonffcbaaGreatDoor
open Go Go.cY Go.Proofs
set_option linter.unusedSimpArgs false
set_option linter.unusedVariables false
theorem xU (l:List cL):∀k,∀e∈kU l k,∃j,j<k∧e=l.getD j default
 |0,e,h=>by simp[kU] at h
 |1,e,h=>by simp only[kU,List.mem_cons,List.not_mem_nil,or_false] at h;exact⟨0,by omega,h⟩
 |k+2,e,h=>by
  rw[kU] at h
  split at h
  ·obtain⟨j,h1,h2⟩:=xU l (k+1) e h
   exact⟨j,by omega,h2⟩
  ·rcases List.mem_append.1 h with h|h
   ·obtain⟨j,h1,h2⟩:=xU l (k+1) e h
    exact⟨j,by omega,h2⟩
   ·simp only[List.mem_cons,List.not_mem_nil,or_false] at h
    exact⟨k+1,by omega,h⟩
theorem pW (l:List cL):∀k j,j<k→l.getD j default∈kU l k
 |0,j,h=>by omega
 |1,j,h=>by
  obtain rfl:j=0:=by omega
  simp[kU]
 |k+2,j,h=>by
  rw[kU]
  split
  ·rename_i e
   by_cases hj:j=k+1
   ·rw[hj,e];exact pW l (k+1) k (by omega)
   ·exact pW l (k+1) j (by omega)
  ·by_cases hj:j=k+1
   ·rw[hj];exact List.mem_append.2 (.inr (by simp))
   ·exact List.mem_append.2 (.inl (pW l (k+1) j (by omega)))
theorem pg {α:Type} {R:α→α→Prop} {l:List α} (h:l.Pairwise R) (d:α) {i j:Nat} (hi:i<j) (hj:j<l.length):R (l.getD i d) (l.getD j d):=by
 have:=List.pairwise_iff_getElem.1 h i j (by omega) hj hi
 simpa[List.getD,hj,show i<l.length by omega] using this
theorem mI {l:List cL} (h:l.Pairwise fun x y=>tA dy x y=true):∀k,k≤l.length→(kU l k).Pairwise fun x y=>dy x y<0
 |0,_=>by simp[kU]
 |1,_=>by simp[kU]
 |k+2,hk=>by
  rw[kU]
  split
  ·exact mI h (k+1) (by omega)
  ·rename_i hne
   refine List.pairwise_append.2 ⟨mI h (k+1) (by omega),by simp,fun a ha b hb=> ?_⟩
   simp only[List.mem_cons,List.not_mem_nil,or_false] at hb
   subst hb
   obtain⟨j,hj,rfl⟩:=xU l _ a ha
   have h1:=pg h default (i:=j) (j:=k+1) (by omega) (by omega)
   have h2:tA dy (l.getD j default) (l.getD k default)=true:=by
    by_cases e:j=k
    ·rw[e];simp[tA,(jI.zero _ _).2 rfl]
    ·exact pg h default (by omega) (by omega)
   have h3:=pg h default (i:=k) (j:=k+1) (by omega) (by omega)
   have h4:dy (l.getD j default) (l.getD (k+1) default)≠0:=fun e=>by
    have e1:=(jI.zero _ _).1 e
    rw[←e1] at h3
    have:=jI.zP h3 h2
    exact hne (by rw[this,←e1])
   simp only[tA,decide_eq_true_eq] at h1
   omega
theorem x0 {o:Obj} {l:List bw} {e:cL}:e∈dM o l l.length↔∃i,i<l.length∧(l.getD i default).m.bg.all fZ=true∧e=jl o (l.getD i default).m:=by
 unfold dM
 rw[List.take_length,List.mem_filterMap]
 constructor
 ·rintro⟨f,hf,he⟩
  obtain⟨i,hi,rfl⟩:=List.mem_iff_getElem.1 hf
  split at he
  ·rename_i hs
   cases he
   refine⟨i,hi, ?_⟩
   rw[show l.getD i default=l[i] by simp[List.getD,hi]]
   exact⟨hs,rfl⟩
  ·cases he
 ·rintro⟨i,hi,hs,rfl⟩
  refine⟨l.getD i default,fu default hi, ?_⟩
  rw[if_pos hs]
theorem sS {o:Obj} {l:List bw} {e:cL}:e∈gz o l↔e∈dM o l l.length:=by
 refine⟨sU,fun h=> ?_⟩
 have h1:=(kO dy _).mem_iff.2 h
 obtain⟨j,hj,rfl⟩:=List.mem_iff_getElem.1 h1
 have:=pW (fY dy (dM o l l.length)) (dM o l l.length).length j (by rw[jt] at hj;exact hj)
 rw[show(fY dy (dM o l l.length)).getD j default=(fY dy (dM o l l.length))[j] by simp[List.getD,hj]] at this
 exact this
theorem nA (o:Obj) (l:List bw):(gz o l).Pairwise fun x y=>dy x y<0:=mI (jI.sorted _) _ (by rw[jt];exact Nat.le_refl _)
theorem vD (o:Obj) (l:List bw):(gz o l).Nodup:=(nA o l).imp fun h e=>by
 have:=(jI.zero _ _).2 e
 omega
theorem sR {p:Bool} {o:Obj} {most:Int} (h0:(cX p o most).1=0) {e:cL}:e∈e9 p o most↔e∈dM o (cX p o most).2 (cX p o most).2.length:=by
 unfold e9
 rw[if_pos h0];exact sS
theorem BM {l q:List cL} {e:cL}:e∈nM l q↔e∈l∧e∉q:=by
 unfold nM
 rw[List.mem_filter]
 simp only[Bool.not_eq_true',List.any_eq_false,decide_eq_true_eq]
 refine and_congr_right fun _=>⟨fun h hq=>h e hq rfl,fun h x hx hxe=>h (hxe▸hx)⟩
theorem NU {l:List cL} (hn:l.Nodup) {a b:cL} (hab:a≠b) (h:∀e,e∈l↔e=a∨e=b):l.length=2:=by
 have hp:l.Perm [a,b]:=(List.perm_ext_iff_of_nodup hn (by simp[hab])).2 fun e=>by rw[h];simp
 exact hp.length_eq
theorem nC {l:List cL} {a:cL}:l.any (D7 a)=true↔a∈l:=by
 rw[List.any_eq_true]
 refine⟨fun⟨x,hx,h⟩=>(nD _ _).1 h▸hx,fun h=>⟨a,h,(nD _ _).2 rfl⟩⟩
theorem nB {p:Bool} {o:Obj} {most:Nat} (hok:fC o=true) (hm:1≤(most:Int)∧(most:Int)≤65536) {l:List (Nat×bw)} (h:pF p o most most 0 (gN (eu o))=some l):(cX p o (most:Int)).1=0∧l=gN (cX p o (most:Int)).2:=by
 rw[yo] at h
 have h2:(mF p o most).map gN=some l:=h
 cases hT:mF p o most with
 |none=>rw[hT] at h2;cases h2
 |some q=>
  rw[hT] at h2
  cases h2
  rw[IY (l:=q) hok hm (by rw[Int.toNat_natCast];exact hT)]
  exact⟨rfl,rfl⟩
theorem MC:ur.Wf where
 mem:=fun x hx=>by simp[ur] at hx;subst hx;exact⟨by omega,by omega⟩
 G4:=by decide
 shared:=⟨by decide,by decide⟩
 iG:=⟨by decide,by decide⟩
 buffer:=⟨by decide,by decide⟩
 bg:=fun c hc=>by
  simp only[ur,List.mem_cons,List.not_mem_nil,or_false] at hc
  rcases hc with rfl|rfl
  all_goals
   refine⟨by decide,fun i hi=> ?_,by decide⟩
   simp only[MA,List.mem_cons,List.not_mem_nil,or_false] at hi
   rcases hi with rfl|rfl|rfl|rfl|rfl<;>exact⟨by decide,by decide,⟨by decide,by decide⟩,⟨by decide,by decide⟩,⟨by decide,by decide⟩,⟨by decide,by decide⟩,⟨by decide,by decide⟩,⟨by decide,by decide⟩,⟨by decide,by decide⟩⟩
 mu:=by decide
theorem zi:ka.Wf where
 mem:=fun x hx=>by simp[ka] at hx;subst hx;exact⟨by omega,by omega⟩
 G4:=by decide
 shared:=⟨by decide,by decide⟩
 iG:=⟨by decide,by decide⟩
 buffer:=⟨by decide,by decide⟩
 bg:=fun c hc=>by
  simp only[ka,List.mem_cons,List.not_mem_nil,or_false] at hc
  subst hc
  refine⟨by decide,fun i hi=> ?_,by decide⟩
  simp only[List.mem_cons,List.not_mem_nil,or_false] at hi
  rcases hi with rfl|rfl<;>exact⟨by decide,by decide,⟨by decide,by decide⟩,⟨by decide,by decide⟩,⟨by decide,by decide⟩,⟨by decide,by decide⟩,⟨by decide,by decide⟩,⟨by decide,by decide⟩,⟨by decide,by decide⟩⟩
 mu:=by decide
theorem K2 {o:Obj} {most:Nat} (hok:fC o=true) (hm:1≤(most:Int)∧(most:Int)≤65536) {a b:cL} (hab:a≠b) (h:MF o most a b=true):(cX false o (most:Int)).1=0∧(tP o (most:Int)).length=2:=by
 unfold MF at h
 revert h
 cases h1:pF false o most most 0 (gN (eu o)) with
 |none=>intro h;cases h
 |some l=>
  cases h2:pF true o most most 0 (gN (eu o)) with
  |none=>intro h;cases h
  |some q=>
   intro h
   obtain⟨e1,rfl⟩:=nB hok hm h1
   obtain⟨e2,rfl⟩:=nB hok hm h2
   refine⟨e1, ?_⟩
   simp only[vC,Bool.and_eq_true,Bool.not_eq_true'] at h
   obtain⟨⟨⟨⟨g1,g2⟩,g3⟩,g4⟩,g5⟩:=h
   have g2:=nC.1 g2
   have g3:=nC.1 g3
   have g4:a∉dM o (cX true o most).2 (cX true o most).2.length:=fun hh=>by rw[nC.2 hh] at g4;cases g4
   have g5:b∉dM o (cX true o most).2 (cX true o most).2.length:=fun hh=>by rw[nC.2 hh] at g5;cases g5
   have hw:tP o most=nM (gz o (cX false o most).2) (e9 true o most):=by unfold tP;rw[if_pos e1]
   refine NU (a:=a) (b:=b) ?_ hab fun e=> ?_
   ·rw[hw];exact(vD _ _).filter _
   ·rw[hw,BM,sS,sR e2]
    constructor
    ·rintro⟨m1,m2⟩
     have:=List.all_eq_true.1 g1 e m1
     simp only[Bool.or_eq_true] at this
     rcases this with(h|h)|h
     ·exact absurd (nC.1 h) m2
     ·exact .inl ((nD _ _).1 h)
     ·exact .inr ((nD _ _).1 h)
    ·rintro(rfl|rfl)
     ·exact⟨g2,g4⟩
     ·exact⟨g3,g5⟩
theorem HK {o:Obj} {most:Nat} (hok:fC o=true) (hm:1≤(most:Int)∧(most:Int)≤65536) {e:cL} {want:List cH} (h:ME o most e want=true):(cX true o (most:Int)).1=0∧e9 true o (most:Int)=[e]∧(cX false o (most:Int)).1=0∧rJ o (most:Int) want=true:=by
 unfold ME at h
 revert h
 cases h1:pF true o most most 0 (gN (eu o)) with
 |none=>intro h;cases h
 |some l=>
  cases h2:pF false o most most 0 (gN (eu o)) with
  |none=>intro h;cases h
  |some q=>
   intro h
   obtain⟨e1,rfl⟩:=nB hok hm h1
   obtain⟨e2,rfl⟩:=nB hok hm h2
   simp only[vC,Bool.and_eq_true] at h
   obtain⟨g1,g2⟩:=h
   refine⟨e1, ?_,e2, ?_⟩
   ·have:dM o (cX true o most).2 (cX true o most).2.length=[e]:=by
     revert g1
     cases dM o (cX true o most).2 (cX true o most).2.length with
     |nil=>intro h;cases h
     |cons x t=>
      cases t with
      |nil=>intro h;rw[(nD _ _).1 h]
      |cons y t=>intro h;cases h
    unfold e9
    rw[if_pos e1]
    unfold gz
    rw[this]
    simp[fY,kU]
   ·unfold rJ
    rw[List.any_eq_true] at g2 ⊢
    obtain⟨f,hf,hp⟩:=g2
    obtain⟨f',hf',rfl⟩:=List.mem_map.1 hf
    exact⟨f',hf',decide_eq_true ((tx _ _).1 hp)⟩
theorem DP:(cX false ur ((2000:Nat):Int)).1=0∧(tP ur ((2000:Nat):Int)).length=2:=K2 MB (by omega) (by decide) I7
theorem yI:(cX true ka ((9:Nat):Int)).1=0∧e9 true ka ((9:Nat):Int)=[D4]∧(cX false ka ((9:Nat):Int)).1=0∧rJ ka ((9:Nat):Int) [⟨0,0⟩]=true:=HK J6 (by omega) DR
end Go.Proofs.YtlonbgdonffcbaaGreatDoor
end
section
/- How the laws begin: the walk. -/
namespace Go.cY
open Go.RowKit
section
variable {P:Program} {n lo:Nat} {fr:Fr} {H:Hp} {nx:Nat} {Q:QT}
theorem WL.rt {lc:LC} {fr2:Fr} {H2:Hp} {nx2:Nat} (hw:Rt fr H nx fr2 H2 nx2) (h:WL P n lo lc fr2 H2 nx2 Q):WL P n lo lc fr H nx Q:=
 fun code hc w0 M0 c0 a w hh=>h code hc w0 M0 c0 a w (hw _ _ _ _ _ _ _ hh)
theorem WL.cut {a b:LC} (h:Go (W P n lo a fr H nx (jU (fun fr' H' nx'=>∃fr2 H2 nx2,Rt fr' H' nx' fr2 H2 nx2∧WL P n lo b fr2 H2 nx2 Q) Q))):WL P n lo (.seq a b) fr H nx Q:=
 WL.seq ((fF h).mono fun e fr H nx hh=>by
  cases e with
  |normal=>
   obtain⟨fr2,H2,nx2,h1,h2⟩:=hh
   exact WL.rt h1 h2
  |exit id=>exact hh
  |ret=>exact hh)
theorem bS {f:FuncId} {args:List AV} {R:AV→Hp→Nat→Prop} (X:dG P f) (ha:Nat.ble args.length X.n=true) (h:WL P X.n nx X.lc (ig 0 args) H nx (we X.rs R)):bz P f args H nx R:=by
 obtain⟨fn,h1,h2,h3,h4,h5⟩:=X.ok
 have h6:X.n=fn.ntmps:=h5
 rw[h6] at h ha
 exact bz.jj h1 h2 h3 h4 (Nat.le_of_ble_eq_true ha) (h.mono fun _ _ _ _=>zo)
theorem ar {lc:LC} {b:Nat} {q:Option eB} (h:bf H b=q) (k:∀H2:Hp,bf H2 b=q→Go (W P n lo lc fr H2 nx Q)):W P n lo lc fr H nx Q:=k H h
end
end Go.cY
namespace Go.Proofs.YtlonbgdonffcbaaGreatDoor
open Go Go.cY Go.Proofs
set_option linter.unusedSimpArgs false
set_option linter.unusedVariables false
set_option maxRecDepth 8000
theorem AK {o1:Obj} {wk:List cL} (c0:Pure Tryz.prog 21 [bl false] (fun r=>r=o1.av)) (c1:Pure Tryz.prog 17 [o1.av,i64 2000] (fun r=>r= .dB [eC wk,i64 0])) (hwk:wk.length=2)
 (c2:Pure Tryz.prog 22 [ka.av,i64 9] (fun r=>r= .dB [eC [D4],i64 0])) (c3:Pure Tryz.prog 11 [ka.av,i64 9,eA [⟨0,0⟩]] (fun r=>r= .dB [bl true,i64 0])):Pure Tryz.prog 7 [] (fun r=>r=bl true):=by
 have hfw:=iZ wk
 refine cq ?_ (by simp[cB])
 refine bS O3 rfl ?_
 refine WL.cut ?_
 refine ca ?_
 refine⟨_,_,_,Rt.refl _ _ _,WL.cut ?_⟩
 refine ca ?_
 refine⟨_,_,_,Rt.refl _ _ _,WL.cut ?_⟩
 refine ca ?_
 refine⟨[(1,eC wk),(2,i64 0),(3, .pt 13 1 0 0)],_,_,(Rt.wk (Wk.gF (cb:=13) (jA [6,9,11] _) 5 .any rfl fun b q hq=>oX hq)).trans (Rt.less cG),fF ?_⟩
 refine ar (b:=13) (q:=some (.row 25 5 .any [ka.av])) rfl ?_
 intro H2 r3
 refine ca ?_
 refine aX c3 (by rfl) (by simp[cJ,cB]) (by simp[jK]) ?_
 have r0:decide (((wk.map cL.av).length:Int)=2)=true:=by rw[List.length_map,hwk];rfl
 have a0:(D4.mem.map i64).length=1:=rfl
 have e0:∀d,(D4.mem.map i64).getD (0:Int).toNat d=i64 7:=fun _=>rfl
 refine ca ?_
 exact⟨rfl⟩
theorem uk:Pure Tryz.prog 7 [] (fun r=>r=bl true):=by
 obtain⟨w1,w2⟩:=DP
 obtain⟨p1,p2,p3,p4⟩:=yI
 have c1:=PM MC ((2000:Nat):Int)
 have c2:=HJ zi ((9:Nat):Int)
 have c3:=NK zi ((9:Nat):Int) [⟨0,0⟩] (by simp)
 rw[w1] at c1
 rw[p1,p2] at c2
 rw[p3,p4] at c3
 exact AK DO c1 w2 c2 c3
end Go.Proofs.YtlonbgdonffcbaaGreatDoor
end
section
/- Has, stands: the walks. -/
namespace Go.Proofs.YtlonbgdonffcbaaGreatDoor
open Go Go.cY Go.Proofs
set_option linter.unusedSimpArgs false
set_option linter.unusedVariables false
set_option maxRecDepth 8000
theorem tL {o:Obj} {s:bk} (hlk:eH s) (hs:0≤o.shared∧o.shared≤s.mem.length):Pure Tryz.prog 14 [o.av,s.frozen o] (fun r=>r= .dB [(jl o s).av,bl true]):=by
 have c1:=oR o s hlk.mem
 have c2:=la o s hlk.bh
 obtain⟨om,osh,olk,obf,oc⟩:=o
 obtain⟨sh,rfl⟩:∃sh:Nat,osh=sh:=⟨osh.toNat,by have:=hs.1;dsimp only at this;omega⟩
 have hs2:sh≤s.mem.length:=by have:=hs.2;dsimp only at this;omega
 have h1:cJ 0 ((s.mem.map i64).take sh):=by rw[←List.map_take];exact(cI _ _).2 fun _ _=>by simp[cB]
 have hm:(s.mem.map i64).length=s.mem.length:=List.length_map _
 have hov:(jl ⟨om,sh,olk,obf,oc⟩ s).av= .agg [.im 2 .any (s.bh.map cH.av), .im 1 .any ((s.mem.map i64).take sh),bl true]:=by
  rw[←List.map_take];rfl
 rw[hov]
 simp only[bk.frozen] at c1 c2 ⊢
 refine cq ?_ (by simp[cB,cJ,cI,h1])
 refine aO FA rfl ?_
 have hg:¬(sh:Int)<0:=by omega
 have hg2:¬((s.mem.map i64).length:Int)<(sh:Int):=by omega
 have r1:=decide_eq_false hg
 have r2:=decide_eq_false hg2
 refine ca ?_
 refine⟨?_⟩
 show cY.eM _ 6 (.dB [.agg [.im 2 .any (s.bh.map cH.av), .im 1 .any ((s.mem.map i64).take sh),bl true],bl true])=_
 exact lY _ (by simp[cB,cJ,cI,h1])
end Go.Proofs.YtlonbgdonffcbaaGreatDoor
end
section
/- One core: one end at most, and it is plain. -/
namespace Go.Proofs.YtlonbgdonffcbaaGreatDoor
open Go Go.cY Go.Proofs
set_option linter.unusedSimpArgs false
set_option linter.unusedVariables false
set_option maxRecDepth 8000
end Go.Proofs.YtlonbgdonffcbaaGreatDoor
end
section
/- Whatever is played is found: the law's walk. -/
namespace Go.Proofs.YtlonbgdonffcbaaGreatDoor
open Go Go.cY Go.Proofs
set_option linter.unusedSimpArgs false
set_option linter.unusedVariables false
set_option maxRecDepth 8000
theorem tf {o:Obj} {s:bk} {L:Lay} {H:Hp} {n:Nat} (hM:fS o s L H n) (nx:Nat):Wk (.pt L.m 1 0 0) H nx (s.frozen o) (lu (jA L.ids H) H) nx:=by
 have:=Wk.OV (nx:=nx) (r:= .pt L.m 1 0 0) (jA L.ids H) 5 (fun b q hq=>oX hq)
 rwa[hM.rW 0] at this
end Go.Proofs.YtlonbgdonffcbaaGreatDoor
end
section
/- Each end has a way that a machine goes: the law's walk. -/
namespace Go.Proofs.YtlonbgdonffcbaaGreatDoor
open Go Go.cY Go.Proofs
set_option linter.unusedSimpArgs false
set_option linter.unusedVariables false
set_option maxRecDepth 8000
theorem px.at_ {o:Obj}:∀{W:List cC} {s d:bk},px o s W d→gA o s W=d∧∀k,k<W.length→IN o (gA o s (W.take k)) (W.getD k default)
 |[],s,d,h=>by cases h;exact⟨rfl,fun k hk=>by simp at hk⟩
 |x::W,s,d,h=>by
  cases h with
  |cons hx ht=>
   obtain⟨h1,h2⟩:=ht.at_
   refine⟨h1,fun k hk=> ?_⟩
   cases k with
   |zero=>exact hx
   |succ k=>exact h2 k (by simpa using hk)
structure OI (o:Obj) (e:cL) (W:List cC):Prop where
 len:W.length≤65536
 QQ:∀k,k<W.length→IN o (gA o (cZ o) (W.take k)) (W.getD k default)
 reach:∀k,Reach o (gA o (cZ o) (W.take k))
 ended:(gA o (cZ o) W).bg.all fZ=true
 over:jl o (gA o (cZ o) W)=e
theorem sq {o:Obj}:∀(W:List cC) {s:bk},Reach o s→Reach o (gA o s W)
 |[],s,h=>h
 |x::W,s,h=>sq W (h.step x.kind x.core)
theorem K1 {o:Obj} (ho:o.Wf) {most:Int} (h0:(cX false o most).1=0) {e:cL} (he:e∈e9 false o most):KZ o most e=true∧OI o e (yi o most e):=by
 obtain⟨ok,hf,hl⟩:=mi ho h0
 rw[sR h0] at he
 obtain⟨i,hi,ei,rfl⟩:=x0.1 he
 have hsome:(kW o (cX false o most).2 (jl o ((cX false o most).2.getD i default).m) (cX false o most).2.length).isSome=true:=by
  unfold kW
  rw[List.find?_isSome]
  exact⟨i,List.mem_range.2 hi,by unfold ot;rw[ei];simp⟩
 refine⟨hsome, ?_⟩
 obtain⟨j,hj⟩:=Option.isSome_iff_exists.1 hsome
 have hjl:j<(cX false o most).2.length:=List.mem_range.1 (List.mem_of_find?_eq_some hj)
 have hend:=List.find?_some hj
 unfold ot at hend
 rw[Bool.and_eq_true,decide_eq_true_eq] at hend
 have hW:yi o most (jl o ((cX false o most).2.getD i default).m)=(jH (cX false o most).2 j).reverse:=by unfold yi;rw[hj];rfl
 rw[hW]
 obtain⟨w1,w2⟩:=(IH hf j hjl).at_
 have hbl:=sN hf j hjl
 refine⟨by rw[List.length_reverse];omega,w2,fun k=>sq _ Reach.init, ?_, ?_⟩
 ·rw[w1];exact hend.1
 ·rw[w1];exact hend.2
set_option maxHeartbeats 8000000 in
theorem BA {o:Obj} (ho:o.Wf) (most:Int):Pure Tryz.prog 6 [o.av,i64 most] (fun r=>r=bl true):=by
 have c0:=uk
 have c1:=OR ho most
 have hf1:=iZ (e9 false o most)
 refine aI O2 rfl ?_
 by_cases h0:(cX false o most).1=0
 ·obtain⟨hok,_,_⟩:=pS h0
  obtain⟨hin,hel⟩:=qW (p:=false) ho most
  have hway:=fun {e} (h:e∈e9 false o most)=>K1 ho h0 h
  have hstr:(e9 false o most).Pairwise fun x y=>dy x y<0:=by unfold e9;rw[if_pos h0];exact nA _ _
  have hsh:=oU hok
  have ok:=nU hok
  have hw:=ho.words
  have cw:=fun(e:cL) (h:kR e)=>QK ho most (e:=e) h.1 h.2
  rw[h0] at c1 cw
  clear h0
  generalize e9 false o most=es at *
  refine ca ?_
  refine aT (fun i:Nat=>[(1,i64 most),(2, .pt 0 1 0 0),(5,eC es),(7,i64 i)])
   (fun i H n=>i≤es.length∧1≤n∧∃d,bf H 0=some (.row 25 5 d [o.av])) (fun i=>es.length - i) 0 cG ⟨Nat.zero_le _,cO,⟨_,bo⟩⟩ ?_
  clear c0 c1
  have a0:(es.map cL.av).length=es.length:=List.length_map _
  rintro i H n ⟨hi,hn,d0,r0'⟩
  by_cases hil:i<es.length
  ·by_cases h30:i<30
   ·have e0:∀d,(es.map cL.av).getD ((i:Int)).toNat d=(es.getD i default).av:=fun d=>by rw[Int.toNat_natCast];exact iY hil d
    have hmem:=fu (l:=es) default hil
    have hei:=hin _ hmem
    obtain⟨b1,wk⟩:=hway hmem
    have c5:=cw _ hei
    rw[b1] at c5
    clear cw
    have hcmp:0<i→dy (es.getD (i - 1) default) (es.getD i default)<0:=fun h=>pg hstr default (by omega) hil
    have e1:0<i→∀d,(es.map cL.av).getD ((i:Int) - 1).toNat d=(es.getD (i - 1) default).av:=fun h d=>by rw[show((i:Int) - 1).toNat=i - 1 by omega];exact iY (by omega) d
    have hpi:0<i→kR (es.getD (i - 1) default):=fun h=>hin _ (fu default (by omega))
    generalize es.getD i default=e at *
    generalize yi o most e=W at *
    have hWl:=wk.len
    have aW:(W.map cC.av).length=W.length:=List.length_map _
    clear hway hstr
    rcases Nat.eq_zero_or_pos i with hz|hz
    ·subst hz
     clear hcmp e1 hpi
     refine ca ?_
     refine aP (yE ho ok hok) ?_
     rintro r H1 n1 ⟨L,rfl,hM,hn1,hlt,hk1⟩
     have hMW:∀(H':Hp) (n':Nat),W.length=0→fS o (cZ o) L H' n'→fS o (gA o (cZ o) W) L H' n':=fun H' n' hz h=>by
      rw[List.length_eq_zero_iff] at hz
      subst hz;exact h
     refine ca ?_
     refine aQ (fun σ:Nat×Lay=>[(1,i64 most),(2, .pt 0 1 0 0),(5,eC es),(7,i64 (0:Nat)),(8,gM W),(11,if σ.1<W.length then .pt σ.2.m 1 0 0 else(gA o (cZ o) W).frozen o),(13,i64 σ.1)])
      (fun σ H n=>σ.1≤W.length∧(σ.1<W.length→fS o (gA o (cZ o) (W.take σ.1)) σ.2 H n)∧(∀y∈σ.2.ids,0<y)∧1≤n∧∃d,bf H 0=some (.row 25 5 d [o.av])) (fun σ=>W.length - σ.1) (0,L)
      ?_ ?_
     ·by_cases hz2:0<W.length
      ·refine⟨_,_,_,Rt.refl _ _ _,by dsimp only;rw[if_pos hz2];exact cG,Nat.zero_le _,fun _=>hM.dS (fun y hy=> ?_) cO,fun y hy=>by have:=hlt y hy;omega,cO,⟨_,Eq.trans cA ((hk1 0 (by omega)).trans (Eq.trans cA r0'))⟩⟩
       have:=hlt y hy
       have:=hM.lt y hy
       exact cA
      ·have hz3:W.length=0:=by omega
       have hno:0∉L.ids:=fun h=>by have:=hlt _ h;omega
       refine⟨_,_,_,Rt.slot 11 rfl (tf (hMW _ _ hz3 (hM.dS (fun y hy=> ?_) (Nat.le_refl _))) _),by dsimp only;rw[if_neg hz2];exact cG,Nat.zero_le _,fun h=>absurd h hz2,fun y hy=>by have:=hlt y hy;omega,cO,⟨_,(dn hno).trans (Eq.trans cA ((hk1 0 (by omega)).trans (Eq.trans cA r0')))⟩⟩
       have:=hlt y hy
       have:=hM.lt y hy
       exact cA
     clear hM hlt hn1 hk1 hMW r0'
     rintro⟨k,L⟩ H3 n3 ⟨hk,hM,hlt,hn3,⟨d3,r3'⟩⟩
     dsimp only at hk hM hlt ⊢
     by_cases hkl:k<W.length
     ·have hM:=hM hkl
      rw[if_pos hkl]
      have e2:∀d,(W.map cC.av).getD ((k:Int)).toNat d=(W.getD k default).av:=fun d=>nf hkl d
      obtain⟨q1,q2⟩:=w7 (wk.QQ k hkl)
      have hre:=wk.reach k
      have hmo:=hre.ok ok hw
      have hgp:=gl (o:=o) (W.take k) (cZ o)
      rw[List.length_take] at hgp
      have hp0:(cZ o).bh.length=0:=rfl
      have hsn:gA o (cZ o) (W.take (k+1))=(cj o (gA o (cZ o) (W.take k)) (W.getD k default).kind (W.getD k default).core).1:=by
       rw[List.take_succ_eq_append_getElem hkl,nH,show W.getD k default=W[k] by simp[List.getD,hkl]]
      generalize W.getD k default=x at *
      refine ca ?_
      refine aP (lj (hM.dS ?_ cO) hmo.iE ok (by omega) x.kind x.core) ?_
      ·intro y hy
       have:=hM.lt y hy
       exact cA
      rintro r H4 n4 ⟨rfl,hn4,⟨L3,hM3,hmo3⟩,hk3⟩
      have hid3:=hmo3.ids
      have hno:0∉L.ids:=fun h=>by have:=hlt _ h;omega
      replace hM3:fS o (gA o (cZ o) (W.take (k+1))) L3 H4 n4:=by rw[hsn];exact hM3
      have r0':=(hk3 0 (by omega) hno).trans (Eq.trans cA r3')
      have hlt3:∀y∈L3.ids,0<y:=fun y hy=>by
       rcases hid3 y hy with h|h
       ·exact hlt y h
       ·omega
      have hno3:0∉L3.ids:=fun h=>by have:=hlt3 _ h;omega
      rw[q1]
      clear hk3 hsn
      generalize (cj o (gA o (cZ o) (W.take k)) x.kind x.core).2.1=dd at *
      have r7:=decide_eq_false q2
      refine ca ?_
      by_cases hkk:k+1<W.length
      ·refine⟨(k+1,L3),by dsimp only;omega,_,_,_,Rt.refl _ _ _,by dsimp only;rw[if_pos hkk,hmo3.m];exact cG,by dsimp only;omega,fun _=>hM3.dS (fun y hy=> ?_) cO,hlt3,cO,⟨_,bo⟩⟩
       have:=hM3.lt y hy
       have:=hlt3 y hy
       exact cA
      ·have hke:k+1=W.length:=by omega
       rw[hke,List.take_length] at hM3
       refine⟨(k+1,L3),by dsimp only;omega,_,_,_,Rt.slot 11 (by rw[←hmo3.m];rfl) (tf (hM3.dS (fun y hy=> ?_) (Nat.le_refl _)) _),by dsimp only;rw[if_neg hkk];exact cG,by dsimp only;omega,fun h=>absurd h hkk,hlt3,cO,⟨_,(dn hno3).trans bo⟩⟩
       have:=hM3.lt y hy
       have:=hlt3 y hy
       exact cA
     ·obtain rfl:k=W.length:=by omega
      rw[if_neg hkl]
      have hre:=wk.reach W.length
      have hov:=wk.over
      have hen:=wk.ended
      have hgp:=gl (o:=o) W (cZ o)
      have hp0:(cZ o).bh.length=0:=rfl
      rw[List.take_length] at hre
      have hmo:=hre.ok ok hw
      clear hM
      generalize gA o (cZ o) W=E at *
      have hgm:=hmo.iE.mem
      have hlk:=hmo.look ok (by omega)
      have c2:=tL (o:=o) hlk (by rw[hgm];exact hsh)
      have c3:=my o E hlk.bg
      rw[hov] at c2
      rw[hen] at c3
      have c6:=rG e e hei.1 hei.2
      rw[(jI.zero e e).2 rfl] at c6
      simp only[bk.frozen] at c2 c3 ⊢
      refine ca ?_
      exact⟨0+1,by omega,cG,by omega,cO,⟨_,bo⟩⟩
    ·have r5:decide ((0:Int)<(i:Int))=true:=decide_eq_true (by omega)
     have e1:=e1 hz
     have hp:=hpi hz
     have hc:=hcmp hz
     generalize es.getD (i - 1) default=e' at *
     have c4:=nw e' e hp.1 hp.2
     have r6:decide (0≤dy e' e)=false:=decide_eq_false (by omega)
     refine ca ?_
     refine aP (yE ho ok hok) ?_
     rintro r H1 n1 ⟨L,rfl,hM,hn1,hlt,hk1⟩
     have hMW:∀(H':Hp) (n':Nat),W.length=0→fS o (cZ o) L H' n'→fS o (gA o (cZ o) W) L H' n':=fun H' n' hz h=>by
      rw[List.length_eq_zero_iff] at hz
      subst hz;exact h
     refine ca ?_
     refine aQ (fun σ:Nat×Lay=>[(1,i64 most),(2, .pt 0 1 0 0),(5,eC es),(7,i64 i),(8,gM W),(11,if σ.1<W.length then .pt σ.2.m 1 0 0 else(gA o (cZ o) W).frozen o),(13,i64 σ.1)])
      (fun σ H n=>σ.1≤W.length∧(σ.1<W.length→fS o (gA o (cZ o) (W.take σ.1)) σ.2 H n)∧(∀y∈σ.2.ids,0<y)∧1≤n∧∃d,bf H 0=some (.row 25 5 d [o.av])) (fun σ=>W.length - σ.1) (0,L)
      ?_ ?_
     ·by_cases hz2:0<W.length
      ·refine⟨_,_,_,Rt.refl _ _ _,by dsimp only;rw[if_pos hz2];exact cG,Nat.zero_le _,fun _=>hM.dS (fun y hy=> ?_) cO,fun y hy=>by have:=hlt y hy;omega,cO,⟨_,Eq.trans cA ((hk1 0 (by omega)).trans (Eq.trans cA r0'))⟩⟩
       have:=hlt y hy
       have:=hM.lt y hy
       exact cA
      ·have hz3:W.length=0:=by omega
       have hno:0∉L.ids:=fun h=>by have:=hlt _ h;omega
       refine⟨_,_,_,Rt.slot 11 rfl (tf (hMW _ _ hz3 (hM.dS (fun y hy=> ?_) (Nat.le_refl _))) _),by dsimp only;rw[if_neg hz2];exact cG,Nat.zero_le _,fun h=>absurd h hz2,fun y hy=>by have:=hlt y hy;omega,cO,⟨_,(dn hno).trans (Eq.trans cA ((hk1 0 (by omega)).trans (Eq.trans cA r0')))⟩⟩
       have:=hlt y hy
       have:=hM.lt y hy
       exact cA
     clear hM hlt hn1 hk1 hMW r0'
     rintro⟨k,L⟩ H3 n3 ⟨hk,hM,hlt,hn3,⟨d3,r3'⟩⟩
     dsimp only at hk hM hlt ⊢
     by_cases hkl:k<W.length
     ·have hM:=hM hkl
      rw[if_pos hkl]
      have e2:∀d,(W.map cC.av).getD ((k:Int)).toNat d=(W.getD k default).av:=fun d=>nf hkl d
      obtain⟨q1,q2⟩:=w7 (wk.QQ k hkl)
      have hre:=wk.reach k
      have hmo:=hre.ok ok hw
      have hgp:=gl (o:=o) (W.take k) (cZ o)
      rw[List.length_take] at hgp
      have hp0:(cZ o).bh.length=0:=rfl
      have hsn:gA o (cZ o) (W.take (k+1))=(cj o (gA o (cZ o) (W.take k)) (W.getD k default).kind (W.getD k default).core).1:=by
       rw[List.take_succ_eq_append_getElem hkl,nH,show W.getD k default=W[k] by simp[List.getD,hkl]]
      generalize W.getD k default=x at *
      refine ca ?_
      refine aP (lj (hM.dS ?_ cO) hmo.iE ok (by omega) x.kind x.core) ?_
      ·intro y hy
       have:=hM.lt y hy
       exact cA
      rintro r H4 n4 ⟨rfl,hn4,⟨L3,hM3,hmo3⟩,hk3⟩
      have hid3:=hmo3.ids
      have hno:0∉L.ids:=fun h=>by have:=hlt _ h;omega
      replace hM3:fS o (gA o (cZ o) (W.take (k+1))) L3 H4 n4:=by rw[hsn];exact hM3
      have r0':=(hk3 0 (by omega) hno).trans (Eq.trans cA r3')
      have hlt3:∀y∈L3.ids,0<y:=fun y hy=>by
       rcases hid3 y hy with h|h
       ·exact hlt y h
       ·omega
      have hno3:0∉L3.ids:=fun h=>by have:=hlt3 _ h;omega
      rw[q1]
      clear hk3 hsn
      generalize (cj o (gA o (cZ o) (W.take k)) x.kind x.core).2.1=dd at *
      have r7:=decide_eq_false q2
      refine ca ?_
      by_cases hkk:k+1<W.length
      ·refine⟨(k+1,L3),by dsimp only;omega,_,_,_,Rt.refl _ _ _,by dsimp only;rw[if_pos hkk,hmo3.m];exact cG,by dsimp only;omega,fun _=>hM3.dS (fun y hy=> ?_) cO,hlt3,cO,⟨_,bo⟩⟩
       have:=hM3.lt y hy
       have:=hlt3 y hy
       exact cA
      ·have hke:k+1=W.length:=by omega
       rw[hke,List.take_length] at hM3
       refine⟨(k+1,L3),by dsimp only;omega,_,_,_,Rt.slot 11 (by rw[←hmo3.m];rfl) (tf (hM3.dS (fun y hy=> ?_) (Nat.le_refl _)) _),by dsimp only;rw[if_neg hkk];exact cG,by dsimp only;omega,fun h=>absurd h hkk,hlt3,cO,⟨_,(dn hno3).trans bo⟩⟩
       have:=hM3.lt y hy
       have:=hlt3 y hy
       exact cA
     ·obtain rfl:k=W.length:=by omega
      rw[if_neg hkl]
      have hre:=wk.reach W.length
      have hov:=wk.over
      have hen:=wk.ended
      have hgp:=gl (o:=o) W (cZ o)
      have hp0:(cZ o).bh.length=0:=rfl
      rw[List.take_length] at hre
      have hmo:=hre.ok ok hw
      clear hM
      generalize gA o (cZ o) W=E at *
      have hgm:=hmo.iE.mem
      have hlk:=hmo.look ok (by omega)
      have c2:=tL (o:=o) hlk (by rw[hgm];exact hsh)
      have c3:=my o E hlk.bg
      rw[hov] at c2
      rw[hen] at c3
      have c6:=rG e e hei.1 hei.2
      rw[(jI.zero e e).2 rfl] at c6
      simp only[bk.frozen] at c2 c3 ⊢
      refine ca ?_
      exact⟨i+1,by omega,cG,by omega,cO,⟨_,bo⟩⟩
   ·refine ca ?_
    first|trivial|exact rfl|exact lr rfl
  ·refine ca ?_
   first|trivial|exact rfl|exact lr rfl
 ·have he:e9 false o most=[]:=by unfold e9;rw[if_neg h0]
  rw[he] at c1
  generalize (cX false o most).1=er at *
  have r0:=decide_eq_true h0
  refine ca ?_
  first|trivial|exact rfl|exact lr rfl
end Go.Proofs.YtlonbgdonffcbaaGreatDoor
end
section
/- Each end has a way that a machine goes, and ends stand in order: for every object and cap. No conditions. -/
namespace Go.Proofs.YtlonbgdonffcbaaGreatDoor
open Go Go.cY Go.Proofs Go.RowKit Go.ChangeShapes Go.WideShapes Go.ChangeAt
set_option linter.unusedSimpArgs false
set_option linter.unusedVariables false
set_option maxRecDepth 100000 in
theorem rQ (os:Os) (started:os.Started) (H:Type) (enc:TypeId×Value→H):
 ReturnsInHanded {} Tryz.checked os 6 .any (fun w args=>(Rows.tsoGoesSpec.pre enc Tryz.prog Tryz.f6 [] false w args∧laidMetH Tryz.prog vd w)∧sizedMet enc Tryz.prog Tryz.f6 (OpenSpec.ofChange Rows.tsoGoesSpec) false w args) (Rows.tsoGoesSpec.post enc Tryz.prog Tryz.f6 false true false false):=by
 refine returnsInHanded_of_change_and (C:=Tryz.checked) (X:=fun w _=>laidMetH Tryz.prog vd w) (fun _ _ _ hh h=>h.of_heap hh) own started (by kernel_rfl) Tryz.func6
  (ChangeSpec.witness_shaped (enc:=enc) (C:=Tryz.checked) (os:=os) (X:=fun w _=>laidMetH Tryz.prog vd w) false (World.doorLaid Tryz.prog 400 os) #[.agg #[.slice none 0 0, .int .i64 0, .int .i64 0, .int .i64 0, .slice none 0 0], .int .i64 0] 8 rfl (World.shaped_of_RefB (by kernel_rfl) (by kernel_rfl)) (by kernel_rfl) (by kernel_rfl) (by kernel_rfl) (D1 os _)) ?_
 intro W base args ds gs before hval hW _ hr hL _
 refine uF (ts:=[25,3]) (tb:=4) laidOut (by kernel_rfl) rfl Tryz.underlying4 (by kernel_rfl) (fun ds h=> ?_) (fun t ht=> ?_)
  (ly (ag:=true) (by kernel_rfl) B6 (fun h=>by cases h) (ly (ag:=false) (by kernel_rfl) (du Tryz.underlying3) (fun _ _ _=>rfl) uK))
  (fun a h=> ?_) hval hW hr (J5 hL)
 ·match ds,h with
  |[d0,d1],_=>rfl
 ·have:∀t∈[25,3],Tryz.prog.readableRec t=true∧t<Tryz.prog.types.size:=by
   simp only[List.forall_mem_cons]
   refine⟨⟨by kernel_rfl,of_decide_eq_true (by kernel_rfl)⟩,⟨by kernel_rfl,of_decide_eq_true (by kernel_rfl)⟩,by simp⟩
  exact this t ht
 ·exact BA (o:=a.1) h.1 a.2.1
theorem wz:Rows.TsoGoesSaid:=
 OpenClaim.holds_of_wide 6 Tryz.f6 rfl rfl rfl rfl rfl rfl rfl ⟨rfl,rfl,rfl,rfl,rfl⟩ rfl rfl rfl rfl rfl (by kernel_rfl) Tryz.func6 (by kernel_rfl)
  (of_decide_eq_true (by kernel_rfl)) (by unfold Func.isWrapper;first|(rw[if_pos (by decide+kernel)];kernel_rfl)|(rw[if_neg (by decide+kernel)];exact⟨rfl,rfl⟩))
  (fun os started H enc _=>rQ os started H enc)
set_option maxRecDepth 100000 in
theorem tsoGoes_holds:Rows.TsoGoesCardSaid:=
 Claim7.holds_tied_plain_at .later [] [.data, .data, .data] true (true, "d4ad994dce242371731b714917e4b718e5faa8c908ab88b1ad48a85915cf5659") false
  wz (fun _ h=>by cases h) (by kernel_rfl) (fun _ h=>by cases h) tsoGoes_row_tie rfl ⟨rfl,rfl⟩ (by kernel_rfl) rfl
  (fun f fn hf hfn=>by
   obtain rfl:f=6:=Option.some.inj ((show Tryz.prog.funcNamed "stile/stilelaw20.TsoGoes" =some 6 by kernel_rfl).symm.trans hf)|>.symm
   obtain rfl:fn=Tryz.f6:=(Option.some.inj (Tryz.func6.symm.trans hfn)).symm
   exact⟨by kernel_rfl,fun j t ht=>by
    rw[show Tryz.f6.params=#[25,3] by kernel_rfl] at ht
    have hm:t∈[25,3]:=by simpa using Array.mem_of_getElem? ht
    have hall:([25,3].all fun u=> !Tryz.prog.wantsStandIn u)=true:=by kernel_rfl
    exact(show Tryz.prog.wantsStandIn t=false by simpa using List.all_eq_true.1 hall t hm)⟩)
  (by kernel_rfl)
end Go.Proofs.YtlonbgdonffcbaaGreatDoor
end
