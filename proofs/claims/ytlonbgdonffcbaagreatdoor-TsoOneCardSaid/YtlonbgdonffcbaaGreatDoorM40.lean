import Derived.Test.YtlonbgdonffcbaaGreatDoorM39
import Derived.Test.YtlonbgdonffcbaaGreatDoorM32
section
/- Shows: the walk. -/
namespace Go.Proofs.YtlonbgdonffcbaaGreatDoor
open Go Go.cW Go.Proofs
set_option linter.unusedSimpArgs false
set_option linter.unusedVariables false
set_option maxRecDepth 8000
theorem PK {p q:cF} (h1:p.eF=q.eF) (h2:p.word=q.word):p=q:=by cases p;cases q;simp_all
theorem rL (a b:List cF) (ha:a.length * 16≤140737488355328) (hb:b.length * 16≤140737488355328):Pure Tryz.prog 33 [dy a,dy b] (fun r=>r=bl (decide (a=b))):=by
 refine aI EZ rfl ?_
 have a0:(a.map cF.av).length=a.length:=by simp
 have a1:(b.map cF.av).length=b.length:=by simp
 by_cases hl:a.length=b.length
 ·have r0:decide ((a.map cF.av).length=(b.map cF.av).length)=true:=by simp[hl]
  refine cm ?_
  rw[List.length_map]
  refine aU (fun i:Nat=>[(0,dy a),(1,dy b),(12,i64 a.length),(13,i64 i)]) (fun i H n=>i≤a.length∧∀j,j<i→a.getD j default=b.getD j default) (fun i=>a.length - i) 0 cL ⟨Nat.zero_le _,fun j hj=>by omega⟩ ?_
  rintro i H n ⟨hi,hall⟩
  by_cases hil:i<a.length
  ·have e0:=fun d=>lZ (l:=a) hil d
   have e1:=fun d=>lZ (l:=b) (i:=i) (by omega) d
   by_cases h1:(a.getD i default).eF=(b.getD i default).eF
   ·have r1:=decide_eq_true h1
    by_cases h2:(a.getD i default).word=(b.getD i default).word
    ·have r2:=decide_eq_true h2
     refine cm ?_
     exact⟨i+1,by omega,cL,by omega,fun j hj=>by
      by_cases e:j=i
      ·rw[e];exact PK h1 h2
      ·exact hall j (by omega)⟩
    ·have r2:=decide_eq_false h2
     refine cm ?_
     refine oQ (Eq.symm (decide_eq_false ?_))
     rintro rfl
     exact h2 rfl
   ·have r1:=decide_eq_false h1
    refine cm ?_
    refine oQ (Eq.symm (decide_eq_false ?_))
    rintro rfl
    exact h1 rfl
  ·refine cm ?_
   refine oQ (Eq.symm (decide_eq_true ?_))
   apply List.ext_getElem hl
   intro j q1 q2
   have:=hall j (by omega)
   simpa[List.getD,q1,q2] using this
 ·refine cm ?_
  refine oQ (Eq.symm (decide_eq_false ?_))
  rintro rfl
  exact hl rfl
theorem BZ {o:Obj} {s:bj} (hlk:eH s) {want:List cF} (hw:want.length * 16≤140737488355328) (fr:Int) {B:AV} (hB:B= .sc (.slice none 0 0)∨∃L,B= .im 2 .any L) {wb:Nat} {H:Hp} {nx:Nat} (hb:∃d,bf H wb=some (.row 45 1 d [dy want])) (hlt:wb<nx):iy Tryz.prog 32 [.agg [s.frozen o,i64 fr,B], .pt wb 1 0 0] H nx (bl (decide (s.bh=want))):=by
 obtain⟨d,hb⟩:=hb
 have c0:=oF o s hlk.bh
 have c1:=rL s.bh want hlk.bh hw
 simp only[bj.frozen] at c0 ⊢
 rcases hB with rfl|⟨L,rfl⟩
 all_goals
  refine aS EY rfl ?_
  refine cm ?_
  exact⟨⟨rfl,fun y hy=>cD⟩⟩
def qS {α:Type} (f:α→Bool):List α→Nat→Int
 |[],_=>-1
 |e::l,k=>if f e=true then k else qS f l (k+1)
theorem vJ {α:Type} (f:α→Bool):∀(l:List α) (k:Nat),decide (0≤qS f l k)=l.any f
 |[],k=>by simp[qS]
 |e::l,k=>by
  rw[qS,List.any_cons]
  split
  ·rename_i h;rw[h];simp
  ·rename_i h
   rw[vJ f l (k+1)]
   simp only[Bool.not_eq_true] at h
   rw[h];rfl
theorem AW {α:Type} [Inhabited α] (f:α→Bool) {l:List α} {i:Nat} (h:i<l.length) (k:Nat):qS f (l.drop i) k=if f (l.getD i default)=true then(k:Int) else qS f (l.drop (i+1)) (k+1):=by
 rw[List.drop_eq_getElem_cons h,qS,show l.getD i default=l[i] by simp[List.getD,h]]
theorem AX {o:Obj} {l:List bu} (hl:l.length≤65536) (hlk:∀i,i<l.length→eH (l.getD i default).m) {want:List cF} (hw:want.length * 16≤140737488355328) {wb:Nat} {H:Hp} {nx:Nat} (hb:∃d,bf H wb=some (.row 45 1 d [dy want])) (hlt:wb<nx):
 iy Tryz.prog 64 [gv o l, .fn (.func 32) [] [.pt wb 1 0 0]] H nx (i64 (qS (fun f:bu=>decide (f.m.bh=want)) l 0)):=by
 obtain⟨d0,hb⟩:=hb
 refine aS FL rfl ?_
 refine cm ?_
 rw[List.length_map]
 refine aR (fun i:Nat=>[(0,gv o l),(1, .fn (.func 32) [] [.pt wb 1 0 0]),(7,i64 l.length),(8,i64 i)])
  (fun i H2 n=>i≤l.length∧nx≤n∧qS (fun f:bu=>decide (f.m.bh=want)) (l.drop i) i=qS (fun f:bu=>decide (f.m.bh=want)) l 0∧∀y,y<nx→bf H2 y=bf H y) (fun i=>l.length - i) 0
  ⟨_,_,_,Rt.refl _ _ _,cL,Nat.zero_le _,cN,rfl,fun y hy=>cD⟩ ?_
 rintro i H2 n ⟨hi,hn,hix,hk⟩
 have a0:(l.map (bu.av o)).length=l.length:=List.length_map _
 by_cases hil:i<l.length
 ·have e0:∀d,(l.map (bu.av o)).getD ((i:Int)).toNat d= .agg [(l.getD i default).m.frozen o,i64 (l.getD i default).from_,mX (l.getD i default).C5]:=fun d=>by rw[Int.toNat_natCast,dh (bu.av o) l i d hil];rfl
  rw[AW _ hil] at hix
  have hlk:=hlk i hil
  have hby:=pj (l.getD i default).C5
  generalize mX (l.getD i default).C5=B at e0 hby
  generalize (l.getD i default).from_=fr at e0
  generalize (l.getD i default).m=s at *
  have hsl:=fun(H3:Hp) (n3:Nat) (h1:bf H3 wb=some (.row 45 1 d0 [dy want])) (h2:wb<n3)=>BZ (o:=o) hlk hw fr hby (H:=H3) (nx:=n3) ⟨d0,h1⟩ h2
  rcases hby with rfl|⟨L,rfl⟩
  all_goals
   refine cm ?_
   refine aQ (hsl _ _ ?_ cN) trivial ?_
   ·exact Eq.trans cD ((hk wb hlt).trans hb)
   by_cases hx:s.bh=want
   ·rw[if_pos (decide_eq_true hx)] at hix
    have r0:=decide_eq_true hx
    refine cm ?_
    exact⟨⟨by rw[←hix],fun y hy=>Eq.trans cD (hk y hy)⟩⟩
   ·rw[if_neg (by simpa using hx)] at hix
    have r0:=decide_eq_false hx
    refine cm ?_
    exact⟨i+1,by omega,_,_,_,Rt.refl _ _ _,cL,by omega,cN,hix,fun y hy=>Eq.trans cD (hk y hy)⟩
 ·obtain rfl:i=l.length:=by omega
  rw[List.drop_length] at hix
  refine cm ?_
  exact⟨⟨by rw[←hix];rfl,fun y hy=>Eq.trans cD (hk y hy)⟩⟩
theorem zk {o:Obj} {l:List bu} (hl:l.length≤65536) (hlk:∀i,i<l.length→eH (l.getD i default).m) {want:List cF} (hw:want.length * 16≤140737488355328) {wb:Nat} {H:Hp} {nx:Nat} (hb:∃d,bf H wb=some (.row 45 1 d [dy want])) (hlt:wb<nx):
 iy Tryz.prog 31 [gv o l, .fn (.func 32) [] [.pt wb 1 0 0]] H nx (bl (l.any fun f:bu=>decide (f.m.bh=want))):=by
 obtain⟨d0,hb⟩:=hb
 refine aS EX rfl ?_
 refine cm ?_
 refine aQ (AX hl hlk hw ⟨d0, ?_⟩ cN) trivial ?_
 ·exact Eq.trans cD hb
 have h1:=vJ (fun f:bu=>decide (f.m.bh=want)) l 0
 generalize qS (fun f:bu=>decide (f.m.bh=want)) l 0=i at *
 rw[←h1]
 refine cm ?_
 exact⟨⟨rfl,fun y hy=>cD⟩⟩
theorem uk (o:Obj) (l:List bu) (e:Int):cC 0 (.dF [gv o l,i64 e]):=by
 have:=iW o l
 simp only[cC,cG]
 exact⟨this,trivial,trivial⟩
theorem uP {p:Bool} {o:Obj} {most:Int} (h:¬(cc p o most).1=0):(cc p o most).2=[]:=by
 unfold cc at *
 by_cases h1:fB o=false
 ·rw[if_pos h1]
 ·rw[if_neg h1] at h ⊢
  by_cases h2:1≤most∧most≤65536
  ·rw[if_neg (fun e=>e h2)] at h ⊢
   revert h
   cases iz p o most.toNat with
   |none=>intro _;rfl
   |some l=>intro h;exact absurd rfl h
  ·rw[if_pos h2]
theorem CR {p:Bool} {o:Obj} (ho:o.Wf) {g:Nat} (hg:ch o→lL p o g) (most:Int):Pure Tryz.prog 30 [o.av,i64 most, .fn (.func g) [] []] (fun r=>r= .dF [gv o (cc p o most).2,i64 (cc p o most).1]):=by
 refine l7 (y0 ho hg most) (uk _ _ _) fun c=> ?_
 unfold y4
 by_cases h0:(cc p o most).1=0
 ·rw[if_pos h0,h0];exact fun _ h=>h
 ·rw[if_neg h0,uP h0]
  exact c8.dF (.cons (c8.wE _ _ _ _) (.cons (fun _ h=>h) .nil))
theorem zi {p:Bool} {o:Obj} (ho:o.Wf) (most:Int):(cc p o most).2.length≤65536∧∀i,i<(cc p o most).2.length→eH ((cc p o most).2.getD i default).m:=by
 by_cases h0:(cc p o most).1=0
 ·obtain⟨ok,hf,hl⟩:=pF ho h0
  refine⟨hl,fun i hi=> ?_⟩
  obtain⟨h1,h2⟩:=hf.ok i hi
  exact h1.look ok (by omega)
 ·rw[uP h0]
  exact⟨by simp,fun i hi=>by simp at hi⟩
def qt (o:Obj) (most:Int) (want:List cF):Bool:=(cc false o most).2.any fun f=>decide (f.m.bh=want)
theorem MX {o:Obj} (ho:o.Wf) (most:Int) (want:List cF) (hw:want.length * 16≤140737488355328):Pure Tryz.prog 11 [o.av,i64 most,dy want] (fun r=>r= .dF [bl (qt o most want),i64 (cc false o most).1]):=by
 refine cz ?_ (by simp[cC,cG])
 have c0:=CR (p:=false) ho (fun ok=>sQ ok) most
 obtain⟨hl,hlk⟩:=zi (p:=false) ho most
 have hff:=iW o (cc false o most).2
 unfold qt
 generalize (cc false o most).1=e at *
 generalize (cc false o most).2=l at *
 refine aO EM rfl ?_
 refine cm ?_
 refine aQ (zk hl hlk hw (wb:=1) ⟨.any, ?_⟩ cN) trivial ?_
 ·exact bo
 refine cm ?_
 exact⟨rfl⟩
end Go.Proofs.YtlonbgdonffcbaaGreatDoor
end
section
/- Whatever is played, a situation that was found stands as the machine does, but for what has halted or is about to. -/
namespace Go.Proofs.YtlonbgdonffcbaaGreatDoor
open Go Go.cW Go.Proofs
set_option linter.unusedSimpArgs false
set_option linter.unusedVariables false
structure uE (o:Obj) (q:Nat) (c d:bw):Prop where
 pc:c.pc=d.pc
 buf:c.buf=d.buf
 rest:(c.halted=d.halted∧∀j,j<16→c.dX j=d.dX j)∨9<(fI o q c).kind
structure Alike (o:Obj) (s d:bj):Prop where
 n:s.bd.length=d.bd.length
 core:∀q,q<s.bd.length→uE o q (s.core q) (d.core q)
 mem:s.mem=d.mem
 bh:s.bh=d.bh
theorem iD (o:Obj) (q:Nat) {c d:bw} (h:c.pc=d.pc):fI o q c=fI o q d:=by unfold fI;rw[h]
theorem Alike.refl (o:Obj) (s:bj):Alike o s s:=⟨rfl,fun _ _=>⟨rfl,rfl, .inl ⟨rfl,fun _ _=>rfl⟩⟩,rfl,rfl⟩
theorem uE.trans {o:Obj} {q:Nat} {a b c:bw} (h:uE o q a b) (h':uE o q b c):uE o q a c:=by
 refine⟨h.pc.trans h'.pc,h.buf.trans h'.buf, ?_⟩
 rcases h.rest with⟨h1,h2⟩|h1
 ·rcases h'.rest with⟨h3,h4⟩|h3
  ·exact .inl ⟨h1.trans h3,fun j hj=>(h2 j hj).trans (h4 j hj)⟩
  ·rw[←iD o q h.pc] at h3;exact .inr h3
 ·exact .inr h1
theorem Alike.trans {o:Obj} {a b c:bj} (h:Alike o a b) (h':Alike o b c):Alike o a c:=
 ⟨h.n.trans h'.n,fun q hq=>(h.core q hq).trans (h'.core q (by rw[←h.n];exact hq)),h.mem.trans h'.mem,h.bh.trans h'.bh⟩
theorem oM.alike {o:Obj} {s d:bj} (hs:oi o s) (hd:oi o d) (h:oM s d):Alike o s d where
 n:=h.n
 mem:=h.mem
 bh:=h.bh
 core:=fun q hq=>by
  have hk:=h.core q hq
  refine⟨hk.pc,hk.buf, ?_⟩
  by_cases e:(s.core q).halted=(d.core q).halted
  ·exact .inl ⟨e,hk.dX e⟩
  ·right
   by_cases e1:(s.core q).halted=true
   ·exact hs.hz q hq e1
   ·have e2:(d.core q).halted=true:=by
     revert e e1;cases(s.core q).halted<;>cases(d.core q).halted<;>simp
    rw[iD o q hk.pc]
    exact hd.hz q (by rw[←h.n];exact hq) e2
theorem iR {b:Int} {c d:bw} (h:c.buf=d.buf) (i:Instr):dZ b c i=dZ b d i:=by unfold dZ;rw[h]
theorem uM {q:Nat} {c d:bw} {i:Instr} {code m:Int} (iok:mN i code m) (hp:c.pc=d.pc) (hb:c.buf=d.buf) (hh:c.halted=d.halted) (hr:∀j,j<16→c.dX j=d.dX j) (mem:List Int) (pr:List cF):
 (eE q c i mem pr).1.2=(eE q d i mem pr).1.2∧(eE q c i mem pr).2=(eE q d i mem pr).2∧(eE q c i mem pr).1.1.pc=(eE q d i mem pr).1.1.pc∧(eE q c i mem pr).1.1.buf=(eE q d i mem pr).1.1.buf∧(eE q c i mem pr).1.1.halted=(eE q d i mem pr).1.1.halted∧∀j,j<16→(eE q c i mem pr).1.1.dX j=(eE q d i mem pr).1.1.dX j:=by
 have ha:=hr i.a.toNat (by have:=iok.a;omega)
 have hbb:=hr i.b.toNat (by have:=iok.b;omega)
 have hd:=hr i.d.toNat (by have:=iok.d;omega)
 have hset:∀(k w:Int) j,j<16→mI c.dX k w j=mI d.dX k w j:=fun k w j hj=>by
  unfold mI
  split
  ·rfl
  ·exact hr j hj
 unfold eE
 rw[ha,hbb,hd,hp,hb]
 by_cases k1:i.kind=1
 ·simp only[if_pos k1];refine⟨?_, ?_, ?_, ?_, ?_, ?_⟩<;>first|exact rfl|trivial|exact congrArg (·+1) hp|exact hp|exact hb|exact hh|exact hset _ _|exact hr
 by_cases k2:i.kind=2
 ·simp only[if_neg k1,if_pos k2];refine⟨?_, ?_, ?_, ?_, ?_, ?_⟩<;>first|exact rfl|trivial|exact congrArg (·+1) hp|exact hp|exact hb|exact hh|exact hset _ _|exact hr
 by_cases k3:i.kind=3
 ·simp only[if_neg k1,if_neg k2,if_pos k3];refine⟨?_, ?_, ?_, ?_, ?_, ?_⟩<;>first|exact rfl|trivial|exact congrArg (·+1) hp|exact hp|exact hb|exact hh|exact hset _ _|exact hr
 by_cases k4:i.kind=4
 ·simp only[if_neg k1,if_neg k2,if_neg k3,if_pos k4];refine⟨?_, ?_, ?_, ?_, ?_, ?_⟩<;>first|exact rfl|trivial|exact congrArg (·+1) hp|exact hp|exact hb|exact hh|exact hset _ _|exact hr
 by_cases k5:i.kind=5
 ·simp only[if_neg k1,if_neg k2,if_neg k3,if_neg k4,if_pos k5];refine⟨?_, ?_, ?_, ?_, ?_, ?_⟩<;>first|exact rfl|trivial|exact congrArg (·+1) hp|exact hp|exact hb|exact hh|exact hset _ _|exact hr
 by_cases k6:i.kind=6
 ·simp only[if_neg k1,if_neg k2,if_neg k3,if_neg k4,if_neg k5,if_pos k6];refine⟨?_, ?_, ?_, ?_, ?_, ?_⟩<;>first|exact rfl|trivial|exact congrArg (·+1) hp|exact hp|exact hb|exact hh|exact hset _ _|exact hr
 by_cases k7:i.kind=7
 ·simp only[if_neg k1,if_neg k2,if_neg k3,if_neg k4,if_neg k5,if_neg k6,if_pos k7];refine⟨?_, ?_, ?_, ?_, ?_, ?_⟩<;>first|exact rfl|trivial|exact congrArg (·+1) hp|exact hp|exact hb|exact hh|exact hset _ _|exact hr
 by_cases k8:i.kind=8
 ·simp only[if_neg k1,if_neg k2,if_neg k3,if_neg k4,if_neg k5,if_neg k6,if_neg k7,if_pos k8];refine⟨?_, ?_, ?_, ?_, ?_, ?_⟩<;>first|exact rfl|trivial|exact congrArg (·+1) hp|exact hp|exact hb|exact hh|exact hset _ _|exact hr
 by_cases k9:i.kind=9
 ·simp only[if_neg k1,if_neg k2,if_neg k3,if_neg k4,if_neg k5,if_neg k6,if_neg k7,if_neg k8,if_pos k9]
  refine⟨?_, ?_, ?_⟩
  ·first|exact rfl|trivial
  ·first|exact rfl|trivial
  ·split<;>refine⟨?_, ?_, ?_, ?_⟩<;>first|exact rfl|exact congrArg (·+1) hp|exact hb|exact hh|exact hr
 simp only[if_neg k1,if_neg k2,if_neg k3,if_neg k4,if_neg k5,if_neg k6,if_neg k7,if_neg k8,if_neg k9];refine⟨?_, ?_, ?_, ?_, ?_, ?_⟩<;>first|exact rfl|trivial|exact congrArg (·+1) hp|exact hp|exact hb|exact hh|exact hset _ _|exact hr
def KI (o:Obj) (s:bj) (x:cQ):Prop:=x∈dW o s s.bd.length
theorem Alike.step {o:Obj} {s d:bj} (ok:ch o) (hs:oi o s) (hd:oi o d) (h:Alike o s d) (kind k:Int):Alike o (ck o s kind k).1 d∨∃x,KI o d x∧Alike o (ck o s kind k).1 (ck o d x.kind x.core).1:=by
 rcases fg o s kind k with⟨q,rfl,hk⟩|h1
 ·rcases hk with rfl|rfl
  ·show Alike o (eN o s q).1 d∨∃x,KI o d x∧Alike o (eN o s q).1 (ck o d x.kind x.core).1
   by_cases hc:¬q<s.bd.length∨(s.core q).halted=true∨dZ o.buffer (s.core q) (fI o q (s.core q))=true
   ·rw[(fb hc).1];exact .inl h
   ·simp only[not_or,Decidable.not_not,Bool.not_eq_true] at hc
    obtain⟨hq,h1,h2⟩:=hc
    rw[(fQ hq h1 h2).1]
    have ha:=h.core q hq
    have hqd:q<d.bd.length:=by rw[←h.n];exact hq
    obtain⟨iok,hpc⟩:=nv hs.gC ok hq
    have hin:=iD o q ha.pc
    by_cases h9:9<(fI o q (s.core q)).kind
    ·left
     rw[pN h9]
     refine⟨(dV _ _ _).trans h.n,fun j hj=> ?_,h.mem,h.bh⟩
     rw[dV] at hj
     rw[du hq]
     by_cases e:j=q
     ·subst e
      rw[if_pos rfl]
      exact⟨ha.pc,ha.buf, .inr h9⟩
     ·rw[if_neg e];exact h.core j hj
    ·right
     rcases ha.rest with⟨h3,h4⟩|h3
     ·have hdh:(d.core q).halted=false:=by rw[←h3];exact h1
      have hds:dZ o.buffer (d.core q) (fI o q (d.core q))=false:=by rw[←hin,←iR ha.buf];exact h2
      refine⟨⟨1,q⟩,kJ hqd hdh hds, ?_⟩
      show Alike o _ (eN o d q).1
      rw[(fQ hqd hdh hds).1,←hin,←h.mem,←h.bh]
      obtain⟨e1,e2,e3,e4,e5,e6⟩:=uM (q:=q) iok ha.pc ha.buf h3 h4 s.mem s.bh
      refine⟨(dV _ _ _).trans (h.n.trans (dV _ _ _).symm),fun j hj=> ?_,congrArg Prod.fst e1,congrArg Prod.snd e1⟩
      rw[dV] at hj
      rw[du hq,du hqd]
      by_cases e:j=q
      ·subst e
       rw[if_pos rfl,if_pos rfl]
       exact⟨e3,e4, .inl ⟨e5,e6⟩⟩
      ·rw[if_neg e,if_neg e];exact h.core j hj
     ·exact absurd h3 h9
  ·show Alike o (cx o s q).1 d∨∃x,KI o d x∧Alike o (cx o s q).1 (ck o d x.kind x.core).1
   by_cases hq:q<s.bd.length
   ·cases hb:(s.core q).buf with
    |nil=>rw[(dg (.inr hb)).1];exact .inl h
    |cons x t=>
     have ha:=h.core q hq
     have hqd:q<d.bd.length:=by rw[←h.n];exact hq
     have hbd:(d.core q).buf=x::t:=by rw[←ha.buf];exact hb
     right
     refine⟨⟨2,q⟩,qe hqd (by rw[hbd];simp), ?_⟩
     show Alike o _ (cx o d q).1
     rw[(eu hq hb).1,(eu hqd hbd).1]
     refine⟨(dV _ _ _).trans (h.n.trans (dV _ _ _).symm),fun j hj=> ?_,congrArg (fun l=>List.set l x.addr.toNat x.word) h.mem,h.bh⟩
     rw[dV] at hj
     rw[du hq,du hqd]
     by_cases e:j=q
     ·subst e
      rw[if_pos rfl,if_pos rfl]
      exact⟨ha.pc,rfl,ha.rest⟩
     ·rw[if_neg e,if_neg e];exact h.core j hj
   ·rw[(dg (.inl hq)).1];exact .inl h
 ·rw[h1];exact .inl h
structure kd (o:Obj) (l:List bu):Prop where
 ok:∀i,i<l.length→oi o (l.getD i default).m
 init:∃i,i<l.length∧(l.getD i default).m=dM o
 leads:∀i,i<l.length→∀x,KI o (l.getD i default).m x→dn (ck o (l.getD i default).m x.kind x.core).1∈dU l
theorem uQ {o:Obj} {most:Nat} {l:List bu} (ok:ch o) (hw:gy o) (hm:1≤most) (h:iz false o most=some l):kd o l:=by
 obtain⟨h1,h2,h3,h4⟩:=jt ok hw hm h
 refine⟨fun i hi=>(h1.ok i hi).1,⟨0,h1.pos,by rw[h1.first]⟩,fun i hi x hx=> ?_⟩
 refine h4 i hi [x] ?_
 unfold cy
 rw[if_neg (by simp)]
 exact List.mem_map.2 ⟨x,hx,rfl⟩
theorem kd.key {o:Obj} {l:List bu} (hc:kd o l) {m:bj} (hm:oi o m) (h:dn m∈dU l):∃i,i<l.length∧oM m (l.getD i default).m:=by
 obtain⟨f,hf,he⟩:=List.mem_map.1 h
 obtain⟨i,hi,rfl⟩:=List.mem_iff_getElem.1 hf
 have e:l[i]=l.getD i default:=by simp[List.getD,hi]
 rw[e] at he
 have h2:=hc.ok i hi
 exact⟨i,hi,key_inj hm.w h2.w (hm.gC.n.trans h2.gC.n.symm) he.symm⟩
theorem kd.next {o:Obj} {l:List bu} (ok:ch o) (hw:gy o) (hc:kd o l) {s:bj} (hs:oi o s) {i:Nat} (hi:i<l.length) (h:Alike o s (l.getD i default).m) (kind k:Int):∃j,j<l.length∧Alike o (ck o s kind k).1 (l.getD j default).m:=by
 have hd:=hc.ok i hi
 rcases h.step ok hs hd kind k with h1|⟨x,hx,h1⟩
 ·exact⟨i,hi,h1⟩
 ·have h2:=hd.step ok hw x.kind x.core
  obtain⟨j,hj,h3⟩:=hc.key h2 (hc.leads i hi x hx)
  exact⟨j,hj,h1.trans (h3.alike h2 (hc.ok j hj))⟩
inductive Reach (o:Obj):bj→Prop where
 |init:Reach o (dM o)
 |step {s:bj} (h:Reach o s) (kind k:Int):Reach o (ck o s kind k).1
theorem Reach.ok {o:Obj} (ok:ch o) (hw:gy o) {s:bj} (h:Reach o s):oi o s:=by
 induction h with
 |init=>exact oi.init ok hw
 |step _ kind k ih=>exact ih.step ok hw kind k
theorem Reach.found {o:Obj} {l:List bu} (ok:ch o) (hw:gy o) (hc:kd o l) {s:bj} (h:Reach o s):∃j,j<l.length∧Alike o s (l.getD j default).m:=by
 induction h with
 |init=>
  obtain⟨i,hi,e⟩:=hc.init
  exact⟨i,hi,by rw[e];exact Alike.refl _ _⟩
 |step h kind k ih=>
  obtain⟨i,hi,h1⟩:=ih
  exact hc.next ok hw (h.ok ok hw) hi h1 kind k
def lu (s:bj):Prop:=∀q,q<s.bd.length→(s.core q).halted=true∧(s.core q).buf=[]
def bj.tl (s:bj):Nat:=(s.bd.map bw.tl).sum
theorem HI:∀(l:List bw),(l.map bw.tl).sum≤l.length * 16
 |[]=>Nat.le_refl _
 |c::l=>by
  have:=HI l
  have:=OT c
  simp only[List.map_cons,List.sum_cons,List.length_cons]
  omega
theorem z6:∀(l:List bw) (q:Nat) (c:bw),q<l.length→((l.set q c).map bw.tl).sum+(l.getD q default).tl=(l.map bw.tl).sum+c.tl
 |[],_,_,h=>by simp at h
 |a::l,0,c,h=>by simp only[List.set_cons_zero,List.map_cons,List.sum_cons,List.getD_cons_zero];omega
 |a::l,q+1,c,h=>by
  have:=z6 l q c (by simpa using h)
  simp only[List.set_cons_succ,List.map_cons,List.sum_cons,List.getD_cons_succ]
  omega
theorem JO {s:bj} {q:Nat} (hq:q<s.bd.length) (r:bw×List Int×List cF):(s.oG q r).tl+(s.core q).tl=s.tl+r.1.tl:=z6 s.bd q r.1 hq
theorem IV {c:bw} (h:c.halted=false):({ c with halted:=true }:bw).tl=c.tl+1:=by
 unfold bw.tl eX
 rw[h]
 simp;omega
theorem oM.tl {s d:bj} (h:oM s d):s.tl=d.tl:=by
 unfold bj.tl
 congr 1
 apply List.ext_getElem
 ·simp[h.n]
 ·intro i h1 h2
  have hi:i<s.bd.length:=by simpa using h1
  have hid:i<d.bd.length:=by simpa using h2
  have:=(h.core i hi).tl
  simpa[bj.core,List.getD,hi,hid] using this
theorem kd.ended {o:Obj} {l:List bu} (ok:ch o) (hw:gy o) (hc:kd o l) {s:bj} (hs:oi o s) (he:lu s):∀(n:Nat) {i:Nat},i<l.length→Alike o s (l.getD i default).m→16 * 8≤(l.getD i default).m.tl+n→∃j,j<l.length∧Alike o s (l.getD j default).m∧lu (l.getD j default).m:=by
 intro n
 induction n using Nat.strongRecOn with
 |_ n ih=>
  intro i hi h hn
  have hd:=hc.ok i hi
  generalize hm:(l.getD i default).m=d at *
  by_cases hall:∀q,q<d.bd.length→(d.core q).halted=true
  ·refine⟨i,hi,hm▸h,fun q hq=> ?_⟩
   rw[hm] at hq ⊢
   refine⟨hall q hq, ?_⟩
   rw[←(h.core q (by rw[h.n];exact hq)).buf]
   exact(he q (by rw[h.n];exact hq)).2
  ·simp only[Classical.not_forall] at hall
   obtain⟨q,hq,hnh⟩:=hall
   have hqs:q<s.bd.length:=by rw[h.n];exact hq
   have ha:=h.core q hqs
   obtain⟨e1,e2⟩:=he q hqs
   have h9:=hs.hz q hqs e1
   rw[iD o q ha.pc] at h9
   have hnb:(d.core q).buf=[]:=by rw[←ha.buf];exact e2
   have hst:dZ o.buffer (d.core q) (fI o q (d.core q))=false:=by
    unfold dZ
    rw[if_neg (by have:=(nv hd.gC ok hq).1.kind;omega)]
    split
    ·rw[hnb];simp
    ·rfl
   have hnh:(d.core q).halted=false:=by simpa using hnh
   have hrd:KI o (l.getD i default).m ⟨1,q⟩:=by rw[hm];exact kJ hq hnh hst
   have hl:=hc.leads i hi _ hrd
   rw[hm] at hl
   have e3:=(fQ hq hnh hst).1
   rw[pN h9] at e3
   change (ck o d 1 q).1=_ at e3
   have hd2:=hd.step ok hw 1 q
   obtain⟨j,hj,hk⟩:=hc.key hd2 hl
   have htl:(ck o d 1 q).1.tl=d.tl+1:=by
    rw[e3]
    have h1:=JO hq ({ d.core q with halted:=true },d.mem,d.bh)
    have h2:=IV hnh
    dsimp only at h1 ⊢
    omega
   have hal:Alike o s (ck o d 1 q).1:=by
    rw[e3]
    refine⟨h.n.trans (dV _ _ _).symm,fun p hp=> ?_,h.mem,h.bh⟩
    rw[du hq]
    by_cases e:p=q
    ·subst e
     rw[if_pos rfl]
     exact⟨ha.pc,ha.buf, .inr (by rw[iD o p ha.pc];exact h9)⟩
    ·rw[if_neg e];exact h.core p hp
   have hle:(l.getD j default).m.tl≤16 * 8:=by
    have:=HI (l.getD j default).m.bd
    have hn2:=(hc.ok j hj).gC.n
    have:=ok.bd
    unfold bj.tl
    omega
   have hk2:=hk.tl
   rw[htl] at hk2
   exact ih (n - 1) (by omega) hj (hal.trans (hk.alike hd2 (hc.ok j hj))) (by omega)
end Go.Proofs.YtlonbgdonffcbaaGreatDoor
end
section
/- A greater buffer; one core alone. -/
namespace Go.Proofs.YtlonbgdonffcbaaGreatDoor
open Go Go.cW Go.Proofs
set_option linter.unusedSimpArgs false
set_option linter.unusedVariables false
structure eI (s d:bj):Prop where
 n:s.bd.length=d.bd.length
 core:∀q,q<s.bd.length→(s.core q).pc=(d.core q).pc∧(s.core q).buf=(d.core q).buf∧(s.core q).halted=(d.core q).halted∧∀j,j<16→(s.core q).dX j=(d.core q).dX j
 mem:s.mem=d.mem
 bh:s.bh=d.bh
theorem xy {c d:bw} (h:∀j,j<16→c.dX j=d.dX j):de c=de d:=by
 unfold de
 have:∀l:List Nat,(∀j∈l,j<16)→(l.flatMap fun j=>ct (c.dX j))=l.flatMap fun j=>ct (d.dX j):=by
  intro l
  induction l with
  |nil=>intro _;rfl
  |cons j l ih=>intro hl;rw[List.flatMap_cons,List.flatMap_cons,h j (hl j (by simp)),ih fun i hi=>hl i (by simp[hi])]
 exact this _ fun j hj=>List.mem_range.1 hj
theorem eI.key {s d:bj} (h:eI s d):dn s=dn d:=by
 unfold dn
 rw[h.mem,h.bh]
 congr 1
 have:s.bd.map dS=d.bd.map dS:=by
  apply List.ext_getElem
  ·simp[h.n]
  ·intro i h1 h2
   have hi:i<s.bd.length:=by simpa using h1
   have hid:i<d.bd.length:=by simpa using h2
   obtain⟨e1,e2,e3,e4⟩:=h.core i hi
   simp only[bj.core,List.getD,List.getElem?_eq_getElem hi,List.getElem?_eq_getElem hid,Option.getD_some] at e1 e2 e3 e4
   rw[List.getElem_map,List.getElem_map]
   unfold dS eX
   rw[e1,e2,e3,xy e4]
 rw[List.flatMap_def,List.flatMap_def,this]
theorem eI.symm {s d:bj} (h:eI s d):eI d s:=⟨h.n.symm,fun q hq=>by obtain⟨e1,e2,e3,e4⟩:=h.core q (by rw[h.n];exact hq);exact⟨e1.symm,e2.symm,e3.symm,fun j hj=>(e4 j hj).symm⟩,h.mem.symm,h.bh.symm⟩
theorem eI.trans {a b c:bj} (h:eI a b) (h':eI b c):eI a c:=⟨h.n.trans h'.n,fun q hq=>by
 obtain⟨e1,e2,e3,e4⟩:=h.core q hq
 obtain⟨f1,f2,f3,f4⟩:=h'.core q (by rw[←h.n];exact hq)
 exact⟨e1.trans f1,e2.trans f2,e3.trans f3,fun j hj=>(e4 j hj).trans (f4 j hj)⟩,h.mem.trans h'.mem,h.bh.trans h'.bh⟩
theorem eI.refl (s:bj):eI s s:=⟨rfl,fun _ _=>⟨rfl,rfl,rfl,fun _ _=>rfl⟩,rfl,rfl⟩
theorem eI.run {o:Obj} {s d:bj} (ok:ch o) (g:Good o s) (h:eI s d) (q:Nat):eI (eN o s q).1 (eN o d q).1∧(eN o s q).2.1.kind=(eN o d q).2.1.kind:=by
 by_cases hc:¬q<s.bd.length∨(s.core q).halted=true∨dZ o.buffer (s.core q) (fI o q (s.core q))=true
 ·have hd:¬q<d.bd.length∨(d.core q).halted=true∨dZ o.buffer (d.core q) (fI o q (d.core q))=true:=by
   by_cases hq:q<s.bd.length
   ·obtain⟨e1,e2,e3,e4⟩:=h.core q hq
    right
    rw[←e3,←iD o q e1,←iR e2]
    exact hc.resolve_left fun h=>h hq
   ·left;rw[←h.n];exact hq
  rw[(fb hc).1,(fb hd).1,(fb hc).2,(fb hd).2]
  exact⟨h,rfl⟩
 ·simp only[not_or,Decidable.not_not,Bool.not_eq_true] at hc
  obtain⟨hq,h1,h2⟩:=hc
  obtain⟨e1,e2,e3,e4⟩:=h.core q hq
  have hqd:q<d.bd.length:=by rw[←h.n];exact hq
  have h1d:(d.core q).halted=false:=by rw[←e3];exact h1
  have h2d:dZ o.buffer (d.core q) (fI o q (d.core q))=false:=by rw[←iD o q e1,←iR e2];exact h2
  obtain⟨a1,a2,_⟩:=fQ hq h1 h2
  obtain⟨b1,b2,_⟩:=fQ hqd h1d h2d
  rw[a1,a2,b1,b2,←iD o q e1,←h.mem,←h.bh]
  obtain⟨f1,f2,f3,f4,f5,f6⟩:=uM (q:=q) (nv g ok hq).1 e1 e2 e3 e4 s.mem s.bh
  refine⟨⟨(dV _ _ _).trans (h.n.trans (dV _ _ _).symm),fun j hj=> ?_,congrArg Prod.fst f1,congrArg Prod.snd f1⟩,f2⟩
  rw[dV] at hj
  rw[du hq,du hqd]
  by_cases e:j=q
  ·subst e
   rw[if_pos rfl,if_pos rfl]
   exact⟨f3,f4,f5,f6⟩
  ·rw[if_neg e,if_neg e];exact h.core j hj
theorem eI.drain {o:Obj} {s d:bj} (h:eI s d) (q:Nat):eI (cx o s q).1 (cx o d q).1:=by
 by_cases hq:q<s.bd.length
 ·have hqd:q<d.bd.length:=by rw[←h.n];exact hq
  obtain⟨e1,e2,e3,e4⟩:=h.core q hq
  cases hb:(s.core q).buf with
  |nil=>rw[(dg (.inr hb)).1,(dg (.inr (e2.symm.trans hb))).1];exact h
  |cons x t=>
   rw[(eu hq hb).1,(eu hqd (e2.symm.trans hb)).1]
   refine⟨(dV _ _ _).trans (h.n.trans (dV _ _ _).symm),fun j hj=> ?_,congrArg (fun l=>List.set l x.addr.toNat x.word) h.mem,h.bh⟩
   rw[dV] at hj
   rw[du hq,du hqd]
   by_cases e:j=q
   ·subst e
    rw[if_pos rfl,if_pos rfl]
    exact⟨e1,rfl,e3,e4⟩
   ·rw[if_neg e,if_neg e];exact h.core j hj
 ·rw[(dg (.inl hq)).1,(dg (.inl (by rw[←h.n];exact hq))).1];exact h
theorem eI.step {o:Obj} {s d:bj} (ok:ch o) (g:Good o s) (h:eI s d) (kind k:Int):eI (ck o s kind k).1 (ck o d kind k).1:=by
 rcases fg o s kind k with⟨q,rfl,hk⟩|h1
 ·rcases hk with rfl|rfl
  ·exact(h.run ok g q).1
  ·exact h.drain (o:=o) q
 ·rcases fg o d kind k with⟨q,rfl,hk⟩|h2
  ·rcases hk with rfl|rfl
   ·exact(h.run ok g q).1
   ·exact h.drain (o:=o) q
  ·rw[h1,h2];exact h
theorem HF (o:Obj) (s:bj) (kind k:Int):(ck o s kind k).1=s∨KI o s ⟨kind,k⟩:=by
 rcases fg o s kind k with⟨q,rfl,hk⟩|h1
 ·rcases hk with rfl|rfl
  ·by_cases hc:¬q<s.bd.length∨(s.core q).halted=true∨dZ o.buffer (s.core q) (fI o q (s.core q))=true
   ·exact .inl (fb hc).1
   ·simp only[not_or,Decidable.not_not,Bool.not_eq_true] at hc
    obtain⟨hq,h1,h2⟩:=hc
    exact .inr (kJ hq h1 h2)
  ·by_cases hc:¬q<s.bd.length∨(s.core q).buf=[]
   ·exact .inl (dg (o:=o) hc).1
   ·simp only[not_or,Decidable.not_not] at hc
    exact .inr (qe hc.1 hc.2)
 ·exact .inl h1
def fy (mem:List Int) (l:List cr):List Int:=l.foldl (fun m x=>m.set x.addr.toNat x.word) mem
theorem tP (mem:List Int) (l:List cr) (x:cr):fy mem (l++[x])=(fy mem l).set x.addr.toNat x.word:=by simp[fy]
theorem nM {a:Int} (h0:0≤a):∀(l:List cr) (mem:List Int) (r:Int×Bool),a<mem.length→(∀x∈l,0≤x.addr)→r.1=mem.getD a.toNat 0→(jM a l r).1=(fy mem l).getD a.toNat 0
 |[],mem,r,_,_,h=>h
 |x::l,mem,r,h1,h2,h=>by
  rw[jM]
  refine nM h0 l (mem.set x.addr.toNat x.word) _ (by simpa using h1) (fun y hy=>h2 y (by simp[hy])) ?_
  have hx:=h2 x (by simp)
  by_cases e:x.addr=a
  ·rw[if_pos e,e]
   have:a.toNat<mem.length:=by omega
   simp[List.getD,this]
  ·rw[if_neg e,h]
   have:x.addr.toNat≠a.toNat:=by omega
   simp[List.getD,List.getElem?_set_ne this]
def gu (c:bw):bw:={ c with buf:=[] }
def flat (s:bj):bj:=⟨[gu (s.core 0)],fy s.mem (s.core 0).buf,s.bh⟩
theorem sL (s:bj):(flat s).core 0=gu (s.core 0):=rfl
theorem GQ {s:bj} (h:s.bd.length=1):s.bd=[s.core 0]:=by
 match s,h with
 |⟨[c],_,_⟩,_=>rfl
theorem G1 {s:bj} (h:s.bd.length=1) (r:bw×List Int×List cF):s.oG 0 r=⟨[r.1],r.2.1,r.2.2⟩:=by
 unfold bj.oG
 rw[GQ h]
 rfl
theorem mn {s:bj} (h:s.bd.length=1) (r:bw×List Int×List cF):flat (s.oG 0 r)=⟨[gu r.1],fy r.2.1 r.1.buf,r.2.2⟩:=by
 rw[G1 h];rfl
theorem qI {o:Obj} {s:bj} (h:s.bd.length=1):flat (cx o s (0:Nat)).1=flat s:=by
 cases hb:(s.core 0).buf with
 |nil=>rw[(dg (.inr hb)).1]
 |cons x t=>
  rw[(eu (by omega) hb).1,mn h]
  unfold flat
  rw[hb]
  rfl
def zM (o:Obj) (f:bj):bj:=flat (eN o f (0:Nat)).1
theorem sM {s:bj}:(flat s).bd.length=1:=rfl
theorem CP {o:Obj} {c:bw} {i:Instr} {mem:List Int} {pr:List cF} {code:Int} (iok:mN i code mem.length) (hst:dZ o.buffer c i=false) (hb:∀x∈c.buf,0≤x.addr∧x.addr<mem.length):
 let r:=(eE 0 c i mem pr).1
 let r':=(eE 0 (gu c) i (fy mem c.buf) pr).1
 (⟨[gu r.1],fy r.2.1 r.1.buf,r.2.2⟩:bj)=⟨[gu r'.1],fy r'.2.1 r'.1.buf,r'.2.2⟩:=by
 have hempty:i.kind=5∨i.kind=6∨i.kind=7→c.buf=[]:=by
  intro h
  unfold dZ at hst
  rw[if_neg (by omega),if_pos h] at hst
  simp only[decide_eq_false_iff_not] at hst
  exact List.eq_nil_of_length_eq_zero (by omega)
 have hfc:gu (gu c)=gu c:=rfl
 unfold eE
 dsimp only
 by_cases k1:i.kind=1
 ·simp only[if_pos k1];rfl
 by_cases k2:i.kind=2
 ·simp only[if_neg k1,if_pos k2];rfl
 by_cases k3:i.kind=3
 ·simp only[if_neg k1,if_neg k2,if_pos k3]
  have ha:=iok.addr (by omega)
  have h1:=nM ha.1 c.buf mem (mem.getD i.addr.toNat 0,false) ha.2 (fun x hx=>(hb x hx).1) rfl
  rw[h1]
  rfl
 by_cases k4:i.kind=4
 ·simp only[if_neg k1,if_neg k2,if_neg k3,if_pos k4]
  rw[tP]
  rfl
 by_cases k5:i.kind=5
 ·simp only[if_neg k1,if_neg k2,if_neg k3,if_neg k4,if_pos k5]
  have he:=hempty (by omega)
  unfold gu bw.put bw.inc
  dsimp only
  rw[he];rfl
 by_cases k6:i.kind=6
 ·simp only[if_neg k1,if_neg k2,if_neg k3,if_neg k4,if_neg k5,if_pos k6];rfl
 by_cases k7:i.kind=7
 ·simp only[if_neg k1,if_neg k2,if_neg k3,if_neg k4,if_neg k5,if_neg k6,if_pos k7];rfl
 by_cases k8:i.kind=8
 ·simp only[if_neg k1,if_neg k2,if_neg k3,if_neg k4,if_neg k5,if_neg k6,if_neg k7,if_pos k8];rfl
 by_cases k9:i.kind=9
 ·simp only[if_neg k1,if_neg k2,if_neg k3,if_neg k4,if_neg k5,if_neg k6,if_neg k7,if_neg k8,if_pos k9]
  have:(gu c).dX i.a.toNat=c.dX i.a.toNat:=rfl
  rw[this]
  split<;>rfl
 simp only[if_neg k1,if_neg k2,if_neg k3,if_neg k4,if_neg k5,if_neg k6,if_neg k7,if_neg k8,if_neg k9]
 rfl
theorem kD {o:Obj} (ok:ch o) (c:bw) (i:Instr):dZ o.buffer (gu c) i=false:=by
 unfold dZ gu
 have:=ok.buffer.1
 split
 ·simp;omega
 ·split<;>simp
theorem DT {o:Obj} {s:bj} (ok:ch o) (g:Good o s) (h:s.bd.length=1) (h1:(s.core 0).halted=false) (h2:dZ o.buffer (s.core 0) (fI o 0 (s.core 0))=false):flat (eN o s (0:Nat)).1=zM o (flat s):=by
 have hq:0<s.bd.length:=by omega
 unfold zM
 rw[(fQ hq h1 h2).1,mn h]
 have e1:=(fQ (o:=o) (s:=flat s) (q:=0) (by rw[sM];omega) h1 (by rw[sL];exact kD ok _ _)).1
 rw[e1,mn sM,sL]
 have:=nv g ok hq
 exact CP (o:=o) (c:=s.core 0) (i:=fI o 0 (s.core 0)) (mem:=s.mem) (pr:=s.bh) (by rw[g.mem];exact this.1) h2 (g.addr 0 hq)
def gh (o:Obj):Nat→bj
 |0=>flat (dM o)
 |n+1=>zM o (gh o n)
theorem qn (o:Obj):∀n,(gh o n).bd.length=1
 |0=>rfl
 |_+1=>rfl
theorem qm (o:Obj):∀n,((gh o n).core 0).buf=[]
 |0=>rfl
 |_+1=>rfl
theorem iN {s:bj} (h:s.bd.length=1) (hb:(s.core 0).buf=[]):flat s=s:=by
 unfold flat gu
 rw[hb]
 match s,h with
 |⟨[c],m,p⟩,_=>
  have:c.buf=[]:=hb
  obtain⟨a1,a2,a3,a4⟩:=c
  simp only at this
  subst this
  rfl
theorem Reach.at_ {o:Obj} (ok:ch o) (hw:gy o) (h1:o.bd.length=1) {s:bj} (h:Reach o s):∃n,flat s=gh o n∧∀k,k<n→((gh o k).core 0).halted=false:=by
 induction h with
 |init=>exact⟨0,rfl,fun k hk=>by omega⟩
 |step h kind k ih=>
  rename_i s
  obtain⟨n,e,hn⟩:=ih
  have hok:=h.ok ok hw
  have hl:s.bd.length=1:=hok.gC.n.trans h1
  rcases fg o s kind k with⟨q,rfl,hk⟩|h2
  ·by_cases hq:q=0
   ·subst hq
    rcases hk with rfl|rfl
    ·show ∃n,flat (eN o s (0:Nat)).1=_∧_
     by_cases hc:¬0<s.bd.length∨(s.core 0).halted=true∨dZ o.buffer (s.core 0) (fI o 0 (s.core 0))=true
     ·rw[(fb hc).1];exact⟨n,e,hn⟩
     ·simp only[not_or,Decidable.not_not,Bool.not_eq_true] at hc
      obtain⟨_,h3,h4⟩:=hc
      refine⟨n+1,by rw[DT ok hok.gC hl h3 h4,e,gh],fun k hk=> ?_⟩
      by_cases hkn:k<n
      ·exact hn k hkn
      ·have:k=n:=by omega
       subst this
       rw[←e];exact h3
    ·show ∃n,flat (cx o s (0:Nat)).1=_∧_
     rw[qI hl];exact⟨n,e,hn⟩
   ·have:(ck o s kind q).1=s:=by
     rcases hk with rfl|rfl
     ·exact(fb (.inl (by omega))).1
     ·exact(dg (o:=o) (.inl (by omega))).1
    rw[this];exact⟨n,e,hn⟩
  ·rw[h2];exact⟨n,e,hn⟩
theorem zP {o:Obj} (ok:ch o) (hw:gy o) (h1:o.bd.length=1) {s d:bj} (hs:Reach o s) (hd:Reach o d) (h:oM s d):eI s d:=by
 have hso:=hs.ok ok hw
 have hdo:=hd.ok ok hw
 have hsl:s.bd.length=1:=hso.gC.n.trans h1
 have hdl:d.bd.length=1:=hdo.gC.n.trans h1
 have hk:=h.core 0 (by omega)
 have key:∀{s d:bj},Reach o s→Reach o d→s.bd.length=1→oi o s→yU (s.core 0) (d.core 0)→(s.core 0).halted=true→(d.core 0).halted=false→False:=by
  intro s d hs hd hsl hso hk e1 e2
  obtain⟨n1,f1,g1⟩:=hs.at_ ok hw h1
  obtain⟨n2,f2,g2⟩:=hd.at_ ok hw h1
  have a1:((gh o n1).core 0).halted=true:=by rw[←f1];exact e1
  have a2:((gh o n2).core 0).halted=false:=by rw[←f2];exact e2
  have b1:n2<n1:=by
   rcases Nat.lt_trichotomy n2 n1 with h|h|h
   ·exact h
   ·subst h;rw[a1] at a2;cases a2
   ·have:=g2 n1 h;rw[a1] at this;cases this
  have h9:=hso.hz 0 (by omega) e1
  have hin:fI o 0 ((gh o n2).core 0)=fI o 0 (s.core 0):=iD o 0 (by rw[←f2];exact hk.pc.symm)
  have hx:gh o (n2+1)=flat ((gh o n2).oG 0 ({ (gh o n2).core 0 with halted:=true },(gh o n2).mem,(gh o n2).bh)):=by
   rw[gh]
   unfold zM
   have hst:dZ o.buffer ((gh o n2).core 0) (fI o 0 ((gh o n2).core 0))=false:=by
    have:=kD ok ((gh o n2).core 0) (fI o 0 ((gh o n2).core 0))
    rw[iR (c:=gu ((gh o n2).core 0)) (d:=(gh o n2).core 0) (qm o n2).symm] at this
    exact this
   rw[(fQ (by rw[qn];omega) a2 hst).1,pN (by rw[hin];exact h9)]
  rw[mn (qn o n2)] at hx
  have hh:((gh o (n2+1)).core 0).halted=true:=by rw[hx];rfl
  have hr:((gh o (n2+1)).core 0).dX=(d.core 0).dX:=by
   have:((gh o n2).core 0).dX=(d.core 0).dX:=by rw[←f2];rfl
   rw[hx,←this];rfl
  have hn:n1=n2+1:=by
   rcases Nat.lt_trichotomy (n2+1) n1 with h|h|h
   ·have:=g1 _ h;rw[hh] at this;cases this
   ·exact h.symm
   ·omega
  have hsr:(s.core 0).dX=(d.core 0).dX:=by
   rw[←hr,←hn,←f1];rfl
  have:=hk.tl
  unfold bw.tl eX at this
  rw[e1,e2,hsr] at this
  simp at this
 have hh:(s.core 0).halted=(d.core 0).halted:=by
  cases e1:(s.core 0).halted<;>cases e2:(d.core 0).halted
  ·rfl
  ·exact(key hd hs hdl hdo ⟨hk.pc.symm,hk.buf.symm,hk.tl.symm,fun e j hj=>(hk.dX e.symm j hj).symm⟩ e2 e1).elim
  ·exact(key hs hd hsl hso hk e1 e2).elim
  ·rfl
 refine⟨h.n,fun q hq=> ?_,h.mem,h.bh⟩
 have:q=0:=by omega
 subst this
 exact⟨hk.pc,hk.buf,hh,hk.dX hh⟩
end Go.Proofs.YtlonbgdonffcbaaGreatDoor
end
section
/- One core alone: all that it comes to is found, and found by plain steps too. -/
namespace Go.Proofs.YtlonbgdonffcbaaGreatDoor
open Go Go.cW Go.Proofs
set_option linter.unusedSimpArgs false
set_option linter.unusedVariables false
theorem Reach.go {o:Obj}:∀(mv:List cQ) {s:bj},Reach o s→Reach o (jA o s mv)
 |[],_,h=>h
 |x::mv,_,h=>Reach.go mv (h.step x.kind x.core)
theorem iw.reach {p:Bool} {o:Obj} {l:List bu} (h:iw p o l):∀i,i<l.length→Reach o (l.getD i default).m:=by
 intro i
 induction i using Nat.strongRecOn with
 |_ i ih=>
  intro hi
  by_cases h0:0<i
  ·obtain⟨k,mv,q1,q2,q3⟩:=h.C6 i h0 hi
   rw[q3]
   exact(ih k q1 (by omega)).go mv
  ·have:i=0:=by omega
   subst this
   rw[h.first];exact Reach.init
theorem JK {o:Obj} {most:Nat} {l:List bu} (ok:ch o) (hw:gy o) (h1:o.bd.length=1) (hm:1≤most) (h:iz false o most=some l) {s:bj} (hs:Reach o s):dn s∈dU l:=by
 have hc:=uQ ok hw hm h
 have hf:=(jt ok hw hm h).1
 induction hs with
 |init=>
  obtain⟨i,hi,e⟩:=hc.init
  exact List.mem_map.2 ⟨_,eZ default hi,by rw[e]⟩
 |step hs kind k ih=>
  rename_i s
  obtain⟨i,hi,hk⟩:=hc.key (hs.ok ok hw) ih
  have hr:=hf.reach i hi
  have hsame:=zP ok hw h1 hs hr hk
  have h2:=hsame.step ok (hs.ok ok hw).gC kind k
  rw[h2.key]
  rcases HF o (l.getD i default).m kind k with e|e
  ·rw[e];exact List.mem_map.2 ⟨_,eZ default hi,rfl⟩
  ·exact hc.leads i hi _ e
theorem BM {o:Obj} {most:Nat} {l:List bu} (ok:ch o) (hw:gy o) (h1:o.bd.length=1) (hm:1≤most) (h:iz false o most=some l):∃l',iz true o most=some l':=by
 have hl:=(jt ok hw hm h).2.1
 obtain⟨l',e,_⟩:=uN (p:=true) (most:=most) ok hw (K:=dU l) (by rw[List.length_map];exact hl) (Q:=Reach o) (fun m hr=>JK ok hw h1 hm h hr) (fun m mv hr _=>hr.go mv) (n:=most) (k:=0) (iw.init ok hw) hm (fun f hf=>by
  simp only[eW,List.mem_singleton] at hf
  subst hf
  exact Reach.init)
 exact⟨l',e⟩
theorem wM {o:Obj} {most:Nat} {l:List bu} (ok:ch o) (hw:gy o) (hm:1≤most) (h:iz true o most=some l) {i:Nat} (hi:i<l.length) {mv:List cQ} (hmv:mv∈cy true o (l.getD i default).m):∃j,j<l.length∧oM (jA o (l.getD i default).m mv) (l.getD j default).m:=by
 obtain⟨hf,_,_,hl⟩:=jt ok hw hm h
 obtain⟨f,hf2,he⟩:=List.mem_map.1 (hl i hi mv hmv)
 obtain⟨j,hj,rfl⟩:=List.mem_iff_getElem.1 hf2
 have e:l[j]=l.getD j default:=by simp[List.getD,hj]
 rw[e] at he
 have a1:=yk ok hw mv (hf.ok i hi).1
 have a2:=(hf.ok j hj).1
 exact⟨j,hj,key_inj a1.w a2.w (a1.gC.n.trans a2.gC.n.symm) he.symm⟩
theorem HY {q:Nat} {c:bw} {i:Instr} {mem:List Int} {pr:List cF} (hb:c.buf=[]) (h:(eE q c i mem pr).2≠3):(eE q c i mem pr).1.1.buf=[]:=by
 unfold eE at *
 by_cases k1:i.kind=1
 ·simp only[if_pos k1];exact hb
 by_cases k2:i.kind=2
 ·simp only[if_neg k1,if_pos k2];exact hb
 by_cases k3:i.kind=3
 ·simp only[if_neg k1,if_neg k2,if_pos k3];exact hb
 by_cases k4:i.kind=4
 ·simp only[if_neg k1,if_neg k2,if_neg k3,if_pos k4] at h;exact absurd rfl h
 by_cases k5:i.kind=5
 ·simp only[if_neg k1,if_neg k2,if_neg k3,if_neg k4,if_pos k5];exact hb
 by_cases k6:i.kind=6
 ·simp only[if_neg k1,if_neg k2,if_neg k3,if_neg k4,if_neg k5,if_pos k6];exact hb
 by_cases k7:i.kind=7
 ·simp only[if_neg k1,if_neg k2,if_neg k3,if_neg k4,if_neg k5,if_neg k6,if_pos k7];exact hb
 by_cases k8:i.kind=8
 ·simp only[if_neg k1,if_neg k2,if_neg k3,if_neg k4,if_neg k5,if_neg k6,if_neg k7,if_pos k8];exact hb
 by_cases k9:i.kind=9
 ·simp only[if_neg k1,if_neg k2,if_neg k3,if_neg k4,if_neg k5,if_neg k6,if_neg k7,if_neg k8,if_pos k9]
  split<;>exact hb
 simp only[if_neg k1,if_neg k2,if_neg k3,if_neg k4,if_neg k5,if_neg k6,if_neg k7,if_neg k8,if_neg k9]
 exact hb
theorem zg {q:Nat} {c:bw} {i:Instr} {mem:List Int} {pr:List cF} (hb:c.buf=[]) (h:(eE q c i mem pr).2=3):∃x,(eE q c i mem pr).1.1.buf=[x]:=by
 unfold eE at *
 repeat' split at h
 all_goals first
  |(exfalso;revert h;simp;done)
  |skip
 rename_i k1 k2 k3 k4
 simp only[if_neg k1,if_neg k2,if_neg k3,if_pos k4]
 rw[hb]
 exact⟨_,rfl⟩
theorem xl {o:Obj} {f:bj} (ok:ch o) (hl:f.bd.length=1) (hb:(f.core 0).buf=[]) (hh:(f.core 0).halted=false):jA o f (eT o f ⟨1,(0:Nat)⟩)=flat (eN o f (0:Nat)).1:=by
 have hst:dZ o.buffer (f.core 0) (fI o 0 (f.core 0))=false:=by
  have:=kD ok (f.core 0) (fI o 0 (f.core 0))
  rw[iR (c:=gu (f.core 0)) (d:=f.core 0) hb.symm] at this
  exact this
 obtain⟨e1,e2,_⟩:=fQ (o:=o) (s:=f) (q:=0) (by omega) hh hst
 have hl2:(eN o f (0:Nat)).1.bd.length=1:=by rw[e1,dV];exact hl
 have hc2:(eN o f (0:Nat)).1.core 0=(eE 0 (f.core 0) (fI o 0 (f.core 0)) f.mem f.bh).1.1:=by rw[e1,du (by omega),if_pos rfl]
 unfold eT
 change jA o f (if(eN o f (0:Nat)).2.1.kind=3 then _ else _)=_
 by_cases h3:(eN o f (0:Nat)).2.1.kind=3
 ·rw[if_pos h3]
  show(cx o (eN o f (0:Nat)).1 (0:Nat)).1=_
  rw[e2] at h3
  obtain⟨x,hx⟩:=zg hb h3
  rw[←hc2] at hx
  rw[←qI (o:=o) hl2]
  have hb3:((cx o (eN o f (0:Nat)).1 (0:Nat)).1.core 0).buf=[]:=by
   rw[(eu (by omega) hx).1,du (by omega),if_pos rfl]
  exact(iN (by rw[(eu (by omega) hx).1,dV];exact hl2) hb3).symm
 ·rw[if_neg h3]
  show(eN o f (0:Nat)).1=_
  rw[e2] at h3
  have:=HY hb h3
  rw[←hc2] at this
  exact(iN hl2 this).symm
theorem eI.plain {o:Obj} {s d:bj} (ok:ch o) (hw:gy o) (hs:oi o s) (h:eI s d):eI (jA o s (eT o s ⟨1,(0:Nat)⟩)) (jA o d (eT o d ⟨1,(0:Nat)⟩)):=by
 obtain⟨h1,h2⟩:=h.run ok hs.gC 0
 unfold eT
 change eI (jA o s (if(eN o s (0:Nat)).2.1.kind=3 then _ else _)) (jA o d (if(eN o d (0:Nat)).2.1.kind=3 then _ else _))
 rw[←h2]
 by_cases h3:(eN o s (0:Nat)).2.1.kind=3
 ·rw[if_pos h3]
  show eI (cx o (eN o s (0:Nat)).1 (0:Nat)).1 (cx o (eN o d (0:Nat)).1 (0:Nat)).1
  exact h1.drain (o:=o) 0
 ·rw[if_neg h3];exact h1
theorem sf {o:Obj} {most:Nat} {l:List bu} (ok:ch o) (hw:gy o) (h1:o.bd.length=1) (hm:1≤most) (h:iz true o most=some l):∀n,(∀k,k<n→((gh o k).core 0).halted=false)→∃j,j<l.length∧eI (l.getD j default).m (gh o n)
 |0,_=>by
  have hf:=(jt ok hw hm h).1
  refine⟨0,hf.pos, ?_⟩
  rw[hf.first]
  have:gh o 0=dM o:=iN (by simp[dM,h1]) (by simp[dM,h1,bj.core,core0])
  rw[this]
  exact eI.refl _
 |n+1,hh=>by
  obtain⟨i,hi,hs⟩:=sf ok hw h1 hm h n fun k hk=>hh k (by omega)
  have hf:=(jt ok hw hm h).1
  have hio:=(hf.ok i hi).1
  have hir:=hf.reach i hi
  have hil:(l.getD i default).m.bd.length=1:=hio.gC.n.trans h1
  obtain⟨e1,e2,e3,e4⟩:=hs.core 0 (by omega)
  have hn:=hh n (by omega)
  have hb:=qm o n
  rw[←e3] at hn
  rw[←e2] at hb
  have hst:dZ o.buffer ((l.getD i default).m.core 0) (fI o 0 ((l.getD i default).m.core 0))=false:=by
   have:=kD ok ((l.getD i default).m.core 0) (fI o 0 ((l.getD i default).m.core 0))
   rw[iR (c:=gu ((l.getD i default).m.core 0)) (d:=(l.getD i default).m.core 0) hb.symm] at this
   exact this
  have hmv:eT o (l.getD i default).m ⟨1,(0:Nat)⟩∈cy true o (l.getD i default).m:=by
   unfold cy
   rw[if_pos rfl]
   exact List.mem_map.2 ⟨_,List.mem_filter.2 ⟨kJ (by omega) hn hst,by decide⟩,rfl⟩
  obtain⟨j,hj,hk⟩:=wM ok hw hm h hi hmv
  have hjs:=zP ok hw h1 (hir.go _) (hf.reach j hj) hk
  refine⟨j,hj,hjs.symm.trans ((hs.plain ok hw hio).trans ?_)⟩
  rw[xl ok (qn o n) (qm o n) (hh n (by omega))]
  exact eI.refl _
theorem JL {o:Obj} {most:Nat} {l:List bu} (ok:ch o) (hw:gy o) (h1:o.bd.length=1) (hm:1≤most) (h:iz true o most=some l) {s:bj} (hs:Reach o s) (he:lu s):∃j,j<l.length∧(l.getD j default).m.bh=s.bh∧(l.getD j default).m.mem=s.mem∧lu (l.getD j default).m:=by
 obtain⟨n,e,hn⟩:=hs.at_ ok hw h1
 obtain⟨j,hj,hk⟩:=sf ok hw h1 hm h n hn
 have hsl:s.bd.length=1:=(hs.ok ok hw).gC.n.trans h1
 obtain⟨e1,e2⟩:=he 0 (by omega)
 have hfs:=iN hsl e2
 rw[hfs] at e
 rw[←e] at hk
 refine⟨j,hj,hk.bh,hk.mem,fun q hq=> ?_⟩
 have hq2:q<s.bd.length:=by rw[←hk.n];exact hq
 obtain⟨f1,f2,f3,f4⟩:=hk.core q hq
 obtain⟨g1,g2⟩:=he q hq2
 exact⟨f3.trans g1,f2.trans g2⟩
theorem GR {o:Obj} (ok:ch o) (hw:gy o) (h1:o.bd.length=1) {s d:bj} (hs:Reach o s) (hd:Reach o d) (es:lu s) (ed:lu d):s.bh=d.bh∧s.mem=d.mem:=by
 obtain⟨n,e,hn⟩:=hs.at_ ok hw h1
 obtain⟨m,f,hm⟩:=hd.at_ ok hw h1
 have hsl:s.bd.length=1:=(hs.ok ok hw).gC.n.trans h1
 have hdl:d.bd.length=1:=(hd.ok ok hw).gC.n.trans h1
 obtain⟨e1,e2⟩:=es 0 (by omega)
 obtain⟨f1,f2⟩:=ed 0 (by omega)
 rw[iN hsl e2] at e
 rw[iN hdl f2] at f
 have:n=m:=by
  rcases Nat.lt_trichotomy n m with h|h|h
  ·have:=hm n h;rw[←e,e1] at this;cases this
  ·exact h
  ·have:=hn m h;rw[←f,f1] at this;cases this
 subst this
 rw[←f] at e
 rw[e]
 exact⟨rfl,rfl⟩
end Go.Proofs.YtlonbgdonffcbaaGreatDoor
end
section
/- The way to a situation that was found. -/
namespace Go.Proofs.YtlonbgdonffcbaaGreatDoor
open Go Go.cW Go.Proofs
set_option linter.unusedSimpArgs false
set_option linter.unusedVariables false
inductive uJ (o:Obj):bj→List cQ→bj→Prop where
 |nil (s:bj):uJ o s [] s
 |cons {s d:bj} {x:cQ} {l:List cQ} (h:KI o s x) (t:uJ o (ck o s x.kind x.core).1 l d):uJ o s (x::l) d
theorem uJ.snoc {o:Obj} {s d:bj} {l:List cQ} (h:uJ o s l d) {x:cQ} (hx:KI o d x):uJ o s (l++[x]) (ck o d x.kind x.core).1:=by
 induction h with
 |nil s=>exact .cons hx (.nil _)
 |cons h t ih=>exact .cons h (ih hx)
theorem uJ.reach {o:Obj} {s d:bj} {l:List cQ} (h:uJ o s l d) (hs:Reach o s):Reach o d:=by
 induction h with
 |nil s=>exact hs
 |cons h t ih=>exact ih (hs.step _ _)
end Go.Proofs.YtlonbgdonffcbaaGreatDoor
end
section
/- Steps turned round: the walk. -/
namespace Go.Proofs.YtlonbgdonffcbaaGreatDoor
open Go Go.cW Go.Proofs
set_option linter.unusedSimpArgs false
set_option linter.unusedVariables false
set_option maxRecDepth 8000
end Go.Proofs.YtlonbgdonffcbaaGreatDoor
end
section
/- Way: the walk. -/
namespace Go.Proofs.YtlonbgdonffcbaaGreatDoor
open Go Go.cW Go.Proofs
set_option linter.unusedSimpArgs false
set_option linter.unusedVariables false
set_option maxRecDepth 8000
end Go.Proofs.YtlonbgdonffcbaaGreatDoor
end
