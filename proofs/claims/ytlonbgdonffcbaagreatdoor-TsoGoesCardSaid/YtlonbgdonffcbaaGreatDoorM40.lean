import Derived.Test.YtlonbgdonffcbaaGreatDoorM39
import Derived.Test.YtlonbgdonffcbaaGreatDoorM32
section
/- Shows: the walk. -/
namespace Go.Proofs.YtlonbgdonffcbaaGreatDoor
open Go Go.cY Go.Proofs
set_option linter.unusedSimpArgs false
set_option linter.unusedVariables false
set_option maxRecDepth 8000
theorem QA {p q:cH} (h1:p.cn=q.cn) (h2:p.word=q.word):p=q:=by cases p;cases q;simp_all
theorem rk (a b:List cH) (ha:a.length * 16≤140737488355328) (hb:b.length * 16≤140737488355328):Pure Tryz.prog 33 [eA a,eA b] (fun r=>r=bl (decide (a=b))):=by
 refine aI FL rfl ?_
 have a0:(a.map cH.av).length=a.length:=by simp
 have a1:(b.map cH.av).length=b.length:=by simp
 by_cases hl:a.length=b.length
 ·have r0:decide ((a.map cH.av).length=(b.map cH.av).length)=true:=by simp[hl]
  refine ca ?_
  rw[List.length_map]
  refine aT (fun i:Nat=>[(0,eA a),(1,eA b),(12,i64 a.length),(13,i64 i)]) (fun i H n=>i≤a.length∧∀j,j<i→a.getD j default=b.getD j default) (fun i=>a.length - i) 0 cG ⟨Nat.zero_le _,fun j hj=>by omega⟩ ?_
  rintro i H n ⟨hi,hall⟩
  by_cases hil:i<a.length
  ·have e0:=fun d=>iU (l:=a) hil d
   have e1:=fun d=>iU (l:=b) (i:=i) (by omega) d
   by_cases h1:(a.getD i default).cn=(b.getD i default).cn
   ·have r1:=decide_eq_true h1
    by_cases h2:(a.getD i default).word=(b.getD i default).word
    ·have r2:=decide_eq_true h2
     refine ca ?_
     exact⟨i+1,by omega,cG,by omega,fun j hj=>by
      by_cases e:j=i
      ·rw[e];exact QA h1 h2
      ·exact hall j (by omega)⟩
    ·have r2:=decide_eq_false h2
     refine ca ?_
     refine lr (Eq.symm (decide_eq_false ?_))
     rintro rfl
     exact h2 rfl
   ·have r1:=decide_eq_false h1
    refine ca ?_
    refine lr (Eq.symm (decide_eq_false ?_))
    rintro rfl
    exact h1 rfl
  ·refine ca ?_
   refine lr (Eq.symm (decide_eq_true ?_))
   apply List.ext_getElem hl
   intro j q1 q2
   have:=hall j (by omega)
   simpa[List.getD,q1,q2] using this
 ·refine ca ?_
  refine lr (Eq.symm (decide_eq_false ?_))
  rintro rfl
  exact hl rfl
theorem CJ {o:Obj} {s:bk} (hlk:eH s) {want:List cH} (hw:want.length * 16≤140737488355328) (fr:Int) {B:AV} (hB:B= .sc (.slice none 0 0)∨∃L,B= .im 2 .any L) {wb:Nat} {H:Hp} {nx:Nat} (hb:∃d,bf H wb=some (.row 45 1 d [eA want])) (hlt:wb<nx):jB Tryz.prog 32 [.agg [s.frozen o,i64 fr,B], .pt wb 1 0 0] H nx (bl (decide (s.bh=want))):=by
 obtain⟨d,hb⟩:=hb
 have c0:=la o s hlk.bh
 have c1:=rk s.bh want hlk.bh hw
 simp only[bk.frozen] at c0 ⊢
 rcases hB with rfl|⟨L,rfl⟩
 all_goals
  refine aS FK rfl ?_
  refine ca ?_
  exact⟨⟨rfl,fun y hy=>cA⟩⟩
def qf {α:Type} (f:α→Bool):List α→Nat→Int
 |[],_=>-1
 |e::l,k=>if f e=true then k else qf f l (k+1)
theorem vZ {α:Type} (f:α→Bool):∀(l:List α) (k:Nat),decide (0≤qf f l k)=l.any f
 |[],k=>by simp[qf]
 |e::l,k=>by
  rw[qf,List.any_cons]
  split
  ·rename_i h;rw[h];simp
  ·rename_i h
   rw[vZ f l (k+1)]
   simp only[Bool.not_eq_true] at h
   rw[h];rfl
theorem BG {α:Type} [Inhabited α] (f:α→Bool) {l:List α} {i:Nat} (h:i<l.length) (k:Nat):qf f (l.drop i) k=if f (l.getD i default)=true then(k:Int) else qf f (l.drop (i+1)) (k+1):=by
 rw[List.drop_eq_getElem_cons h,qf,show l.getD i default=l[i] by simp[List.getD,h]]
theorem BH {o:Obj} {l:List bw} (hl:l.length≤65536) (hlk:∀i,i<l.length→eH (l.getD i default).m) {want:List cH} (hw:want.length * 16≤140737488355328) {wb:Nat} {H:Hp} {nx:Nat} (hb:∃d,bf H wb=some (.row 45 1 d [eA want])) (hlt:wb<nx):
 jB Tryz.prog 64 [fN o l, .fn (.func 32) [] [.pt wb 1 0 0]] H nx (i64 (qf (fun f:bw=>decide (f.m.bh=want)) l 0)):=by
 obtain⟨d0,hb⟩:=hb
 refine aS GB rfl ?_
 refine ca ?_
 rw[List.length_map]
 refine aQ (fun i:Nat=>[(0,fN o l),(1, .fn (.func 32) [] [.pt wb 1 0 0]),(7,i64 l.length),(8,i64 i)])
  (fun i H2 n=>i≤l.length∧nx≤n∧qf (fun f:bw=>decide (f.m.bh=want)) (l.drop i) i=qf (fun f:bw=>decide (f.m.bh=want)) l 0∧∀y,y<nx→bf H2 y=bf H y) (fun i=>l.length - i) 0
  ⟨_,_,_,Rt.refl _ _ _,cG,Nat.zero_le _,cO,rfl,fun y hy=>cA⟩ ?_
 rintro i H2 n ⟨hi,hn,hix,hk⟩
 have a0:(l.map (bw.av o)).length=l.length:=List.length_map _
 by_cases hil:i<l.length
 ·have e0:∀d,(l.map (bw.av o)).getD ((i:Int)).toNat d= .agg [(l.getD i default).m.frozen o,i64 (l.getD i default).from_,kj (l.getD i default).xE]:=fun d=>by rw[Int.toNat_natCast,dR (bw.av o) l i d hil];rfl
  rw[BG _ hil] at hix
  have hlk:=hlk i hil
  have hby:=qJ (l.getD i default).xE
  generalize kj (l.getD i default).xE=B at e0 hby
  generalize (l.getD i default).from_=fr at e0
  generalize (l.getD i default).m=s at *
  have hsl:=fun(H3:Hp) (n3:Nat) (h1:bf H3 wb=some (.row 45 1 d0 [eA want])) (h2:wb<n3)=>CJ (o:=o) hlk hw fr hby (H:=H3) (nx:=n3) ⟨d0,h1⟩ h2
  rcases hby with rfl|⟨L,rfl⟩
  all_goals
   refine ca ?_
   refine aR (hsl _ _ ?_ cO) trivial ?_
   ·exact Eq.trans cA ((hk wb hlt).trans hb)
   by_cases hx:s.bh=want
   ·rw[if_pos (decide_eq_true hx)] at hix
    have r0:=decide_eq_true hx
    refine ca ?_
    exact⟨⟨by rw[←hix],fun y hy=>Eq.trans cA (hk y hy)⟩⟩
   ·rw[if_neg (by simpa using hx)] at hix
    have r0:=decide_eq_false hx
    refine ca ?_
    exact⟨i+1,by omega,_,_,_,Rt.refl _ _ _,cG,by omega,cO,hix,fun y hy=>Eq.trans cA (hk y hy)⟩
 ·obtain rfl:i=l.length:=by omega
  rw[List.drop_length] at hix
  refine ca ?_
  exact⟨⟨by rw[←hix];rfl,fun y hy=>Eq.trans cA (hk y hy)⟩⟩
theorem AH {o:Obj} {l:List bw} (hl:l.length≤65536) (hlk:∀i,i<l.length→eH (l.getD i default).m) {want:List cH} (hw:want.length * 16≤140737488355328) {wb:Nat} {H:Hp} {nx:Nat} (hb:∃d,bf H wb=some (.row 45 1 d [eA want])) (hlt:wb<nx):
 jB Tryz.prog 31 [fN o l, .fn (.func 32) [] [.pt wb 1 0 0]] H nx (bl (l.any fun f:bw=>decide (f.m.bh=want))):=by
 obtain⟨d0,hb⟩:=hb
 refine aS FJ rfl ?_
 refine ca ?_
 refine aR (BH hl hlk hw ⟨d0, ?_⟩ cO) trivial ?_
 ·exact Eq.trans cA hb
 have h1:=vZ (fun f:bw=>decide (f.m.bh=want)) l 0
 generalize qf (fun f:bw=>decide (f.m.bh=want)) l 0=i at *
 rw[←h1]
 refine ca ?_
 exact⟨⟨rfl,fun y hy=>cA⟩⟩
theorem vI (o:Obj) (l:List bw) (e:Int):cB 0 (.dB [fN o l,i64 e]):=by
 have:=gh o l
 simp only[cB,cJ]
 exact⟨this,trivial,trivial⟩
theorem pz {p:Bool} {o:Obj} {most:Int} (h:¬(cX p o most).1=0):(cX p o most).2=[]:=by
 unfold cX at *
 by_cases h1:fC o=false
 ·rw[if_pos h1]
 ·rw[if_neg h1] at h ⊢
  by_cases h2:1≤most∧most≤65536
  ·rw[if_neg (fun e=>e h2)] at h ⊢
   revert h
   cases mF p o most.toNat with
   |none=>intro _;rfl
   |some l=>intro h;exact absurd rfl h
  ·rw[if_pos h2]
theorem qB {p:Bool} {o:Obj} (ho:o.Wf) {g:Nat} (hg:cz o→lM p o g) (most:Int):Pure Tryz.prog 30 [o.av,i64 most, .fn (.func g) [] []] (fun r=>r= .dB [fN o (cX p o most).2,i64 (cX p o most).1]):=by
 refine iV (yq ho hg most) (vI _ _ _) fun c=> ?_
 unfold yr
 by_cases h0:(cX p o most).1=0
 ·rw[if_pos h0,h0];exact fun _ h=>h
 ·rw[if_neg h0,pz h0]
  exact cc.dB (.cons (cc.rB _ _ _ _) (.cons (fun _ h=>h) .nil))
theorem AF {p:Bool} {o:Obj} (ho:o.Wf) (most:Int):(cX p o most).2.length≤65536∧∀i,i<(cX p o most).2.length→eH ((cX p o most).2.getD i default).m:=by
 by_cases h0:(cX p o most).1=0
 ·obtain⟨ok,hf,hl⟩:=mi ho h0
  refine⟨hl,fun i hi=> ?_⟩
  obtain⟨h1,h2⟩:=hf.ok i hi
  exact h1.look ok (by omega)
 ·rw[pz h0]
  exact⟨by simp,fun i hi=>by simp at hi⟩
def rJ (o:Obj) (most:Int) (want:List cH):Bool:=(cX false o most).2.any fun f=>decide (f.m.bh=want)
theorem NK {o:Obj} (ho:o.Wf) (most:Int) (want:List cH) (hw:want.length * 16≤140737488355328):Pure Tryz.prog 11 [o.av,i64 most,eA want] (fun r=>r= .dB [bl (rJ o most want),i64 (cX false o most).1]):=by
 refine cq ?_ (by simp[cB,cJ])
 have c0:=qB (p:=false) ho (fun ok=>lX ok) most
 obtain⟨hl,hlk⟩:=AF (p:=false) ho most
 have hff:=gh o (cX false o most).2
 unfold rJ
 generalize (cX false o most).1=e at *
 generalize (cX false o most).2=l at *
 refine aO E7 rfl ?_
 refine ca ?_
 refine aR (AH hl hlk hw (wb:=1) ⟨.any, ?_⟩ cO) trivial ?_
 ·exact bo
 refine ca ?_
 exact⟨rfl⟩
end Go.Proofs.YtlonbgdonffcbaaGreatDoor
end
section
/- Whatever is played, a situation that was found stands as the machine does, but for what has halted or is about to. -/
namespace Go.Proofs.YtlonbgdonffcbaaGreatDoor
open Go Go.cY Go.Proofs
set_option linter.unusedSimpArgs false
set_option linter.unusedVariables false
structure u7 (o:Obj) (q:Nat) (c d:bx):Prop where
 pc:c.pc=d.pc
 buf:c.buf=d.buf
 rest:(c.halted=d.halted∧∀j,j<16→c.di j=d.di j)∨9<(iA o q c).kind
structure Alike (o:Obj) (s d:bk):Prop where
 n:s.bg.length=d.bg.length
 core:∀q,q<s.bg.length→u7 o q (s.core q) (d.core q)
 mem:s.mem=d.mem
 bh:s.bh=d.bh
theorem jM (o:Obj) (q:Nat) {c d:bx} (h:c.pc=d.pc):iA o q c=iA o q d:=by unfold iA;rw[h]
theorem Alike.refl (o:Obj) (s:bk):Alike o s s:=⟨rfl,fun _ _=>⟨rfl,rfl, .inl ⟨rfl,fun _ _=>rfl⟩⟩,rfl,rfl⟩
theorem u7.trans {o:Obj} {q:Nat} {a b c:bx} (h:u7 o q a b) (h':u7 o q b c):u7 o q a c:=by
 refine⟨h.pc.trans h'.pc,h.buf.trans h'.buf, ?_⟩
 rcases h.rest with⟨h1,h2⟩|h1
 ·rcases h'.rest with⟨h3,h4⟩|h3
  ·exact .inl ⟨h1.trans h3,fun j hj=>(h2 j hj).trans (h4 j hj)⟩
  ·rw[←jM o q h.pc] at h3;exact .inr h3
 ·exact .inr h1
theorem Alike.trans {o:Obj} {a b c:bk} (h:Alike o a b) (h':Alike o b c):Alike o a c:=
 ⟨h.n.trans h'.n,fun q hq=>(h.core q hq).trans (h'.core q (by rw[←h.n];exact hq)),h.mem.trans h'.mem,h.bh.trans h'.bh⟩
theorem sF.alike {o:Obj} {s d:bk} (hs:pP o s) (hd:pP o d) (h:sF s d):Alike o s d where
 n:=h.n
 mem:=h.mem
 bh:=h.bh
 core:=fun q hq=>by
  have hk:=h.core q hq
  refine⟨hk.pc,hk.buf, ?_⟩
  by_cases e:(s.core q).halted=(d.core q).halted
  ·exact .inl ⟨e,hk.di e⟩
  ·right
   by_cases e1:(s.core q).halted=true
   ·exact hs.hz q hq e1
   ·have e2:(d.core q).halted=true:=by
     revert e e1;cases(s.core q).halted<;>cases(d.core q).halted<;>simp
    rw[jM o q hk.pc]
    exact hd.hz q (by rw[←h.n];exact hq) e2
theorem oV {b:Int} {c d:bx} (h:c.buf=d.buf) (i:Instr):eE b c i=eE b d i:=by unfold eE;rw[h]
theorem ue {q:Nat} {c d:bx} {i:Instr} {code m:Int} (iok:mW i code m) (hp:c.pc=d.pc) (hb:c.buf=d.buf) (hh:c.halted=d.halted) (hr:∀j,j<16→c.di j=d.di j) (mem:List Int) (pr:List cH):
 (eo q c i mem pr).1.2=(eo q d i mem pr).1.2∧(eo q c i mem pr).2=(eo q d i mem pr).2∧(eo q c i mem pr).1.1.pc=(eo q d i mem pr).1.1.pc∧(eo q c i mem pr).1.1.buf=(eo q d i mem pr).1.1.buf∧(eo q c i mem pr).1.1.halted=(eo q d i mem pr).1.1.halted∧∀j,j<16→(eo q c i mem pr).1.1.di j=(eo q d i mem pr).1.1.di j:=by
 have ha:=hr i.a.toNat (by have:=iok.a;omega)
 have hbb:=hr i.b.toNat (by have:=iok.b;omega)
 have hd:=hr i.d.toNat (by have:=iok.d;omega)
 have hset:∀(k w:Int) j,j<16→mR c.di k w j=mR d.di k w j:=fun k w j hj=>by
  unfold mR
  split
  ·rfl
  ·exact hr j hj
 unfold eo
 rw[ha,hbb,hd,hp,hb]
 by_cases k1:i.kind=1
 ·simp only[if_pos k1];refine⟨?_, ?_, ?_, ?_, ?_, ?_⟩<;>first|exact rfl|trivial|exact congrArg (·+1) hp|exact hp|exact hb|exact hh|exact hset _ _|exact hr
 by_cases k2:i.kind=2
 ·simp only[if_neg k1,if_pos k2];refine⟨?_, ?_, ?_, ?_, ?_, ?_⟩<;>first|exact rfl|trivial|exact congrArg (·+1) hp|exact hp|exact hb|exact hh|exact hset _ _|exact hr
 by_cases k3:i.kind=3
 ·simp only[if_neg k1,if_neg k2,if_pos k3];refine⟨?_, ?_, ?_, ?_, ?_, ?_⟩<;>first|exact rfl|trivial|exact congrArg (·+1) hp|exact hp|exact hb|exact hh|exact hset _ _|exact hr
 by_cases k4:i.kind=4
 ·simp only[if_neg k1,if_neg k2,if_neg k3,if_pos k4];refine⟨?_, ?_, ?_, ?_, ?_, ?_⟩<;>first|exact rfl|trivial|exact congrArg (·+1) hp|exact hp|exact hb|exact hh|exact hset _ _|exact hr
 by_cases k5:i.kind=5
 ·simp only[if_neg k1,if_neg k2,if_neg k3,if_neg k4,if_pos k5];refine⟨?_, ?_, ?_, ?_, ?_, ?_⟩<;>first|exact rfl|trivial|exact congrArg (·+1) hp|exact hp|exact hb|exact hh|exact hset _ _|exact hr
 by_cases k6:i.kind=6
 ·simp only[if_neg k1,if_neg k2,if_neg k3,if_neg k4,if_neg k5,if_pos k6];refine⟨?_, ?_, ?_, ?_, ?_, ?_⟩<;>first|exact rfl|trivial|exact congrArg (·+1) hp|exact hp|exact hb|exact hh|exact hset _ _|exact hr
 by_cases k7:i.kind=7
 ·simp only[if_neg k1,if_neg k2,if_neg k3,if_neg k4,if_neg k5,if_neg k6,if_pos k7];refine⟨?_, ?_, ?_, ?_, ?_, ?_⟩<;>first|exact rfl|trivial|exact congrArg (·+1) hp|exact hp|exact hb|exact hh|exact hset _ _|exact hr
 by_cases k8:i.kind=8
 ·simp only[if_neg k1,if_neg k2,if_neg k3,if_neg k4,if_neg k5,if_neg k6,if_neg k7,if_pos k8];refine⟨?_, ?_, ?_, ?_, ?_, ?_⟩<;>first|exact rfl|trivial|exact congrArg (·+1) hp|exact hp|exact hb|exact hh|exact hset _ _|exact hr
 by_cases k9:i.kind=9
 ·simp only[if_neg k1,if_neg k2,if_neg k3,if_neg k4,if_neg k5,if_neg k6,if_neg k7,if_neg k8,if_pos k9]
  refine⟨?_, ?_, ?_⟩
  ·first|exact rfl|trivial
  ·first|exact rfl|trivial
  ·split<;>refine⟨?_, ?_, ?_, ?_⟩<;>first|exact rfl|exact congrArg (·+1) hp|exact hb|exact hh|exact hr
 simp only[if_neg k1,if_neg k2,if_neg k3,if_neg k4,if_neg k5,if_neg k6,if_neg k7,if_neg k8,if_neg k9];refine⟨?_, ?_, ?_, ?_, ?_, ?_⟩<;>first|exact rfl|trivial|exact congrArg (·+1) hp|exact hp|exact hb|exact hh|exact hset _ _|exact hr
def IN (o:Obj) (s:bk) (x:cC):Prop:=x∈dZ o s s.bg.length
theorem Alike.step {o:Obj} {s d:bk} (ok:cz o) (hs:pP o s) (hd:pP o d) (h:Alike o s d) (kind k:Int):Alike o (cj o s kind k).1 d∨∃x,IN o d x∧Alike o (cj o s kind k).1 (cj o d x.kind x.core).1:=by
 rcases gp o s kind k with⟨q,rfl,hk⟩|h1
 ·rcases hk with rfl|rfl
  ·show Alike o (fD o s q).1 d∨∃x,IN o d x∧Alike o (fD o s q).1 (cj o d x.kind x.core).1
   by_cases hc:¬q<s.bg.length∨(s.core q).halted=true∨eE o.buffer (s.core q) (iA o q (s.core q))=true
   ·rw[(gL hc).1];exact .inl h
   ·simp only[not_or,Decidable.not_not,Bool.not_eq_true] at hc
    obtain⟨hq,h1,h2⟩:=hc
    rw[(fg hq h1 h2).1]
    have ha:=h.core q hq
    have hqd:q<d.bg.length:=by rw[←h.n];exact hq
    obtain⟨iok,hpc⟩:=oJ hs.iE ok hq
    have hin:=jM o q ha.pc
    by_cases h9:9<(iA o q (s.core q)).kind
    ·left
     rw[uC h9]
     refine⟨(dt _ _ _).trans h.n,fun j hj=> ?_,h.mem,h.bh⟩
     rw[dt] at hj
     rw[eO hq]
     by_cases e:j=q
     ·subst e
      rw[if_pos rfl]
      exact⟨ha.pc,ha.buf, .inr h9⟩
     ·rw[if_neg e];exact h.core j hj
    ·right
     rcases ha.rest with⟨h3,h4⟩|h3
     ·have hdh:(d.core q).halted=false:=by rw[←h3];exact h1
      have hds:eE o.buffer (d.core q) (iA o q (d.core q))=false:=by rw[←hin,←oV ha.buf];exact h2
      refine⟨⟨1,q⟩,qy hqd hdh hds, ?_⟩
      show Alike o _ (fD o d q).1
      rw[(fg hqd hdh hds).1,←hin,←h.mem,←h.bh]
      obtain⟨e1,e2,e3,e4,e5,e6⟩:=ue (q:=q) iok ha.pc ha.buf h3 h4 s.mem s.bh
      refine⟨(dt _ _ _).trans (h.n.trans (dt _ _ _).symm),fun j hj=> ?_,congrArg Prod.fst e1,congrArg Prod.snd e1⟩
      rw[dt] at hj
      rw[eO hq,eO hqd]
      by_cases e:j=q
      ·subst e
       rw[if_pos rfl,if_pos rfl]
       exact⟨e3,e4, .inl ⟨e5,e6⟩⟩
      ·rw[if_neg e,if_neg e];exact h.core j hj
     ·exact absurd h3 h9
  ·show Alike o (dD o s q).1 d∨∃x,IN o d x∧Alike o (dD o s q).1 (cj o d x.kind x.core).1
   by_cases hq:q<s.bg.length
   ·cases hb:(s.core q).buf with
    |nil=>rw[(dw (.inr hb)).1];exact .inl h
    |cons x t=>
     have ha:=h.core q hq
     have hqd:q<d.bg.length:=by rw[←h.n];exact hq
     have hbd:(d.core q).buf=x::t:=by rw[←ha.buf];exact hb
     right
     refine⟨⟨2,q⟩,yB hqd (by rw[hbd];simp), ?_⟩
     show Alike o _ (dD o d q).1
     rw[(fL hq hb).1,(fL hqd hbd).1]
     refine⟨(dt _ _ _).trans (h.n.trans (dt _ _ _).symm),fun j hj=> ?_,congrArg (fun l=>List.set l x.addr.toNat x.word) h.mem,h.bh⟩
     rw[dt] at hj
     rw[eO hq,eO hqd]
     by_cases e:j=q
     ·subst e
      rw[if_pos rfl,if_pos rfl]
      exact⟨ha.pc,rfl,ha.rest⟩
     ·rw[if_neg e,if_neg e];exact h.core j hj
   ·rw[(dw (.inl hq)).1];exact .inl h
 ·rw[h1];exact .inl h
structure mC (o:Obj) (l:List bw):Prop where
 ok:∀i,i<l.length→pP o (l.getD i default).m
 init:∃i,i<l.length∧(l.getD i default).m=cZ o
 leads:∀i,i<l.length→∀x,IN o (l.getD i default).m x→eD (cj o (l.getD i default).m x.kind x.core).1∈ed l
theorem mC.key {o:Obj} {l:List bw} (hc:mC o l) {m:bk} (hm:pP o m) (h:eD m∈ed l):∃i,i<l.length∧sF m (l.getD i default).m:=by
 obtain⟨f,hf,he⟩:=List.mem_map.1 h
 obtain⟨i,hi,rfl⟩:=List.mem_iff_getElem.1 hf
 have e:l[i]=l.getD i default:=by simp[List.getD,hi]
 rw[e] at he
 have h2:=hc.ok i hi
 exact⟨i,hi,key_inj hm.w h2.w (hm.iE.n.trans h2.iE.n.symm) he.symm⟩
theorem mC.next {o:Obj} {l:List bw} (ok:cz o) (hw:lk o) (hc:mC o l) {s:bk} (hs:pP o s) {i:Nat} (hi:i<l.length) (h:Alike o s (l.getD i default).m) (kind k:Int):∃j,j<l.length∧Alike o (cj o s kind k).1 (l.getD j default).m:=by
 have hd:=hc.ok i hi
 rcases h.step ok hs hd kind k with h1|⟨x,hx,h1⟩
 ·exact⟨i,hi,h1⟩
 ·have h2:=hd.step ok hw x.kind x.core
  obtain⟨j,hj,h3⟩:=hc.key h2 (hc.leads i hi x hx)
  exact⟨j,hj,h1.trans (h3.alike h2 (hc.ok j hj))⟩
inductive Reach (o:Obj):bk→Prop where
 |init:Reach o (cZ o)
 |step {s:bk} (h:Reach o s) (kind k:Int):Reach o (cj o s kind k).1
theorem Reach.ok {o:Obj} (ok:cz o) (hw:lk o) {s:bk} (h:Reach o s):pP o s:=by
 induction h with
 |init=>exact pP.init ok hw
 |step _ kind k ih=>exact ih.step ok hw kind k
theorem Reach.found {o:Obj} {l:List bw} (ok:cz o) (hw:lk o) (hc:mC o l) {s:bk} (h:Reach o s):∃j,j<l.length∧Alike o s (l.getD j default).m:=by
 induction h with
 |init=>
  obtain⟨i,hi,e⟩:=hc.init
  exact⟨i,hi,by rw[e];exact Alike.refl _ _⟩
 |step h kind k ih=>
  obtain⟨i,hi,h1⟩:=ih
  exact hc.next ok hw (h.ok ok hw) hi h1 kind k
def C7 (s:bk):Prop:=∀q,q<s.bg.length→(s.core q).halted=true∧(s.core q).buf=[]
def bk.tl (s:bk):Nat:=(s.bg.map bx.tl).sum
theorem ID:∀(l:List bx),(l.map bx.tl).sum≤l.length * 16
 |[]=>Nat.le_refl _
 |c::l=>by
  have:=ID l
  have:=PI c
  simp only[List.map_cons,List.sum_cons,List.length_cons]
  omega
theorem zt:∀(l:List bx) (q:Nat) (c:bx),q<l.length→((l.set q c).map bx.tl).sum+(l.getD q default).tl=(l.map bx.tl).sum+c.tl
 |[],_,_,h=>by simp at h
 |a::l,0,c,h=>by simp only[List.set_cons_zero,List.map_cons,List.sum_cons,List.getD_cons_zero];omega
 |a::l,q+1,c,h=>by
  have:=zt l q c (by simpa using h)
  simp only[List.set_cons_succ,List.map_cons,List.sum_cons,List.getD_cons_succ]
  omega
theorem J8 {s:bk} {q:Nat} (hq:q<s.bg.length) (r:bx×List Int×List cH):(s.pL q r).tl+(s.core q).tl=s.tl+r.1.tl:=zt s.bg q r.1 hq
theorem JO {c:bx} (h:c.halted=false):({ c with halted:=true }:bx).tl=c.tl+1:=by
 unfold bx.tl ec
 rw[h]
 simp;omega
theorem sF.tl {s d:bk} (h:sF s d):s.tl=d.tl:=by
 unfold bk.tl
 congr 1
 apply List.ext_getElem
 ·simp[h.n]
 ·intro i h1 h2
  have hi:i<s.bg.length:=by simpa using h1
  have hid:i<d.bg.length:=by simpa using h2
  have:=(h.core i hi).tl
  simpa[bk.core,List.getD,hi,hid] using this
theorem mC.ended {o:Obj} {l:List bw} (ok:cz o) (hw:lk o) (hc:mC o l) {s:bk} (hs:pP o s) (he:C7 s):∀(n:Nat) {i:Nat},i<l.length→Alike o s (l.getD i default).m→16 * 8≤(l.getD i default).m.tl+n→∃j,j<l.length∧Alike o s (l.getD j default).m∧C7 (l.getD j default).m:=by
 intro n
 induction n using Nat.strongRecOn with
 |_ n ih=>
  intro i hi h hn
  have hd:=hc.ok i hi
  generalize hm:(l.getD i default).m=d at *
  by_cases hall:∀q,q<d.bg.length→(d.core q).halted=true
  ·refine⟨i,hi,hm▸h,fun q hq=> ?_⟩
   rw[hm] at hq ⊢
   refine⟨hall q hq, ?_⟩
   rw[←(h.core q (by rw[h.n];exact hq)).buf]
   exact(he q (by rw[h.n];exact hq)).2
  ·simp only[Classical.not_forall] at hall
   obtain⟨q,hq,hnh⟩:=hall
   have hqs:q<s.bg.length:=by rw[h.n];exact hq
   have ha:=h.core q hqs
   obtain⟨e1,e2⟩:=he q hqs
   have h9:=hs.hz q hqs e1
   rw[jM o q ha.pc] at h9
   have hnb:(d.core q).buf=[]:=by rw[←ha.buf];exact e2
   have hst:eE o.buffer (d.core q) (iA o q (d.core q))=false:=by
    unfold eE
    rw[if_neg (by have:=(oJ hd.iE ok hq).1.kind;omega)]
    split
    ·rw[hnb];simp
    ·rfl
   have hnh:(d.core q).halted=false:=by simpa using hnh
   have hrd:IN o (l.getD i default).m ⟨1,q⟩:=by rw[hm];exact qy hq hnh hst
   have hl:=hc.leads i hi _ hrd
   rw[hm] at hl
   have e3:=(fg hq hnh hst).1
   rw[uC h9] at e3
   change (cj o d 1 q).1=_ at e3
   have hd2:=hd.step ok hw 1 q
   obtain⟨j,hj,hk⟩:=hc.key hd2 hl
   have htl:(cj o d 1 q).1.tl=d.tl+1:=by
    rw[e3]
    have h1:=J8 hq ({ d.core q with halted:=true },d.mem,d.bh)
    have h2:=JO hnh
    dsimp only at h1 ⊢
    omega
   have hal:Alike o s (cj o d 1 q).1:=by
    rw[e3]
    refine⟨h.n.trans (dt _ _ _).symm,fun p hp=> ?_,h.mem,h.bh⟩
    rw[eO hq]
    by_cases e:p=q
    ·subst e
     rw[if_pos rfl]
     exact⟨ha.pc,ha.buf, .inr (by rw[jM o p ha.pc];exact h9)⟩
    ·rw[if_neg e];exact h.core p hp
   have hle:(l.getD j default).m.tl≤16 * 8:=by
    have:=ID (l.getD j default).m.bg
    have hn2:=(hc.ok j hj).iE.n
    have:=ok.bg
    unfold bk.tl
    omega
   have hk2:=hk.tl
   rw[htl] at hk2
   exact ih (n - 1) (by omega) hj (hal.trans (hk.alike hd2 (hc.ok j hj))) (by omega)
end Go.Proofs.YtlonbgdonffcbaaGreatDoor
end
section
/- A greater buffer; one core alone. -/
namespace Go.Proofs.YtlonbgdonffcbaaGreatDoor
open Go Go.cY Go.Proofs
set_option linter.unusedSimpArgs false
set_option linter.unusedVariables false
structure fB (s d:bk):Prop where
 n:s.bg.length=d.bg.length
 core:∀q,q<s.bg.length→(s.core q).pc=(d.core q).pc∧(s.core q).buf=(d.core q).buf∧(s.core q).halted=(d.core q).halted∧∀j,j<16→(s.core q).di j=(d.core q).di j
 mem:s.mem=d.mem
 bh:s.bh=d.bh
theorem yW {c d:bx} (h:∀j,j<16→c.di j=d.di j):dh c=dh d:=by
 unfold dh
 have:∀l:List Nat,(∀j∈l,j<16)→(l.flatMap fun j=>cy (c.di j))=l.flatMap fun j=>cy (d.di j):=by
  intro l
  induction l with
  |nil=>intro _;rfl
  |cons j l ih=>intro hl;rw[List.flatMap_cons,List.flatMap_cons,h j (hl j (by simp)),ih fun i hi=>hl i (by simp[hi])]
 exact this _ fun j hj=>List.mem_range.1 hj
theorem fB.key {s d:bk} (h:fB s d):eD s=eD d:=by
 unfold eD
 rw[h.mem,h.bh]
 congr 1
 have:s.bg.map dY=d.bg.map dY:=by
  apply List.ext_getElem
  ·simp[h.n]
  ·intro i h1 h2
   have hi:i<s.bg.length:=by simpa using h1
   have hid:i<d.bg.length:=by simpa using h2
   obtain⟨e1,e2,e3,e4⟩:=h.core i hi
   simp only[bk.core,List.getD,List.getElem?_eq_getElem hi,List.getElem?_eq_getElem hid,Option.getD_some] at e1 e2 e3 e4
   rw[List.getElem_map,List.getElem_map]
   unfold dY ec
   rw[e1,e2,e3,yW e4]
 rw[List.flatMap_def,List.flatMap_def,this]
theorem fB.symm {s d:bk} (h:fB s d):fB d s:=⟨h.n.symm,fun q hq=>by obtain⟨e1,e2,e3,e4⟩:=h.core q (by rw[h.n];exact hq);exact⟨e1.symm,e2.symm,e3.symm,fun j hj=>(e4 j hj).symm⟩,h.mem.symm,h.bh.symm⟩
theorem fB.trans {a b c:bk} (h:fB a b) (h':fB b c):fB a c:=⟨h.n.trans h'.n,fun q hq=>by
 obtain⟨e1,e2,e3,e4⟩:=h.core q hq
 obtain⟨f1,f2,f3,f4⟩:=h'.core q (by rw[←h.n];exact hq)
 exact⟨e1.trans f1,e2.trans f2,e3.trans f3,fun j hj=>(e4 j hj).trans (f4 j hj)⟩,h.mem.trans h'.mem,h.bh.trans h'.bh⟩
theorem fB.refl (s:bk):fB s s:=⟨rfl,fun _ _=>⟨rfl,rfl,rfl,fun _ _=>rfl⟩,rfl,rfl⟩
theorem fB.run {o:Obj} {s d:bk} (ok:cz o) (g:Good o s) (h:fB s d) (q:Nat):fB (fD o s q).1 (fD o d q).1∧(fD o s q).2.1.kind=(fD o d q).2.1.kind:=by
 by_cases hc:¬q<s.bg.length∨(s.core q).halted=true∨eE o.buffer (s.core q) (iA o q (s.core q))=true
 ·have hd:¬q<d.bg.length∨(d.core q).halted=true∨eE o.buffer (d.core q) (iA o q (d.core q))=true:=by
   by_cases hq:q<s.bg.length
   ·obtain⟨e1,e2,e3,e4⟩:=h.core q hq
    right
    rw[←e3,←jM o q e1,←oV e2]
    exact hc.resolve_left fun h=>h hq
   ·left;rw[←h.n];exact hq
  rw[(gL hc).1,(gL hd).1,(gL hc).2,(gL hd).2]
  exact⟨h,rfl⟩
 ·simp only[not_or,Decidable.not_not,Bool.not_eq_true] at hc
  obtain⟨hq,h1,h2⟩:=hc
  obtain⟨e1,e2,e3,e4⟩:=h.core q hq
  have hqd:q<d.bg.length:=by rw[←h.n];exact hq
  have h1d:(d.core q).halted=false:=by rw[←e3];exact h1
  have h2d:eE o.buffer (d.core q) (iA o q (d.core q))=false:=by rw[←jM o q e1,←oV e2];exact h2
  obtain⟨a1,a2,_⟩:=fg hq h1 h2
  obtain⟨b1,b2,_⟩:=fg hqd h1d h2d
  rw[a1,a2,b1,b2,←jM o q e1,←h.mem,←h.bh]
  obtain⟨f1,f2,f3,f4,f5,f6⟩:=ue (q:=q) (oJ g ok hq).1 e1 e2 e3 e4 s.mem s.bh
  refine⟨⟨(dt _ _ _).trans (h.n.trans (dt _ _ _).symm),fun j hj=> ?_,congrArg Prod.fst f1,congrArg Prod.snd f1⟩,f2⟩
  rw[dt] at hj
  rw[eO hq,eO hqd]
  by_cases e:j=q
  ·subst e
   rw[if_pos rfl,if_pos rfl]
   exact⟨f3,f4,f5,f6⟩
  ·rw[if_neg e,if_neg e];exact h.core j hj
theorem fB.drain {o:Obj} {s d:bk} (h:fB s d) (q:Nat):fB (dD o s q).1 (dD o d q).1:=by
 by_cases hq:q<s.bg.length
 ·have hqd:q<d.bg.length:=by rw[←h.n];exact hq
  obtain⟨e1,e2,e3,e4⟩:=h.core q hq
  cases hb:(s.core q).buf with
  |nil=>rw[(dw (.inr hb)).1,(dw (.inr (e2.symm.trans hb))).1];exact h
  |cons x t=>
   rw[(fL hq hb).1,(fL hqd (e2.symm.trans hb)).1]
   refine⟨(dt _ _ _).trans (h.n.trans (dt _ _ _).symm),fun j hj=> ?_,congrArg (fun l=>List.set l x.addr.toNat x.word) h.mem,h.bh⟩
   rw[dt] at hj
   rw[eO hq,eO hqd]
   by_cases e:j=q
   ·subst e
    rw[if_pos rfl,if_pos rfl]
    exact⟨e1,rfl,e3,e4⟩
   ·rw[if_neg e,if_neg e];exact h.core j hj
 ·rw[(dw (.inl hq)).1,(dw (.inl (by rw[←h.n];exact hq))).1];exact h
theorem fB.step {o:Obj} {s d:bk} (ok:cz o) (g:Good o s) (h:fB s d) (kind k:Int):fB (cj o s kind k).1 (cj o d kind k).1:=by
 rcases gp o s kind k with⟨q,rfl,hk⟩|h1
 ·rcases hk with rfl|rfl
  ·exact(h.run ok g q).1
  ·exact h.drain (o:=o) q
 ·rcases gp o d kind k with⟨q,rfl,hk⟩|h2
  ·rcases hk with rfl|rfl
   ·exact(h.run ok g q).1
   ·exact h.drain (o:=o) q
  ·rw[h1,h2];exact h
def gD (mem:List Int) (l:List cx):List Int:=l.foldl (fun m x=>m.set x.addr.toNat x.word) mem
theorem tv (mem:List Int) (l:List cx) (x:cx):gD mem (l++[x])=(gD mem l).set x.addr.toNat x.word:=by simp[gD]
theorem n0 {a:Int} (h0:0≤a):∀(l:List cx) (mem:List Int) (r:Int×Bool),a<mem.length→(∀x∈l,0≤x.addr)→r.1=mem.getD a.toNat 0→(jR a l r).1=(gD mem l).getD a.toNat 0
 |[],mem,r,_,_,h=>h
 |x::l,mem,r,h1,h2,h=>by
  rw[jR]
  refine n0 h0 l (mem.set x.addr.toNat x.word) _ (by simpa using h1) (fun y hy=>h2 y (by simp[hy])) ?_
  have hx:=h2 x (by simp)
  by_cases e:x.addr=a
  ·rw[if_pos e,e]
   have:a.toNat<mem.length:=by omega
   simp[List.getD,this]
  ·rw[if_neg e,h]
   have:x.addr.toNat≠a.toNat:=by omega
   simp[List.getD,List.getElem?_set_ne this]
def jd (c:bx):bx:={ c with buf:=[] }
def flat (s:bk):bk:=⟨[jd (s.core 0)],gD s.mem (s.core 0).buf,s.bh⟩
theorem sf (s:bk):(flat s).core 0=jd (s.core 0):=rfl
theorem HF {s:bk} (h:s.bg.length=1):s.bg=[s.core 0]:=by
 match s,h with
 |⟨[c],_,_⟩,_=>rfl
theorem HN {s:bk} (h:s.bg.length=1) (r:bx×List Int×List cH):s.pL 0 r=⟨[r.1],r.2.1,r.2.2⟩:=by
 unfold bk.pL
 rw[HF h]
 rfl
theorem q0 {s:bk} (h:s.bg.length=1) (r:bx×List Int×List cH):flat (s.pL 0 r)=⟨[jd r.1],gD r.2.1 r.1.buf,r.2.2⟩:=by
 rw[HN h];rfl
theorem xb {o:Obj} {s:bk} (h:s.bg.length=1):flat (dD o s (0:Nat)).1=flat s:=by
 cases hb:(s.core 0).buf with
 |nil=>rw[(dw (.inr hb)).1]
 |cons x t=>
  rw[(fL (by omega) hb).1,q0 h]
  unfold flat
  rw[hb]
  rfl
def G9 (o:Obj) (f:bk):bk:=flat (fD o f (0:Nat)).1
theorem sg {s:bk}:(flat s).bg.length=1:=rfl
theorem DC {o:Obj} {c:bx} {i:Instr} {mem:List Int} {pr:List cH} {code:Int} (iok:mW i code mem.length) (hst:eE o.buffer c i=false) (hb:∀x∈c.buf,0≤x.addr∧x.addr<mem.length):
 let r:=(eo 0 c i mem pr).1
 let r':=(eo 0 (jd c) i (gD mem c.buf) pr).1
 (⟨[jd r.1],gD r.2.1 r.1.buf,r.2.2⟩:bk)=⟨[jd r'.1],gD r'.2.1 r'.1.buf,r'.2.2⟩:=by
 have hempty:i.kind=5∨i.kind=6∨i.kind=7→c.buf=[]:=by
  intro h
  unfold eE at hst
  rw[if_neg (by omega),if_pos h] at hst
  simp only[decide_eq_false_iff_not] at hst
  exact List.eq_nil_of_length_eq_zero (by omega)
 have hfc:jd (jd c)=jd c:=rfl
 unfold eo
 dsimp only
 by_cases k1:i.kind=1
 ·simp only[if_pos k1];rfl
 by_cases k2:i.kind=2
 ·simp only[if_neg k1,if_pos k2];rfl
 by_cases k3:i.kind=3
 ·simp only[if_neg k1,if_neg k2,if_pos k3]
  have ha:=iok.addr (by omega)
  have h1:=n0 ha.1 c.buf mem (mem.getD i.addr.toNat 0,false) ha.2 (fun x hx=>(hb x hx).1) rfl
  rw[h1]
  rfl
 by_cases k4:i.kind=4
 ·simp only[if_neg k1,if_neg k2,if_neg k3,if_pos k4]
  rw[tv]
  rfl
 by_cases k5:i.kind=5
 ·simp only[if_neg k1,if_neg k2,if_neg k3,if_neg k4,if_pos k5]
  have he:=hempty (by omega)
  unfold jd bx.put bx.inc
  dsimp only
  rw[he];rfl
 by_cases k6:i.kind=6
 ·simp only[if_neg k1,if_neg k2,if_neg k3,if_neg k4,if_neg k5,if_pos k6];rfl
 by_cases k7:i.kind=7
 ·simp only[if_neg k1,if_neg k2,if_neg k3,if_neg k4,if_neg k5,if_neg k6,if_pos k7];rfl
 by_cases k8:i.kind=8
 ·simp only[if_neg k1,if_neg k2,if_neg k3,if_neg k4,if_neg k5,if_neg k6,if_neg k7,if_pos k8];rfl
 by_cases k9:i.kind=9
 ·simp only[if_neg k1,if_neg k2,if_neg k3,if_neg k4,if_neg k5,if_neg k6,if_neg k7,if_neg k8,if_pos k9]
  have:(jd c).di i.a.toNat=c.di i.a.toNat:=rfl
  rw[this]
  split<;>rfl
 simp only[if_neg k1,if_neg k2,if_neg k3,if_neg k4,if_neg k5,if_neg k6,if_neg k7,if_neg k8,if_neg k9]
 rfl
theorem xc {o:Obj} (ok:cz o) (c:bx) (i:Instr):eE o.buffer (jd c) i=false:=by
 unfold eE jd
 have:=ok.buffer.1
 split
 ·simp;omega
 ·split<;>simp
theorem EC {o:Obj} {s:bk} (ok:cz o) (g:Good o s) (h:s.bg.length=1) (h1:(s.core 0).halted=false) (h2:eE o.buffer (s.core 0) (iA o 0 (s.core 0))=false):flat (fD o s (0:Nat)).1=G9 o (flat s):=by
 have hq:0<s.bg.length:=by omega
 unfold G9
 rw[(fg hq h1 h2).1,q0 h]
 have e1:=(fg (o:=o) (s:=flat s) (q:=0) (by rw[sg];omega) h1 (by rw[sf];exact xc ok _ _)).1
 rw[e1,q0 sg,sf]
 have:=oJ g ok hq
 exact DC (o:=o) (c:=s.core 0) (i:=iA o 0 (s.core 0)) (mem:=s.mem) (pr:=s.bh) (by rw[g.mem];exact this.1) h2 (g.addr 0 hq)
def KB (o:Obj):Nat→bk
 |0=>flat (cZ o)
 |n+1=>G9 o (KB o n)
theorem Reach.at_ {o:Obj} (ok:cz o) (hw:lk o) (h1:o.bg.length=1) {s:bk} (h:Reach o s):∃n,flat s=KB o n∧∀k,k<n→((KB o k).core 0).halted=false:=by
 induction h with
 |init=>exact⟨0,rfl,fun k hk=>by omega⟩
 |step h kind k ih=>
  rename_i s
  obtain⟨n,e,hn⟩:=ih
  have hok:=h.ok ok hw
  have hl:s.bg.length=1:=hok.iE.n.trans h1
  rcases gp o s kind k with⟨q,rfl,hk⟩|h2
  ·by_cases hq:q=0
   ·subst hq
    rcases hk with rfl|rfl
    ·show ∃n,flat (fD o s (0:Nat)).1=_∧_
     by_cases hc:¬0<s.bg.length∨(s.core 0).halted=true∨eE o.buffer (s.core 0) (iA o 0 (s.core 0))=true
     ·rw[(gL hc).1];exact⟨n,e,hn⟩
     ·simp only[not_or,Decidable.not_not,Bool.not_eq_true] at hc
      obtain⟨_,h3,h4⟩:=hc
      refine⟨n+1,by rw[EC ok hok.iE hl h3 h4,e,KB],fun k hk=> ?_⟩
      by_cases hkn:k<n
      ·exact hn k hkn
      ·have:k=n:=by omega
       subst this
       rw[←e];exact h3
    ·show ∃n,flat (dD o s (0:Nat)).1=_∧_
     rw[xb hl];exact⟨n,e,hn⟩
   ·have:(cj o s kind q).1=s:=by
     rcases hk with rfl|rfl
     ·exact(gL (.inl (by omega))).1
     ·exact(dw (o:=o) (.inl (by omega))).1
    rw[this];exact⟨n,e,hn⟩
  ·rw[h2];exact⟨n,e,hn⟩
end Go.Proofs.YtlonbgdonffcbaaGreatDoor
end
section
/- One core alone: all that it comes to is found, and found by plain steps too. -/
namespace Go.Proofs.YtlonbgdonffcbaaGreatDoor
open Go Go.cY Go.Proofs
set_option linter.unusedSimpArgs false
set_option linter.unusedVariables false
theorem Reach.go {o:Obj}:∀(mv:List cC) {s:bk},Reach o s→Reach o (gA o s mv)
 |[],_,h=>h
 |x::mv,_,h=>Reach.go mv (h.step x.kind x.core)
theorem gw.reach {p:Bool} {o:Obj} {l:List bw} (h:gw p o l):∀i,i<l.length→Reach o (l.getD i default).m:=by
 intro i
 induction i using Nat.strongRecOn with
 |_ i ih=>
  intro hi
  by_cases h0:0<i
  ·obtain⟨k,mv,q1,q2,q3⟩:=h.xP i h0 hi
   rw[q3]
   exact(ih k q1 (by omega)).go mv
  ·have:i=0:=by omega
   subst this
   rw[h.first];exact Reach.init
theorem fB.plain {o:Obj} {s d:bk} (ok:cz o) (hw:lk o) (hs:pP o s) (h:fB s d):fB (gA o s (fU o s ⟨1,(0:Nat)⟩)) (gA o d (fU o d ⟨1,(0:Nat)⟩)):=by
 obtain⟨h1,h2⟩:=h.run ok hs.iE 0
 unfold fU
 change fB (gA o s (if(fD o s (0:Nat)).2.1.kind=3 then _ else _)) (gA o d (if(fD o d (0:Nat)).2.1.kind=3 then _ else _))
 rw[←h2]
 by_cases h3:(fD o s (0:Nat)).2.1.kind=3
 ·rw[if_pos h3]
  show fB (dD o (fD o s (0:Nat)).1 (0:Nat)).1 (dD o (fD o d (0:Nat)).1 (0:Nat)).1
  exact h1.drain (o:=o) 0
 ·rw[if_neg h3];exact h1
end Go.Proofs.YtlonbgdonffcbaaGreatDoor
end
section
/- The way to a situation that was found. -/
namespace Go.Proofs.YtlonbgdonffcbaaGreatDoor
open Go Go.cY Go.Proofs
set_option linter.unusedSimpArgs false
set_option linter.unusedVariables false
def jG (l:List bw):Nat→Nat→List cC
 |0,_=>[]
 |f+1,k=>if 0≤(l.getD k default).from_ then(l.getD k default).xE.getD 0 default::jG l f (l.getD k default).from_.toNat else[]
theorem gw.pZ {p:Bool} {o:Obj} {l:List bw} (h:gw p o l) {k:Nat} (hk:k<l.length) (h0:0≤(l.getD k default).from_):(l.getD k default).from_.toNat<k∧0<k:=by
 rcases Nat.eq_zero_or_pos k with e|e
 ·subst e;rw[h.first] at h0;exact absurd h0 (by simp)
 ·obtain⟨k',t,h1,_,h2⟩:=h.xP k e hk
  rw[h2]
  exact⟨by dsimp only;omega,e⟩
theorem qH {p:Bool} {o:Obj} {l:List bw} (h:gw p o l):∀{f g k:Nat},k<l.length→k≤f→k≤g→jG l f k=jG l g k
 |0,0,k,hk,hf,hg=>rfl
 |0,g+1,k,hk,hf,hg=>by
  obtain rfl:k=0:=by omega
  rw[jG,jG,h.first];rfl
 |f+1,0,k,hk,hf,hg=>by
  obtain rfl:k=0:=by omega
  rw[jG,jG,h.first];rfl
 |f+1,g+1,k,hk,hf,hg=>by
  rw[jG,jG]
  split
  ·rename_i h0
   obtain⟨h1,h2⟩:=h.pZ hk h0
   rw[qH h (f:=f) (g:=g) (by omega) (by omega) (by omega)]
  ·rfl
abbrev jH (l:List bw) (k:Nat):List cC:=jG l k k
theorem qI {p:Bool} {o:Obj} {l:List bw} (h:gw p o l) {k:Nat} (hk:k<l.length) (h0:0≤(l.getD k default).from_):jH l k=(l.getD k default).xE.getD 0 default::jH l (l.getD k default).from_.toNat:=by
 obtain⟨h1,h2⟩:=h.pZ hk h0
 obtain⟨f,rfl⟩:∃f,k=f+1:=⟨k - 1,by omega⟩
 show jG l (f+1) (f+1)=_
 rw[jG,if_pos h0]
 congr 1
 exact qH h (by omega) (by omega) (Nat.le_refl _)
theorem sM {l:List bw} {k:Nat} (h0:¬0≤(l.getD k default).from_):jH l k=[]:=by
 show jG l k k=[]
 cases k with
 |zero=>rfl
 |succ f=>rw[jG,if_neg h0]
theorem sN {p:Bool} {o:Obj} {l:List bw} (h:gw p o l):∀k,k<l.length→(jH l k).length≤k:=by
 intro k
 induction k using Nat.strongRecOn with
 |_ k ih=>
  intro hk
  by_cases h0:0≤(l.getD k default).from_
  ·obtain⟨h1,h2⟩:=h.pZ hk h0
   rw[qI h hk h0,List.length_cons]
   have:=ih _ h1 (by omega)
   omega
  ·rw[sM h0];exact Nat.zero_le _
inductive px (o:Obj):bk→List cC→bk→Prop where
 |nil (s:bk):px o s [] s
 |cons {s d:bk} {x:cC} {l:List cC} (h:IN o s x) (t:px o (cj o s x.kind x.core).1 l d):px o s (x::l) d
theorem px.snoc {o:Obj} {s d:bk} {l:List cC} (h:px o s l d) {x:cC} (hx:IN o d x):px o s (l++[x]) (cj o d x.kind x.core).1:=by
 induction h with
 |nil s=>exact .cons hx (.nil _)
 |cons h t ih=>exact .cons h (ih hx)
theorem IH {o:Obj} {l:List bw} (h:gw false o l):∀k,k<l.length→px o (cZ o) (jH l k).reverse (l.getD k default).m:=by
 intro k
 induction k using Nat.strongRecOn with
 |_ k ih=>
  intro hk
  rcases Nat.eq_zero_or_pos k with e|e
  ·subst e
   rw[show jH l 0=[] from rfl,h.first]
   exact .nil _
  ·obtain⟨k',mv,h1,h2,h3⟩:=h.xP k e hk
   obtain⟨x,hx,h4⟩:=l7 h2
   have h4:mv=[x]:=by
    rcases h4 with h4|⟨h4,_⟩
    ·exact h4
    ·cases h4
   subst h4
   have h0:0≤(l.getD k default).from_:=by rw[h3];dsimp only;omega
   rw[qI h hk h0,h3,List.reverse_cons]
   dsimp only
   rw[Int.toNat_natCast]
   exact(ih k' h1 (by omega)).snoc hx
theorem w7 {o:Obj} {s:bk} {x:cC} (hx:IN o s x):(cj o s x.kind x.core).2.2=0∧(cj o s x.kind x.core).2.1.kind≠0:=by
 obtain⟨q,hq,hc,h|h⟩:=tJ hx
 ·obtain⟨h1,h2,h3⟩:=h
  rw[h1,hc]
  show(fD o s q).2.2=0∧(fD o s q).2.1.kind≠0
  obtain⟨e1,e2,e3⟩:=fg hq h2 h3
  refine⟨e3, ?_⟩
  rw[e2]
  unfold eo
  repeat' split
  all_goals (dsimp only;decide)
 ·obtain⟨h1,h2⟩:=h
  rw[h1,hc]
  show(dD o s q).2.2=0∧(dD o s q).2.1.kind≠0
  cases hb:(s.core q).buf with
  |nil=>exact absurd hb h2
  |cons x t=>
   obtain⟨e1,e2,e3⟩:=fL (o:=o) hq hb
   exact⟨e3,by rw[e2];decide⟩
theorem px.reach {o:Obj} {s d:bk} {l:List cC} (h:px o s l d) (hs:Reach o s):Reach o d:=by
 induction h with
 |nil s=>exact hs
 |cons h t ih=>exact ih (hs.step _ _)
end Go.Proofs.YtlonbgdonffcbaaGreatDoor
end
section
/- Steps turned round: the walk. -/
namespace Go.Proofs.YtlonbgdonffcbaaGreatDoor
open Go Go.cY Go.Proofs
set_option linter.unusedSimpArgs false
set_option linter.unusedVariables false
set_option maxRecDepth 8000
theorem nf {l:List cC} {k:Nat} (h:k<l.length) (d:AV):(l.map cC.av).getD ((k:Int)).toNat d=(l.getD k default).av:=by
 rw[Int.toNat_natCast];exact dR cC.av l k d h
def jq (l:List cC) (i:Nat):List cC:=(List.range l.length).map fun q=>if q<i∨l.length≤q+i then l.getD (l.length - 1 - q) default else l.getD q default
theorem gK (l:List cC) (i:Nat):(jq l i).length=l.length:=by simp[jq]
theorem lg {l:List cC} {i q:Nat} (h:q<l.length):(jq l i).getD q default=if q<i∨l.length≤q+i then l.getD (l.length - 1 - q) default else l.getD q default:=by simp[jq,List.getD,h]
theorem CD (l:List cC):jq l 0=l:=by
 apply List.ext_getElem (gK l 0)
 intro q h1 h2
 have:=lg (l:=l) (i:=0) h2
 rw[if_neg (by omega)] at this
 simpa[List.getD,h1,h2] using this
theorem HT {l:List cC} {i:Nat} (h:l.length≤2 * i+1):jq l i=l.reverse:=by
 apply List.ext_getElem (by simp[gK])
 intro q h1 h2
 have hq:q<l.length:=by simpa using h2
 have:=lg (l:=l) (i:=i) hq
 rw[show(jq l i).getD q default=(jq l i)[q] by simp[List.getD,h1]] at this
 rw[this,List.getElem_reverse]
 split
 ·simp[List.getD,show l.length - 1 - q<l.length by omega]
 ·have:q=l.length - 1 - q:=by omega
  conv=>lhs;rw[this]
  simp[List.getD,show l.length - 1 - q<l.length by omega]
theorem CC {l:List cC} {i:Nat} (h:2 * i+1<l.length):((jq l i).set i (l.getD (l.length - 1 - i) default)).set (l.length - 1 - i) (l.getD i default)=jq l (i+1):=by
 apply List.ext_getElem (by simp[gK])
 intro q h1 h2
 have hq:q<l.length:=by simpa[gK] using h2
 have e1:=lg (l:=l) (i:=i) hq
 have e2:=lg (l:=l) (i:=i+1) hq
 rw[show(jq l (i+1)).getD q default=(jq l (i+1))[q] by simp[List.getD,h2]] at e2
 rw[show(jq l i).getD q default=(jq l i)[q]'(by rw[gK];exact hq) by simp[List.getD,gK,hq]] at e1
 rw[e2,List.getElem_set,List.getElem_set,e1]
 by_cases c1:l.length - 1 - i=q
 ·subst c1
  rw[if_pos rfl,if_pos (by omega),show l.length - 1 - (l.length - 1 - i)=i by omega]
 ·rw[if_neg c1]
  by_cases c2:i=q
  ·subst c2
   rw[if_pos rfl,if_pos (by omega)]
  ·rw[if_neg c2]
   by_cases c3:q<i∨l.length≤q+i
   ·rw[if_pos c3,if_pos (by omega)]
   ·rw[if_neg c3,if_neg (by omega)]
set_option maxHeartbeats 1000000 in
theorem uS {b:Nat} {l:List cC} {H:Hp} {nx:Nat} (hb:b<nx) (hl:l.length≤1048576) (r:∃d,bf H b=some (.row 42 2 d (l.map cC.av))):
 bz Tryz.prog 50 [.sl b l.length] H nx (fun _ H' n=>(∃d,bf H' b=some (.row 42 2 d (l.reverse.map cC.av)))∧nx≤n∧∀y,y<nx→y≠b→bf H' y=bf H y):=by
 obtain⟨d0,r0'⟩:=r
 refine aO F2 rfl ?_
 have a0:(l.map cC.av).length=l.length:=by simp
 refine ca ?_
 refine aT (fun σ:Nat×Int=>[(0, .sl b l.length),(2,i64 σ.1),(3,i64 σ.2)]) (fun σ H2 n=>σ.2=(l.length:Int) - 1 - σ.1∧2 * σ.1≤l.length+1∧nx≤n∧(∃d,bf H2 b=some (.row 42 2 d ((jq l σ.1).map cC.av)))∧∀y,y<nx→y≠b→bf H2 y=bf H y) (fun σ=>l.length - σ.1) (0,(l.length:Int) - 1) cG ⟨by simp,by dsimp only;omega,cO,⟨d0,by rw[CD];exact bo⟩,fun y h1 h2=>cA⟩ ?_
 clear r0' a0
 rintro⟨i,j⟩ H2 n ⟨hj,hi,hn,⟨d,r1⟩,hk⟩
 dsimp only at hj hi r1 ⊢
 have a0:((jq l i).map cC.av).length=l.length:=by simp[gK]
 by_cases hc:2 * i+1<l.length
 ·obtain⟨jn,rfl⟩:∃jn:Nat,j=jn:=⟨j.toNat,by omega⟩
  have hjn:jn=l.length - 1 - i:=by omega
  have e0:=fun d=>nf (l:=jq l i) (k:=i) (by rw[gK];omega) d
  have e1:=fun d=>nf (l:=jq l i) (k:=jn) (by rw[gK];omega) d
  have e2:∀x d,(((jq l i).map cC.av).set ((i:Int)).toNat x).getD ((jn:Int)).toNat d=((jq l i).getD jn default).av:=fun x d=>by
   rw[getD_set_ne (by omega)];exact e1 d
  have v0:=lg (l:=l) (i:=i) (q:=i) (by omega)
  rw[if_neg (by omega)] at v0
  have v1:=lg (l:=l) (i:=i) (q:=jn) (by omega)
  rw[if_neg (by omega)] at v1
  rw[v0] at e0
  rw[v1] at e1 e2
  have e3:=e2 (l.getD jn default).av
  clear e2
  have hnx:=CC hc
  rw[←hjn] at hnx
  refine ca ?_
  refine⟨(i+1,(jn:Int) - 1),by dsimp only;omega,cG,by dsimp only;omega,by dsimp only;omega,cO,⟨_,by dsimp only;rw[←hnx,List.map_set,List.map_set];exact bo⟩,fun y h1 h2=>Eq.trans cA (hk y h1 h2)⟩
 ·refine ca ?_
  rw[HT (by omega)] at r1
  exact⟨⟨d,bo⟩,cO,fun y h1 h2=>Eq.trans cA (hk y h1 h2)⟩
end Go.Proofs.YtlonbgdonffcbaaGreatDoor
end
