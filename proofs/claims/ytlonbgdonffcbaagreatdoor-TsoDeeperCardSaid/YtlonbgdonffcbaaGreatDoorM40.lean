import Derived.Test.YtlonbgdonffcbaaGreatDoorM39
import Derived.Test.YtlonbgdonffcbaaGreatDoorM32
section
/- Shows: the walk. -/
namespace Go.Proofs.YtlonbgdonffcbaaGreatDoor
open Go Go.cU Go.Proofs
set_option linter.unusedSimpArgs false
set_option linter.unusedVariables false
set_option maxRecDepth 8000
theorem O8 {p q:cF} (h1:p.cj=q.cj) (h2:p.word=q.word):p=q:=by cases p;cases q;simp_all
theorem rC (a b:List cF) (ha:a.length * 16≤140737488355328) (hb:b.length * 16≤140737488355328):Pure Tryz.prog 33 [dw a,dw b] (fun r=>r=bl (decide (a=b))):=by
 refine aI EU rfl ?_
 have a0:(a.map cF.av).length=a.length:=by simp
 have a1:(b.map cF.av).length=b.length:=by simp
 by_cases hl:a.length=b.length
 ·have r0:decide ((a.map cF.av).length=(b.map cF.av).length)=true:=by simp[hl]
  refine cc ?_
  rw[List.length_map]
  refine aR (fun i:Nat=>[(0,dw a),(1,dw b),(12,i64 a.length),(13,i64 i)]) (fun i H n=>i≤a.length∧∀j,j<i→a.getD j default=b.getD j default) (fun i=>a.length - i) 0 cG ⟨Nat.zero_le _,fun j hj=>by omega⟩ ?_
  rintro i H n ⟨hi,hall⟩
  by_cases hil:i<a.length
  ·have e0:=fun d=>iM (l:=a) hil d
   have e1:=fun d=>iM (l:=b) (i:=i) (by omega) d
   by_cases h1:(a.getD i default).cj=(b.getD i default).cj
   ·have r1:=decide_eq_true h1
    by_cases h2:(a.getD i default).word=(b.getD i default).word
    ·have r2:=decide_eq_true h2
     refine cc ?_
     exact⟨i+1,by omega,cG,by omega,fun j hj=>by
      by_cases e:j=i
      ·rw[e];exact O8 h1 h2
      ·exact hall j (by omega)⟩
    ·have r2:=decide_eq_false h2
     refine cc ?_
     refine iu (Eq.symm (decide_eq_false ?_))
     rintro rfl
     exact h2 rfl
   ·have r1:=decide_eq_false h1
    refine cc ?_
    refine iu (Eq.symm (decide_eq_false ?_))
    rintro rfl
    exact h1 rfl
  ·refine cc ?_
   refine iu (Eq.symm (decide_eq_true ?_))
   apply List.ext_getElem hl
   intro j q1 q2
   have:=hall j (by omega)
   simpa[List.getD,q1,q2] using this
 ·refine cc ?_
  refine iu (Eq.symm (decide_eq_false ?_))
  rintro rfl
  exact hl rfl
theorem BN {o:Obj} {s:bk} (hlk:eK s) {want:List cF} (hw:want.length * 16≤140737488355328) (fr:Int) {B:AV} (hB:B= .sc (.slice none 0 0)∨∃L,B= .im 2 .any L) {wb:Nat} {H:Hp} {nx:Nat} (hb:∃d,bf H wb=some (.row 45 1 d [dw want])) (hlt:wb<nx):ic Tryz.prog 32 [.agg [s.frozen o,i64 fr,B], .pt wb 1 0 0] H nx (bl (decide (s.bg=want))):=by
 obtain⟨d,hb⟩:=hb
 have c0:=nt o s hlk.bg
 have c1:=rC s.bg want hlk.bg hw
 simp only[bk.frozen] at c0 ⊢
 rcases hB with rfl|⟨L,rfl⟩
 all_goals
  refine aT ET rfl ?_
  refine cc ?_
  exact⟨⟨rfl,fun y hy=>cE⟩⟩
def qI {α:Type} (f:α→Bool):List α→Nat→Int
 |[],_=>-1
 |e::l,k=>if f e=true then k else qI f l (k+1)
theorem ux {α:Type} (f:α→Bool):∀(l:List α) (k:Nat),decide (0≤qI f l k)=l.any f
 |[],k=>by simp[qI]
 |e::l,k=>by
  rw[qI,List.any_cons]
  split
  ·rename_i h;rw[h];simp
  ·rename_i h
   rw[ux f l (k+1)]
   simp only[Bool.not_eq_true] at h
   rw[h];rfl
theorem AK {α:Type} [Inhabited α] (f:α→Bool) {l:List α} {i:Nat} (h:i<l.length) (k:Nat):qI f (l.drop i) k=if f (l.getD i default)=true then(k:Int) else qI f (l.drop (i+1)) (k+1):=by
 rw[List.drop_eq_getElem_cons h,qI,show l.getD i default=l[i] by simp[List.getD,h]]
theorem AL {o:Obj} {l:List bu} (hl:l.length≤65536) (hlk:∀i,i<l.length→eK (l.getD i default).m) {want:List cF} (hw:want.length * 16≤140737488355328) {wb:Nat} {H:Hp} {nx:Nat} (hb:∃d,bf H wb=some (.row 45 1 d [dw want])) (hlt:wb<nx):
 ic Tryz.prog 64 [gn o l, .fn (.func 32) [] [.pt wb 1 0 0]] H nx (i64 (qI (fun f:bu=>decide (f.m.bg=want)) l 0)):=by
 obtain⟨d0,hb⟩:=hb
 refine aT FH rfl ?_
 refine cc ?_
 rw[List.length_map]
 refine aS (fun i:Nat=>[(0,gn o l),(1, .fn (.func 32) [] [.pt wb 1 0 0]),(7,i64 l.length),(8,i64 i)])
  (fun i H2 n=>i≤l.length∧nx≤n∧qI (fun f:bu=>decide (f.m.bg=want)) (l.drop i) i=qI (fun f:bu=>decide (f.m.bg=want)) l 0∧∀y,y<nx→bf H2 y=bf H y) (fun i=>l.length - i) 0
  ⟨_,_,_,Rt.refl _ _ _,cG,Nat.zero_le _,cM,rfl,fun y hy=>cE⟩ ?_
 rintro i H2 n ⟨hi,hn,hix,hk⟩
 have a0:(l.map (bu.av o)).length=l.length:=List.length_map _
 by_cases hil:i<l.length
 ·have e0:∀d,(l.map (bu.av o)).getD ((i:Int)).toNat d= .agg [(l.getD i default).m.frozen o,i64 (l.getD i default).from_,mM (l.getD i default).CW]:=fun d=>by rw[Int.toNat_natCast,dS (bu.av o) l i d hil];rfl
  rw[AK _ hil] at hix
  have hlk:=hlk i hil
  have hby:=pV (l.getD i default).CW
  generalize mM (l.getD i default).CW=B at e0 hby
  generalize (l.getD i default).from_=fr at e0
  generalize (l.getD i default).m=s at *
  have hsl:=fun(H3:Hp) (n3:Nat) (h1:bf H3 wb=some (.row 45 1 d0 [dw want])) (h2:wb<n3)=>BN (o:=o) hlk hw fr hby (H:=H3) (nx:=n3) ⟨d0,h1⟩ h2
  rcases hby with rfl|⟨L,rfl⟩
  all_goals
   refine cc ?_
   refine aQ (hsl _ _ ?_ cM) trivial ?_
   ·exact Eq.trans cE ((hk wb hlt).trans hb)
   by_cases hx:s.bg=want
   ·rw[if_pos (decide_eq_true hx)] at hix
    have r0:=decide_eq_true hx
    refine cc ?_
    exact⟨⟨by rw[←hix],fun y hy=>Eq.trans cE (hk y hy)⟩⟩
   ·rw[if_neg (by simpa using hx)] at hix
    have r0:=decide_eq_false hx
    refine cc ?_
    exact⟨i+1,by omega,_,_,_,Rt.refl _ _ _,cG,by omega,cM,hix,fun y hy=>Eq.trans cE (hk y hy)⟩
 ·obtain rfl:i=l.length:=by omega
  rw[List.drop_length] at hix
  refine cc ?_
  exact⟨⟨by rw[←hix];rfl,fun y hy=>Eq.trans cE (hk y hy)⟩⟩
theorem z6 {o:Obj} {l:List bu} (hl:l.length≤65536) (hlk:∀i,i<l.length→eK (l.getD i default).m) {want:List cF} (hw:want.length * 16≤140737488355328) {wb:Nat} {H:Hp} {nx:Nat} (hb:∃d,bf H wb=some (.row 45 1 d [dw want])) (hlt:wb<nx):
 ic Tryz.prog 31 [gn o l, .fn (.func 32) [] [.pt wb 1 0 0]] H nx (bl (l.any fun f:bu=>decide (f.m.bg=want))):=by
 obtain⟨d0,hb⟩:=hb
 refine aT ES rfl ?_
 refine cc ?_
 refine aQ (AL hl hlk hw ⟨d0, ?_⟩ cM) trivial ?_
 ·exact Eq.trans cE hb
 have h1:=ux (fun f:bu=>decide (f.m.bg=want)) l 0
 generalize qI (fun f:bu=>decide (f.m.bg=want)) l 0=i at *
 rw[←h1]
 refine cc ?_
 exact⟨⟨rfl,fun y hy=>cE⟩⟩
theorem u7 (o:Obj) (l:List bu) (e:Int):cA 0 (.dE [gn o l,i64 e]):=by
 have:=iP o l
 simp only[cA,cH]
 exact⟨this,trivial,trivial⟩
theorem uF {p:Bool} {o:Obj} {most:Int} (h:¬(cd p o most).1=0):(cd p o most).2=[]:=by
 unfold cd at *
 by_cases h1:eU o=false
 ·rw[if_pos h1]
 ·rw[if_neg h1] at h ⊢
  by_cases h2:1≤most∧most≤65536
  ·rw[if_neg (fun e=>e h2)] at h ⊢
   revert h
   cases kZ p o most.toNat with
   |none=>intro _;rfl
   |some l=>intro h;exact absurd rfl h
  ·rw[if_pos h2]
theorem CI {p:Bool} {o:Obj} (ho:o.Wf) {g:Nat} (hg:cx o→lH p o g) (most:Int):Pure Tryz.prog 30 [o.av,i64 most, .fn (.func g) [] []] (fun r=>r= .dE [gn o (cd p o most).2,i64 (cd p o most).1]):=by
 refine jg (yR ho hg most) (u7 _ _ _) fun c=> ?_
 unfold yS
 by_cases h0:(cd p o most).1=0
 ·rw[if_pos h0,h0];exact fun _ h=>h
 ·rw[if_neg h0,uF h0]
  exact c9.dE (.cons (c9.sY _ _ _ _) (.cons (fun _ h=>h) .nil))
theorem zY {p:Bool} {o:Obj} (ho:o.Wf) (most:Int):(cd p o most).2.length≤65536∧∀i,i<(cd p o most).2.length→eK ((cd p o most).2.getD i default).m:=by
 by_cases h0:(cd p o most).1=0
 ·obtain⟨ok,hf,hl⟩:=mK ho h0
  refine⟨hl,fun i hi=> ?_⟩
  obtain⟨h1,h2⟩:=hf.ok i hi
  exact h1.look ok (by omega)
 ·rw[uF h0]
  exact⟨by simp,fun i hi=>by simp at hi⟩
def qg (o:Obj) (most:Int) (want:List cF):Bool:=(cd false o most).2.any fun f=>decide (f.m.bg=want)
theorem MN {o:Obj} (ho:o.Wf) (most:Int) (want:List cF) (hw:want.length * 16≤140737488355328):Pure Tryz.prog 11 [o.av,i64 most,dw want] (fun r=>r= .dE [bl (qg o most want),i64 (cd false o most).1]):=by
 refine cr ?_ (by simp[cA,cH])
 have c0:=CI (p:=false) ho (fun ok=>sI ok) most
 obtain⟨hl,hlk⟩:=zY (p:=false) ho most
 have hff:=iP o (cd false o most).2
 unfold qg
 generalize (cd false o most).1=e at *
 generalize (cd false o most).2=l at *
 refine aO EE rfl ?_
 refine cc ?_
 refine aQ (z6 hl hlk hw (wb:=1) ⟨.any, ?_⟩ cM) trivial ?_
 ·exact bn
 refine cc ?_
 exact⟨rfl⟩
end Go.Proofs.YtlonbgdonffcbaaGreatDoor
end
section
/- Whatever is played, a situation that was found stands as the machine does, but for what has halted or is about to. -/
namespace Go.Proofs.YtlonbgdonffcbaaGreatDoor
open Go Go.cU Go.Proofs
set_option linter.unusedSimpArgs false
set_option linter.unusedVariables false
structure tv (o:Obj) (q:Nat) (c d:bx):Prop where
 pc:c.pc=d.pc
 buf:c.buf=d.buf
 rest:(c.halted=d.halted∧∀j,j<16→c.de j=d.de j)∨9<(hC o q c).kind
structure Alike (o:Obj) (s d:bk):Prop where
 n:s.bd.length=d.bd.length
 core:∀q,q<s.bd.length→tv o q (s.core q) (d.core q)
 mem:s.mem=d.mem
 bg:s.bg=d.bg
theorem jB (o:Obj) (q:Nat) {c d:bx} (h:c.pc=d.pc):hC o q c=hC o q d:=by unfold hC;rw[h]
theorem Alike.refl (o:Obj) (s:bk):Alike o s s:=⟨rfl,fun _ _=>⟨rfl,rfl, .inl ⟨rfl,fun _ _=>rfl⟩⟩,rfl,rfl⟩
theorem tv.trans {o:Obj} {q:Nat} {a b c:bx} (h:tv o q a b) (h':tv o q b c):tv o q a c:=by
 refine⟨h.pc.trans h'.pc,h.buf.trans h'.buf, ?_⟩
 rcases h.rest with⟨h1,h2⟩|h1
 ·rcases h'.rest with⟨h3,h4⟩|h3
  ·exact .inl ⟨h1.trans h3,fun j hj=>(h2 j hj).trans (h4 j hj)⟩
  ·rw[←jB o q h.pc] at h3;exact .inr h3
 ·exact .inr h1
theorem Alike.trans {o:Obj} {a b c:bk} (h:Alike o a b) (h':Alike o b c):Alike o a c:=
 ⟨h.n.trans h'.n,fun q hq=>(h.core q hq).trans (h'.core q (by rw[←h.n];exact hq)),h.mem.trans h'.mem,h.bg.trans h'.bg⟩
theorem rQ.alike {o:Obj} {s d:bk} (hs:oi o s) (hd:oi o d) (h:rQ s d):Alike o s d where
 n:=h.n
 mem:=h.mem
 bg:=h.bg
 core:=fun q hq=>by
  have hk:=h.core q hq
  refine⟨hk.pc,hk.buf, ?_⟩
  by_cases e:(s.core q).halted=(d.core q).halted
  ·exact .inl ⟨e,hk.de e⟩
  ·right
   by_cases e1:(s.core q).halted=true
   ·exact hs.hz q hq e1
   ·have e2:(d.core q).halted=true:=by
     revert e e1;cases(s.core q).halted<;>cases(d.core q).halted<;>simp
    rw[jB o q hk.pc]
    exact hd.hz q (by rw[←h.n];exact hq) e2
theorem nv {b:Int} {c d:bx} (h:c.buf=d.buf) (i:Instr):eH b c i=eH b d i:=by unfold eH;rw[h]
theorem uD {q:Nat} {c d:bx} {i:Instr} {code m:Int} (iok:oB i code m) (hp:c.pc=d.pc) (hb:c.buf=d.buf) (hh:c.halted=d.halted) (hr:∀j,j<16→c.de j=d.de j) (mem:List Int) (pr:List cF):
 (fH q c i mem pr).1.2=(fH q d i mem pr).1.2∧(fH q c i mem pr).2=(fH q d i mem pr).2∧(fH q c i mem pr).1.1.pc=(fH q d i mem pr).1.1.pc∧(fH q c i mem pr).1.1.buf=(fH q d i mem pr).1.1.buf∧(fH q c i mem pr).1.1.halted=(fH q d i mem pr).1.1.halted∧∀j,j<16→(fH q c i mem pr).1.1.de j=(fH q d i mem pr).1.1.de j:=by
 have ha:=hr i.a.toNat (by have:=iok.a;omega)
 have hbb:=hr i.b.toNat (by have:=iok.b;omega)
 have hd:=hr i.d.toNat (by have:=iok.d;omega)
 have hset:∀(k w:Int) j,j<16→lx c.de k w j=lx d.de k w j:=fun k w j hj=>by
  unfold lx
  split
  ·rfl
  ·exact hr j hj
 unfold fH
 rw[ha,hbb,hd,hp,hb]
 by_cases k1:i.kind=1
 ·simp only[if_pos k1];refine⟨?_, ?_, ?_, ?_, ?_, ?_⟩<;>first|exact rfl|trivial|exact congrArg (·+1) hp|exact hp|exact hb|exact hh|exact hset _ _|exact hr
 by_cases k2:i.kind=2
 ·simp only[if_neg k1,if_pos k2];refine⟨?_, ?_, ?_, ?_, ?_, ?_⟩<;>first|exact rfl|trivial|exact congrArg (·+1) hp|exact hp|exact hb|exact hh|exact hset _ _|exact hr
 by_cases k3:i.kind=3
 ·simp only[if_neg k1,if_neg k2,if_pos k3];refine⟨?_, ?_, ?_, ?_, ?_, ?_⟩<;>first|exact rfl|trivial|exact congrArg (·+1) hp|exact hp|exact hb|exact hh|exact hset _ _|exact hr
 by_cases k4:i.kind=4
 ·simp only[if_neg k1,if_neg k2,if_neg k3,if_pos k4];refine⟨?_, ?_, ?_, ?_, ?_, ?_⟩<;>first|exact rfl|trivial|exact congrArg (·+1) hp|exact hp|exact hb|exact hh|exact hset _ _|exact hr
 by_cases k5:i.kind=5
 ·simp only[if_neg k1,if_neg k2,if_neg k3,if_neg k4,if_pos k5];refine⟨?_, ?_, ?_, ?_, ?_, ?_⟩<;>first|exact rfl|trivial|exact congrArg (·+1) hp|exact hp|exact hb|exact hh|exact hset _ _|exact hr
 by_cases k6:i.kind=6
 ·simp only[if_neg k1,if_neg k2,if_neg k3,if_neg k4,if_neg k5,if_pos k6];refine⟨?_, ?_, ?_, ?_, ?_, ?_⟩<;>first|exact rfl|trivial|exact congrArg (·+1) hp|exact hp|exact hb|exact hh|exact hset _ _|exact hr
 by_cases k7:i.kind=7
 ·simp only[if_neg k1,if_neg k2,if_neg k3,if_neg k4,if_neg k5,if_neg k6,if_pos k7];refine⟨?_, ?_, ?_, ?_, ?_, ?_⟩<;>first|exact rfl|trivial|exact congrArg (·+1) hp|exact hp|exact hb|exact hh|exact hset _ _|exact hr
 by_cases k8:i.kind=8
 ·simp only[if_neg k1,if_neg k2,if_neg k3,if_neg k4,if_neg k5,if_neg k6,if_neg k7,if_pos k8];refine⟨?_, ?_, ?_, ?_, ?_, ?_⟩<;>first|exact rfl|trivial|exact congrArg (·+1) hp|exact hp|exact hb|exact hh|exact hset _ _|exact hr
 by_cases k9:i.kind=9
 ·simp only[if_neg k1,if_neg k2,if_neg k3,if_neg k4,if_neg k5,if_neg k6,if_neg k7,if_neg k8,if_pos k9]
  refine⟨?_, ?_, ?_⟩
  ·first|exact rfl|trivial
  ·first|exact rfl|trivial
  ·split<;>refine⟨?_, ?_, ?_, ?_⟩<;>first|exact rfl|exact congrArg (·+1) hp|exact hb|exact hh|exact hr
 simp only[if_neg k1,if_neg k2,if_neg k3,if_neg k4,if_neg k5,if_neg k6,if_neg k7,if_neg k8,if_neg k9];refine⟨?_, ?_, ?_, ?_, ?_, ?_⟩<;>first|exact rfl|trivial|exact congrArg (·+1) hp|exact hp|exact hb|exact hh|exact hset _ _|exact hr
def KW (o:Obj) (s:bk) (x:cV):Prop:=x∈dV o s s.bd.length
theorem Alike.step {o:Obj} {s d:bk} (ok:cx o) (hs:oi o s) (hd:oi o d) (h:Alike o s d) (kind k:Int):Alike o (ck o s kind k).1 d∨∃x,KW o d x∧Alike o (ck o s kind k).1 (ck o d x.kind x.core).1:=by
 rcases gV o s kind k with⟨q,rfl,hk⟩|h1
 ·rcases hk with rfl|rfl
  ·show Alike o (fE o s q).1 d∨∃x,KW o d x∧Alike o (fE o s q).1 (ck o d x.kind x.core).1
   by_cases hc:¬q<s.bd.length∨(s.core q).halted=true∨eH o.buffer (s.core q) (hC o q (s.core q))=true
   ·rw[(gq hc).1];exact .inl h
   ·simp only[not_or,Decidable.not_not,Bool.not_eq_true] at hc
    obtain⟨hq,h1,h2⟩:=hc
    rw[(gA hq h1 h2).1]
    have ha:=h.core q hq
    have hqd:q<d.bd.length:=by rw[←h.n];exact hq
    obtain⟨iok,hpc⟩:=qL hs.kT ok hq
    have hin:=jB o q ha.pc
    by_cases h9:9<(hC o q (s.core q)).kind
    ·left
     rw[tK h9]
     refine⟨(dq _ _ _).trans h.n,fun j hj=> ?_,h.mem,h.bg⟩
     rw[dq] at hj
     rw[eJ hq]
     by_cases e:j=q
     ·subst e
      rw[if_pos rfl]
      exact⟨ha.pc,ha.buf, .inr h9⟩
     ·rw[if_neg e];exact h.core j hj
    ·right
     rcases ha.rest with⟨h3,h4⟩|h3
     ·have hdh:(d.core q).halted=false:=by rw[←h3];exact h1
      have hds:eH o.buffer (d.core q) (hC o q (d.core q))=false:=by rw[←hin,←nv ha.buf];exact h2
      refine⟨⟨1,q⟩,q0 hqd hdh hds, ?_⟩
      show Alike o _ (fE o d q).1
      rw[(gA hqd hdh hds).1,←hin,←h.mem,←h.bg]
      obtain⟨e1,e2,e3,e4,e5,e6⟩:=uD (q:=q) iok ha.pc ha.buf h3 h4 s.mem s.bg
      refine⟨(dq _ _ _).trans (h.n.trans (dq _ _ _).symm),fun j hj=> ?_,congrArg Prod.fst e1,congrArg Prod.snd e1⟩
      rw[dq] at hj
      rw[eJ hq,eJ hqd]
      by_cases e:j=q
      ·subst e
       rw[if_pos rfl,if_pos rfl]
       exact⟨e3,e4, .inl ⟨e5,e6⟩⟩
      ·rw[if_neg e,if_neg e];exact h.core j hj
     ·exact absurd h3 h9
  ·show Alike o (dP o s q).1 d∨∃x,KW o d x∧Alike o (dP o s q).1 (ck o d x.kind x.core).1
   by_cases hq:q<s.bd.length
   ·cases hb:(s.core q).buf with
    |nil=>rw[(eP (.inr hb)).1];exact .inl h
    |cons x t=>
     have ha:=h.core q hq
     have hqd:q<d.bd.length:=by rw[←h.n];exact hq
     have hbd:(d.core q).buf=x::t:=by rw[←ha.buf];exact hb
     right
     refine⟨⟨2,q⟩,xU hqd (by rw[hbd];simp), ?_⟩
     show Alike o _ (dP o d q).1
     rw[(gP hq hb).1,(gP hqd hbd).1]
     refine⟨(dq _ _ _).trans (h.n.trans (dq _ _ _).symm),fun j hj=> ?_,congrArg (fun l=>List.set l x.addr.toNat x.word) h.mem,h.bg⟩
     rw[dq] at hj
     rw[eJ hq,eJ hqd]
     by_cases e:j=q
     ·subst e
      rw[if_pos rfl,if_pos rfl]
      exact⟨ha.pc,rfl,ha.rest⟩
     ·rw[if_neg e,if_neg e];exact h.core j hj
   ·rw[(eP (.inl hq)).1];exact .inl h
 ·rw[h1];exact .inl h
structure ji (o:Obj) (l:List bu):Prop where
 ok:∀i,i<l.length→oi o (l.getD i default).m
 init:∃i,i<l.length∧(l.getD i default).m=dY o
 leads:∀i,i<l.length→∀x,KW o (l.getD i default).m x→dz (ck o (l.getD i default).m x.kind x.core).1∈eZ l
theorem uG {o:Obj} {most:Nat} {l:List bu} (ok:cx o) (hw:kW o) (hm:1≤most) (h:kZ false o most=some l):ji o l:=by
 obtain⟨h1,h2,h3,h4⟩:=yQ ok hw hm h
 refine⟨fun i hi=>(h1.ok i hi).1,⟨0,h1.pos,by rw[h1.first]⟩,fun i hi x hx=> ?_⟩
 refine h4 i hi [x] ?_
 unfold dU
 rw[if_neg (by simp)]
 exact List.mem_map.2 ⟨x,hx,rfl⟩
theorem ji.key {o:Obj} {l:List bu} (hc:ji o l) {m:bk} (hm:oi o m) (h:dz m∈eZ l):∃i,i<l.length∧rQ m (l.getD i default).m:=by
 obtain⟨f,hf,he⟩:=List.mem_map.1 h
 obtain⟨i,hi,rfl⟩:=List.mem_iff_getElem.1 hf
 have e:l[i]=l.getD i default:=by simp[List.getD,hi]
 rw[e] at he
 have h2:=hc.ok i hi
 exact⟨i,hi,key_inj hm.w h2.w (hm.kT.n.trans h2.kT.n.symm) he.symm⟩
theorem ji.next {o:Obj} {l:List bu} (ok:cx o) (hw:kW o) (hc:ji o l) {s:bk} (hs:oi o s) {i:Nat} (hi:i<l.length) (h:Alike o s (l.getD i default).m) (kind k:Int):∃j,j<l.length∧Alike o (ck o s kind k).1 (l.getD j default).m:=by
 have hd:=hc.ok i hi
 rcases h.step ok hs hd kind k with h1|⟨x,hx,h1⟩
 ·exact⟨i,hi,h1⟩
 ·have h2:=hd.step ok hw x.kind x.core
  obtain⟨j,hj,h3⟩:=hc.key h2 (hc.leads i hi x hx)
  exact⟨j,hj,h1.trans (h3.alike h2 (hc.ok j hj))⟩
inductive Reach (o:Obj):bk→Prop where
 |init:Reach o (dY o)
 |step {s:bk} (h:Reach o s) (kind k:Int):Reach o (ck o s kind k).1
theorem Reach.ok {o:Obj} (ok:cx o) (hw:kW o) {s:bk} (h:Reach o s):oi o s:=by
 induction h with
 |init=>exact oi.init ok hw
 |step _ kind k ih=>exact ih.step ok hw kind k
theorem Reach.found {o:Obj} {l:List bu} (ok:cx o) (hw:kW o) (hc:ji o l) {s:bk} (h:Reach o s):∃j,j<l.length∧Alike o s (l.getD j default).m:=by
 induction h with
 |init=>
  obtain⟨i,hi,e⟩:=hc.init
  exact⟨i,hi,by rw[e];exact Alike.refl _ _⟩
 |step h kind k ih=>
  obtain⟨i,hi,h1⟩:=ih
  exact hc.next ok hw (h.ok ok hw) hi h1 kind k
def pH (s:bk):Prop:=∀q,q<s.bd.length→(s.core q).halted=true∧(s.core q).buf=[]
def bk.tl (s:bk):Nat:=(s.bd.map bx.tl).sum
theorem G8:∀(l:List bx),(l.map bx.tl).sum≤l.length * 16
 |[]=>Nat.le_refl _
 |c::l=>by
  have:=G8 l
  have:=OI c
  simp only[List.map_cons,List.sum_cons,List.length_cons]
  omega
theorem zM:∀(l:List bx) (q:Nat) (c:bx),q<l.length→((l.set q c).map bx.tl).sum+(l.getD q default).tl=(l.map bx.tl).sum+c.tl
 |[],_,_,h=>by simp at h
 |a::l,0,c,h=>by simp only[List.set_cons_zero,List.map_cons,List.sum_cons,List.getD_cons_zero];omega
 |a::l,q+1,c,h=>by
  have:=zM l q c (by simpa using h)
  simp only[List.set_cons_succ,List.map_cons,List.sum_cons,List.getD_cons_succ]
  omega
theorem JF {s:bk} {q:Nat} (hq:q<s.bd.length) (r:bx×List Int×List cF):(s.ta q r).tl+(s.core q).tl=s.tl+r.1.tl:=zM s.bd q r.1 hq
theorem IS {c:bx} (h:c.halted=false):({ c with halted:=true }:bx).tl=c.tl+1:=by
 unfold bx.tl eY
 rw[h]
 simp;omega
theorem rQ.tl {s d:bk} (h:rQ s d):s.tl=d.tl:=by
 unfold bk.tl
 congr 1
 apply List.ext_getElem
 ·simp[h.n]
 ·intro i h1 h2
  have hi:i<s.bd.length:=by simpa using h1
  have hid:i<d.bd.length:=by simpa using h2
  have:=(h.core i hi).tl
  simpa[bk.core,List.getD,hi,hid] using this
theorem ji.ended {o:Obj} {l:List bu} (ok:cx o) (hw:kW o) (hc:ji o l) {s:bk} (hs:oi o s) (he:pH s):∀(n:Nat) {i:Nat},i<l.length→Alike o s (l.getD i default).m→16 * 8≤(l.getD i default).m.tl+n→∃j,j<l.length∧Alike o s (l.getD j default).m∧pH (l.getD j default).m:=by
 intro n
 induction n using Nat.strongRecOn with
 |_ n ih=>
  intro i hi h hn
  have hd:=hc.ok i hi
  generalize hm:(l.getD i default).m=d at *
  by_cases hall:∀q,q<d.bd.length→(d.core q).halted=true
  ·refine⟨i,hi,hm▸h,fun q hq=> ?_⟩
   rw[hm] at hq ⊢
   refine⟨hall q hq, ?_⟩
   rw[←(h.core q (by rw[h.n];exact hq)).buf]
   exact(he q (by rw[h.n];exact hq)).2
  ·simp only[Classical.not_forall] at hall
   obtain⟨q,hq,hnh⟩:=hall
   have hqs:q<s.bd.length:=by rw[h.n];exact hq
   have ha:=h.core q hqs
   obtain⟨e1,e2⟩:=he q hqs
   have h9:=hs.hz q hqs e1
   rw[jB o q ha.pc] at h9
   have hnb:(d.core q).buf=[]:=by rw[←ha.buf];exact e2
   have hst:eH o.buffer (d.core q) (hC o q (d.core q))=false:=by
    unfold eH
    rw[if_neg (by have:=(qL hd.kT ok hq).1.kind;omega)]
    split
    ·rw[hnb];simp
    ·rfl
   have hnh:(d.core q).halted=false:=by simpa using hnh
   have hrd:KW o (l.getD i default).m ⟨1,q⟩:=by rw[hm];exact q0 hq hnh hst
   have hl:=hc.leads i hi _ hrd
   rw[hm] at hl
   have e3:=(gA hq hnh hst).1
   rw[tK h9] at e3
   change (ck o d 1 q).1=_ at e3
   have hd2:=hd.step ok hw 1 q
   obtain⟨j,hj,hk⟩:=hc.key hd2 hl
   have htl:(ck o d 1 q).1.tl=d.tl+1:=by
    rw[e3]
    have h1:=JF hq ({ d.core q with halted:=true },d.mem,d.bg)
    have h2:=IS hnh
    dsimp only at h1 ⊢
    omega
   have hal:Alike o s (ck o d 1 q).1:=by
    rw[e3]
    refine⟨h.n.trans (dq _ _ _).symm,fun p hp=> ?_,h.mem,h.bg⟩
    rw[eJ hq]
    by_cases e:p=q
    ·subst e
     rw[if_pos rfl]
     exact⟨ha.pc,ha.buf, .inr (by rw[jB o p ha.pc];exact h9)⟩
    ·rw[if_neg e];exact h.core p hp
   have hle:(l.getD j default).m.tl≤16 * 8:=by
    have:=G8 (l.getD j default).m.bd
    have hn2:=(hc.ok j hj).kT.n
    have:=ok.bd
    unfold bk.tl
    omega
   have hk2:=hk.tl
   rw[htl] at hk2
   exact ih (n - 1) (by omega) hj (hal.trans (hk.alike hd2 (hc.ok j hj))) (by omega)
theorem Reach.zm {o:Obj} {l:List bu} (ok:cx o) (hw:kW o) (hc:ji o l) {s:bk} (h:Reach o s) (he:pH s):∃j,j<l.length∧s.bg=(l.getD j default).m.bg∧s.mem=(l.getD j default).m.mem∧pH (l.getD j default).m:=by
 obtain⟨i,hi,h1⟩:=h.found ok hw hc
 obtain⟨j,hj,h2,h3⟩:=hc.ended ok hw (h.ok ok hw) he 128 hi h1 (by omega)
 exact⟨j,hj,h2.bg,h2.mem,h3⟩
end Go.Proofs.YtlonbgdonffcbaaGreatDoor
end
section
/- A greater buffer; one core alone. -/
namespace Go.Proofs.YtlonbgdonffcbaaGreatDoor
open Go Go.cU Go.Proofs
set_option linter.unusedSimpArgs false
set_option linter.unusedVariables false
def Obj.wide (o:Obj) (b:Int):Obj:={ o with buffer:=b }
theorem wO {a b:Int} (h:a≤b) {c:bx} {i:Instr} (hs:eH a c i=false):eH b c i=false:=by
 unfold eH at *
 split
 ·rw[if_pos (by assumption)] at hs
  simp only[decide_eq_false_iff_not] at hs ⊢
  omega
 ·rw[if_neg (by assumption)] at hs
  exact hs
theorem BT {o:Obj} {b:Int} (h:o.buffer≤b) (s:bk) (kind k:Int):(ck o s kind k).1=s∨(ck (o.wide b) s kind k).1=(ck o s kind k).1:=by
 rcases gV o s kind k with⟨q,rfl,hk⟩|h1
 ·rcases hk with rfl|rfl
  ·show(fE o s q).1=s∨(fE (o.wide b) s q).1=(fE o s q).1
   by_cases hc:¬q<s.bd.length∨(s.core q).halted=true∨eH o.buffer (s.core q) (hC o q (s.core q))=true
   ·exact .inl (gq hc).1
   ·simp only[not_or,Decidable.not_not,Bool.not_eq_true] at hc
    obtain⟨hq,h1,h2⟩:=hc
    right
    rw[(gA hq h1 h2).1,(gA (o:=o.wide b) hq h1 (wO h h2)).1]
    rfl
  ·exact .inr rfl
 ·exact .inl h1
theorem Reach.wide {o:Obj} {b:Int} (h:o.buffer≤b) {s:bk} (hs:Reach o s):Reach (o.wide b) s:=by
 induction hs with
 |init=>exact Reach.init (o:=o.wide b)
 |step _ kind k ih=>
  rcases BT h _ kind k with e|e
  ·rw[e];exact ih
  ·rw[←e];exact ih.step kind k
structure eu (s d:bk):Prop where
 n:s.bd.length=d.bd.length
 core:∀q,q<s.bd.length→(s.core q).pc=(d.core q).pc∧(s.core q).buf=(d.core q).buf∧(s.core q).halted=(d.core q).halted∧∀j,j<16→(s.core q).de j=(d.core q).de j
 mem:s.mem=d.mem
 bg:s.bg=d.bg
theorem xm {c d:bx} (h:∀j,j<16→c.de j=d.de j):dZ c=dZ d:=by
 unfold dZ
 have:∀l:List Nat,(∀j∈l,j<16)→(l.flatMap fun j=>ct (c.de j))=l.flatMap fun j=>ct (d.de j):=by
  intro l
  induction l with
  |nil=>intro _;rfl
  |cons j l ih=>intro hl;rw[List.flatMap_cons,List.flatMap_cons,h j (hl j (by simp)),ih fun i hi=>hl i (by simp[hi])]
 exact this _ fun j hj=>List.mem_range.1 hj
theorem eu.key {s d:bk} (h:eu s d):dz s=dz d:=by
 unfold dz
 rw[h.mem,h.bg]
 congr 1
 have:s.bd.map dR=d.bd.map dR:=by
  apply List.ext_getElem
  ·simp[h.n]
  ·intro i h1 h2
   have hi:i<s.bd.length:=by simpa using h1
   have hid:i<d.bd.length:=by simpa using h2
   obtain⟨e1,e2,e3,e4⟩:=h.core i hi
   simp only[bk.core,List.getD,List.getElem?_eq_getElem hi,List.getElem?_eq_getElem hid,Option.getD_some] at e1 e2 e3 e4
   rw[List.getElem_map,List.getElem_map]
   unfold dR eY
   rw[e1,e2,e3,xm e4]
 rw[List.flatMap_def,List.flatMap_def,this]
theorem eu.symm {s d:bk} (h:eu s d):eu d s:=⟨h.n.symm,fun q hq=>by obtain⟨e1,e2,e3,e4⟩:=h.core q (by rw[h.n];exact hq);exact⟨e1.symm,e2.symm,e3.symm,fun j hj=>(e4 j hj).symm⟩,h.mem.symm,h.bg.symm⟩
theorem eu.trans {a b c:bk} (h:eu a b) (h':eu b c):eu a c:=⟨h.n.trans h'.n,fun q hq=>by
 obtain⟨e1,e2,e3,e4⟩:=h.core q hq
 obtain⟨f1,f2,f3,f4⟩:=h'.core q (by rw[←h.n];exact hq)
 exact⟨e1.trans f1,e2.trans f2,e3.trans f3,fun j hj=>(e4 j hj).trans (f4 j hj)⟩,h.mem.trans h'.mem,h.bg.trans h'.bg⟩
theorem eu.refl (s:bk):eu s s:=⟨rfl,fun _ _=>⟨rfl,rfl,rfl,fun _ _=>rfl⟩,rfl,rfl⟩
theorem eu.run {o:Obj} {s d:bk} (ok:cx o) (g:Good o s) (h:eu s d) (q:Nat):eu (fE o s q).1 (fE o d q).1∧(fE o s q).2.1.kind=(fE o d q).2.1.kind:=by
 by_cases hc:¬q<s.bd.length∨(s.core q).halted=true∨eH o.buffer (s.core q) (hC o q (s.core q))=true
 ·have hd:¬q<d.bd.length∨(d.core q).halted=true∨eH o.buffer (d.core q) (hC o q (d.core q))=true:=by
   by_cases hq:q<s.bd.length
   ·obtain⟨e1,e2,e3,e4⟩:=h.core q hq
    right
    rw[←e3,←jB o q e1,←nv e2]
    exact hc.resolve_left fun h=>h hq
   ·left;rw[←h.n];exact hq
  rw[(gq hc).1,(gq hd).1,(gq hc).2,(gq hd).2]
  exact⟨h,rfl⟩
 ·simp only[not_or,Decidable.not_not,Bool.not_eq_true] at hc
  obtain⟨hq,h1,h2⟩:=hc
  obtain⟨e1,e2,e3,e4⟩:=h.core q hq
  have hqd:q<d.bd.length:=by rw[←h.n];exact hq
  have h1d:(d.core q).halted=false:=by rw[←e3];exact h1
  have h2d:eH o.buffer (d.core q) (hC o q (d.core q))=false:=by rw[←jB o q e1,←nv e2];exact h2
  obtain⟨a1,a2,_⟩:=gA hq h1 h2
  obtain⟨b1,b2,_⟩:=gA hqd h1d h2d
  rw[a1,a2,b1,b2,←jB o q e1,←h.mem,←h.bg]
  obtain⟨f1,f2,f3,f4,f5,f6⟩:=uD (q:=q) (qL g ok hq).1 e1 e2 e3 e4 s.mem s.bg
  refine⟨⟨(dq _ _ _).trans (h.n.trans (dq _ _ _).symm),fun j hj=> ?_,congrArg Prod.fst f1,congrArg Prod.snd f1⟩,f2⟩
  rw[dq] at hj
  rw[eJ hq,eJ hqd]
  by_cases e:j=q
  ·subst e
   rw[if_pos rfl,if_pos rfl]
   exact⟨f3,f4,f5,f6⟩
  ·rw[if_neg e,if_neg e];exact h.core j hj
theorem eu.drain {o:Obj} {s d:bk} (h:eu s d) (q:Nat):eu (dP o s q).1 (dP o d q).1:=by
 by_cases hq:q<s.bd.length
 ·have hqd:q<d.bd.length:=by rw[←h.n];exact hq
  obtain⟨e1,e2,e3,e4⟩:=h.core q hq
  cases hb:(s.core q).buf with
  |nil=>rw[(eP (.inr hb)).1,(eP (.inr (e2.symm.trans hb))).1];exact h
  |cons x t=>
   rw[(gP hq hb).1,(gP hqd (e2.symm.trans hb)).1]
   refine⟨(dq _ _ _).trans (h.n.trans (dq _ _ _).symm),fun j hj=> ?_,congrArg (fun l=>List.set l x.addr.toNat x.word) h.mem,h.bg⟩
   rw[dq] at hj
   rw[eJ hq,eJ hqd]
   by_cases e:j=q
   ·subst e
    rw[if_pos rfl,if_pos rfl]
    exact⟨e1,rfl,e3,e4⟩
   ·rw[if_neg e,if_neg e];exact h.core j hj
 ·rw[(eP (.inl hq)).1,(eP (.inl (by rw[←h.n];exact hq))).1];exact h
theorem eu.step {o:Obj} {s d:bk} (ok:cx o) (g:Good o s) (h:eu s d) (kind k:Int):eu (ck o s kind k).1 (ck o d kind k).1:=by
 rcases gV o s kind k with⟨q,rfl,hk⟩|h1
 ·rcases hk with rfl|rfl
  ·exact(h.run ok g q).1
  ·exact h.drain (o:=o) q
 ·rcases gV o d kind k with⟨q,rfl,hk⟩|h2
  ·rcases hk with rfl|rfl
   ·exact(h.run ok g q).1
   ·exact h.drain (o:=o) q
  ·rw[h1,h2];exact h
end Go.Proofs.YtlonbgdonffcbaaGreatDoor
end
section
/- One core alone: all that it comes to is found, and found by plain steps too. -/
namespace Go.Proofs.YtlonbgdonffcbaaGreatDoor
open Go Go.cU Go.Proofs
set_option linter.unusedSimpArgs false
set_option linter.unusedVariables false
theorem Reach.go {o:Obj}:∀(mv:List cV) {s:bk},Reach o s→Reach o (kS o s mv)
 |[],_,h=>h
 |x::mv,_,h=>Reach.go mv (h.step x.kind x.core)
theorem jU.reach {p:Bool} {o:Obj} {l:List bu} (h:jU p o l):∀i,i<l.length→Reach o (l.getD i default).m:=by
 intro i
 induction i using Nat.strongRecOn with
 |_ i ih=>
  intro hi
  by_cases h0:0<i
  ·obtain⟨k,mv,q1,q2,q3⟩:=h.HX i h0 hi
   rw[q3]
   exact(ih k q1 (by omega)).go mv
  ·have:i=0:=by omega
   subst this
   rw[h.first];exact Reach.init
theorem eu.plain {o:Obj} {s d:bk} (ok:cx o) (hw:kW o) (hs:oi o s) (h:eu s d):eu (kS o s (fO o s ⟨1,(0:Nat)⟩)) (kS o d (fO o d ⟨1,(0:Nat)⟩)):=by
 obtain⟨h1,h2⟩:=h.run ok hs.kT 0
 unfold fO
 change eu (kS o s (if(fE o s (0:Nat)).2.1.kind=3 then _ else _)) (kS o d (if(fE o d (0:Nat)).2.1.kind=3 then _ else _))
 rw[←h2]
 by_cases h3:(fE o s (0:Nat)).2.1.kind=3
 ·rw[if_pos h3]
  show eu (dP o (fE o s (0:Nat)).1 (0:Nat)).1 (dP o (fE o d (0:Nat)).1 (0:Nat)).1
  exact h1.drain (o:=o) 0
 ·rw[if_neg h3];exact h1
end Go.Proofs.YtlonbgdonffcbaaGreatDoor
end
section
/- The way to a situation that was found. -/
namespace Go.Proofs.YtlonbgdonffcbaaGreatDoor
open Go Go.cU Go.Proofs
set_option linter.unusedSimpArgs false
set_option linter.unusedVariables false
inductive uB (o:Obj):bk→List cV→bk→Prop where
 |nil (s:bk):uB o s [] s
 |cons {s d:bk} {x:cV} {l:List cV} (h:KW o s x) (t:uB o (ck o s x.kind x.core).1 l d):uB o s (x::l) d
theorem uB.snoc {o:Obj} {s d:bk} {l:List cV} (h:uB o s l d) {x:cV} (hx:KW o d x):uB o s (l++[x]) (ck o d x.kind x.core).1:=by
 induction h with
 |nil s=>exact .cons hx (.nil _)
 |cons h t ih=>exact .cons h (ih hx)
theorem uB.reach {o:Obj} {s d:bk} {l:List cV} (h:uB o s l d) (hs:Reach o s):Reach o d:=by
 induction h with
 |nil s=>exact hs
 |cons h t ih=>exact ih (hs.step _ _)
end Go.Proofs.YtlonbgdonffcbaaGreatDoor
end
section
/- Steps turned round: the walk. -/
namespace Go.Proofs.YtlonbgdonffcbaaGreatDoor
open Go Go.cU Go.Proofs
set_option linter.unusedSimpArgs false
set_option linter.unusedVariables false
set_option maxRecDepth 8000
end Go.Proofs.YtlonbgdonffcbaaGreatDoor
end
section
/- Way: the walk. -/
namespace Go.Proofs.YtlonbgdonffcbaaGreatDoor
open Go Go.cU Go.Proofs
set_option linter.unusedSimpArgs false
set_option linter.unusedVariables false
set_option maxRecDepth 8000
end Go.Proofs.YtlonbgdonffcbaaGreatDoor
end
section
/- The object by which the laws begin, and what exploring it comes to. -/
namespace Go.Proofs.YtlonbgdonffcbaaGreatDoor
open Go Go.cU Go.Proofs
set_option linter.unusedSimpArgs false
set_option linter.unusedVariables false
set_option maxRecDepth 20000
abbrev L5 (k:Int):Instr:=⟨k,0,0,0,0,0,0,0,0⟩
def K8 (i:Int):List Instr:=[⟨1,0,0,0,0,0,0,1,0⟩,⟨4,0,0,0,0,i,0,0,0⟩,⟨3,0,1,0,0,1 - i,0,0,0⟩,⟨7,0,0,1,0,0,0,0,0⟩,L5 10]
def uO:Obj:=⟨[0,0],2,0,1,[⟨⟨#[65]⟩,K8 0⟩,⟨⟨#[66]⟩,K8 1⟩]⟩
def kP:Obj:=⟨[7],1,0,1,[⟨⟨#[65]⟩,[L5 7,L5 10]⟩]⟩
theorem CT:Pure Tryz.prog 21 [bl false] (fun r=>r=uO.av):=fe (by simp[cA]) (by kernel_rfl)
def q8 (s:bk):Nat:=(dz s).foldl (fun n c=>n * 256+c.toNat) 1
theorem q9:∀(l:List UInt8) (a b:Nat) (m:List UInt8),0<a→l.foldl (fun n c=>n * 256+c.toNat) a=m.foldl (fun n c=>n * 256+c.toNat) b→l.length=m.length→a=b∧l=m
 |[],a,b,[],_,h,_=>⟨h,rfl⟩
 |[],a,b,y::m,_,_,hl=>by simp at hl
 |x::l,a,b,[],_,_,hl=>by simp at hl
 |x::l,a,b,y::m,ha,h,hl=>by
  simp only[List.foldl_cons] at h
  obtain⟨h1,h2⟩:=q9 l _ _ m (by omega) h (by simpa using hl)
  have hx:=x.toNat_lt
  have hy:=y.toNat_lt
  have e:x.toNat=y.toNat:=by omega
  exact⟨by omega,by rw[h2,UInt8.toNat_inj.1 e]⟩
theorem tR:∀(l:List UInt8) (a:Nat),a * 256^l.length≤l.foldl (fun n c=>n * 256+c.toNat) a
 |[],a=>by simp
 |x::l,a=>by
  have:=tR l (a * 256+x.toNat)
  rw[List.foldl_cons,List.length_cons,Nat.pow_succ]
  refine Nat.le_trans ?_ this
  rw[Nat.mul_comm (256^l.length),←Nat.mul_assoc]
  exact Nat.mul_le_mul_right _ (by omega)
theorem tQ:∀(l:List UInt8) (a:Nat),l.foldl (fun n c=>n * 256+c.toNat) a<(a+1) * 256^l.length
 |[],a=>by simp
 |x::l,a=>by
  have:=tQ l (a * 256+x.toNat)
  rw[List.foldl_cons,List.length_cons,Nat.pow_succ]
  refine Nat.lt_of_lt_of_le this ?_
  rw[Nat.mul_comm (256^l.length),←Nat.mul_assoc]
  have:=x.toNat_lt
  exact Nat.mul_le_mul_right _ (by omega)
theorem GH {l m:List UInt8} (h:l.foldl (fun n c=>n * 256+c.toNat) 1=m.foldl (fun n c=>n * 256+c.toNat) 1):l=m:=by
 have hl:l.length=m.length:=by
  have a1:=tR l 1
  have a2:=tQ l 1
  have b1:=tR m 1
  have b2:=tQ m 1
  rw[h] at a1 a2
  rw[Nat.one_mul] at a1 b1
  have p1:256^l.length<256^(m.length+1):=by rw[Nat.pow_succ];omega
  have p2:256^m.length<256^(l.length+1):=by rw[Nat.pow_succ];omega
  have q1:=(Nat.pow_lt_pow_iff_right (a:=256) (by omega)).1 p1
  have q2:=(Nat.pow_lt_pow_iff_right (a:=256) (by omega)).1 p2
  omega
 exact(q9 l 1 1 m (by omega) h hl).2
def CK (k:Nat):List (Nat×bu)→Bool
 |[]=>false
 |x::l=>if Nat.beq x.1 k then true else CK k l
theorem pQ (s:bk):∀l:List bu,CK (q8 s) (l.map fun f=>(q8 f.m,f))=true↔dz s∈eZ l
 |[]=>by simp[CK,eZ]
 |f::l=>by
  rw[List.map_cons,CK]
  simp only[eZ,List.map_cons,List.mem_cons]
  have ih:=pQ s l
  by_cases h:Nat.beq (q8 f.m) (q8 s)=true
  ·rw[if_pos h]
   exact⟨fun _=> .inl (GH (Nat.eq_of_beq_eq_true h).symm),fun _=>rfl⟩
  ·rw[if_neg h,ih]
   refine⟨.inr,fun hh=>hh.resolve_left fun e=>h ?_⟩
   have:q8 f.m=q8 s:=by unfold q8;rw[e]
   rw[this];exact Nat.beq_refl _
def GX (o:Obj) (most k:Nat) (m:bk):List (List cV)→List (Nat×bu)→Option (List (Nat×bu))
 |[],l=>some l
 |mv::ms,l=>if CK (q8 (kS o m mv)) l then GX o most k m ms l else if most≤l.length then none else GX o most k m ms (l++[(q8 (kS o m mv),⟨kS o m mv,k,mv⟩)])
def o6 (p:Bool) (o:Obj) (most:Nat):Nat→Nat→List (Nat×bu)→Option (List (Nat×bu))
 |0,_,l=>some l
 |n+1,k,l=>match l[k]? with
  |none=>some l
  |some f=>match GX o most k f.2.m (dU p o f.2.m) l with
   |none=>none
   |some l'=>o6 p o most n (k+1) l'
abbrev gB (l:List bu):List (Nat×bu):=l.map fun f=>(q8 f.m,f)
theorem tf {o:Obj} {most k:Nat} {m:bk}:∀(ms:List (List cV)) (l:List bu),k<l.length→(l.getD k default).m=m→GX o most k m ms (gB l)=(rH o most k ms l).map gB
 |[],l,hk,hm=>rfl
 |mv::ms,l,hk,hm=>by
  rw[GX,rH]
  unfold BY
  rw[hm]
  by_cases h:dz (kS o m mv)∈eZ l
  ·rw[if_pos ((pQ _ l).2 h),if_pos h]
   exact tf ms l hk hm
  ·rw[if_neg (fun e=>h ((pQ _ l).1 e)),if_neg h]
   rw[List.length_map]
   by_cases h2:most≤l.length
   ·rw[if_pos h2,if_pos h2];rfl
   ·rw[if_neg h2,if_neg h2]
    have:=tf (o:=o) (most:=most) (k:=k) (m:=m) ms (l++[⟨kS o m mv,k,mv⟩]) (by rw[List.length_append];omega) (by rw[iE hk];exact hm)
    rw[←this]
    congr 1
    simp[gB]
theorem yP {p:Bool} {o:Obj} {most:Nat}:∀(n k:Nat) (l:List bu),o6 p o most n k (gB l)=(qw p o most n k l).map gB
 |0,k,l=>rfl
 |n+1,k,l=>by
  rw[o6,qw]
  by_cases hk:k<l.length
  ·rw[if_pos hk]
   have e:(gB l)[k]?=some (q8 (l.getD k default).m,l.getD k default):=by
    rw[List.getElem?_map,List.getElem?_eq_getElem hk]
    simp[List.getD,hk]
   rw[e]
   dsimp only
   rw[tf _ l hk rfl]
   cases h:rH o most k (dU p o (l.getD k default).m) l with
   |none=>rfl
   |some l'=>exact yP n (k+1) l'
  ·rw[if_neg hk]
   have e:(gB l)[k]?=none:=by rw[List.getElem?_eq_none];rw[List.length_map];omega
   rw[e];rfl
end Go.Proofs.YtlonbgdonffcbaaGreatDoor
end
section
/- What exploring these objects comes to: the kernel's own answer. -/
namespace Go.Proofs.YtlonbgdonffcbaaGreatDoor
open Go Go.cU Go.Proofs
set_option maxRecDepth 100000
def LM:List Int→List Int→Bool
 |[],[]=>true
 |x::a,y::b=>decide (x=y)&&LM a b
 |_,_=>false
theorem yZ:∀a b:List Int,LM a b=true↔a=b
 |[],[]=>by simp[LM]
 |[],y::b=>by simp[LM]
 |x::a,[]=>by simp[LM]
 |x::a,y::b=>by simp[LM,yZ a b]
def KG:List cF→List cF→Bool
 |[],[]=>true
 |x::a,y::b=>decide (x.cj=y.cj)&&decide (x.word=y.word)&&KG a b
 |_,_=>false
theorem tH:∀a b:List cF,KG a b=true↔a=b
 |[],[]=>by simp[KG]
 |[],y::b=>by simp[KG]
 |x::a,[]=>by simp[KG]
 |x::a,y::b=>by
  have:x=y↔x.cj=y.cj∧x.word=y.word:=by cases x;cases y;simp
  simp[KG,tH a b,this]
def DE (a b:cN):Bool:=KG a.bg b.bg&&LM a.mem b.mem&&(a.ended==b.ended)
theorem mW (a b:cN):DE a b=true↔a=b:=by
 cases a;cases b
 simp[DE,tH,yZ,and_assoc]
def mS (o:Obj) (l:List (Nat×bu)):List cN:=l.filterMap fun f=>if f.2.m.bd.all fT then some (vx o f.2.m) else none
theorem uX (o:Obj) (l:List bu):mS o (gB l)=dI o l l.length:=by
 unfold mS dI
 rw[List.take_length,List.filterMap_map]
 rfl
def O6:cN:=⟨[⟨0,0⟩,⟨1,0⟩],[1,1],true⟩
def O7:cN:=⟨[⟨1,0⟩,⟨0,0⟩],[1,1],true⟩
def LG (o:Obj) (most:Nat) (a b:cN):Bool:=match o6 false o most most 0 (gB (eh o)),o6 true o most most 0 (gB (eh o)) with
 |some l,some q=>(mS o l).all (fun e=>(mS o q).any (DE e)||DE e a||DE e b)&&(mS o l).any (DE a)&&(mS o l).any (DE b)&& !((mS o q).any (DE a))&& !((mS o q).any (DE b))
 |_,_=>false
theorem HY:LG uO 2000 O6 O7=true:=by kernel_rfl
def DA:cN:=⟨[⟨0,0⟩],[7],true⟩
def LD (o:Obj) (most:Nat) (e:cN) (want:List cF):Bool:=match o6 true o most most 0 (gB (eh o)),o6 false o most most 0 (gB (eh o)) with
 |some l,some q=>(match mS o l with|[x]=>DE x e|_=>false)&&q.any fun f=>KG f.2.m.bg want
 |_,_=>false
theorem CX:LD kP 9 DA [⟨0,0⟩]=true:=by kernel_rfl
theorem K9:eU uO=true:=by kernel_rfl
theorem JC:eU kP=true:=by kernel_rfl
end Go.Proofs.YtlonbgdonffcbaaGreatDoor
end
section
/- Ends: in order, each once; how many the laws' first object has that are not plain. -/
namespace Go.Proofs.YtlonbgdonffcbaaGreatDoor
open Go Go.cU Go.Proofs
set_option linter.unusedSimpArgs false
set_option linter.unusedVariables false
theorem wg (l:List cN):∀k,∀e∈kK l k,∃j,j<k∧e=l.getD j default
 |0,e,h=>by simp[kK] at h
 |1,e,h=>by simp only[kK,List.mem_cons,List.not_mem_nil,or_false] at h;exact⟨0,by omega,h⟩
 |k+2,e,h=>by
  rw[kK] at h
  split at h
  ·obtain⟨j,h1,h2⟩:=wg l (k+1) e h
   exact⟨j,by omega,h2⟩
  ·rcases List.mem_append.1 h with h|h
   ·obtain⟨j,h1,h2⟩:=wg l (k+1) e h
    exact⟨j,by omega,h2⟩
   ·simp only[List.mem_cons,List.not_mem_nil,or_false] at h
    exact⟨k+1,by omega,h⟩
theorem oy (l:List cN):∀k j,j<k→l.getD j default∈kK l k
 |0,j,h=>by omega
 |1,j,h=>by
  obtain rfl:j=0:=by omega
  simp[kK]
 |k+2,j,h=>by
  rw[kK]
  split
  ·rename_i e
   by_cases hj:j=k+1
   ·rw[hj,e];exact oy l (k+1) k (by omega)
   ·exact oy l (k+1) j (by omega)
  ·by_cases hj:j=k+1
   ·rw[hj];exact List.mem_append.2 (.inr (by simp))
   ·exact List.mem_append.2 (.inl (oy l (k+1) j (by omega)))
theorem tc {α:Type} {R:α→α→Prop} {l:List α} (h:l.Pairwise R) (d:α) {i j:Nat} (hi:i<j) (hj:j<l.length):R (l.getD i d) (l.getD j d):=by
 have:=List.pairwise_iff_getElem.1 h i j (by omega) hj hi
 simpa[List.getD,hj,show i<l.length by omega] using this
theorem lk {l:List cN} (h:l.Pairwise fun x y=>sR eB x y=true):∀k,k≤l.length→(kK l k).Pairwise fun x y=>eB x y<0
 |0,_=>by simp[kK]
 |1,_=>by simp[kK]
 |k+2,hk=>by
  rw[kK]
  split
  ·exact lk h (k+1) (by omega)
  ·rename_i hne
   refine List.pairwise_append.2 ⟨lk h (k+1) (by omega),by simp,fun a ha b hb=> ?_⟩
   simp only[List.mem_cons,List.not_mem_nil,or_false] at hb
   subst hb
   obtain⟨j,hj,rfl⟩:=wg l _ a ha
   have h1:=tc h default (i:=j) (j:=k+1) (by omega) (by omega)
   have h2:sR eB (l.getD j default) (l.getD k default)=true:=by
    by_cases e:j=k
    ·rw[e];simp[sR,(iw.zero _ _).2 rfl]
    ·exact tc h default (by omega) (by omega)
   have h3:=tc h default (i:=k) (j:=k+1) (by omega) (by omega)
   have h4:eB (l.getD j default) (l.getD (k+1) default)≠0:=fun e=>by
    have e1:=(iw.zero _ _).1 e
    rw[←e1] at h3
    have:=iw.yf h3 h2
    exact hne (by rw[this,←e1])
   simp only[sR,decide_eq_true_eq] at h1
   omega
theorem pw {o:Obj} {l:List bu} {e:cN}:e∈dI o l l.length↔∃i,i<l.length∧(l.getD i default).m.bd.all fT=true∧e=vx o (l.getD i default).m:=by
 unfold dI
 rw[List.take_length,List.mem_filterMap]
 constructor
 ·rintro⟨f,hf,he⟩
  obtain⟨i,hi,rfl⟩:=List.mem_iff_getElem.1 hf
  split at he
  ·rename_i hs
   cases he
   refine⟨i,hi, ?_⟩
   rw[show l.getD i default=l[i] by simp[List.getD,hi]]
   exact⟨hs,rfl⟩
  ·cases he
 ·rintro⟨i,hi,hs,rfl⟩
  refine⟨l.getD i default,fP default hi, ?_⟩
  rw[if_pos hs]
theorem rh {o:Obj} {l:List bu} {e:cN}:e∈gl o l↔e∈dI o l l.length:=by
 refine⟨ri,fun h=> ?_⟩
 have h1:=(kF eB _).mem_iff.2 h
 obtain⟨j,hj,rfl⟩:=List.mem_iff_getElem.1 h1
 have:=oy (fS eB (dI o l l.length)) (dI o l l.length).length j (by rw[je] at hj;exact hj)
 rw[show(fS eB (dI o l l.length)).getD j default=(fS eB (dI o l l.length))[j] by simp[List.getD,hj]] at this
 exact this
theorem tG (o:Obj) (l:List bu):(gl o l).Pairwise fun x y=>eB x y<0:=lk (iw.sorted _) _ (by rw[je];exact Nat.le_refl _)
theorem uY (o:Obj) (l:List bu):(gl o l).Nodup:=(tG o l).imp fun h e=>by
 have:=(iw.zero _ _).2 e
 omega
theorem nZ {p:Bool} {o:Obj} {most:Int} (h0:(cd p o most).1=0) {e:cN}:e∈eE p o most↔e∈dI o (cd p o most).2 (cd p o most).2.length:=by
 unfold eE
 rw[if_pos h0];exact rh
theorem AQ {l q:List cN} {e:cN}:e∈mh l q↔e∈l∧e∉q:=by
 unfold mh
 rw[List.mem_filter]
 simp only[Bool.not_eq_true',List.any_eq_false,decide_eq_true_eq]
 refine and_congr_right fun _=>⟨fun h hq=>h e hq rfl,fun h x hx hxe=>h (hxe▸hx)⟩
theorem MY {l:List cN} (hn:l.Nodup) {a b:cN} (hab:a≠b) (h:∀e,e∈l↔e=a∨e=b):l.length=2:=by
 have hp:l.Perm [a,b]:=(List.perm_ext_iff_of_nodup hn (by simp[hab])).2 fun e=>by rw[h];simp
 exact hp.length_eq
theorem mV {l:List cN} {a:cN}:l.any (DE a)=true↔a∈l:=by
 rw[List.any_eq_true]
 refine⟨fun⟨x,hx,h⟩=>(mW _ _).1 h▸hx,fun h=>⟨a,h,(mW _ _).2 rfl⟩⟩
theorem mU {p:Bool} {o:Obj} {most:Nat} (hok:eU o=true) (hm:1≤(most:Int)∧(most:Int)≤65536) {l:List (Nat×bu)} (h:o6 p o most most 0 (gB (eh o))=some l):(cd p o (most:Int)).1=0∧l=gB (cd p o (most:Int)).2:=by
 rw[yP] at h
 have h2:(kZ p o most).map gB=some l:=h
 cases hT:kZ p o most with
 |none=>rw[hT] at h2;cases h2
 |some q=>
  rw[hT] at h2
  cases h2
  rw[HO (l:=q) hok hm (by rw[Int.toNat_natCast];exact hT)]
  exact⟨rfl,rfl⟩
theorem LA:uO.Wf where
 mem:=fun x hx=>by simp[uO] at hx;subst hx;exact⟨by omega,by omega⟩
 tO:=by decide
 shared:=⟨by decide,by decide⟩
 fX:=⟨by decide,by decide⟩
 buffer:=⟨by decide,by decide⟩
 bd:=fun c hc=>by
  simp only[uO,List.mem_cons,List.not_mem_nil,or_false] at hc
  rcases hc with rfl|rfl
  all_goals
   refine⟨by decide,fun i hi=> ?_,by decide⟩
   simp only[K8,List.mem_cons,List.not_mem_nil,or_false] at hi
   rcases hi with rfl|rfl|rfl|rfl|rfl<;>exact⟨by decide,by decide,⟨by decide,by decide⟩,⟨by decide,by decide⟩,⟨by decide,by decide⟩,⟨by decide,by decide⟩,⟨by decide,by decide⟩,⟨by decide,by decide⟩,⟨by decide,by decide⟩⟩
 jo:=by decide
theorem zC:kP.Wf where
 mem:=fun x hx=>by simp[kP] at hx;subst hx;exact⟨by omega,by omega⟩
 tO:=by decide
 shared:=⟨by decide,by decide⟩
 fX:=⟨by decide,by decide⟩
 buffer:=⟨by decide,by decide⟩
 bd:=fun c hc=>by
  simp only[kP,List.mem_cons,List.not_mem_nil,or_false] at hc
  subst hc
  refine⟨by decide,fun i hi=> ?_,by decide⟩
  simp only[List.mem_cons,List.not_mem_nil,or_false] at hi
  rcases hi with rfl|rfl<;>exact⟨by decide,by decide,⟨by decide,by decide⟩,⟨by decide,by decide⟩,⟨by decide,by decide⟩,⟨by decide,by decide⟩,⟨by decide,by decide⟩,⟨by decide,by decide⟩,⟨by decide,by decide⟩⟩
 jo:=by decide
theorem J5 {o:Obj} {most:Nat} (hok:eU o=true) (hm:1≤(most:Int)∧(most:Int)≤65536) {a b:cN} (hab:a≠b) (h:LG o most a b=true):(cd false o (most:Int)).1=0∧(se o (most:Int)).length=2:=by
 unfold LG at h
 revert h
 cases h1:o6 false o most most 0 (gB (eh o)) with
 |none=>intro h;cases h
 |some l=>
  cases h2:o6 true o most most 0 (gB (eh o)) with
  |none=>intro h;cases h
  |some q=>
   intro h
   obtain⟨e1,rfl⟩:=mU hok hm h1
   obtain⟨e2,rfl⟩:=mU hok hm h2
   refine⟨e1, ?_⟩
   simp only[uX,Bool.and_eq_true,Bool.not_eq_true'] at h
   obtain⟨⟨⟨⟨g1,g2⟩,g3⟩,g4⟩,g5⟩:=h
   have g2:=mV.1 g2
   have g3:=mV.1 g3
   have g4:a∉dI o (cd true o most).2 (cd true o most).2.length:=fun hh=>by rw[mV.2 hh] at g4;cases g4
   have g5:b∉dI o (cd true o most).2 (cd true o most).2.length:=fun hh=>by rw[mV.2 hh] at g5;cases g5
   have hw:se o most=mh (gl o (cd false o most).2) (eE true o most):=by unfold se;rw[if_pos e1]
   refine MY (a:=a) (b:=b) ?_ hab fun e=> ?_
   ·rw[hw];exact(uY _ _).filter _
   ·rw[hw,AQ,rh,nZ e2]
    constructor
    ·rintro⟨m1,m2⟩
     have:=List.all_eq_true.1 g1 e m1
     simp only[Bool.or_eq_true] at this
     rcases this with(h|h)|h
     ·exact absurd (mV.1 h) m2
     ·exact .inl ((mW _ _).1 h)
     ·exact .inr ((mW _ _).1 h)
    ·rintro(rfl|rfl)
     ·exact⟨g2,g4⟩
     ·exact⟨g3,g5⟩
theorem GP {o:Obj} {most:Nat} (hok:eU o=true) (hm:1≤(most:Int)∧(most:Int)≤65536) {e:cN} {want:List cF} (h:LD o most e want=true):(cd true o (most:Int)).1=0∧eE true o (most:Int)=[e]∧(cd false o (most:Int)).1=0∧qg o (most:Int) want=true:=by
 unfold LD at h
 revert h
 cases h1:o6 true o most most 0 (gB (eh o)) with
 |none=>intro h;cases h
 |some l=>
  cases h2:o6 false o most most 0 (gB (eh o)) with
  |none=>intro h;cases h
  |some q=>
   intro h
   obtain⟨e1,rfl⟩:=mU hok hm h1
   obtain⟨e2,rfl⟩:=mU hok hm h2
   simp only[uX,Bool.and_eq_true] at h
   obtain⟨g1,g2⟩:=h
   refine⟨e1, ?_,e2, ?_⟩
   ·have:dI o (cd true o most).2 (cd true o most).2.length=[e]:=by
     revert g1
     cases dI o (cd true o most).2 (cd true o most).2.length with
     |nil=>intro h;cases h
     |cons x t=>
      cases t with
      |nil=>intro h;rw[(mW _ _).1 h]
      |cons y t=>intro h;cases h
    unfold eE
    rw[if_pos e1]
    unfold gl
    rw[this]
    simp[fS,kK]
   ·unfold qg
    rw[List.any_eq_true] at g2 ⊢
    obtain⟨f,hf,hp⟩:=g2
    obtain⟨f',hf',rfl⟩:=List.mem_map.1 hf
    exact⟨f',hf',decide_eq_true ((tH _ _).1 hp)⟩
theorem CU:(cd false uO ((2000:Nat):Int)).1=0∧(se uO ((2000:Nat):Int)).length=2:=J5 K9 (by omega) (by decide) HY
theorem x6:(cd true kP ((9:Nat):Int)).1=0∧eE true kP ((9:Nat):Int)=[DA]∧(cd false kP ((9:Nat):Int)).1=0∧qg kP ((9:Nat):Int) [⟨0,0⟩]=true:=GP JC (by omega) CX
end Go.Proofs.YtlonbgdonffcbaaGreatDoor
end
