import Derived.Test.YtlonbgdonffcbaaGreatDoorM39
import Derived.Test.YtlonbgdonffcbaaGreatDoorM32
section
/- Shows: the walk. -/
namespace Go.Proofs.YtlonbgdonffcbaaGreatDoor
open Go Go.cW Go.Proofs
set_option linter.unusedSimpArgs false
set_option linter.unusedVariables false
set_option maxRecDepth 8000
theorem O6 {p q:cD} (h1:p.ch=q.ch) (h2:p.word=q.word):p=q:=by cases p;cases q;simp_all
theorem rE (a b:List cD) (ha:a.length * 16≤140737488355328) (hb:b.length * 16≤140737488355328):Pure Tryz.prog 33 [dt a,dt b] (fun r=>r=bl (decide (a=b))):=by
 refine aI ET rfl ?_
 have a0:(a.map cD.av).length=a.length:=by simp
 have a1:(b.map cD.av).length=b.length:=by simp
 by_cases hl:a.length=b.length
 ·have r0:decide ((a.map cD.av).length=(b.map cD.av).length)=true:=by simp[hl]
  refine ca ?_
  rw[List.length_map]
  refine aT (fun i:Nat=>[(0,dt a),(1,dt b),(12,i64 a.length),(13,i64 i)]) (fun i H n=>i≤a.length∧∀j,j<i→a.getD j default=b.getD j default) (fun i=>a.length - i) 0 cH ⟨Nat.zero_le _,fun j hj=>by omega⟩ ?_
  rintro i H n ⟨hi,hall⟩
  by_cases hil:i<a.length
  ·have e0:=fun d=>iI (l:=a) hil d
   have e1:=fun d=>iI (l:=b) (i:=i) (by omega) d
   by_cases h1:(a.getD i default).ch=(b.getD i default).ch
   ·have r1:=decide_eq_true h1
    by_cases h2:(a.getD i default).word=(b.getD i default).word
    ·have r2:=decide_eq_true h2
     refine ca ?_
     exact⟨i+1,by omega,cH,by omega,fun j hj=>by
      by_cases e:j=i
      ·rw[e];exact O6 h1 h2
      ·exact hall j (by omega)⟩
    ·have r2:=decide_eq_false h2
     refine ca ?_
     refine kJ (Eq.symm (decide_eq_false ?_))
     rintro rfl
     exact h2 rfl
   ·have r1:=decide_eq_false h1
    refine ca ?_
    refine kJ (Eq.symm (decide_eq_false ?_))
    rintro rfl
    exact h1 rfl
  ·refine ca ?_
   refine kJ (Eq.symm (decide_eq_true ?_))
   apply List.ext_getElem hl
   intro j q1 q2
   have:=hall j (by omega)
   simpa[List.getD,q1,q2] using this
 ·refine ca ?_
  refine kJ (Eq.symm (decide_eq_false ?_))
  rintro rfl
  exact hl rfl
theorem BN {o:Obj} {s:bk} (hlk:eB s) {want:List cD} (hw:want.length * 16≤140737488355328) (fr:Int) {B:AV} (hB:B= .sc (.slice none 0 0)∨∃L,B= .im 2 .any L) {wb:Nat} {H:Hp} {nx:Nat} (hb:∃d,bd H wb=some (.row 45 1 d [dt want])) (hlt:wb<nx):ij Tryz.prog 32 [.agg [s.frozen o,i64 fr,B], .pt wb 1 0 0] H nx (bl (decide (s.bg=want))):=by
 obtain⟨d,hb⟩:=hb
 have c0:=je o s hlk.bg
 have c1:=rE s.bg want hlk.bg hw
 simp only[bk.frozen] at c0 ⊢
 rcases hB with rfl|⟨L,rfl⟩
 all_goals
  refine aS ES rfl ?_
  refine ca ?_
  exact⟨⟨rfl,fun y hy=>cE⟩⟩
def qM {α:Type} (f:α→Bool):List α→Nat→Int
 |[],_=>-1
 |e::l,k=>if f e=true then k else qM f l (k+1)
theorem uz {α:Type} (f:α→Bool):∀(l:List α) (k:Nat),decide (0≤qM f l k)=l.any f
 |[],k=>by simp[qM]
 |e::l,k=>by
  rw[qM,List.any_cons]
  split
  ·rename_i h;rw[h];simp
  ·rename_i h
   rw[uz f l (k+1)]
   simp only[Bool.not_eq_true] at h
   rw[h];rfl
theorem AL {α:Type} [Inhabited α] (f:α→Bool) {l:List α} {i:Nat} (h:i<l.length) (k:Nat):qM f (l.drop i) k=if f (l.getD i default)=true then(k:Int) else qM f (l.drop (i+1)) (k+1):=by
 rw[List.drop_eq_getElem_cons h,qM,show l.getD i default=l[i] by simp[List.getD,h]]
theorem AM {o:Obj} {l:List bu} (hl:l.length≤65536) (hlk:∀i,i<l.length→eB (l.getD i default).m) {want:List cD} (hw:want.length * 16≤140737488355328) {wb:Nat} {H:Hp} {nx:Nat} (hb:∃d,bd H wb=some (.row 45 1 d [dt want])) (hlt:wb<nx):
 ij Tryz.prog 64 [gk o l, .fn (.func 32) [] [.pt wb 1 0 0]] H nx (i64 (qM (fun f:bu=>decide (f.m.bg=want)) l 0)):=by
 obtain⟨d0,hb⟩:=hb
 refine aS FG rfl ?_
 refine ca ?_
 rw[List.length_map]
 refine aR (fun i:Nat=>[(0,gk o l),(1, .fn (.func 32) [] [.pt wb 1 0 0]),(7,i64 l.length),(8,i64 i)])
  (fun i H2 n=>i≤l.length∧nx≤n∧qM (fun f:bu=>decide (f.m.bg=want)) (l.drop i) i=qM (fun f:bu=>decide (f.m.bg=want)) l 0∧∀y,y<nx→bd H2 y=bd H y) (fun i=>l.length - i) 0
  ⟨_,_,_,Rt.refl _ _ _,cH,Nat.zero_le _,cO,rfl,fun y hy=>cE⟩ ?_
 rintro i H2 n ⟨hi,hn,hix,hk⟩
 have a0:(l.map (bu.av o)).length=l.length:=List.length_map _
 by_cases hil:i<l.length
 ·have e0:∀d,(l.map (bu.av o)).getD ((i:Int)).toNat d= .agg [(l.getD i default).m.frozen o,i64 (l.getD i default).from_,mP (l.getD i default).CW]:=fun d=>by rw[Int.toNat_natCast,dY (bu.av o) l i d hil];rfl
  rw[AL _ hil] at hix
  have hlk:=hlk i hil
  have hby:=pZ (l.getD i default).CW
  generalize mP (l.getD i default).CW=B at e0 hby
  generalize (l.getD i default).from_=fr at e0
  generalize (l.getD i default).m=s at *
  have hsl:=fun(H3:Hp) (n3:Nat) (h1:bd H3 wb=some (.row 45 1 d0 [dt want])) (h2:wb<n3)=>BN (o:=o) hlk hw fr hby (H:=H3) (nx:=n3) ⟨d0,h1⟩ h2
  rcases hby with rfl|⟨L,rfl⟩
  all_goals
   refine ca ?_
   refine aQ (hsl _ _ ?_ cO) trivial ?_
   ·exact Eq.trans cE ((hk wb hlt).trans hb)
   by_cases hx:s.bg=want
   ·rw[if_pos (decide_eq_true hx)] at hix
    have r0:=decide_eq_true hx
    refine ca ?_
    exact⟨⟨by rw[←hix],fun y hy=>Eq.trans cE (hk y hy)⟩⟩
   ·rw[if_neg (by simpa using hx)] at hix
    have r0:=decide_eq_false hx
    refine ca ?_
    exact⟨i+1,by omega,_,_,_,Rt.refl _ _ _,cH,by omega,cO,hix,fun y hy=>Eq.trans cE (hk y hy)⟩
 ·obtain rfl:i=l.length:=by omega
  rw[List.drop_length] at hix
  refine ca ?_
  exact⟨⟨by rw[←hix];rfl,fun y hy=>Eq.trans cE (hk y hy)⟩⟩
theorem z7 {o:Obj} {l:List bu} (hl:l.length≤65536) (hlk:∀i,i<l.length→eB (l.getD i default).m) {want:List cD} (hw:want.length * 16≤140737488355328) {wb:Nat} {H:Hp} {nx:Nat} (hb:∃d,bd H wb=some (.row 45 1 d [dt want])) (hlt:wb<nx):
 ij Tryz.prog 31 [gk o l, .fn (.func 32) [] [.pt wb 1 0 0]] H nx (bl (l.any fun f:bu=>decide (f.m.bg=want))):=by
 obtain⟨d0,hb⟩:=hb
 refine aS ER rfl ?_
 refine ca ?_
 refine aQ (AM hl hlk hw ⟨d0, ?_⟩ cO) trivial ?_
 ·exact Eq.trans cE hb
 have h1:=uz (fun f:bu=>decide (f.m.bg=want)) l 0
 generalize qM (fun f:bu=>decide (f.m.bg=want)) l 0=i at *
 rw[←h1]
 refine ca ?_
 exact⟨⟨rfl,fun y hy=>cE⟩⟩
theorem ua (o:Obj) (l:List bu) (e:Int):cC 0 (.dD [gk o l,i64 e]):=by
 have:=iO o l
 simp only[cC,cG]
 exact⟨this,trivial,trivial⟩
theorem uG {p:Bool} {o:Obj} {most:Int} (h:¬(ck p o most).1=0):(ck p o most).2=[]:=by
 unfold ck at *
 by_cases h1:eU o=false
 ·rw[if_pos h1]
 ·rw[if_neg h1] at h ⊢
  by_cases h2:1≤most∧most≤65536
  ·rw[if_neg (fun e=>e h2)] at h ⊢
   revert h
   cases lX p o most.toNat with
   |none=>intro _;rfl
   |some l=>intro h;exact absurd rfl h
  ·rw[if_pos h2]
theorem CI {p:Bool} {o:Obj} (ho:o.Wf) {g:Nat} (hg:cw o→lG p o g) (most:Int):Pure Tryz.prog 30 [o.av,i64 most, .fn (.func g) [] []] (fun r=>r= .dD [gk o (ck p o most).2,i64 (ck p o most).1]):=by
 refine lW (yS ho hg most) (ua _ _ _) fun c=> ?_
 unfold yT
 by_cases h0:(ck p o most).1=0
 ·rw[if_pos h0,h0];exact fun _ h=>h
 ·rw[if_neg h0,uG h0]
  exact c8.dD (.cons (c8.vv _ _ _ _) (.cons (fun _ h=>h) .nil))
theorem zZ {p:Bool} {o:Obj} (ho:o.Wf) (most:Int):(ck p o most).2.length≤65536∧∀i,i<(ck p o most).2.length→eB ((ck p o most).2.getD i default).m:=by
 by_cases h0:(ck p o most).1=0
 ·obtain⟨ok,hf,hl⟩:=oy ho h0
  refine⟨hl,fun i hi=> ?_⟩
  obtain⟨h1,h2⟩:=hf.ok i hi
  exact h1.look ok (by omega)
 ·rw[uG h0]
  exact⟨by simp,fun i hi=>by simp at hi⟩
def mB (o:Obj) (most:Int) (want:List cD):Bool:=(ck false o most).2.any fun f=>decide (f.m.bg=want)
theorem G3 {o:Obj} (ho:o.Wf) (most:Int) (want:List cD) (hw:want.length * 16≤140737488355328):Pure Tryz.prog 11 [o.av,i64 most,dt want] (fun r=>r= .dD [bl (mB o most want),i64 (ck false o most).1]):=by
 refine cr ?_ (by simp[cC,cG])
 have c0:=CI (p:=false) ho (fun ok=>sK ok) most
 obtain⟨hl,hlk⟩:=zZ (p:=false) ho most
 have hff:=iO o (ck false o most).2
 unfold mB
 generalize (ck false o most).1=e at *
 generalize (ck false o most).2=l at *
 refine aO ED rfl ?_
 refine ca ?_
 refine aQ (z7 hl hlk hw (wb:=1) ⟨.any, ?_⟩ cO) trivial ?_
 ·exact bo
 refine ca ?_
 exact⟨rfl⟩
end Go.Proofs.YtlonbgdonffcbaaGreatDoor
end
section
/- Whatever is played, a situation that was found stands as the machine does, but for what has halted or is about to. -/
namespace Go.Proofs.YtlonbgdonffcbaaGreatDoor
open Go Go.cW Go.Proofs
set_option linter.unusedSimpArgs false
set_option linter.unusedVariables false
structure tx (o:Obj) (q:Nat) (c d:bx):Prop where
 pc:c.pc=d.pc
 buf:c.buf=d.buf
 rest:(c.halted=d.halted∧∀j,j<16→c.dg j=d.dg j)∨9<(iR o q c).kind
structure Alike (o:Obj) (s d:bk):Prop where
 n:s.bf.length=d.bf.length
 core:∀q,q<s.bf.length→tx o q (s.core q) (d.core q)
 mem:s.mem=d.mem
 bg:s.bg=d.bg
theorem jC (o:Obj) (q:Nat) {c d:bx} (h:c.pc=d.pc):iR o q c=iR o q d:=by unfold iR;rw[h]
theorem Alike.refl (o:Obj) (s:bk):Alike o s s:=⟨rfl,fun _ _=>⟨rfl,rfl, .inl ⟨rfl,fun _ _=>rfl⟩⟩,rfl,rfl⟩
theorem tx.trans {o:Obj} {q:Nat} {a b c:bx} (h:tx o q a b) (h':tx o q b c):tx o q a c:=by
 refine⟨h.pc.trans h'.pc,h.buf.trans h'.buf, ?_⟩
 rcases h.rest with⟨h1,h2⟩|h1
 ·rcases h'.rest with⟨h3,h4⟩|h3
  ·exact .inl ⟨h1.trans h3,fun j hj=>(h2 j hj).trans (h4 j hj)⟩
  ·rw[←jC o q h.pc] at h3;exact .inr h3
 ·exact .inr h1
theorem Alike.trans {o:Obj} {a b c:bk} (h:Alike o a b) (h':Alike o b c):Alike o a c:=
 ⟨h.n.trans h'.n,fun q hq=>(h.core q hq).trans (h'.core q (by rw[←h.n];exact hq)),h.mem.trans h'.mem,h.bg.trans h'.bg⟩
theorem rR.alike {o:Obj} {s d:bk} (hs:ot o s) (hd:ot o d) (h:rR s d):Alike o s d where
 n:=h.n
 mem:=h.mem
 bg:=h.bg
 core:=fun q hq=>by
  have hk:=h.core q hq
  refine⟨hk.pc,hk.buf, ?_⟩
  by_cases e:(s.core q).halted=(d.core q).halted
  ·exact .inl ⟨e,hk.dg e⟩
  ·right
   by_cases e1:(s.core q).halted=true
   ·exact hs.hz q hq e1
   ·have e2:(d.core q).halted=true:=by
     revert e e1;cases(s.core q).halted<;>cases(d.core q).halted<;>simp
    rw[jC o q hk.pc]
    exact hd.hz q (by rw[←h.n];exact hq) e2
theorem ny {b:Int} {c d:bx} (h:c.buf=d.buf) (i:Instr):ez b c i=ez b d i:=by unfold ez;rw[h]
theorem uE {q:Nat} {c d:bx} {i:Instr} {code m:Int} (iok:oF i code m) (hp:c.pc=d.pc) (hb:c.buf=d.buf) (hh:c.halted=d.halted) (hr:∀j,j<16→c.dg j=d.dg j) (mem:List Int) (pr:List cD):
 (fG q c i mem pr).1.2=(fG q d i mem pr).1.2∧(fG q c i mem pr).2=(fG q d i mem pr).2∧(fG q c i mem pr).1.1.pc=(fG q d i mem pr).1.1.pc∧(fG q c i mem pr).1.1.buf=(fG q d i mem pr).1.1.buf∧(fG q c i mem pr).1.1.halted=(fG q d i mem pr).1.1.halted∧∀j,j<16→(fG q c i mem pr).1.1.dg j=(fG q d i mem pr).1.1.dg j:=by
 have ha:=hr i.a.toNat (by have:=iok.a;omega)
 have hbb:=hr i.b.toNat (by have:=iok.b;omega)
 have hd:=hr i.d.toNat (by have:=iok.d;omega)
 have hset:∀(k w:Int) j,j<16→mA c.dg k w j=mA d.dg k w j:=fun k w j hj=>by
  unfold mA
  split
  ·rfl
  ·exact hr j hj
 unfold fG
 rw[ha,hbb,hd,hp,hb]
 by_cases k1:i.kind=1
 ·simp only[if_pos k1];refine⟨?_, ?_, ?_, ?_, ?_, ?_⟩<;>first|exact rfl|trivial|exact congrArg (·+1) hp|exact hp|exact hb|exact hh|exact hset _ _|exact hr
 by_cases k2:i.kind=2
 ·simp only[if_neg k1,if_pos k2];refine⟨?_, ?_, ?_, ?_, ?_, ?_⟩<;>first|exact rfl|trivial|exact congrArg (·+1) hp|exact hp|exact hb|exact hh|exact hset _ _|exact hr
 by_cases k3:i.kind=3
 ·simp only[if_neg k1,if_neg k2,if_pos k3];refine⟨?_, ?_, ?_, ?_, ?_, ?_⟩<;>first|exact rfl|trivial|exact congrArg (·+1) hp|exact hp|exact hb|exact hh|exact hset _ _|exact hr
 by_cases k4:i.kind=4
 ·simp only[if_neg k1,if_neg k2,if_neg k3,if_pos k4];refine⟨?_, ?_, ?_, ?_, ?_, ?_⟩<;>first|exact rfl|trivial|exact congrArg (·+1) hp|exact hp|exact hb|exact hh|exact hset _ _|exact hr
 by_cases k5:i.kind=5
 ·simp only[if_neg k1,if_neg k2,if_neg k3,if_neg k4,if_pos k5];refine⟨?_, ?_, ?_, ?_, ?_, ?_⟩<;>first|exact rfl|trivial|exact congrArg (·+1) hp|exact hp|exact hb|exact hh|exact hset _ _|exact hr
 by_cases k6:i.kind=6
 ·simp only[if_neg k1,if_neg k2,if_neg k3,if_neg k4,if_neg k5,if_pos k6];refine⟨?_, ?_, ?_, ?_, ?_, ?_⟩<;>first|exact rfl|trivial|exact congrArg (·+1) hp|exact hp|exact hb|exact hh|exact hset _ _|exact hr
 by_cases k7:i.kind=7
 ·simp only[if_neg k1,if_neg k2,if_neg k3,if_neg k4,if_neg k5,if_neg k6,if_pos k7];refine⟨?_, ?_, ?_, ?_, ?_, ?_⟩<;>first|exact rfl|trivial|exact congrArg (·+1) hp|exact hp|exact hb|exact hh|exact hset _ _|exact hr
 by_cases k8:i.kind=8
 ·simp only[if_neg k1,if_neg k2,if_neg k3,if_neg k4,if_neg k5,if_neg k6,if_neg k7,if_pos k8];refine⟨?_, ?_, ?_, ?_, ?_, ?_⟩<;>first|exact rfl|trivial|exact congrArg (·+1) hp|exact hp|exact hb|exact hh|exact hset _ _|exact hr
 by_cases k9:i.kind=9
 ·simp only[if_neg k1,if_neg k2,if_neg k3,if_neg k4,if_neg k5,if_neg k6,if_neg k7,if_neg k8,if_pos k9]
  refine⟨?_, ?_, ?_⟩
  ·first|exact rfl|trivial
  ·first|exact rfl|trivial
  ·split<;>refine⟨?_, ?_, ?_, ?_⟩<;>first|exact rfl|exact congrArg (·+1) hp|exact hb|exact hh|exact hr
 simp only[if_neg k1,if_neg k2,if_neg k3,if_neg k4,if_neg k5,if_neg k6,if_neg k7,if_neg k8,if_neg k9];refine⟨?_, ?_, ?_, ?_, ?_, ?_⟩<;>first|exact rfl|trivial|exact congrArg (·+1) hp|exact hp|exact hb|exact hh|exact hset _ _|exact hr
def KR (o:Obj) (s:bk) (x:cM):Prop:=x∈dV o s s.bf.length
theorem Alike.step {o:Obj} {s d:bk} (ok:cw o) (hs:ot o s) (hd:ot o d) (h:Alike o s d) (kind k:Int):Alike o (cn o s kind k).1 d∨∃x,KR o d x∧Alike o (cn o s kind k).1 (cn o d x.kind x.core).1:=by
 rcases ic o s kind k with⟨q,rfl,hk⟩|h1
 ·rcases hk with rfl|rfl
  ·show Alike o (fV o s q).1 d∨∃x,KR o d x∧Alike o (fV o s q).1 (cn o d x.kind x.core).1
   by_cases hc:¬q<s.bf.length∨(s.core q).halted=true∨ez o.buffer (s.core q) (iR o q (s.core q))=true
   ·rw[(iZ hc).1];exact .inl h
   ·simp only[not_or,Decidable.not_not,Bool.not_eq_true] at hc
    obtain⟨hq,h1,h2⟩:=hc
    rw[(iY hq h1 h2).1]
    have ha:=h.core q hq
    have hqd:q<d.bf.length:=by rw[←h.n];exact hq
    obtain⟨iok,hpc⟩:=qP hs.jQ ok hq
    have hin:=jC o q ha.pc
    by_cases h9:9<(iR o q (s.core q)).kind
    ·left
     rw[tL h9]
     refine⟨(dj _ _ _).trans h.n,fun j hj=> ?_,h.mem,h.bg⟩
     rw[dj] at hj
     rw[eJ hq]
     by_cases e:j=q
     ·subst e
      rw[if_pos rfl]
      exact⟨ha.pc,ha.buf, .inr h9⟩
     ·rw[if_neg e];exact h.core j hj
    ·right
     rcases ha.rest with⟨h3,h4⟩|h3
     ·have hdh:(d.core q).halted=false:=by rw[←h3];exact h1
      have hds:ez o.buffer (d.core q) (iR o q (d.core q))=false:=by rw[←hin,←ny ha.buf];exact h2
      refine⟨⟨1,q⟩,q9 hqd hdh hds, ?_⟩
      show Alike o _ (fV o d q).1
      rw[(iY hqd hdh hds).1,←hin,←h.mem,←h.bg]
      obtain⟨e1,e2,e3,e4,e5,e6⟩:=uE (q:=q) iok ha.pc ha.buf h3 h4 s.mem s.bg
      refine⟨(dj _ _ _).trans (h.n.trans (dj _ _ _).symm),fun j hj=> ?_,congrArg Prod.fst e1,congrArg Prod.snd e1⟩
      rw[dj] at hj
      rw[eJ hq,eJ hqd]
      by_cases e:j=q
      ·subst e
       rw[if_pos rfl,if_pos rfl]
       exact⟨e3,e4, .inl ⟨e5,e6⟩⟩
      ·rw[if_neg e,if_neg e];exact h.core j hj
     ·exact absurd h3 h9
  ·show Alike o (dO o s q).1 d∨∃x,KR o d x∧Alike o (dO o s q).1 (cn o d x.kind x.core).1
   by_cases hq:q<s.bf.length
   ·cases hb:(s.core q).buf with
    |nil=>rw[(eO (.inr hb)).1];exact .inl h
    |cons x t=>
     have ha:=h.core q hq
     have hqd:q<d.bf.length:=by rw[←h.n];exact hq
     have hbd:(d.core q).buf=x::t:=by rw[←ha.buf];exact hb
     right
     refine⟨⟨2,q⟩,xX hqd (by rw[hbd];simp), ?_⟩
     show Alike o _ (dO o d q).1
     rw[(gQ hq hb).1,(gQ hqd hbd).1]
     refine⟨(dj _ _ _).trans (h.n.trans (dj _ _ _).symm),fun j hj=> ?_,congrArg (fun l=>List.set l x.addr.toNat x.word) h.mem,h.bg⟩
     rw[dj] at hj
     rw[eJ hq,eJ hqd]
     by_cases e:j=q
     ·subst e
      rw[if_pos rfl,if_pos rfl]
      exact⟨ha.pc,rfl,ha.rest⟩
     ·rw[if_neg e,if_neg e];exact h.core j hj
   ·rw[(eO (.inl hq)).1];exact .inl h
 ·rw[h1];exact .inl h
structure jk (o:Obj) (l:List bu):Prop where
 ok:∀i,i<l.length→ot o (l.getD i default).m
 init:∃i,i<l.length∧(l.getD i default).m=da o
 leads:∀i,i<l.length→∀x,KR o (l.getD i default).m x→dx (cn o (l.getD i default).m x.kind x.core).1∈eZ l
theorem uH {o:Obj} {most:Nat} {l:List bu} (ok:cw o) (hw:kY o) (hm:1≤most) (h:lX false o most=some l):jk o l:=by
 obtain⟨h1,h2,h3,h4⟩:=yR ok hw hm h
 refine⟨fun i hi=>(h1.ok i hi).1,⟨0,h1.pos,by rw[h1.first]⟩,fun i hi x hx=> ?_⟩
 refine h4 i hi [x] ?_
 unfold dU
 rw[if_neg (by simp)]
 exact List.mem_map.2 ⟨x,hx,rfl⟩
theorem jk.key {o:Obj} {l:List bu} (hc:jk o l) {m:bk} (hm:ot o m) (h:dx m∈eZ l):∃i,i<l.length∧rR m (l.getD i default).m:=by
 obtain⟨f,hf,he⟩:=List.mem_map.1 h
 obtain⟨i,hi,rfl⟩:=List.mem_iff_getElem.1 hf
 have e:l[i]=l.getD i default:=by simp[List.getD,hi]
 rw[e] at he
 have h2:=hc.ok i hi
 exact⟨i,hi,key_inj hm.w h2.w (hm.jQ.n.trans h2.jQ.n.symm) he.symm⟩
theorem jk.next {o:Obj} {l:List bu} (ok:cw o) (hw:kY o) (hc:jk o l) {s:bk} (hs:ot o s) {i:Nat} (hi:i<l.length) (h:Alike o s (l.getD i default).m) (kind k:Int):∃j,j<l.length∧Alike o (cn o s kind k).1 (l.getD j default).m:=by
 have hd:=hc.ok i hi
 rcases h.step ok hs hd kind k with h1|⟨x,hx,h1⟩
 ·exact⟨i,hi,h1⟩
 ·have h2:=hd.step ok hw x.kind x.core
  obtain⟨j,hj,h3⟩:=hc.key h2 (hc.leads i hi x hx)
  exact⟨j,hj,h1.trans (h3.alike h2 (hc.ok j hj))⟩
inductive Reach (o:Obj):bk→Prop where
 |init:Reach o (da o)
 |step {s:bk} (h:Reach o s) (kind k:Int):Reach o (cn o s kind k).1
theorem Reach.ok {o:Obj} (ok:cw o) (hw:kY o) {s:bk} (h:Reach o s):ot o s:=by
 induction h with
 |init=>exact ot.init ok hw
 |step _ kind k ih=>exact ih.step ok hw kind k
theorem Reach.found {o:Obj} {l:List bu} (ok:cw o) (hw:kY o) (hc:jk o l) {s:bk} (h:Reach o s):∃j,j<l.length∧Alike o s (l.getD j default).m:=by
 induction h with
 |init=>
  obtain⟨i,hi,e⟩:=hc.init
  exact⟨i,hi,by rw[e];exact Alike.refl _ _⟩
 |step h kind k ih=>
  obtain⟨i,hi,h1⟩:=ih
  exact hc.next ok hw (h.ok ok hw) hi h1 kind k
def nO (s:bk):Prop:=∀q,q<s.bf.length→(s.core q).halted=true∧(s.core q).buf=[]
def bk.tl (s:bk):Nat:=(s.bf.map bx.tl).sum
theorem G9:∀(l:List bx),(l.map bx.tl).sum≤l.length * 16
 |[]=>Nat.le_refl _
 |c::l=>by
  have:=G9 l
  have:=OG c
  simp only[List.map_cons,List.sum_cons,List.length_cons]
  omega
theorem zM:∀(l:List bx) (q:Nat) (c:bx),q<l.length→((l.set q c).map bx.tl).sum+(l.getD q default).tl=(l.map bx.tl).sum+c.tl
 |[],_,_,h=>by simp at h
 |a::l,0,c,h=>by simp only[List.set_cons_zero,List.map_cons,List.sum_cons,List.getD_cons_zero];omega
 |a::l,q+1,c,h=>by
  have:=zM l q c (by simpa using h)
  simp only[List.set_cons_succ,List.map_cons,List.sum_cons,List.getD_cons_succ]
  omega
theorem JC {s:bk} {q:Nat} (hq:q<s.bf.length) (r:bx×List Int×List cD):(s.td q r).tl+(s.core q).tl=s.tl+r.1.tl:=zM s.bf q r.1 hq
theorem IN {c:bx} (h:c.halted=false):({ c with halted:=true }:bx).tl=c.tl+1:=by
 unfold bx.tl eY
 rw[h]
 simp;omega
theorem rR.tl {s d:bk} (h:rR s d):s.tl=d.tl:=by
 unfold bk.tl
 congr 1
 apply List.ext_getElem
 ·simp[h.n]
 ·intro i h1 h2
  have hi:i<s.bf.length:=by simpa using h1
  have hid:i<d.bf.length:=by simpa using h2
  have:=(h.core i hi).tl
  simpa[bk.core,List.getD,hi,hid] using this
theorem jk.ended {o:Obj} {l:List bu} (ok:cw o) (hw:kY o) (hc:jk o l) {s:bk} (hs:ot o s) (he:nO s):∀(n:Nat) {i:Nat},i<l.length→Alike o s (l.getD i default).m→16 * 8≤(l.getD i default).m.tl+n→∃j,j<l.length∧Alike o s (l.getD j default).m∧nO (l.getD j default).m:=by
 intro n
 induction n using Nat.strongRecOn with
 |_ n ih=>
  intro i hi h hn
  have hd:=hc.ok i hi
  generalize hm:(l.getD i default).m=d at *
  by_cases hall:∀q,q<d.bf.length→(d.core q).halted=true
  ·refine⟨i,hi,hm▸h,fun q hq=> ?_⟩
   rw[hm] at hq ⊢
   refine⟨hall q hq, ?_⟩
   rw[←(h.core q (by rw[h.n];exact hq)).buf]
   exact(he q (by rw[h.n];exact hq)).2
  ·simp only[Classical.not_forall] at hall
   obtain⟨q,hq,hnh⟩:=hall
   have hqs:q<s.bf.length:=by rw[h.n];exact hq
   have ha:=h.core q hqs
   obtain⟨e1,e2⟩:=he q hqs
   have h9:=hs.hz q hqs e1
   rw[jC o q ha.pc] at h9
   have hnb:(d.core q).buf=[]:=by rw[←ha.buf];exact e2
   have hst:ez o.buffer (d.core q) (iR o q (d.core q))=false:=by
    unfold ez
    rw[if_neg (by have:=(qP hd.jQ ok hq).1.kind;omega)]
    split
    ·rw[hnb];simp
    ·rfl
   have hnh:(d.core q).halted=false:=by simpa using hnh
   have hrd:KR o (l.getD i default).m ⟨1,q⟩:=by rw[hm];exact q9 hq hnh hst
   have hl:=hc.leads i hi _ hrd
   rw[hm] at hl
   have e3:=(iY hq hnh hst).1
   rw[tL h9] at e3
   change (cn o d 1 q).1=_ at e3
   have hd2:=hd.step ok hw 1 q
   obtain⟨j,hj,hk⟩:=hc.key hd2 hl
   have htl:(cn o d 1 q).1.tl=d.tl+1:=by
    rw[e3]
    have h1:=JC hq ({ d.core q with halted:=true },d.mem,d.bg)
    have h2:=IN hnh
    dsimp only at h1 ⊢
    omega
   have hal:Alike o s (cn o d 1 q).1:=by
    rw[e3]
    refine⟨h.n.trans (dj _ _ _).symm,fun p hp=> ?_,h.mem,h.bg⟩
    rw[eJ hq]
    by_cases e:p=q
    ·subst e
     rw[if_pos rfl]
     exact⟨ha.pc,ha.buf, .inr (by rw[jC o p ha.pc];exact h9)⟩
    ·rw[if_neg e];exact h.core p hp
   have hle:(l.getD j default).m.tl≤16 * 8:=by
    have:=G9 (l.getD j default).m.bf
    have hn2:=(hc.ok j hj).jQ.n
    have:=ok.bf
    unfold bk.tl
    omega
   have hk2:=hk.tl
   rw[htl] at hk2
   exact ih (n - 1) (by omega) hj (hal.trans (hk.alike hd2 (hc.ok j hj))) (by omega)
theorem Reach.zn {o:Obj} {l:List bu} (ok:cw o) (hw:kY o) (hc:jk o l) {s:bk} (h:Reach o s) (he:nO s):∃j,j<l.length∧s.bg=(l.getD j default).m.bg∧s.mem=(l.getD j default).m.mem∧nO (l.getD j default).m:=by
 obtain⟨i,hi,h1⟩:=h.found ok hw hc
 obtain⟨j,hj,h2,h3⟩:=hc.ended ok hw (h.ok ok hw) he 128 hi h1 (by omega)
 exact⟨j,hj,h2.bg,h2.mem,h3⟩
end Go.Proofs.YtlonbgdonffcbaaGreatDoor
end
section
/- A greater buffer; one core alone. -/
namespace Go.Proofs.YtlonbgdonffcbaaGreatDoor
open Go Go.cW Go.Proofs
set_option linter.unusedSimpArgs false
set_option linter.unusedVariables false
structure ep (s d:bk):Prop where
 n:s.bf.length=d.bf.length
 core:∀q,q<s.bf.length→(s.core q).pc=(d.core q).pc∧(s.core q).buf=(d.core q).buf∧(s.core q).halted=(d.core q).halted∧∀j,j<16→(s.core q).dg j=(d.core q).dg j
 mem:s.mem=d.mem
 bg:s.bg=d.bg
theorem xo {c d:bx} (h:∀j,j<16→c.dg j=d.dg j):de c=de d:=by
 unfold de
 have:∀l:List Nat,(∀j∈l,j<16)→(l.flatMap fun j=>ct (c.dg j))=l.flatMap fun j=>ct (d.dg j):=by
  intro l
  induction l with
  |nil=>intro _;rfl
  |cons j l ih=>intro hl;rw[List.flatMap_cons,List.flatMap_cons,h j (hl j (by simp)),ih fun i hi=>hl i (by simp[hi])]
 exact this _ fun j hj=>List.mem_range.1 hj
theorem ep.key {s d:bk} (h:ep s d):dx s=dx d:=by
 unfold dx
 rw[h.mem,h.bg]
 congr 1
 have:s.bf.map dS=d.bf.map dS:=by
  apply List.ext_getElem
  ·simp[h.n]
  ·intro i h1 h2
   have hi:i<s.bf.length:=by simpa using h1
   have hid:i<d.bf.length:=by simpa using h2
   obtain⟨e1,e2,e3,e4⟩:=h.core i hi
   simp only[bk.core,List.getD,List.getElem?_eq_getElem hi,List.getElem?_eq_getElem hid,Option.getD_some] at e1 e2 e3 e4
   rw[List.getElem_map,List.getElem_map]
   unfold dS eY
   rw[e1,e2,e3,xo e4]
 rw[List.flatMap_def,List.flatMap_def,this]
theorem ep.symm {s d:bk} (h:ep s d):ep d s:=⟨h.n.symm,fun q hq=>by obtain⟨e1,e2,e3,e4⟩:=h.core q (by rw[h.n];exact hq);exact⟨e1.symm,e2.symm,e3.symm,fun j hj=>(e4 j hj).symm⟩,h.mem.symm,h.bg.symm⟩
theorem ep.trans {a b c:bk} (h:ep a b) (h':ep b c):ep a c:=⟨h.n.trans h'.n,fun q hq=>by
 obtain⟨e1,e2,e3,e4⟩:=h.core q hq
 obtain⟨f1,f2,f3,f4⟩:=h'.core q (by rw[←h.n];exact hq)
 exact⟨e1.trans f1,e2.trans f2,e3.trans f3,fun j hj=>(e4 j hj).trans (f4 j hj)⟩,h.mem.trans h'.mem,h.bg.trans h'.bg⟩
theorem ep.refl (s:bk):ep s s:=⟨rfl,fun _ _=>⟨rfl,rfl,rfl,fun _ _=>rfl⟩,rfl,rfl⟩
theorem ep.run {o:Obj} {s d:bk} (ok:cw o) (g:Good o s) (h:ep s d) (q:Nat):ep (fV o s q).1 (fV o d q).1∧(fV o s q).2.1.kind=(fV o d q).2.1.kind:=by
 by_cases hc:¬q<s.bf.length∨(s.core q).halted=true∨ez o.buffer (s.core q) (iR o q (s.core q))=true
 ·have hd:¬q<d.bf.length∨(d.core q).halted=true∨ez o.buffer (d.core q) (iR o q (d.core q))=true:=by
   by_cases hq:q<s.bf.length
   ·obtain⟨e1,e2,e3,e4⟩:=h.core q hq
    right
    rw[←e3,←jC o q e1,←ny e2]
    exact hc.resolve_left fun h=>h hq
   ·left;rw[←h.n];exact hq
  rw[(iZ hc).1,(iZ hd).1,(iZ hc).2,(iZ hd).2]
  exact⟨h,rfl⟩
 ·simp only[not_or,Decidable.not_not,Bool.not_eq_true] at hc
  obtain⟨hq,h1,h2⟩:=hc
  obtain⟨e1,e2,e3,e4⟩:=h.core q hq
  have hqd:q<d.bf.length:=by rw[←h.n];exact hq
  have h1d:(d.core q).halted=false:=by rw[←e3];exact h1
  have h2d:ez o.buffer (d.core q) (iR o q (d.core q))=false:=by rw[←jC o q e1,←ny e2];exact h2
  obtain⟨a1,a2,_⟩:=iY hq h1 h2
  obtain⟨b1,b2,_⟩:=iY hqd h1d h2d
  rw[a1,a2,b1,b2,←jC o q e1,←h.mem,←h.bg]
  obtain⟨f1,f2,f3,f4,f5,f6⟩:=uE (q:=q) (qP g ok hq).1 e1 e2 e3 e4 s.mem s.bg
  refine⟨⟨(dj _ _ _).trans (h.n.trans (dj _ _ _).symm),fun j hj=> ?_,congrArg Prod.fst f1,congrArg Prod.snd f1⟩,f2⟩
  rw[dj] at hj
  rw[eJ hq,eJ hqd]
  by_cases e:j=q
  ·subst e
   rw[if_pos rfl,if_pos rfl]
   exact⟨f3,f4,f5,f6⟩
  ·rw[if_neg e,if_neg e];exact h.core j hj
theorem ep.drain {o:Obj} {s d:bk} (h:ep s d) (q:Nat):ep (dO o s q).1 (dO o d q).1:=by
 by_cases hq:q<s.bf.length
 ·have hqd:q<d.bf.length:=by rw[←h.n];exact hq
  obtain⟨e1,e2,e3,e4⟩:=h.core q hq
  cases hb:(s.core q).buf with
  |nil=>rw[(eO (.inr hb)).1,(eO (.inr (e2.symm.trans hb))).1];exact h
  |cons x t=>
   rw[(gQ hq hb).1,(gQ hqd (e2.symm.trans hb)).1]
   refine⟨(dj _ _ _).trans (h.n.trans (dj _ _ _).symm),fun j hj=> ?_,congrArg (fun l=>List.set l x.addr.toNat x.word) h.mem,h.bg⟩
   rw[dj] at hj
   rw[eJ hq,eJ hqd]
   by_cases e:j=q
   ·subst e
    rw[if_pos rfl,if_pos rfl]
    exact⟨e1,rfl,e3,e4⟩
   ·rw[if_neg e,if_neg e];exact h.core j hj
 ·rw[(eO (.inl hq)).1,(eO (.inl (by rw[←h.n];exact hq))).1];exact h
theorem ep.step {o:Obj} {s d:bk} (ok:cw o) (g:Good o s) (h:ep s d) (kind k:Int):ep (cn o s kind k).1 (cn o d kind k).1:=by
 rcases ic o s kind k with⟨q,rfl,hk⟩|h1
 ·rcases hk with rfl|rfl
  ·exact(h.run ok g q).1
  ·exact h.drain (o:=o) q
 ·rcases ic o d kind k with⟨q,rfl,hk⟩|h2
  ·rcases hk with rfl|rfl
   ·exact(h.run ok g q).1
   ·exact h.drain (o:=o) q
  ·rw[h1,h2];exact h
end Go.Proofs.YtlonbgdonffcbaaGreatDoor
end
section
/- One core alone: all that it comes to is found, and found by plain steps too. -/
namespace Go.Proofs.YtlonbgdonffcbaaGreatDoor
open Go Go.cW Go.Proofs
set_option linter.unusedSimpArgs false
set_option linter.unusedVariables false
theorem Reach.go {o:Obj}:∀(mv:List cM) {s:bk},Reach o s→Reach o (kV o s mv)
 |[],_,h=>h
 |x::mv,_,h=>Reach.go mv (h.step x.kind x.core)
theorem ep.plain {o:Obj} {s d:bk} (ok:cw o) (hw:kY o) (hs:ot o s) (h:ep s d):ep (kV o s (fQ o s ⟨1,(0:Nat)⟩)) (kV o d (fQ o d ⟨1,(0:Nat)⟩)):=by
 obtain⟨h1,h2⟩:=h.run ok hs.jQ 0
 unfold fQ
 change ep (kV o s (if(fV o s (0:Nat)).2.1.kind=3 then _ else _)) (kV o d (if(fV o d (0:Nat)).2.1.kind=3 then _ else _))
 rw[←h2]
 by_cases h3:(fV o s (0:Nat)).2.1.kind=3
 ·rw[if_pos h3]
  show ep (dO o (fV o s (0:Nat)).1 (0:Nat)).1 (dO o (fV o d (0:Nat)).1 (0:Nat)).1
  exact h1.drain (o:=o) 0
 ·rw[if_neg h3];exact h1
end Go.Proofs.YtlonbgdonffcbaaGreatDoor
end
section
/- The way to a situation that was found. -/
namespace Go.Proofs.YtlonbgdonffcbaaGreatDoor
open Go Go.cW Go.Proofs
set_option linter.unusedSimpArgs false
set_option linter.unusedVariables false
inductive zV (o:Obj):bk→List cM→bk→Prop where
 |nil (s:bk):zV o s [] s
 |cons {s d:bk} {x:cM} {l:List cM} (h:KR o s x) (t:zV o (cn o s x.kind x.core).1 l d):zV o s (x::l) d
theorem zV.snoc {o:Obj} {s d:bk} {l:List cM} (h:zV o s l d) {x:cM} (hx:KR o d x):zV o s (l++[x]) (cn o d x.kind x.core).1:=by
 induction h with
 |nil s=>exact .cons hx (.nil _)
 |cons h t ih=>exact .cons h (ih hx)
end Go.Proofs.YtlonbgdonffcbaaGreatDoor
end
section
/- Steps turned round: the walk. -/
namespace Go.Proofs.YtlonbgdonffcbaaGreatDoor
open Go Go.cW Go.Proofs
set_option linter.unusedSimpArgs false
set_option linter.unusedVariables false
set_option maxRecDepth 8000
theorem G7 {l:List cM} {k:Nat} (h:k<l.length) (d:AV):(l.map cM.av).getD ((k:Int)).toNat d=(l.getD k default).av:=by
 rw[Int.toNat_natCast];exact dY cM.av l k d h
end Go.Proofs.YtlonbgdonffcbaaGreatDoor
end
section
/- Way: the walk. -/
namespace Go.Proofs.YtlonbgdonffcbaaGreatDoor
open Go Go.cW Go.Proofs
set_option linter.unusedSimpArgs false
set_option linter.unusedVariables false
set_option maxRecDepth 8000
end Go.Proofs.YtlonbgdonffcbaaGreatDoor
end
section
/- The object by which the laws begin, and what exploring it comes to. -/
namespace Go.Proofs.YtlonbgdonffcbaaGreatDoor
open Go Go.cW Go.Proofs
set_option linter.unusedSimpArgs false
set_option linter.unusedVariables false
set_option maxRecDepth 20000
abbrev L0 (k:Int):Instr:=⟨k,0,0,0,0,0,0,0,0⟩
def K4 (i:Int):List Instr:=[⟨1,0,0,0,0,0,0,1,0⟩,⟨4,0,0,0,0,i,0,0,0⟩,⟨3,0,1,0,0,1 - i,0,0,0⟩,⟨7,0,0,1,0,0,0,0,0⟩,L0 10]
def uP:Obj:=⟨[0,0],2,0,1,[⟨⟨#[65]⟩,K4 0⟩,⟨⟨#[66]⟩,K4 1⟩]⟩
def kR:Obj:=⟨[7],1,0,1,[⟨⟨#[65]⟩,[L0 7,L0 10]⟩]⟩
theorem CT:Pure Tryz.prog 21 [bl false] (fun r=>r=uP.av):=fi (by simp[cC]) (by kernel_rfl)
def qc (s:bk):Nat:=(dx s).foldl (fun n c=>n * 256+c.toNat) 1
theorem qd:∀(l:List UInt8) (a b:Nat) (m:List UInt8),0<a→l.foldl (fun n c=>n * 256+c.toNat) a=m.foldl (fun n c=>n * 256+c.toNat) b→l.length=m.length→a=b∧l=m
 |[],a,b,[],_,h,_=>⟨h,rfl⟩
 |[],a,b,y::m,_,_,hl=>by simp at hl
 |x::l,a,b,[],_,_,hl=>by simp at hl
 |x::l,a,b,y::m,ha,h,hl=>by
  simp only[List.foldl_cons] at h
  obtain⟨h1,h2⟩:=qd l _ _ m (by omega) h (by simpa using hl)
  have hx:=x.toNat_lt
  have hy:=y.toNat_lt
  have e:x.toNat=y.toNat:=by omega
  exact⟨by omega,by rw[h2,UInt8.toNat_inj.1 e]⟩
theorem tS:∀(l:List UInt8) (a:Nat),a * 256^l.length≤l.foldl (fun n c=>n * 256+c.toNat) a
 |[],a=>by simp
 |x::l,a=>by
  have:=tS l (a * 256+x.toNat)
  rw[List.foldl_cons,List.length_cons,Nat.pow_succ]
  refine Nat.le_trans ?_ this
  rw[Nat.mul_comm (256^l.length),←Nat.mul_assoc]
  exact Nat.mul_le_mul_right _ (by omega)
theorem tR:∀(l:List UInt8) (a:Nat),l.foldl (fun n c=>n * 256+c.toNat) a<(a+1) * 256^l.length
 |[],a=>by simp
 |x::l,a=>by
  have:=tR l (a * 256+x.toNat)
  rw[List.foldl_cons,List.length_cons,Nat.pow_succ]
  refine Nat.lt_of_lt_of_le this ?_
  rw[Nat.mul_comm (256^l.length),←Nat.mul_assoc]
  have:=x.toNat_lt
  exact Nat.mul_le_mul_right _ (by omega)
theorem GG {l m:List UInt8} (h:l.foldl (fun n c=>n * 256+c.toNat) 1=m.foldl (fun n c=>n * 256+c.toNat) 1):l=m:=by
 have hl:l.length=m.length:=by
  have a1:=tS l 1
  have a2:=tR l 1
  have b1:=tS m 1
  have b2:=tR m 1
  rw[h] at a1 a2
  rw[Nat.one_mul] at a1 b1
  have p1:256^l.length<256^(m.length+1):=by rw[Nat.pow_succ];omega
  have p2:256^m.length<256^(l.length+1):=by rw[Nat.pow_succ];omega
  have q1:=(Nat.pow_lt_pow_iff_right (a:=256) (by omega)).1 p1
  have q2:=(Nat.pow_lt_pow_iff_right (a:=256) (by omega)).1 p2
  omega
 exact(qd l 1 1 m (by omega) h hl).2
def CK (k:Nat):List (Nat×bu)→Bool
 |[]=>false
 |x::l=>if Nat.beq x.1 k then true else CK k l
theorem pU (s:bk):∀l:List bu,CK (qc s) (l.map fun f=>(qc f.m,f))=true↔dx s∈eZ l
 |[]=>by simp[CK,eZ]
 |f::l=>by
  rw[List.map_cons,CK]
  simp only[eZ,List.map_cons,List.mem_cons]
  have ih:=pU s l
  by_cases h:Nat.beq (qc f.m) (qc s)=true
  ·rw[if_pos h]
   exact⟨fun _=> .inl (GG (Nat.eq_of_beq_eq_true h).symm),fun _=>rfl⟩
  ·rw[if_neg h,ih]
   refine⟨.inr,fun hh=>hh.resolve_left fun e=>h ?_⟩
   have:qc f.m=qc s:=by unfold qc;rw[e]
   rw[this];exact Nat.beq_refl _
def GW (o:Obj) (most k:Nat) (m:bk):List (List cM)→List (Nat×bu)→Option (List (Nat×bu))
 |[],l=>some l
 |mv::ms,l=>if CK (qc (kV o m mv)) l then GW o most k m ms l else if most≤l.length then none else GW o most k m ms (l++[(qc (kV o m mv),⟨kV o m mv,k,mv⟩)])
def o9 (p:Bool) (o:Obj) (most:Nat):Nat→Nat→List (Nat×bu)→Option (List (Nat×bu))
 |0,_,l=>some l
 |n+1,k,l=>match l[k]? with
  |none=>some l
  |some f=>match GW o most k f.2.m (dU p o f.2.m) l with
   |none=>none
   |some l'=>o9 p o most n (k+1) l'
abbrev gD (l:List bu):List (Nat×bu):=l.map fun f=>(qc f.m,f)
theorem th {o:Obj} {most k:Nat} {m:bk}:∀(ms:List (List cM)) (l:List bu),k<l.length→(l.getD k default).m=m→GW o most k m ms (gD l)=(rI o most k ms l).map gD
 |[],l,hk,hm=>rfl
 |mv::ms,l,hk,hm=>by
  rw[GW,rI]
  unfold BY
  rw[hm]
  by_cases h:dx (kV o m mv)∈eZ l
  ·rw[if_pos ((pU _ l).2 h),if_pos h]
   exact th ms l hk hm
  ·rw[if_neg (fun e=>h ((pU _ l).1 e)),if_neg h]
   rw[List.length_map]
   by_cases h2:most≤l.length
   ·rw[if_pos h2,if_pos h2];rfl
   ·rw[if_neg h2,if_neg h2]
    have:=th (o:=o) (most:=most) (k:=k) (m:=m) ms (l++[⟨kV o m mv,k,mv⟩]) (by rw[List.length_append];omega) (by rw[iB hk];exact hm)
    rw[←this]
    congr 1
    simp[gD]
theorem yQ {p:Bool} {o:Obj} {most:Nat}:∀(n k:Nat) (l:List bu),o9 p o most n k (gD l)=(qy p o most n k l).map gD
 |0,k,l=>rfl
 |n+1,k,l=>by
  rw[o9,qy]
  by_cases hk:k<l.length
  ·rw[if_pos hk]
   have e:(gD l)[k]?=some (qc (l.getD k default).m,l.getD k default):=by
    rw[List.getElem?_map,List.getElem?_eq_getElem hk]
    simp[List.getD,hk]
   rw[e]
   dsimp only
   rw[th _ l hk rfl]
   cases h:rI o most k (dU p o (l.getD k default).m) l with
   |none=>rfl
   |some l'=>exact yQ n (k+1) l'
  ·rw[if_neg hk]
   have e:(gD l)[k]?=none:=by rw[List.getElem?_eq_none];rw[List.length_map];omega
   rw[e];rfl
end Go.Proofs.YtlonbgdonffcbaaGreatDoor
end
section
/- What exploring these objects comes to: the kernel's own answer. -/
namespace Go.Proofs.YtlonbgdonffcbaaGreatDoor
open Go Go.cW Go.Proofs
set_option maxRecDepth 100000
def LI:List Int→List Int→Bool
 |[],[]=>true
 |x::a,y::b=>decide (x=y)&&LI a b
 |_,_=>false
theorem y0:∀a b:List Int,LI a b=true↔a=b
 |[],[]=>by simp[LI]
 |[],y::b=>by simp[LI]
 |x::a,[]=>by simp[LI]
 |x::a,y::b=>by simp[LI,y0 a b]
def KB:List cD→List cD→Bool
 |[],[]=>true
 |x::a,y::b=>decide (x.ch=y.ch)&&decide (x.word=y.word)&&KB a b
 |_,_=>false
theorem tI:∀a b:List cD,KB a b=true↔a=b
 |[],[]=>by simp[KB]
 |[],y::b=>by simp[KB]
 |x::a,[]=>by simp[KB]
 |x::a,y::b=>by
  have:x=y↔x.ch=y.ch∧x.word=y.word:=by cases x;cases y;simp
  simp[KB,tI a b,this]
def DE (a b:cN):Bool:=KB a.bg b.bg&&LI a.mem b.mem&&(a.ended==b.ended)
theorem mZ (a b:cN):DE a b=true↔a=b:=by
 cases a;cases b
 simp[DE,tI,y0,and_assoc]
def mW (o:Obj) (l:List (Nat×bu)):List cN:=l.filterMap fun f=>if f.2.m.bf.all fI then some (la o f.2.m) else none
theorem uZ (o:Obj) (l:List bu):mW o (gD l)=dI o l l.length:=by
 unfold mW dI
 rw[List.take_length,List.filterMap_map]
 rfl
def O4:cN:=⟨[⟨0,0⟩,⟨1,0⟩],[1,1],true⟩
def O5:cN:=⟨[⟨1,0⟩,⟨0,0⟩],[1,1],true⟩
def LA (o:Obj) (most:Nat) (a b:cN):Bool:=match o9 false o most most 0 (gD (ef o)),o9 true o most most 0 (gD (ef o)) with
 |some l,some q=>(mW o l).all (fun e=>(mW o q).any (DE e)||DE e a||DE e b)&&(mW o l).any (DE a)&&(mW o l).any (DE b)&& !((mW o q).any (DE a))&& !((mW o q).any (DE b))
 |_,_=>false
theorem HY:LA uP 2000 O4 O5=true:=by kernel_rfl
def DB:cN:=⟨[⟨0,0⟩],[7],true⟩
def K9 (o:Obj) (most:Nat) (e:cN) (want:List cD):Bool:=match o9 true o most most 0 (gD (ef o)),o9 false o most most 0 (gD (ef o)) with
 |some l,some q=>(match mW o l with|[x]=>DE x e|_=>false)&&q.any fun f=>KB f.2.m.bg want
 |_,_=>false
theorem CX:K9 kR 9 DB [⟨0,0⟩]=true:=by kernel_rfl
theorem K5:eU uP=true:=by kernel_rfl
theorem I9:eU kR=true:=by kernel_rfl
end Go.Proofs.YtlonbgdonffcbaaGreatDoor
end
section
/- Ends: in order, each once; how many the laws' first object has that are not plain. -/
namespace Go.Proofs.YtlonbgdonffcbaaGreatDoor
open Go Go.cW Go.Proofs
set_option linter.unusedSimpArgs false
set_option linter.unusedVariables false
theorem wm (l:List cN):∀k,∀e∈kM l k,∃j,j<k∧e=l.getD j default
 |0,e,h=>by simp[kM] at h
 |1,e,h=>by simp only[kM,List.mem_cons,List.not_mem_nil,or_false] at h;exact⟨0,by omega,h⟩
 |k+2,e,h=>by
  rw[kM] at h
  split at h
  ·obtain⟨j,h1,h2⟩:=wm l (k+1) e h
   exact⟨j,by omega,h2⟩
  ·rcases List.mem_append.1 h with h|h
   ·obtain⟨j,h1,h2⟩:=wm l (k+1) e h
    exact⟨j,by omega,h2⟩
   ·simp only[List.mem_cons,List.not_mem_nil,or_false] at h
    exact⟨k+1,by omega,h⟩
theorem pE (l:List cN):∀k j,j<k→l.getD j default∈kM l k
 |0,j,h=>by omega
 |1,j,h=>by
  obtain rfl:j=0:=by omega
  simp[kM]
 |k+2,j,h=>by
  rw[kM]
  split
  ·rename_i e
   by_cases hj:j=k+1
   ·rw[hj,e];exact pE l (k+1) k (by omega)
   ·exact pE l (k+1) j (by omega)
  ·by_cases hj:j=k+1
   ·rw[hj];exact List.mem_append.2 (.inr (by simp))
   ·exact List.mem_append.2 (.inl (pE l (k+1) j (by omega)))
theorem tf {α:Type} {R:α→α→Prop} {l:List α} (h:l.Pairwise R) (d:α) {i j:Nat} (hi:i<j) (hj:j<l.length):R (l.getD i d) (l.getD j d):=by
 have:=List.pairwise_iff_getElem.1 h i j (by omega) hj hi
 simpa[List.getD,hj,show i<l.length by omega] using this
theorem lq {l:List cN} (h:l.Pairwise fun x y=>sU dz x y=true):∀k,k≤l.length→(kM l k).Pairwise fun x y=>dz x y<0
 |0,_=>by simp[kM]
 |1,_=>by simp[kM]
 |k+2,hk=>by
  rw[kM]
  split
  ·exact lq h (k+1) (by omega)
  ·rename_i hne
   refine List.pairwise_append.2 ⟨lq h (k+1) (by omega),by simp,fun a ha b hb=> ?_⟩
   simp only[List.mem_cons,List.not_mem_nil,or_false] at hb
   subst hb
   obtain⟨j,hj,rfl⟩:=wm l _ a ha
   have h1:=tf h default (i:=j) (j:=k+1) (by omega) (by omega)
   have h2:sU dz (l.getD j default) (l.getD k default)=true:=by
    by_cases e:j=k
    ·rw[e];simp[sU,(iy.zero _ _).2 rfl]
    ·exact tf h default (by omega) (by omega)
   have h3:=tf h default (i:=k) (j:=k+1) (by omega) (by omega)
   have h4:dz (l.getD j default) (l.getD (k+1) default)≠0:=fun e=>by
    have e1:=(iy.zero _ _).1 e
    rw[←e1] at h3
    have:=iy.yg h3 h2
    exact hne (by rw[this,←e1])
   simp only[sU,decide_eq_true_eq] at h1
   omega
theorem wy {o:Obj} {l:List bu} {e:cN}:e∈dI o l l.length↔∃i,i<l.length∧(l.getD i default).m.bf.all fI=true∧e=la o (l.getD i default).m:=by
 unfold dI
 rw[List.take_length,List.mem_filterMap]
 constructor
 ·rintro⟨f,hf,he⟩
  obtain⟨i,hi,rfl⟩:=List.mem_iff_getElem.1 hf
  split at he
  ·rename_i hs
   cases he
   refine⟨i,hi, ?_⟩
   rw[show l.getD i default=l[i] by simp[List.getD,hi]]
   exact⟨hs,rfl⟩
  ·cases he
 ·rintro⟨i,hi,hs,rfl⟩
  refine⟨l.getD i default,fR default hi, ?_⟩
  rw[if_pos hs]
theorem rj {o:Obj} {l:List bu} {e:cN}:e∈gh o l↔e∈dI o l l.length:=by
 refine⟨rk,fun h=> ?_⟩
 have h1:=(kF dz _).mem_iff.2 h
 obtain⟨j,hj,rfl⟩:=List.mem_iff_getElem.1 h1
 have:=pE (fU dz (dI o l l.length)) (dI o l l.length).length j (by rw[ji] at hj;exact hj)
 rw[show(fU dz (dI o l l.length)).getD j default=(fU dz (dI o l l.length))[j] by simp[List.getD,hj]] at this
 exact this
theorem tH (o:Obj) (l:List bu):(gh o l).Pairwise fun x y=>dz x y<0:=lq (iy.sorted _) _ (by rw[ji];exact Nat.le_refl _)
theorem u0 (o:Obj) (l:List bu):(gh o l).Nodup:=(tH o l).imp fun h e=>by
 have:=(iy.zero _ _).2 e
 omega
theorem ri {p:Bool} {o:Obj} {most:Int} (h0:(ck p o most).1=0) {e:cN}:e∈fJ p o most↔e∈dI o (ck p o most).2 (ck p o most).2.length:=by
 unfold fJ
 rw[if_pos h0];exact rj
theorem AR {l q:List cN} {e:cN}:e∈ml l q↔e∈l∧e∉q:=by
 unfold ml
 rw[List.mem_filter]
 simp only[Bool.not_eq_true',List.any_eq_false,decide_eq_true_eq]
 refine and_congr_right fun _=>⟨fun h hq=>h e hq rfl,fun h x hx hxe=>h (hxe▸hx)⟩
theorem MS {l:List cN} (hn:l.Nodup) {a b:cN} (hab:a≠b) (h:∀e,e∈l↔e=a∨e=b):l.length=2:=by
 have hp:l.Perm [a,b]:=(List.perm_ext_iff_of_nodup hn (by simp[hab])).2 fun e=>by rw[h];simp
 exact hp.length_eq
theorem mY {l:List cN} {a:cN}:l.any (DE a)=true↔a∈l:=by
 rw[List.any_eq_true]
 refine⟨fun⟨x,hx,h⟩=>(mZ _ _).1 h▸hx,fun h=>⟨a,h,(mZ _ _).2 rfl⟩⟩
theorem mX {p:Bool} {o:Obj} {most:Nat} (hok:eU o=true) (hm:1≤(most:Int)∧(most:Int)≤65536) {l:List (Nat×bu)} (h:o9 p o most most 0 (gD (ef o))=some l):(ck p o (most:Int)).1=0∧l=gD (ck p o (most:Int)).2:=by
 rw[yQ] at h
 have h2:(lX p o most).map gD=some l:=h
 cases hT:lX p o most with
 |none=>rw[hT] at h2;cases h2
 |some q=>
  rw[hT] at h2
  cases h2
  rw[HQ (l:=q) hok hm (by rw[Int.toNat_natCast];exact hT)]
  exact⟨rfl,rfl⟩
theorem K6:uP.Wf where
 mem:=fun x hx=>by simp[uP] at hx;subst hx;exact⟨by omega,by omega⟩
 F8:=by decide
 shared:=⟨by decide,by decide⟩
 gu:=⟨by decide,by decide⟩
 buffer:=⟨by decide,by decide⟩
 bf:=fun c hc=>by
  simp only[uP,List.mem_cons,List.not_mem_nil,or_false] at hc
  rcases hc with rfl|rfl
  all_goals
   refine⟨by decide,fun i hi=> ?_,by decide⟩
   simp only[K4,List.mem_cons,List.not_mem_nil,or_false] at hi
   rcases hi with rfl|rfl|rfl|rfl|rfl<;>exact⟨by decide,by decide,⟨by decide,by decide⟩,⟨by decide,by decide⟩,⟨by decide,by decide⟩,⟨by decide,by decide⟩,⟨by decide,by decide⟩,⟨by decide,by decide⟩,⟨by decide,by decide⟩⟩
 mU:=by decide
theorem zC:kR.Wf where
 mem:=fun x hx=>by simp[kR] at hx;subst hx;exact⟨by omega,by omega⟩
 F8:=by decide
 shared:=⟨by decide,by decide⟩
 gu:=⟨by decide,by decide⟩
 buffer:=⟨by decide,by decide⟩
 bf:=fun c hc=>by
  simp only[kR,List.mem_cons,List.not_mem_nil,or_false] at hc
  subst hc
  refine⟨by decide,fun i hi=> ?_,by decide⟩
  simp only[List.mem_cons,List.not_mem_nil,or_false] at hi
  rcases hi with rfl|rfl<;>exact⟨by decide,by decide,⟨by decide,by decide⟩,⟨by decide,by decide⟩,⟨by decide,by decide⟩,⟨by decide,by decide⟩,⟨by decide,by decide⟩,⟨by decide,by decide⟩,⟨by decide,by decide⟩⟩
 mU:=by decide
theorem J2 {o:Obj} {most:Nat} (hok:eU o=true) (hm:1≤(most:Int)∧(most:Int)≤65536) {a b:cN} (hab:a≠b) (h:LA o most a b=true):(ck false o (most:Int)).1=0∧(sd o (most:Int)).length=2:=by
 unfold LA at h
 revert h
 cases h1:o9 false o most most 0 (gD (ef o)) with
 |none=>intro h;cases h
 |some l=>
  cases h2:o9 true o most most 0 (gD (ef o)) with
  |none=>intro h;cases h
  |some q=>
   intro h
   obtain⟨e1,rfl⟩:=mX hok hm h1
   obtain⟨e2,rfl⟩:=mX hok hm h2
   refine⟨e1, ?_⟩
   simp only[uZ,Bool.and_eq_true,Bool.not_eq_true'] at h
   obtain⟨⟨⟨⟨g1,g2⟩,g3⟩,g4⟩,g5⟩:=h
   have g2:=mY.1 g2
   have g3:=mY.1 g3
   have g4:a∉dI o (ck true o most).2 (ck true o most).2.length:=fun hh=>by rw[mY.2 hh] at g4;cases g4
   have g5:b∉dI o (ck true o most).2 (ck true o most).2.length:=fun hh=>by rw[mY.2 hh] at g5;cases g5
   have hw:sd o most=ml (gh o (ck false o most).2) (fJ true o most):=by unfold sd;rw[if_pos e1]
   refine MS (a:=a) (b:=b) ?_ hab fun e=> ?_
   ·rw[hw];exact(u0 _ _).filter _
   ·rw[hw,AR,rj,ri e2]
    constructor
    ·rintro⟨m1,m2⟩
     have:=List.all_eq_true.1 g1 e m1
     simp only[Bool.or_eq_true] at this
     rcases this with(h|h)|h
     ·exact absurd (mY.1 h) m2
     ·exact .inl ((mZ _ _).1 h)
     ·exact .inr ((mZ _ _).1 h)
    ·rintro(rfl|rfl)
     ·exact⟨g2,g4⟩
     ·exact⟨g3,g5⟩
theorem GO {o:Obj} {most:Nat} (hok:eU o=true) (hm:1≤(most:Int)∧(most:Int)≤65536) {e:cN} {want:List cD} (h:K9 o most e want=true):(ck true o (most:Int)).1=0∧fJ true o (most:Int)=[e]∧(ck false o (most:Int)).1=0∧mB o (most:Int) want=true:=by
 unfold K9 at h
 revert h
 cases h1:o9 true o most most 0 (gD (ef o)) with
 |none=>intro h;cases h
 |some l=>
  cases h2:o9 false o most most 0 (gD (ef o)) with
  |none=>intro h;cases h
  |some q=>
   intro h
   obtain⟨e1,rfl⟩:=mX hok hm h1
   obtain⟨e2,rfl⟩:=mX hok hm h2
   simp only[uZ,Bool.and_eq_true] at h
   obtain⟨g1,g2⟩:=h
   refine⟨e1, ?_,e2, ?_⟩
   ·have:dI o (ck true o most).2 (ck true o most).2.length=[e]:=by
     revert g1
     cases dI o (ck true o most).2 (ck true o most).2.length with
     |nil=>intro h;cases h
     |cons x t=>
      cases t with
      |nil=>intro h;rw[(mZ _ _).1 h]
      |cons y t=>intro h;cases h
    unfold fJ
    rw[if_pos e1]
    unfold gh
    rw[this]
    simp[fU,kM]
   ·unfold mB
    rw[List.any_eq_true] at g2 ⊢
    obtain⟨f,hf,hp⟩:=g2
    obtain⟨f',hf',rfl⟩:=List.mem_map.1 hf
    exact⟨f',hf',decide_eq_true ((tI _ _).1 hp)⟩
theorem CU:(ck false uP ((2000:Nat):Int)).1=0∧(sd uP ((2000:Nat):Int)).length=2:=J2 K5 (by omega) (by decide) HY
theorem x8:(ck true kR ((9:Nat):Int)).1=0∧fJ true kR ((9:Nat):Int)=[DB]∧(ck false kR ((9:Nat):Int)).1=0∧mB kR ((9:Nat):Int) [⟨0,0⟩]=true:=GO I9 (by omega) CX
end Go.Proofs.YtlonbgdonffcbaaGreatDoor
end
section
/- How the laws begin: the walk. -/
namespace Go.cW
open Go.RowKit
section
variable {P:Program} {n lo:Nat} {fr:Fr} {H:Hp} {nx:Nat} {Q:QT}
theorem WL.rt {lc:LC} {fr2:Fr} {H2:Hp} {nx2:Nat} (hw:Rt fr H nx fr2 H2 nx2) (h:WL P n lo lc fr2 H2 nx2 Q):WL P n lo lc fr H nx Q:=
 fun code hc w0 M0 c0 a w hh=>h code hc w0 M0 c0 a w (hw _ _ _ _ _ _ _ hh)
theorem WL.cut {a b:LC} (h:Go (W P n lo a fr H nx (jL (fun fr' H' nx'=>∃fr2 H2 nx2,Rt fr' H' nx' fr2 H2 nx2∧WL P n lo b fr2 H2 nx2 Q) Q))):WL P n lo (.seq a b) fr H nx Q:=
 WL.seq ((fA h).mono fun e fr H nx hh=>by
  cases e with
  |normal=>
   obtain⟨fr2,H2,nx2,h1,h2⟩:=hh
   exact WL.rt h1 h2
  |exit id=>exact hh
  |ret=>exact hh)
theorem bR {f:FuncId} {args:List AV} {R:AV→Hp→Nat→Prop} (X:dB P f) (ha:Nat.ble args.length X.n=true) (h:WL P X.n nx X.lc (iQ 0 args) H nx (wL X.rs R)):bw P f args H nx R:=by
 obtain⟨fn,h1,h2,h3,h4,h5⟩:=X.ok
 have h6:X.n=fn.ntmps:=h5
 rw[h6] at h ha
 exact bw.jc h1 h2 h3 h4 (Nat.le_of_ble_eq_true ha) (h.mono fun _ _ _ _=>zI)
theorem aq {lc:LC} {b:Nat} {q:Option du} (h:bd H b=q) (k:∀H2:Hp,bd H2 b=q→Go (W P n lo lc fr H2 nx Q)):W P n lo lc fr H nx Q:=k H h
end
end Go.cW
namespace Go.Proofs.YtlonbgdonffcbaaGreatDoor
open Go Go.cW Go.Proofs
set_option linter.unusedSimpArgs false
set_option linter.unusedVariables false
set_option maxRecDepth 8000
theorem zb {o1:Obj} {wk:List cN} (c0:Pure Tryz.prog 21 [bl false] (fun r=>r=o1.av)) (c1:Pure Tryz.prog 17 [o1.av,i64 2000] (fun r=>r= .dD [dw wk,i64 0])) (hwk:wk.length=2)
 (c2:Pure Tryz.prog 22 [kR.av,i64 9] (fun r=>r= .dD [dw [DB],i64 0])) (c3:Pure Tryz.prog 11 [kR.av,i64 9,dt [⟨0,0⟩]] (fun r=>r= .dD [bl true,i64 0])):Pure Tryz.prog 7 [] (fun r=>r=bl true):=by
 have hfw:=iN wk
 refine cr ?_ (by simp[cC])
 refine bR N4 rfl ?_
 refine WL.cut ?_
 refine ca ?_
 refine⟨_,_,_,Rt.refl _ _ _,WL.cut ?_⟩
 refine ca ?_
 refine⟨_,_,_,Rt.refl _ _ _,WL.cut ?_⟩
 refine ca ?_
 refine⟨[(1,dw wk),(2,i64 0),(3, .pt 13 1 0 0)],_,_,(Rt.wk (Wk.fx (cb:=13) (ig [6,9,11] _) 5 .any rfl fun b q hq=>oB hq)).trans (Rt.less cH),fA ?_⟩
 refine aq (b:=13) (q:=some (.row 25 5 .any [kR.av])) rfl ?_
 intro H2 r3
 refine ca ?_
 refine aW c3 (by rfl) (by simp[cG,cC]) (by simp[jA]) ?_
 have r0:decide (((wk.map cN.av).length:Int)=2)=true:=by rw[List.length_map,hwk];rfl
 have a0:(DB.mem.map i64).length=1:=rfl
 have e0:∀d,(DB.mem.map i64).getD (0:Int).toNat d=i64 7:=fun _=>rfl
 refine ca ?_
 exact⟨rfl⟩
theorem uM:Pure Tryz.prog 7 [] (fun r=>r=bl true):=by
 obtain⟨w1,w2⟩:=CU
 obtain⟨p1,p2,p3,p4⟩:=x8
 have c1:=OJ K6 ((2000:Nat):Int)
 have c2:=GN zC ((9:Nat):Int)
 have c3:=G3 zC ((9:Nat):Int) [⟨0,0⟩] (by simp)
 rw[w1] at c1
 rw[p1,p2] at c2
 rw[p3,p4] at c3
 exact zb CT c1 w2 c2 c3
end Go.Proofs.YtlonbgdonffcbaaGreatDoor
end
