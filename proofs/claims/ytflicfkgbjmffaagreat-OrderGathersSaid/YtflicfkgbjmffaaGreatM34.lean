import Derived.Test.YtflicfkgbjmffaaGreatM32
import Derived.Test.YtflicfkgbjmffaaGreatM33
section
/- The stretch in which the machine steps. -/
namespace Go.Proofs.YtflicfkgbjmffaaGreat
open Go Go.Abs Go.Proofs V
set_option linter.unusedSimpArgs false
set_option linter.unusedVariables false
def zDid:List Value:=[(.int .u8 0),(.int .i64 0),(.int .i64 0),(.int .i64 0),(.int .i64 0),(.int .i64 0),(.bool false)]
def opsA:List GOp:=[oN 13 (.mv 0),oN 14 (.nck 13),oN 15 (.fa 4 14),oN 16 (.ld false 1 15),oN 17 (.ld true 2 3),oN 18 (.call (.f 26) [16,17]),oN 12 (.mv 18),oN 19 (.ext 0 12),oN 20 (.ext 1 12),oN 4 (.alloc 62 7 true zDid),uN (.st true 7 4 19)]
def psA:List (Nat × Nat):=[(2,9),(3,9),(4,9),(5,9)]
abbrev StepX:=V.Mach × V.DidS × Int
def valA (L:GLay) (x:AV) (r:StepX) (θ:Lay × Nat) (i:Nat):AV :=
 [.pt L.g 1 0 0,.pt L.g 1 0 0,.pt L.g 1 0 4,.pt L.M.m 1 0 0,x,.tup [r.2.1.av,i64 r.2.2],.tup [r.2.1.av,i64 r.2.2],r.2.1.av,i64 r.2.2,.pt θ.2 1 0 0].getD i .any
structure HpA (o:V.Obj) (s:V.Mach) (r:StepX) (L:GLay) (H0:Hp) (lo:Nat) (θ:Lay × Nat) (D:Nat→Bool) (H:Hp) (nx:Nat):Prop where
 lw:lo ≤ nx
 same:∀ y,y < lo→y ∉ L.M.ids→getH H y = getH H0 y
 m0:D 5 = false→θ.1 = L.M∧MAt o s L.M H nx
 m1:D 5 = true→MAt o r.1 θ.1 H nx∧Moves L.M θ.1 lo
 b:D 9 = true→lo ≤ θ.2∧θ.2 < nx∧θ.2 ∉ θ.1.ids∧∃ d es,getH H θ.2 = some (.row 62 7 d [.agg es])∧es.length = 7
 c:D 10 = true→∃ d,getH H θ.2 = some (.row 62 7 d [r.2.1.av])
section
variable {o:V.Obj} {s:V.Mach} {r:StepX} {L:GLay} {H0:Hp} {lo:Nat} {θ:Lay × Nat} {D:Nat→Bool} {H:Hp} {nx:Nat}
theorem HpA.look (h:HpA o s r L H0 lo θ D H nx) {i:Nat} (h5:i ≠ 5) (h9:i ≠ 9) (h10:i ≠ 10):HpA o s r L H0 lo θ (fun k => D k || k == i) H (nx + 1):=by
 have e5:(5 == i) = false:=by simpa using Ne.symm h5
 have e9:(9 == i) = false:=by simpa using Ne.symm h9
 have e10:(10 == i) = false:=by simpa using Ne.symm h10
 refine ⟨by have:=h.lw;omega,h.same,?_,?_,?_,?_⟩
 ·simp only [e5,Bool.or_false];intro hx
  exact ⟨(h.m0 hx).1,(h.m0 hx).2.keep (fun _ _ => rfl) (by omega)⟩
 ·simp only [e5,Bool.or_false];intro hx
  exact ⟨(h.m1 hx).1.keep (fun _ _ => rfl) (by omega),(h.m1 hx).2⟩
 ·simp only [e9,Bool.or_false];intro hx
  obtain ⟨a1,a2,a3⟩:=h.b hx
  exact ⟨a1,by omega,a3⟩
 ·simp only [e10,Bool.or_false];exact h.c
theorem wildA {x:V.StepV} {many:Bool} {m nc n:Nat} {fr0:Fr} (g:V.Good o s) (ok:V.ObjOk o) (hpl:(s.prints.length + 1) * 16 ≤ 140737488355328) {nb:Nat} (hnb:nb < lo) (hnbM:nb ∉ L.M.ids) (hg:L.g < lo) (hgM:L.g ∉ L.M.ids) (hbox:∃ d,getH H0 nb = some (.row 49 2 d [x.av]))
  (hrow:∃ d,getH H0 L.g = some (.row 45 8 d [gathAv m nc n L many])) (h0:getF fr0 0 = .pt L.g 1 0 0) (h3:getF fr0 3 = .pt nb 1 0 0) :
  Wild Tryz.prog opsA psA (fun D fr H nx => ∃ θ,VAt opsA D (valA L x.av (stepS o s x.kind x.core) θ) fr0 fr∧HpA o s (stepS o s x.kind x.core) L H0 lo θ D H nx):=by
 refine Wild.of (valA L x.av (stepS o s x.kind x.core)) _ fr0 (by decide) ?_
 intro i gg θ D fr H nx hi hD hp hs hv hh
 have hk:i < 11:=by have:=(List.getElem?_eq_some_iff.1 hi).1;simpa [opsA] using this
 have q:∀ (j:Nat) (g':GOp) (t:Nat),opsA[j]? = some g'→g'.dst = some t→j < i→depT opsA psA j i = true→getF fr t = valA L x.av (stepS o s x.kind x.core) θ j:=fun j g' t h1 h2 h3 h4 => hv.val j g' t h1 (hp j h3 h4) h2
 have f0:getF fr 0 = .pt L.g 1 0 0:=(hv.old 0 (by decide)).trans h0
 have f3:getF fr 3 = .pt nb 1 0 0:=(hv.old 3 (by decide)).trans h3
 have cases:i = 0 ∨ i = 1 ∨ i = 2 ∨ i = 3 ∨ i = 4 ∨ i = 5 ∨ i = 6 ∨ i = 7 ∨ i = 8 ∨ i = 9 ∨ i = 10:=by omega
 obtain ⟨d1,h1⟩:=hrow
 obtain ⟨d2,h2⟩:=hbox
 have r1:=(hh.same _ hg hgM).trans h1
 have r2:=(hh.same _ hnb hnbM).trans h2
 rcases cases with rfl|rfl|rfl|rfl|rfl|rfl|rfl|rfl|rfl|rfl|rfl <;> (obtain rfl:_ = gg:=by simpa [opsA] using hi)
 ·exact StepN.look (by simp) (r:=.pt L.g 1 0 0) (by simp only [stepL,ev];rw [f0]) ⟨θ,fun _ _ => rfl,rfl,hh.look (by decide) (by decide) (by decide)⟩
 ·have p:=q 0 _ 13 rfl rfl (by decide) (by decide)
  exact StepN.look (by simp) (by simp only [stepL,ev];rw [p];rfl) ⟨θ,fun _ _ => rfl,rfl,hh.look (by decide) (by decide) (by decide)⟩
 ·have p:=q 1 _ 14 rfl rfl (by decide) (by decide)
  exact StepN.look (by simp) (r:=.pt L.g 1 0 4) (by simp only [stepL,ev];rw [p];simp [valA,r1]) ⟨θ,fun _ _ => rfl,rfl,hh.look (by decide) (by decide) (by decide)⟩
 ·have p:=q 2 _ 15 rfl rfl (by decide) (by decide)
  exact StepN.look (by simp) (r:=.pt L.M.m 1 0 0) (by simp only [stepL,ev];rw [p];simp [valA,lookA,r1,ldE]) ⟨θ,fun _ _ => rfl,rfl,hh.look (by decide) (by decide) (by decide)⟩
 ·exact StepN.look (by simp) (r:=x.av) (by simp only [stepL,ev];rw [f3];simp [lookA,r2,ldE,V.StepV.cells]) ⟨θ,fun _ _ => rfl,rfl,hh.look (by decide) (by decide) (by decide)⟩
 ·have p3:=q 3 _ 16 rfl rfl (by decide) (by decide)
  have p4:=q 4 _ 17 rfl rfl (by decide) (by decide)
  obtain ⟨e1,hM⟩:=hh.m0 hD
  show CallN Tryz.prog 26 ([] ++ [getF fr 16,getF fr 17] ++ []) H nx _
  rw [p3,p4]
  refine (step_call hM g ok hpl x.kind x.core).mono ?_
  rintro r' H' n' ⟨rfl,hn,⟨L',hM',hmv⟩,hf⟩
  have e9:((9:Nat) == 5) = false:=by decide
  have e10:((10:Nat) == 5) = false:=by decide
  have hout:D 9 = true→θ.2 ∉ L'.ids:=fun hx hm => by
   obtain ⟨a1,a2,a3,_⟩:=hh.b hx
   rcases hmv.ids _ hm with h5|h5
   ·rw [e1] at a3;exact a3 h5
   ·omega
  refine ⟨(L',θ.2),fun j hj => ?_,rfl,by have:=hh.lw;omega,fun y hy hym => (hf y (by have:=hh.lw;omega) hym).trans (hh.same y hy hym),fun hx => ?_,fun _ => ⟨hM',hmv.m,fun b hb => (hmv.ids b hb).imp id (fun h5 => by have:=hh.lw;omega)⟩,?_,?_⟩
  ·unfold valA
   rfl
  ·simp at hx
  ·simp only [e9,Bool.or_false]
   intro hx
   obtain ⟨a1,a2,a3,d,es,a4,a5⟩:=hh.b hx
   rw [e1] at a3
   exact ⟨a1,by show θ.2 < n';omega,hout hx,d,es,(hf _ a2 a3).trans a4,a5⟩
  ·simp only [e10,Bool.or_false]
   intro hx
   exfalso
   have:=hs 10 (by decide) (by decide) (by decide)
   rw [hx] at this;cases this
 ·have p:=q 5 _ 18 rfl rfl (by decide) (by decide)
  exact StepN.look (by simp) (r:=.tup [(stepS o s x.kind x.core).2.1.av,i64 (stepS o s x.kind x.core).2.2]) (by simp only [stepL,ev];rw [p];rfl) ⟨θ,fun _ _ => rfl,rfl,hh.look (by decide) (by decide) (by decide)⟩
 ·have p:=q 6 _ 12 rfl rfl (by decide) (by decide)
  exact StepN.look (by simp) (r:=(stepS o s x.kind x.core).2.1.av) (by simp only [stepL,ev];rw [p];simp [valA]) ⟨θ,fun _ _ => rfl,rfl,hh.look (by decide) (by decide) (by decide)⟩
 ·have p:=q 6 _ 12 rfl rfl (by decide) (by decide)
  exact StepN.look (by simp) (r:=i64 (stepS o s x.kind x.core).2.2) (by simp only [stepL,ev];rw [p];simp [valA]) ⟨θ,fun _ _ => rfl,rfl,hh.look (by decide) (by decide) (by decide)⟩
 ·refine StepN.act (by simp) (r:=.pt nx 1 0 0) (u:=(nx,.row 62 7 (zav true zDid) [zav true zDid])) (by rfl) ?_
  have e5:((5:Nat) == 9) = false:=by decide
  have e10:((10:Nat) == 9) = false:=by decide
  have hsk:∀ y,y < nx→getH ((nx,some (.row 62 7 (zav true zDid) [zav true zDid])) :: H) y = getH H y:=fun y hy => getH_skipEq (by omega)
  have hlo:=hh.lw
  refine ⟨(θ.1,nx),fun j hj => ?_,rfl,by omega,fun y hy hym => (hsk y (by omega)).trans (hh.same y hy hym),?_,?_,fun _ => ⟨hlo,by show nx < nx + 1;omega,?_,_,_,getH_here _ _ _,rfl⟩,?_⟩
  ·have hj9:j ≠ 9:=fun he => by rw [he,hD] at hj;cases hj
   unfold valA
   rcases (by omega:j < 9 ∨ 10 ≤ j) with h5|h5
   ·have:j = 0 ∨ j = 1 ∨ j = 2 ∨ j = 3 ∨ j = 4 ∨ j = 5 ∨ j = 6 ∨ j = 7 ∨ j = 8:=by omega
    rcases this with rfl|rfl|rfl|rfl|rfl|rfl|rfl|rfl|rfl <;> rfl
   ·obtain ⟨k,rfl⟩:∃ k,j = k + 10:=⟨j - 10,by omega⟩
    rfl
  ·simp only [e5,Bool.or_false];intro hx
   exact ⟨(hh.m0 hx).1,(hh.m0 hx).2.keep hsk (by omega)⟩
  ·simp only [e5,Bool.or_false];intro hx
   exact ⟨(hh.m1 hx).1.keep hsk (by omega),(hh.m1 hx).2⟩
  ·intro hm
   cases h5:D 5 with
   | false => obtain ⟨e1,hM⟩:=hh.m0 h5;have:=hM.lt nx (by rw [← e1];exact hm);omega
   | true => have:=(hh.m1 h5).1.lt nx hm;omega
  ·simp only [e10,Bool.or_false];intro hx
   exfalso
   have:=hs 10 (by decide) (by decide) (by decide)
   rw [hx] at this;cases this
 ·have p9:=q 9 _ 4 rfl rfl (by decide) (by decide)
  have p7:=q 7 _ 19 rfl rfl (by decide) (by decide)
  have a9:=hp 9 (by decide) (by decide)
  have a5:D 5 = true:=hp 5 (by decide) (by decide)
  obtain ⟨b1,b2,b3,d,es,b4,b5⟩:=hh.b a9
  refine StepN.act (by simp) (r:=.any) (u:=(θ.2,.row 62 7 d [(stepS o s x.kind x.core).2.1.av])) ?_ ?_
  ·simp only [stepL,ev]
   rw [show getF fr 4 = .pt θ.2 1 0 0 from p9,show getF fr 19 = (stepS o s x.kind x.core).2.1.av from p7]
   simp [b4,stE,allOne,one,Value.oneCell']
  have e5:((5:Nat) == 10) = false:=by decide
  have e9:((9:Nat) == 10) = false:=by decide
  have hsk:∀ y,y ≠ θ.2→getH ((θ.2,some (.row 62 7 d [(stepS o s x.kind x.core).2.1.av])) :: H) y = getH H y:=fun y hy => getH_skipEq hy
  have hlo:=hh.lw
  refine ⟨θ,fun _ _ => rfl,rfl,by omega,fun y hy hym => (hsk y (by omega)).trans (hh.same y hy hym),?_,?_,?_,fun _ => ⟨d,getH_here _ _ _⟩⟩
  ·simp only [e5,Bool.or_false];intro hx
   obtain ⟨e1,hM⟩:=hh.m0 hx
   exact ⟨e1,hM.keepIds (fun y hy => hsk y (fun he => b3 (by rw [e1,← he];exact hy))) (by omega)⟩
  ·simp only [e5,Bool.or_false];intro hx
   obtain ⟨hM,hmv⟩:=hh.m1 hx
   exact ⟨hM.keepIds (fun y hy => hsk y (fun he => b3 (he ▸ hy))) (by omega),hmv⟩
  ·intro _
   exact ⟨b1,by omega,b3,d,_,getH_here _ _ _,rfl⟩
end
end Go.Proofs.YtflicfkgbjmffaaGreat
end
section
/- The stretch in which a store is put, and waits. -/
namespace Go.Proofs.YtflicfkgbjmffaaGreat
open Go Go.Abs Go.Proofs V
set_option linter.unusedSimpArgs false
set_option linter.unusedVariables false
def opsB:List GOp:=[oN 85 (.mv 0),oN 86 (.nck 85),oN 87 (.fa 5 86),oN 88 (.ld false 1 87),oN 89 (.fa 1 4),oN 90 (.ld false 1 89),oN 91 (.mv 0),oN 92 (.nck 91),oN 93 (.fa 5 92),oN 94 (.ld false 1 93),oN 95 (.fa 1 4),oN 96 (.ld false 1 95),oN 97 (.ia 1 none 94 96),oN 98 (.ld false 1 97),oN 99 (.mv 0),oN 100 (.ld true 5 6),oN 101 (.call (.f 27) [99,100,(cI (-1))]),oN 102 (.bsl 3 1 false [(.int .i64 0)] 1 [(0,101)]),oN 103 (.app 3 1 8 false [(.int .i64 0)] 98 102)]
def psB:List (Nat × Nat):=[(2,16),(3,16),(4,16),(5,16),(8,16),(9,16),(10,16),(11,16),(12,16),(13,16),(2,17),(3,17),(4,17),(5,17),(8,17),(9,17),(10,17),(11,17),(12,17),(13,17),(2,18),(3,18),(4,18),(5,18)]
def valB (L:GLay) (nc b4 q len:Nat) (d:Deed) (k:Int) (b:Nat) (i:Nat):AV :=
 [.pt L.g 1 0 0,.pt L.g 1 0 0,.pt L.g 1 0 5,.sl L.w nc,.pt b4 1 0 1,i64 q,.pt L.g 1 0 0,.pt L.g 1 0 0,.pt L.g 1 0 5,.sl L.w nc,.pt b4 1 0 1,i64 q,.pt L.w nc q 0,.sl (L.ws.getD q 0) len,.pt L.g 1 0 0,d.av,i64 k,.sl b 1,.sl (L.ws.getD q 0) (len + 1)].getD i .any
structure HpB (m nc:Nat) (F:List Int) (g gp:GS) (mp:Bool) (L:GLay) (q:Nat) (k:Int) (H0:Hp) (lo:Nat) (b:Nat) (D:Nat→Bool) (H:Hp) (nx:Nat):Prop where
 lw:lo ≤ nx
 same:∀ y,y < lo→y ∉ L.own→getH H y = getH H0 y
 g0:D 16 = false→GRow m nc F g L false H nx
 g1:D 16 = true→D 18 = false→GRow m nc F gp L mp H nx
 b:D 17 = true→lo ≤ b∧b < nx∧∃ d,getH H b = some (.row 3 1 d [i64 k])
 g2:D 18 = true→∃ H1 d,GRow m nc F gp L mp H1 nx∧(∀ y,y ≠ L.ws.getD q 0→getH H y = getH H1 y)∧getH H (L.ws.getD q 0) = some (.row 3 1 d ((g.w q).map i64 ++ [i64 k]))
section
variable {m nc:Nat} {F:List Int} {g gp:GS} {mp:Bool} {L:GLay} {q:Nat} {k:Int} {H0:Hp} {lo:Nat} {b:Nat} {D:Nat→Bool} {H:Hp} {nx:Nat}
theorem HpB.look (h:HpB m nc F g gp mp L q k H0 lo b D H nx) {i:Nat} (h16:i ≠ 16) (h17:i ≠ 17) (h18:i ≠ 18):HpB m nc F g gp mp L q k H0 lo b (fun k => D k || k == i) H (nx + 1):=by
 have e16:(16 == i) = false:=by simpa using Ne.symm h16
 have e17:(17 == i) = false:=by simpa using Ne.symm h17
 have e18:(18 == i) = false:=by simpa using Ne.symm h18
 refine ⟨by have:=h.lw;omega,h.same,?_,?_,?_,?_⟩
 ·simp only [e16,Bool.or_false];exact fun hx => (h.g0 hx).keep (fun _ _ => rfl) (by omega)
 ·simp only [e16,e18,Bool.or_false];exact fun hx hy => (h.g1 hx hy).keep (fun _ _ => rfl) (by omega)
 ·simp only [e17,Bool.or_false];intro hx
  obtain ⟨a1,a2,a3⟩:=h.b hx
  exact ⟨a1,by omega,a3⟩
 ·simp only [e18,Bool.or_false];intro hx
  obtain ⟨H1,d,a1,a2,a3⟩:=h.g2 hx
  exact ⟨H1,d,a1.keep (fun _ _ => rfl) (by omega),a2,a3⟩
def SeeB (m nc:Nat) (g:GS) (L:GLay) (q:Nat) (D:Nat→Bool) (H:Hp) (nx:Nat):Prop:=(∃ n m' d,getH H L.g = some (.row 45 8 d [gathAv m nc n L m']))∧(∃ d,getH H L.w = some (.row 28 1 d (qRow L.ws (SI g.q))))∧(qRow L.ws (SI g.q)).length = nc ∧
  (∀ d,(qRow L.ws (SI g.q)).getD q d = .sl (L.ws.getD q 0) (g.w q).length)∧(D 18 = false→∃ d,getH H (L.ws.getD q 0) = some (.row 3 1 d ((g.w q).map i64)))∧(∀ y ∈ L.own,y < nx)∧L.ws.getD q 0 ∈ L.own
theorem HpB.see (h:HpB m nc F g gp mp L q k H0 lo b D H nx) (hq:gp.q = g.q) (hqn:q < nc):SeeB m nc g L q D H nx:=by
 have key:∀ (g':GS) (m':Bool) (H1:Hp),GRow m nc F g' L m' H1 nx→g'.q = g.q→(∀ y,y ≠ L.ws.getD q 0→getH H y = getH H1 y)→(D 18 = false→getH H (L.ws.getD q 0) = getH H1 (L.ws.getD q 0))→SeeB m nc g L q D H nx:=fun g' m' H1 hG hgq hf hf2 => by
  have hqg:q < g'.q.length:=by rw [hG.lq];exact hqn
  have hin:=SI_in hG.w hqg
  have ap:=GLay.apart hG.nodup
  have n1:L.g ≠ L.ws.getD q 0:=(ap.w _ (List.mem_cons_of_mem _ hin)).1
  have n2:L.w ≠ L.ws.getD q 0:=hG.w.ne (by rw [SI_len];exact hqg)
  obtain ⟨d1,r1⟩:=hG.row
  obtain ⟨d5,r5⟩:=hG.w.row
  obtain ⟨d6,r6⟩:=SI_at hG.w hqg
  rw [hgq] at r5 r6
  have e1:(qRow L.ws (SI g.q)).length = nc:=by rw [← hgq,hG.w.len,SI_len,hG.lq]
  have e2:∀ d,(qRow L.ws (SI g.q)).getD q d = .sl (L.ws.getD q 0) (g.w q).length:=fun d => by have:=SI_row hG.w hqg d;rw [hgq] at this;exact this
  have e3:L.ws.getD q 0 ∈ L.own:=by simp only [GLay.own,List.mem_cons,List.mem_append];exact .inr (.inr (.inr (.inr (.inr (.inr (.inr hin))))))
  exact ⟨⟨_,_,d1,(hf _ n1).trans r1⟩,⟨d5,(hf _ n2).trans r5⟩,e1,e2,fun hx => ⟨d6,(hf2 hx).trans r6⟩,own_lt hG,e3⟩
 cases h18:D 18 with
 | true =>
  obtain ⟨H1,d,a1,a2,a3⟩:=h.g2 h18
  exact key gp mp H1 a1 hq a2 (fun hx => by rw [h18] at hx;cases hx)
 | false =>
  cases h16:D 16 with
  | false => exact key g false H (h.g0 h16) rfl (fun _ _ => rfl) (fun _ => rfl)
  | true => exact key gp mp H (h.g1 h16 h18) hq (fun _ _ => rfl) (fun _ => rfl)
set_option maxHeartbeats 4000000 in
theorem wildB {d:Deed} {did:V.DidS} {b4 b6:Nat} {fr0:Fr} (hqn:q < nc) (hq:gp.q = g.q) (hlen:(g.w q).length < 1000) (hput:∀ H nx,GRow m nc F g L false H nx→CallN Tryz.prog 27 [.pt L.g 1 0 0,d.av,i64 (-1)] H nx (Put m nc F L H nx gp mp (i64 k)))
  (hown:∀ y ∈ L.own,y < lo) (h4:b4 < lo∧b4 ∉ L.own) (h6:b6 < lo∧b6 ∉ L.own) (hd4:∃ e,getH H0 b4 = some (.row 62 7 e [did.av])) (hd6:∃ e,getH H0 b6 = some (.row 74 5 e [d.av])) (hcore:did.core = q)
  (f0:getF fr0 0 = .pt L.g 1 0 0) (f4:getF fr0 4 = .pt b4 1 0 0) (f6:getF fr0 6 = .pt b6 1 0 0) :
  Wild Tryz.prog opsB psB (fun D fr H nx => ∃ b,VAt opsB D (valB L nc b4 q (g.w q).length d k b) fr0 fr∧HpB m nc F g gp mp L q k H0 lo b D H nx):=by
 refine Wild.of (valB L nc b4 q (g.w q).length d k) _ fr0 (by decide) ?_
 intro i gg b D fr H nx hi hD hp hs hv hh
 have hk:i < 19:=by have:=(List.getElem?_eq_some_iff.1 hi).1;simpa [opsB] using this
 have p:∀ (j:Nat) (g':GOp) (t:Nat),opsB[j]? = some g'→g'.dst = some t→j < i→depT opsB psB j i = true→getF fr t = valB L nc b4 q (g.w q).length d k b j:=fun j g' t h1 h2 h3 h4 => hv.val j g' t h1 (hp j h3 h4) h2
 have y0:getF fr 0 = .pt L.g 1 0 0:=(hv.old 0 (by decide)).trans f0
 have y4:getF fr 4 = .pt b4 1 0 0:=(hv.old 4 (by decide)).trans f4
 have y6:getF fr 6 = .pt b6 1 0 0:=(hv.old 6 (by decide)).trans f6
 obtain ⟨d4,r4⟩:=hd4
 obtain ⟨d6,r6⟩:=hd6
 have r4:=(hh.same _ h4.1 h4.2).trans r4
 have r6:=(hh.same _ h6.1 h6.2).trans r6
 obtain ⟨⟨n1,m1,d1,r1⟩,⟨d5,r5⟩,hll,hel,hrow,hlt,hin⟩:=hh.see hq hqn
 have cases:i = 0 ∨ i = 1 ∨ i = 2 ∨ i = 3 ∨ i = 4 ∨ i = 5 ∨ i = 6 ∨ i = 7 ∨ i = 8 ∨ i = 9 ∨ i = 10 ∨ i = 11 ∨ i = 12 ∨ i = 13 ∨ i = 14 ∨ i = 15 ∨ i = 16 ∨ i = 17 ∨ i = 18:=by omega
 rcases cases with rfl|rfl|rfl|rfl|rfl|rfl|rfl|rfl|rfl|rfl|rfl|rfl|rfl|rfl|rfl|rfl|rfl|rfl|rfl <;> (obtain rfl:_ = gg:=by simpa [opsB] using hi)
 ·have p0:=y0
  exact StepN.look (by simp) (r:=.pt L.g 1 0 0) (by simp only [stepL,ev];rw [y0]) ⟨b,fun _ _ => rfl,rfl,hh.look (by decide) (by decide) (by decide)⟩
 ·have p0:=p 0 _ 85 rfl rfl (by decide) (by decide)
  exact StepN.look (by simp) (r:=.pt L.g 1 0 0) (by simp only [stepL,ev];rw [p0];rfl) ⟨b,fun _ _ => rfl,rfl,hh.look (by decide) (by decide) (by decide)⟩
 ·have p1:=p 1 _ 86 rfl rfl (by decide) (by decide)
  exact StepN.look (by simp) (r:=.pt L.g 1 0 5) (by simp only [stepL,ev];rw [p1];simp [valB,r1]) ⟨b,fun _ _ => rfl,rfl,hh.look (by decide) (by decide) (by decide)⟩
 ·have p2:=p 2 _ 87 rfl rfl (by decide) (by decide)
  exact StepN.look (by simp) (r:=.sl L.w nc) (by simp only [stepL,ev];rw [p2];simp [valB,lookA,r1,ldE]) ⟨b,fun _ _ => rfl,rfl,hh.look (by decide) (by decide) (by decide)⟩
 ·have p0:=y4
  exact StepN.look (by simp) (r:=.pt b4 1 0 1) (by simp only [stepL,ev];rw [y4];simp [r4]) ⟨b,fun _ _ => rfl,rfl,hh.look (by decide) (by decide) (by decide)⟩
 ·have p4:=p 4 _ 89 rfl rfl (by decide) (by decide)
  exact StepN.look (by simp) (r:=i64 q) (by simp only [stepL,ev];rw [p4];simp [valB,lookA,r4,ldE,hcore]) ⟨b,fun _ _ => rfl,rfl,hh.look (by decide) (by decide) (by decide)⟩
 ·have p0:=y0
  exact StepN.look (by simp) (r:=.pt L.g 1 0 0) (by simp only [stepL,ev];rw [y0]) ⟨b,fun _ _ => rfl,rfl,hh.look (by decide) (by decide) (by decide)⟩
 ·have p6:=p 6 _ 91 rfl rfl (by decide) (by decide)
  exact StepN.look (by simp) (r:=.pt L.g 1 0 0) (by simp only [stepL,ev];rw [p6];rfl) ⟨b,fun _ _ => rfl,rfl,hh.look (by decide) (by decide) (by decide)⟩
 ·have p7:=p 7 _ 92 rfl rfl (by decide) (by decide)
  exact StepN.look (by simp) (r:=.pt L.g 1 0 5) (by simp only [stepL,ev];rw [p7];simp [valB,r1]) ⟨b,fun _ _ => rfl,rfl,hh.look (by decide) (by decide) (by decide)⟩
 ·have p8:=p 8 _ 93 rfl rfl (by decide) (by decide)
  exact StepN.look (by simp) (r:=.sl L.w nc) (by simp only [stepL,ev];rw [p8];simp [valB,lookA,r1,ldE]) ⟨b,fun _ _ => rfl,rfl,hh.look (by decide) (by decide) (by decide)⟩
 ·have p0:=y4
  exact StepN.look (by simp) (r:=.pt b4 1 0 1) (by simp only [stepL,ev];rw [y4];simp [r4]) ⟨b,fun _ _ => rfl,rfl,hh.look (by decide) (by decide) (by decide)⟩
 ·have p10:=p 10 _ 95 rfl rfl (by decide) (by decide)
  exact StepN.look (by simp) (r:=i64 q) (by simp only [stepL,ev];rw [p10];simp [valB,lookA,r4,ldE,hcore]) ⟨b,fun _ _ => rfl,rfl,hh.look (by decide) (by decide) (by decide)⟩
 ·have p9:=p 9 _ 94 rfl rfl (by decide) (by decide);have p11:=p 11 _ 96 rfl rfl (by decide) (by decide)
  exact StepN.look (by simp) (r:=.pt L.w nc q 0) (by simp only [stepL,ev];rw [p9,p11];simp [valB,iaA,r5,hll,hqn]) ⟨b,fun _ _ => rfl,rfl,hh.look (by decide) (by decide) (by decide)⟩
 ·have p12:=p 12 _ 97 rfl rfl (by decide) (by decide)
  exact StepN.look (by simp) (r:=.sl (L.ws.getD q 0) (g.w q).length) (by simp only [stepL,ev];rw [p12];simp only [valB,List.getD_cons_succ,List.getD_cons_zero,lookA,r5,hll,if_true];simp only [hel];rfl) ⟨b,fun _ _ => rfl,rfl,hh.look (by decide) (by decide) (by decide)⟩
 ·have p0:=y0
  exact StepN.look (by simp) (r:=.pt L.g 1 0 0) (by simp only [stepL,ev];rw [y0]) ⟨b,fun _ _ => rfl,rfl,hh.look (by decide) (by decide) (by decide)⟩
 ·have p0:=y6
  exact StepN.look (by simp) (r:=d.av) (by simp only [stepL,ev];rw [y6];simp [lookA,r6,ldE,Deed.cells]) ⟨b,fun _ _ => rfl,rfl,hh.look (by decide) (by decide) (by decide)⟩
 ·have p14:=p 14 _ 99 rfl rfl (by decide) (by decide)
  have p15:=p 15 _ 100 rfl rfl (by decide) (by decide)
  have h18:D 18 = false:=hs 18 (by decide) (by decide) (by decide)
  have h17:D 17 = false:=hs 17 (by decide) (by decide) (by decide)
  show CallN Tryz.prog 27 ([] ++ [getF fr 99,getF fr 100,i64 (-1)] ++ []) H nx _
  rw [p14,p15]
  refine (hput H nx (hh.g0 hD)).mono ?_
  rintro r H' n' ⟨rfl,hn,hG,hf⟩
  have e17:((17:Nat) == 16) = false:=by decide
  have e18:((18:Nat) == 16) = false:=by decide
  have hlo:=hh.lw
  refine ⟨b,fun _ _ => rfl,rfl,by omega,fun y hy hyo => (hf y (by omega) hyo).trans (hh.same y hy hyo),fun hx => by simp at hx,fun _ _ => hG,?_,?_⟩
  ·simp only [e17,Bool.or_false,h17];intro hx;cases hx
  ·simp only [e18,Bool.or_false,h18];intro hx;cases hx
 ·have p16:=p 16 _ 101 rfl rfl (by decide) (by decide)
  have h18:D 18 = false:=hs 18 (by decide) (by decide) (by decide)
  have h16:D 16 = true:=hp 16 (by decide) (by decide)
  have hlo:=hh.lw
  refine StepN.act (by simp) (r:=.sl nx 1) (u:=(nx,.row 3 1 (i64 0) [i64 k])) (by have p16':getF fr 101 = i64 k:=p16;simp [stepL,evQ,ev,p16',fits,one,Value.oneCell',zav]) ?_
  have hsk:∀ y,y < nx→getH ((nx,some (.row 3 1 (i64 0) [i64 k])) :: H) y = getH H y:=fun y hy => getH_skipEq (by omega)
  have e16:((16:Nat) == 17) = false:=by decide
  have e18:((18:Nat) == 17) = false:=by decide
  refine ⟨nx,fun j hj => ?_,rfl,by omega,fun y hy hyo => (hsk y (by omega)).trans (hh.same y hy hyo),?_,?_,fun _ => ⟨hlo,by omega,i64 0,getH_here _ _ _⟩,?_⟩
  ·have hj17:j ≠ 17:=fun he => by rw [he,hD] at hj;cases hj
   unfold valB
   rcases (by omega:j < 17 ∨ j = 18 ∨ 19 ≤ j) with h5|h5|h5
   ·have:j = 0 ∨ j = 1 ∨ j = 2 ∨ j = 3 ∨ j = 4 ∨ j = 5 ∨ j = 6 ∨ j = 7 ∨ j = 8 ∨ j = 9 ∨ j = 10 ∨ j = 11 ∨ j = 12 ∨ j = 13 ∨ j = 14 ∨ j = 15 ∨ j = 16:=by omega
    rcases this with rfl|rfl|rfl|rfl|rfl|rfl|rfl|rfl|rfl|rfl|rfl|rfl|rfl|rfl|rfl|rfl|rfl <;> rfl
   ·subst h5;rfl
   ·obtain ⟨x,rfl⟩:∃ x,j = x + 19:=⟨j - 19,by omega⟩
    rfl
  ·simp only [e16,Bool.or_false,h16];intro hx;cases hx
  ·intro _ _
   exact (hh.g1 h16 h18).keep (fun y hy => hsk y (hlt y hy)) (by omega)
  ·simp only [e18,Bool.or_false,h18];intro hx;cases hx
 ·have p13:=p 13 _ 98 rfl rfl (by decide) (by decide)
  have p17:=p 17 _ 102 rfl rfl (by decide) (by decide)
  have h16:D 16 = true:=hp 16 (by decide) (by decide)
  have h17:D 17 = true:=hp 17 (by decide) (by decide)
  obtain ⟨b1,b2,d3,b3⟩:=hh.b h17
  obtain ⟨d2,r2⟩:=hrow hD
  have hlo:=hh.lw
  have hne:b ≠ L.ws.getD q 0:=fun he => by have:=hown _ hin;omega
  refine StepN.act (by simp) (r:=.sl (L.ws.getD q 0) ((g.w q).length + 1)) (u:=(L.ws.getD q 0,.row 3 1 d2 ((g.w q).map i64 ++ [i64 k]))) ?_ ?_
  ·have p13':getF fr 98 = .sl (L.ws.getD q 0) (g.w q).length:=p13
   have p17':getF fr 102 = .sl b 1:=p17
   have hm:((g.w q).length + 1) * 8 ≤ maxB:=by show _ ≤ 140737488355328;omega
   simp [stepL,ev,p13',p17',elemsA,szA,b3,r2,hm,-List.getD_eq_getElem?_getD]
  have hsk:∀ y,y ≠ L.ws.getD q 0→getH ((L.ws.getD q 0,some (.row 3 1 d2 ((g.w q).map i64 ++ [i64 k]))) :: H) y = getH H y:=fun y hy => getH_skipEq hy
  have e17:((17:Nat) == 18) = false:=by decide
  have e16:((16:Nat) == 18) = false:=by decide
  refine ⟨b,fun _ _ => rfl,rfl,by omega,fun y hy hyo => (hsk y (fun he => hyo (he ▸ hin))).trans (hh.same y hy hyo),?_,fun _ hx => by simp at hx,?_,fun _ => ⟨H,d2,(hh.g1 h16 hD).keep (fun _ _ => rfl) (by omega),hsk,getH_here _ _ _⟩⟩
  ·simp only [e16,Bool.or_false,h16];intro hx;cases hx
  ·intro _
   exact ⟨b1,by omega,d3,(hsk b hne).trans b3⟩
def restB:List Seg:=[⟨[oN 104 (.ia 1 none 88 90)],[]⟩,⟨[uN (.st false 1 104 103)],[]⟩]
theorem drawB {d:Deed} {did:V.DidS} {b4 b6:Nat} {fr:Fr} {Q:QT} (hG:GRow m nc F g L false H nx) (hqn:q < nc) (hq:gp.q = g.q) (hlen:(g.w q).length < 1000) (hput:∀ H nx,GRow m nc F g L false H nx→CallN Tryz.prog 27 [.pt L.g 1 0 0,d.av,i64 (-1)] H nx (Put m nc F L H nx gp mp (i64 k)))
  (h4:b4 < nx∧b4 ∉ L.own) (h6:b6 < nx∧b6 ∉ L.own) (hd4:∃ e,getH H b4 = some (.row 62 7 e [did.av])) (hd6:∃ e,getH H b6 = some (.row 74 5 e [d.av])) (hcore:did.core = q)
  (f0:getF fr 0 = .pt L.g 1 0 0) (f4:getF fr 4 = .pt b4 1 0 0) (f6:getF fr 6 = .pt b6 1 0 0)
  (hK:∀ H2 n2,GRow m nc F { gp with q:=g.q.set q (g.w q ++ [k]) } L mp H2 n2→nx ≤ n2→(∀ y,y < nx→y ∉ L.own→getH H2 y = getH H y)→Go (Q .normal [] H2 n2)) :
  DrawnW Tryz.prog (⟨opsB,psB⟩ :: restB) fr H nx Q:=by
 refine DrawnW.wildF (s:=⟨opsB,psB⟩) (wildB (lo:=nx) (fr0:=fr) (H0:=H) (b4:=b4) (b6:=b6) (did:=did) hqn hq hlen hput (own_lt hG) h4 h6 hd4 hd6 hcore f0 f4 f6) ⟨0,⟨fun i _ _ _ hL => (by cases hL),fun t _ => rfl⟩,Nat.le_refl _,fun _ _ _ => rfl,fun _ => hG,fun hx => (by cases hx),fun hx => (by cases hx),fun hx => (by cases hx)⟩ ?_
 intro D fr' H' n' hall ⟨b,hv,hh⟩
 have v:=fun (j:Nat) (g':GOp) (t:Nat) (h1:opsB[j]? = some g') (h2:g'.dst = some t) (h3:j < 19) => hv.val j g' t h1 (hall j h3) h2
 have p88:getF fr' 88 = .sl L.w nc:=v 3 _ 88 rfl rfl (by decide)
 have p90:getF fr' 90 = i64 q:=v 5 _ 90 rfl rfl (by decide)
 have p103:getF fr' 103 = .sl (L.ws.getD q 0) ((g.w q).length + 1):=v 18 _ 103 rfl rfl (by decide)
 obtain ⟨H1,d2,hG1,hsame,hrow⟩:=hh.g2 (hall 18 (by decide))
 obtain ⟨_,⟨d5,r5⟩,hll,hel,_,hlt,hin⟩:=hh.see hq hqn
 have e1:stepL n' fr' H' (.ia 1 none (.t 88) (.t 90)) = some (.pt L.w nc q 0,none):=by
  simp [stepL,ev,p88,p90,iaA,r5,hll,hqn]
 have e2:stepL (n' + 1) (putF fr' (some 104) (.pt L.w nc q 0)) H' (.st false 1 (.t 104) (.t 103)) = some (.any,some (L.w,.row 28 1 d5 ((qRow L.ws (SI g.q)).set q (.sl (L.ws.getD q 0) ((g.w q).length + 1))))):=by
  simp only [stepL,ev,putF,getF]
  simp [p103,r5,hll,stE,one,hel,-List.getD_eq_getElem?_getD]
 show optK (stepL n' fr' H' (.ia 1 none (.t 88) (.t 90))) _
 rw [e1]
 show optK (stepL (n' + 1) (putF fr' (some 104) (.pt L.w nc q 0)) H' (.st false 1 (.t 104) (.t 103))) _
 rw [e2]
 have hqg:q < gp.q.length:=by rw [hG1.lq];exact hqn
 have hne:L.w ≠ L.ws.getD q 0:=hG1.w.ne (by rw [SI_len];exact hqg)
 have ap:=GLay.apart hG1.nodup
 have hlo:=hh.lw
 have hsk:∀ y,y ≠ L.w→getH ((L.w,some (.row 28 1 d5 ((qRow L.ws (SI g.q)).set q (.sl (L.ws.getD q 0) ((g.w q).length + 1))))) :: H') y = getH H' y:=fun y hy => getH_skipEq hy
 have hinw:L.ws.getD q 0 ∈ L.ws:=SI_in hG1.w hqg
 refine ⟨[],trivial,hK _ _ ?_ (by omega) (fun y hy hyo => (hsk y (fun he => hyo (by rw [he];simp [GLay.own]))).trans (hh.same y hy hyo))⟩
 have hoth:∀ y,y ≠ L.w→y ≠ L.ws.getD q 0→getH ((L.w,some (.row 28 1 d5 ((qRow L.ws (SI g.q)).set q (.sl (L.ws.getD q 0) ((g.w q).length + 1))))) :: H') y = getH H1 y:=fun y h1 h2 => (hsk y h1).trans (hsame y h2)
 obtain ⟨x1,g1⟩:=hG1.row
 obtain ⟨x2,g2⟩:=hG1.fi
 obtain ⟨x3,g3⟩:=hG1.ev
 obtain ⟨x4,g4⟩:=hG1.fr
 obtain ⟨x5,g5⟩:=hG1.la
 obtain ⟨w1,w2,w3,w4,w5⟩:=ap.w L.w (by simp)
 obtain ⟨v1,v2,v3,v4,v5⟩:=ap.w _ (List.mem_cons_of_mem _ hinw)
 refine ⟨⟨x1,(hoth _ w1 v1).trans g1⟩,⟨x2,(hoth _ w2 v2).trans g2⟩,⟨x3,(hoth _ w3 v3).trans g3⟩,⟨x4,(hoth _ w4 v4).trans g4⟩,⟨x5,(hoth _ w5 v5).trans g5⟩,hG1.af.keep (fun x hx => hoth x (ap.aw x hx L.w (by simp)) (ap.aw x hx _ (List.mem_cons_of_mem _ hinw))),?_,hG1.lf,hG1.lF,hG1.laf,hG1.lla,by show (g.q.set _ _).length = nc;rw [List.length_set,← hq];exact hG1.lq,fun y hy => by have:=hG1.lt y hy;omega,hG1.nodup⟩
 show QAt _ _ 1 _ _ (SI (g.q.set q (g.w q ++ [k]))) _
 rw [SI_set]
 have hGw:QI L.w L.ws g.q H1:=by rw [← hq];exact hG1.w
 refine QAt_same hGw (by rw [SI_len,← hq];exact hqg) _ ⟨d5,_,getH_here _ _ _,by simp⟩ ⟨d2,_,(hsk _ (Ne.symm hne)).trans hrow,by simp⟩ (fun j hj m1 m2 m3 => hoth _ m2 m3)
end
end Go.Proofs.YtflicfkgbjmffaaGreat
end
