import Derived.Test.YtlonbgdonffcbaaGreatDoorM23
import Derived.Test.YtlonbgdonffcbaaGreatDoorM18
section
/- Which turn, and what it does. -/
namespace Go.Proofs.YtlonbgdonffcbaaGreatDoor
open Go Go.cW Go.Proofs
set_option linter.unusedSimpArgs false
set_option linter.unusedVariables false
def out (s:bk) (k:Int):Prop:=k<0∨(s.bf.length:Int)≤k
instance (s:bk) (k:Int):Decidable (out s k):=by unfold out;infer_instance
def kW (s:bk) (k:Int):Int:=if out s k then 180 else 0
theorem fY {o:Obj} {s:bk} {L:Lay} {H:Hp} {nx:Nat} (h:fe o s L H nx) (k:Int):ij Tryz.prog 58 [.pt L.m 1 0 0,i64 k] H nx (i64 (kW s k)):=by
 refine aS AU rfl ?_
 obtain⟨dm,hm⟩:=h.m
 obtain⟨dc,hc⟩:=h.c
 have hel:=dG h
 repeat' (first|((with_reducible refine aF ?_);conv=>whnf)|refine aG ?_|exact aC|with_reducible refine aD ?_ ?_|(apply aA;(·exact cA))|refine aH ?_|((with_reducible refine aB ?_ ?_)<;>intro hc<;>(try simp only[List.length_map,ne_eq,dP] at hc)<;>try(exfalso;omega)))
 ·refine pO.look ?_ dA
  rw[kW,if_pos (by unfold out;omega)]
 ·refine pO.look ?_ dA
  rw[kW,if_neg (by unfold out;omega)]
abbrev Obj.core (o:Obj) (q:Nat):Core:=o.bf.getD q default
def cX (o:Obj) (s:bk) (q:Nat):Instr:=(o.core q).code.getD (s.core q).pc.toNat default
abbrev KL (s:bk) (L:Lay) (q:Nat) (d:AV) (i:Instr):AV:= .agg [.pt L.m 1 0 0, .pt L.c s.bf.length q 0,u8 i.kind,u8 i.op,i64 i.d,i64 i.a,i64 i.b,i64 i.addr,i64 i.to,i64 i.word,i64 i.fr,d]
def Kept (H:Hp) (nx:Nat) (r0:AV):AV→Hp→Nat→Prop:=fun r H' n=>r=r0∧nx≤n∧∀b,b<nx→bd H' b=bd H b
theorem A6 {o:Obj} {s:bk} {L:Lay} {H:Hp} {nx:Nat} (h:fe o s L H nx) {q:Nat} (hq:q<s.bf.length) (hn:s.bf.length=o.bf.length) (hpc:0≤(s.core q).pc∧(s.core q).pc<(o.core q).code.length) (d:Nat):
 bw Tryz.prog 59 [.pt L.m 1 0 0,i64 q, .pt d 1 0 0] H nx (Kept H nx (KL s L q (.pt d 1 0 0) (cX o s q))):=by
 refine aO AW rfl ?_
 obtain⟨dm,hm⟩:=h.m
 obtain⟨dc,hc⟩:=h.c
 have hel:=dG h
 have hei:=eM h hq
 obtain⟨l1,l2,l3,l4,l5⟩:=h.pJ hq
 have hqo:q<o.bf.length:=by omega
 have hpc2:(s.bf.getD q default).pc.toNat<(o.bf.getD q default).code.length:=by
  have h1:(s.bf.getD q default).pc<(o.bf.getD q default).code.length:=hpc.2
  have h2:0≤(s.bf.getD q default).pc:=hpc.1
  omega
 have hpc3:0≤(s.bf.getD q default).pc:=hpc.1
 repeat' (first|((with_reducible refine aF ?_);conv=>whnf)|refine aG ?_|exact aC|with_reducible refine aD ?_ ?_|(apply aA;(·(first|exact hei _|exact dY _ _ _ _ hpc2|exact cA)))|refine aH ?_|((with_reducible refine aB ?_ ?_)<;>intro hc<;>(try simp only[List.length_map,ne_eq,dP] at hc)<;>try(exfalso;omega)))
 exact⟨⟨rfl,cO,dA⟩⟩
def eo (o:Obj) (s:bk) (q:Nat) (i:Instr):Bool:=if i.kind=4 then decide (o.buffer≤(s.core q).buf.length) else if i.kind=5∨i.kind=6∨i.kind=7 then decide ((0:Int)<(s.core q).buf.length) else false
theorem oX {o:Obj} {s:bk} {L:Lay} {H:Hp} {nx:Nat} (h:fe o s L H nx) {q:Nat} (hq:q<s.bf.length) (d:Nat) (i:Instr):
 ij Tryz.prog 60 [KL s L q (.pt d 1 0 0) i] H nx (bl (eo o s q i)):=by
 refine aS AX rfl ?_
 obtain⟨dm,hm⟩:=h.m
 obtain⟨dc,hc⟩:=h.c
 obtain⟨db,hb⟩:=h.cY q hq
 have hel:=dG h
 have hei:=eM h hq
 obtain⟨l1,l2,l3,l4,l5⟩:=h.pJ hq
 repeat' (first|((with_reducible refine aF ?_);conv=>whnf)|refine aG ?_|exact aC|with_reducible refine aD ?_ ?_|(apply aA;(·(first|exact hei _|exact cA)))|refine aH ?_|((with_reducible refine aB ?_ ?_)<;>intro hc<;>(try simp only[List.length_map,ne_eq,dP] at hc)<;>try(exfalso;omega)))
 all_goals refine pO.look ?_ dA
 all_goals simp only[eo]
 ·rw[if_pos (by assumption)]
 ·rw[if_neg (by omega),if_pos (by omega)]
 ·rw[if_neg (by omega),if_pos (by omega)]
 ·rw[if_neg (by omega),if_pos (by omega)]
 ·rw[if_neg (by omega),if_neg (by omega)]
def j3 (k:Int):FuncId:=if k=1 then 78 else if k=2 then 79 else if k=3 then 80 else if k=4 then 81 else if k=5 then 82 else if k=6 then 83 else if k=7 then 84 else if k=8 then 85 else if k=9 then 86 else 87
def act (s:bk) (q:Nat) (i:Instr) (did:dy):bk×dy:=if i.kind=1 then rh s q i did else if i.kind=2 then uX s q i did else if i.kind=3 then lr s q i did else if i.kind=4 then lK s q i did else if i.kind=5 then nZ s q i did else if i.kind=6 then lJ s q i did else if i.kind=7 then doPrint s q i did else if i.kind=8 then nY s q i did else if i.kind=9 then n0 s q i did else nX s q i did
theorem kinds {k:Int} (h:1≤k∧k≤10):k=1∨k=2∨k=3∨k=4∨k=5∨k=6∨k=7∨k=8∨k=9∨k=10:=by omega
theorem lL (k:Int) (h:1≤k∧k≤10):Pure Tryz.prog 61 [u8 k] (fun r=>r= .fn (.func (j3 k)) [] []):=by
 rcases kinds h with rfl|rfl|rfl|rfl|rfl|rfl|rfl|rfl|rfl|rfl
 all_goals exact fi (by simp[cC,cG]) (by kernel_rfl)
structure oF (i:Instr) (code mem:Int):Prop where
 kind:1≤i.kind∧i.kind≤10
 d:0≤i.d∧i.d<16
 a:0≤i.a∧i.a<16
 b:0≤i.b∧i.b<16
 op:i.kind=2→1≤i.op∧i.op≤18
 addr:i.kind=3∨i.kind=4∨i.kind=5→0≤i.addr∧i.addr<mem
 to:i.kind=8∨i.kind=9→0≤i.to∧i.to<code
theorem oE {u:Bool} {n:Int} (h:within u n 16=true):0≤n∧n<16:=by
 simp only[within,Bool.or_eq_true,Bool.and_eq_true,decide_eq_true_eq] at h;omega
theorem lF {n m:Int} (h:within true n m=true):0≤n∧n<m:=by
 simpa[within] using h
theorem kr {i:Instr} {code mem:Int} (h:gw i code mem=true):oF i code mem:=by
 simp only[gw,Bool.and_eq_true] at h
 obtain⟨⟨⟨⟨⟨⟨⟨⟨⟨h1,_⟩,_⟩,h2⟩,h3⟩,h4⟩,h5⟩,h6⟩,h7⟩,_⟩:=h
 have hk:1≤i.kind∧i.kind≤10:=by simpa[kindOk] using h1
 refine⟨hk,oE h3,oE h4,oE h5, ?_, ?_, ?_⟩
 ·intro h;simpa[h] using h2
 ·rintro(h|h|h)<;>rw[h] at h6
  ·rw[show mask 3 i.op=18 from rfl,show decide (dX 18 16≠0)=true by decide] at h6;exact lF h6
  ·rw[show mask 4 i.op=20 from rfl,show decide (dX 20 16≠0)=true by decide] at h6;exact lF h6
  ·rw[show mask 5 i.op=18 from rfl,show decide (dX 18 16≠0)=true by decide] at h6;exact lF h6
 ·rintro(h|h)<;>rw[h] at h7
  ·rw[show mask 8 i.op=32 from rfl,show decide (dX 32 32≠0)=true by decide] at h7;exact lF h7
  ·rw[show mask 9 i.op=36 from rfl,show decide (dX 36 32≠0)=true by decide] at h7;exact lF h7
theorem CG {o:Obj} {s:bk} {L:Lay} {H:Hp} {nx:Nat} (h:fe o s L H nx) {q:Nat} (hq:q<s.bf.length) {d:Nat} {did:dy} (hd:jX L H nx d did) (i:Instr) {code:Int} (ok:oF i code s.mem.length)
 (hbl:(s.core q).buf.length<1000) (hpl:(s.bg.length+1) * 16≤140737488355328):
 bw Tryz.prog (j3 i.kind) [fO s L q d i] H nx (gN o L H nx d (act s q i did).1 (act s q i did).2):=by
 have hk:=kinds ok.kind
 by_cases k1:i.kind=1
 ·simp only[j3,act,if_pos k1];exact G2 h hq hd i ok.d
 by_cases k2:i.kind=2
 ·simp only[j3,act,if_neg k1,if_pos k2]
  have ho:=ok.op k2
  by_cases ht:two i.op=true
  ·exact ME h hq hd i ok.d ok.a ok.b ht
  ·have ht:two i.op=false:=by simpa using ht
   refine MD h hq hd i ok.d ok.a ok.b ht ?_
   simp only[two,Bool.and_eq_false_iff,decide_eq_false_iff_not] at ht;omega
 by_cases k3:i.kind=3
 ·simp only[j3,act,if_neg k1,if_neg k2,if_pos k3];exact A1 h hq hd i ok.d (ok.addr (by omega)) hbl
 by_cases k4:i.kind=4
 ·simp only[j3,act,if_neg k1,if_neg k2,if_neg k3,if_pos k4];exact yI h hq hd i ok.a hbl
 by_cases k5:i.kind=5
 ·simp only[j3,act,if_neg k1,if_neg k2,if_neg k3,if_neg k4,if_pos k5];exact BX h hq hd i ok.d (ok.addr (by omega))
 by_cases k6:i.kind=6
 ·simp only[j3,act,if_neg k1,if_neg k2,if_neg k3,if_neg k4,if_neg k5,if_pos k6];exact xC h hq hd i
 by_cases k7:i.kind=7
 ·simp only[j3,act,if_neg k1,if_neg k2,if_neg k3,if_neg k4,if_neg k5,if_neg k6,if_pos k7];exact xi h hq hd i ok.a hpl
 by_cases k8:i.kind=8
 ·simp only[j3,act,if_neg k1,if_neg k2,if_neg k3,if_neg k4,if_neg k5,if_neg k6,if_neg k7,if_pos k8];exact AN h hq hd i
 by_cases k9:i.kind=9
 ·simp only[j3,act,if_neg k1,if_neg k2,if_neg k3,if_neg k4,if_neg k5,if_neg k6,if_neg k7,if_neg k8,if_pos k9];exact B6 h hq hd i ok.a
 simp only[j3,act,if_neg k1,if_neg k2,if_neg k3,if_neg k4,if_neg k5,if_neg k6,if_neg k7,if_neg k8,if_neg k9];exact AH h hq hd i
end Go.Proofs.YtlonbgdonffcbaaGreatDoor
/- A core's run. -/
namespace Go.Proofs.YtlonbgdonffcbaaGreatDoor
open Go Go.cW Go.Proofs
set_option linter.unusedSimpArgs false
set_option linter.unusedVariables false
theorem fe.eE {o:Obj} {s:bk} {L:Lay} {H H':Hp} {nx nx':Nat} (h:fe o s L H nx) (hf:∀b,b∈L.ids→bd H' b=bd H b) (hn:nx≤nx'):fe o s L H' nx':=by
 obtain⟨d1,h1⟩:=h.m
 obtain⟨d2,h2⟩:=h.c
 obtain⟨d3,h3⟩:=h.mem
 obtain⟨d4,h4⟩:=h.pr
 refine⟨⟨d1,(hf _ (by simp[Lay.ids])).trans h1⟩,⟨d2,(hf _ (by simp[Lay.ids])).trans h2⟩,⟨d3,(hf _ (by simp[Lay.ids])).trans h3⟩,⟨d4,(hf _ (by simp[Lay.ids])).trans h4⟩, ?_,h.lens,fun b hb=>Nat.lt_of_lt_of_le (h.lt b hb) hn,h.nodup⟩
 intro i hi
 obtain⟨d5,h5⟩:=h.cY i hi
 exact⟨d5,(hf _ (by simp only[Lay.ids,List.mem_cons];exact .inr (.inr (.inr (.inr (Lay.jz (by rw[h.lens];exact hi))))))).trans h5⟩
theorem fe.cL {o:Obj} {s:bk} {L:Lay} {H H':Hp} {nx nx':Nat} (h:fe o s L H nx) (hf:∀b,b<nx→bd H' b=bd H b) (hn:nx≤nx'):fe o s L H' nx':=h.eE (fun b hb=>hf b (h.lt b hb)) hn
structure cw (o:Obj):Prop where
 buffer:1≤o.buffer∧o.buffer≤16
 bf:o.bf.length≤8
 mem:o.mem.length≤4096
 code:∀q,q<o.bf.length→1≤(o.core q).code.length∧(o.core q).code.length≤16384
 last:∀q,q<o.bf.length→qU (o.core q)=true
 ok:∀q,q<o.bf.length→∀k,k<(o.core q).code.length→gw ((o.core q).code.getD k default) (o.core q).code.length o.mem.length=true
structure Good (o:Obj) (s:bk):Prop where
 n:s.bf.length=o.bf.length
 mem:s.mem.length=o.mem.length
 pc:∀q,q<s.bf.length→0≤(s.core q).pc∧(s.core q).pc<(o.core q).code.length
 buf:∀q,q<s.bf.length→((s.core q).buf.length:Int)≤o.buffer
 addr:∀q,q<s.bf.length→∀x∈(s.core q).buf,0≤x.addr∧x.addr<s.mem.length
def lY:dy:=⟨0,0,0,0,0,0,false⟩
def bk.inc (s:bk) (q:Nat):bk:=s.cp q { s.core q with pc:=(s.core q).pc+1 }
def fV (o:Obj) (s:bk) (k:Int):bk×dy×Int:=
 if out s k then(s,lY,180) else if(s.core k.toNat).halted=true then(s,lY,0) else if eo o s k.toNat (cX o s k.toNat)=true then(s,lY,181) else
  let r:=act (s.inc k.toNat) k.toNat (cX o s k.toNat) { lY with core:=k,pc:=(s.core k.toNat).pc }
  (r.1,r.2,0)
def Stepped (o:Obj) (L:Lay) (H:Hp) (nx:Nat) (x:bk×dy×Int):AV→Hp→Nat→Prop:=fun r H' n=>
 r= .dD [x.2.1.av,i64 x.2.2]∧nx≤n∧(∃L',fe o x.1 L' H' n∧l6 L L' nx)∧∀b,b<nx→b∉L.ids→bd H' b=bd H b
theorem Stepped.same {o:Obj} {s:bk} {L:Lay} {H H':Hp} {nx n:Nat} (h:fe o s L H nx) {d:dy} {e:Int} (hn:nx≤n) (hf:∀b,b<nx→bd H' b=bd H b):Stepped o L H nx (s,d,e) (.dD [d.av,i64 e]) H' n:=
 ⟨rfl,hn,⟨L,h.cL hf hn,l6.refl _ _⟩,fun b hb _=>hf b hb⟩
theorem EC {L:Lay} {q:Nat} (h:q<L.cY.length):({ L with cY:=L.cY.set q (L.cY.getD q 0) }:Lay)=L:=by
 have e:L.cY.getD q 0=L.cY[q]:=by simp[List.getD,h]
 rw[e,List.set_getElem_self]
theorem qO {s:bk} {q:Nat} (hq:q<s.bf.length):(s.inc q).core q={ s.core q with pc:=(s.core q).pc+1 }:=by
 simp[bk.inc,bk.core,bk.cp,List.getD,hq]
theorem HO {o:Obj} {s:bk} {L:Lay} {H Hc:Hp} {nx nc:Nat} (h:fe o s L H nx) {q:Nat} (hq:q<s.bf.length) (hn:nx≤nc)
 (h1:∃d es,bd Hc L.m=some (.row 77 8 d es)∧es=[jx o s L])
 (h2:∃d es,bd Hc L.c=some (.row 93 19 d es)∧es=(rows s L).set q (bx.av { s.core q with pc:=(s.core q).pc+1 } (L.cY.getD q 0)))
 (h6:∀b,b<nx→b≠L.c→b∈L.ids→bd Hc b=bd H b)
 {d:Nat} {did:dy} (hd:jX L Hc nc d did) (i:Instr) {code:Int} (ok:oF i code s.mem.length)
 (hbl:(s.core q).buf.length<1000) (hpl:(s.bg.length+1) * 16≤140737488355328):
 bw Tryz.prog (j3 i.kind) [fO s L q d i] Hc nc (gN o L Hc nc d (act (s.inc q) q i did).1 (act (s.inc q) q i did).2):=by
 obtain⟨e3,h3⟩:=h.mem
 obtain⟨e4,h4⟩:=h.pr
 obtain⟨e5,h5⟩:=h.cY q hq
 obtain⟨a1,a2,a3,a4,a5,a6,a7,a8,a9,a10⟩:=h.apart hq
 obtain⟨l1,l2,l3,l4,l5⟩:=h.pJ hq
 have hqb:q<L.cY.length:=by rw[h.lens];exact hq
 have hbm:∀j,j<s.bf.length→L.cY.getD j 0∈L.ids:=by
  intro j hj
  simp only[Lay.ids,List.mem_cons]
  exact .inr (.inr (.inr (.inr (Lay.jz (by rw[h.lens];exact hj)))))
 obtain⟨hM,_⟩:=h.next hq { s.core q with pc:=(s.core q).pc+1 } (L.cY.getD q 0) s.mem s.bg hn (.inl rfl) h1 h2
  ⟨e3,_,(h6 _ l3 (Ne.symm a4) (by simp[Lay.ids])).trans h3,rfl⟩ ⟨e4,_,(h6 _ l4 (Ne.symm a5) (by simp[Lay.ids])).trans h4,rfl⟩ ⟨e5,_,(h6 _ l5 (Ne.symm a8) (hbm q hq)).trans h5,rfl⟩
  (fun j hj _ hl _ hc _ _ _=>h6 _ hl hc (hbm j hj))
 rw[EC hqb] at hM
 have hc:=qO hq
 have hlen:(s.inc q).bf.length=s.bf.length:=by simp[bk.inc,bk.cp]
 have hA:=CG (s:=s.inc q) (H:=Hc) hM (q:=q) (by rw[hlen];exact hq) hd i (code:=code) ok (by rw[hc];exact hbl) hpl
 have ht:fO (s.inc q) L q d i=fO s L q d i:=by simp only[fO,hlen]
 rw[ht] at hA
 exact hA
theorem JG {o:Obj} {s:bk} {L:Lay} {H:Hp} {nx:Nat} (h:fe o s L H nx) (k:Int) (hk:out s k):bw Tryz.prog 28 [.pt L.m 1 0 0,i64 k] H nx (Stepped o L H nx (fV o s k)):=by
 refine aO AT rfl ?_
 have he:kW s k=180:=by rw[kW,if_pos hk]
 rw[fV,if_pos hk]
 repeat' (first|((with_reducible refine aF ?_);conv=>whnf)|refine aG ?_|exact aC|with_reducible refine aD ?_ ?_|(apply aA;(·exact cA))|((refine aQ (he▸fY (h.cL dA cO) k) ?_ ?_);(·exact True.intro))|((refine aV (fun _=>he▸fY (h.cL dA cO) k) ?_ ?_);(·exact True.intro))|refine aH ?_|((with_reducible refine aB ?_ ?_)<;>intro hc<;>(try simp only[List.length_map,ne_eq,dP] at hc)<;>try(exfalso;omega)))
 ·exact⟨Stepped.same h cO dA⟩
set_option maxRecDepth 20000 in
theorem BL {o:Obj} {s:bk} {L:Lay} {H:Hp} {nx:Nat} (h:fe o s L H nx) (g:Good o s) (ok:cw o) (hpl:(s.bg.length+1) * 16≤140737488355328) {q:Nat} (hq:q<s.bf.length):bw Tryz.prog 28 [.pt L.m 1 0 0,i64 q] H nx (Stepped o L H nx (fV o s q)):=by
 refine aO AT rfl ?_
 have hk:¬out s q:=by unfold out;omega
 have he:kW s q=0:=by rw[kW,if_neg hk]
 rw[fV,if_neg hk,Int.toNat_natCast]
 have iok:oF (cX o s q) (o.core q).code.length o.mem.length:=kr (ok.ok q (by rw[←g.n];exact hq) (s.core q).pc.toNat (by have:=g.pc q hq;omega))
 repeat' (first|((with_reducible refine aF ?_);conv=>whnf)|refine aG ?_|exact aC|with_reducible refine aD ?_ ?_|(apply aA;(·exact cA))|((refine aQ (he▸fY (h.cL dA cO) q) ?_ ?_);(·exact True.intro))|((refine aV (fun _=>he▸fY (h.cL dA cO) q) ?_ ?_);(·exact True.intro))|refine aH ?_|((with_reducible refine aB ?_ ?_)<;>intro hc<;>(try simp only[List.length_map,ne_eq,dP] at hc)<;>try(exfalso;omega)))
 refine aP (A6 (h.cL dA cO) hq g.n (g.pc q hq) _) ?_
 rintro _ H1 n1 ⟨rfl,hn1,hfr1⟩
 have hlt:=h.pJ hq
 obtain⟨f4,e4⟩:∃df,bd H1 nx=some (ee lY df):=⟨_,(hfr1 _ cO).trans bo⟩
 obtain⟨f7,e7⟩:∃df,bd H1 (nx+1+1+1+1+1+1+1+1+1)=some (ee { lY with core:=q } df):=⟨_,(hfr1 _ cO).trans bo⟩
 have hfr:∀b,b<nx→bd H1 b=bd H b:=fun b hb=>(hfr1 b cO).trans (by repeat(first|exact rfl|(refine Eq.trans (bh (by omega)) ?_)))
 have hn2:nx+10≤n1:=by omega
 have h1:fe o s L H1 n1:=h.cL hfr (by omega)
 rw[ee] at e4 e7
 clear hfr1 hn1
 obtain⟨dm,rm⟩:=h1.m
 obtain⟨dc,rc⟩:=h1.c
 have hel:=dG h1
 have hei:=eM h1 hq
 obtain⟨l1,l2,l3,l4,l5⟩:=hlt
 have hp1:0≤(s.bf.getD q default).pc∧(s.bf.getD q default).pc<16384:=by
  have p1:0≤(s.bf.getD q default).pc∧(s.bf.getD q default).pc<(o.core q).code.length:=g.pc q hq
  have p2:=ok.code q (by rw[←g.n];exact hq)
  omega
 obtain⟨a1,a2,a3,a4,a5,a6,a7,a8,a9,a10⟩:=h1.apart hq
 repeat' (first|((with_reducible refine aF ?_);conv=>whnf)|refine aG ?_|exact aC|with_reducible refine aD ?_ ?_|(apply aA;(·(first|exact hei _|exact cA)))|((refine aQ (oX (h1.cL dA cO) hq _ (cX o s q)) ?_ ?_);(·exact True.intro))|((refine aV (fun _=>oX (h1.cL dA cO) hq _ (cX o s q)) ?_ ?_);(·exact True.intro))|((with_reducible refine aN (lL _ iok.kind) ?_ ?_);(·exact bj))|((with_reducible refine aM (fun _=>lL _ iok.kind) ?_ ?_);(·exact bj))|((with_reducible refine aJ (lL _ iok.kind) ?_ ?_);(·exact bj))|((with_reducible refine aL (fun _=>lL _ iok.kind) ?_ ?_);(·exact bj))|refine aH ?_|((with_reducible refine aB ?_ ?_)<;>intro hc<;>(try simp only[List.length_map,ne_eq,dP] at hc)<;>try(exfalso;omega)))
 ·rw[if_pos (by assumption)]
  exact⟨Stepped.same h cO (by intro _b _hb;repeat(first|exact hfr _ _hb|exact rfl|(refine Eq.trans (bh (by first|omega|(simp only[List.length_cons,List.length_nil];omega))) ?_)))⟩
 ·rw[if_neg (fun hx=>Bool.noConfusion (hx.symm.trans (show(s.core q).halted=false by assumption))),if_pos (by assumption)]
  exact⟨Stepped.same h cO (by intro _b _hb;repeat(first|exact hfr _ _hb|exact rfl|(refine Eq.trans (bh (by first|omega|(simp only[List.length_cons,List.length_nil];omega))) ?_)))⟩
 have hdo:(nx+1+1+1+1+1+1+1+1+1)∉L.ids:=fun hm=>by have:=h.lt _ hm;omega
 have hbl:(s.core q).buf.length<1000:=by have:=g.buf q hq;have:=ok.buffer;omega
 refine aP (HO (did:={ lY with core:=q,pc:=(s.core q).pc }) h1 hq cO ⟨_,_,bo,rfl⟩ ⟨_,_,bo,rfl⟩ (by intro b hb hbc hbi;have:=h.lt b hbi;repeat(first|exact rfl|(refine Eq.trans (bh (by omega)) ?_))) ⟨cO,hdo,⟨_,bo⟩⟩ (cX o s q) (by rw[g.mem];exact iok) hbl hpl) ?_
 rintro _ H2 n2 ⟨hn3,⟨L',hM,hmv⟩,⟨fd,hdr⟩,hfr2⟩
 have hnx:nx∉L.ids:=fun hm=>by have:=h.lt _ hm;omega
 have hn4:nx+11≤n2:=Nat.le_trans cO hn3
 have e4b:bd H2 nx=some (.row 37 7 f4 [lY.av]):=(hfr2 nx cO hnx (by omega)).trans bo
 have hfr3:∀b,b<nx→b∉L.ids→bd H2 b=bd H b:=fun b hb hbo=>by
  obtain⟨o1,o2,o3,o4,o5⟩:=Lay.out hbo (q:=q) (by rw[h.lens];exact hq)
  exact(hfr2 b cO hbo (by omega)).trans (by repeat(first|exact hfr b hb|(refine Eq.trans (bh (by omega)) ?_)))
 have hmv2:∀b,b∈L'.ids→b∈L.ids∨nx+1≤b:=fun b hb=>(hmv.ids b hb).imp id (fun hh=>Nat.le_trans cO hh)
 have hmm:=hmv.m
 rw[ee] at hdr
 clear hfr2 hmv hn3
 repeat' (first|((with_reducible refine aF ?_);conv=>whnf)|refine aG ?_|exact aC|with_reducible refine aD ?_ ?_|(apply aA;(·exact cA))|refine aH ?_|((with_reducible refine aB ?_ ?_)<;>intro hc<;>(try simp only[List.length_map,ne_eq,dP] at hc)<;>try(exfalso;omega)))
 rw[if_neg (fun hx=>Bool.noConfusion (hx.symm.trans (show(s.core q).halted=false by assumption))),if_neg (fun hx=>Bool.noConfusion (hx.symm.trans (show eo o s q (cX o s q)=false by assumption)))]
 refine⟨⟨rfl,cO,⟨L',hM.eE (fun b hb=> ?_) cO,⟨hmm,fun b hb=>(hmv2 b hb).imp id (fun hh=>by omega)⟩⟩,fun b hb hbo=> ?_⟩⟩
 ·have hne:b≠nx:=fun he=>(hmv2 b hb).elim (fun hh=>hnx (he▸hh)) (fun hh=>by omega)
  repeat(first|exact rfl|(refine Eq.trans (bh (by omega)) ?_))
 ·repeat(first|exact hfr3 b hb hbo|(refine Eq.trans (bh (by omega)) ?_))
theorem GZ {o:Obj} {s:bk} {L:Lay} {H:Hp} {nx:Nat} (h:fe o s L H nx) (g:Good o s) (ok:cw o) (hpl:(s.bg.length+1) * 16≤140737488355328) (k:Int):bw Tryz.prog 28 [.pt L.m 1 0 0,i64 k] H nx (Stepped o L H nx (fV o s k)):=by
 by_cases hk:out s k
 ·exact JG h k hk
 ·have h2:k=(k.toNat:Int):=by unfold out at hk;omega
  rw[h2]
  exact BL h g ok hpl (by unfold out at hk;omega)
end Go.Proofs.YtlonbgdonffcbaaGreatDoor
end
section
/- A core's drain. -/
namespace Go.Proofs.YtlonbgdonffcbaaGreatDoor
open Go Go.cW Go.Proofs
set_option linter.unusedSimpArgs false
set_option linter.unusedVariables false
def dO (o:Obj) (s:bk) (k:Int):bk×dy×Int:=
 if out s k then(s,lY,180) else match(s.core k.toNat).buf with
  |[]=>(s,lY,0)
  |x::t=>({ s.cp k.toNat { s.core k.toNat with buf:=t } with mem:=s.mem.set x.addr.toNat x.word },⟨8,k,x.pc,x.addr,x.word,0,false⟩,0)
theorem zk {o:Obj} {s:bk} {L:Lay} {H:Hp} {nx:Nat} (h:fe o s L H nx) (k:Int) (hk:out s k):bw Tryz.prog 29 [.pt L.m 1 0 0,i64 k] H nx (Stepped o L H nx (dO o s k)):=by
 refine aO xT rfl ?_
 have he:kW s k=180:=by rw[kW,if_pos hk]
 rw[dO,if_pos hk]
 repeat' (first|((with_reducible refine aF ?_);conv=>whnf)|refine aG ?_|exact aC|with_reducible refine aD ?_ ?_|(apply aA;(·exact cA))|((refine aQ (he▸fY (h.cL dA cO) k) ?_ ?_);(·exact True.intro))|((refine aV (fun _=>he▸fY (h.cL dA cO) k) ?_ ?_);(·exact True.intro))|refine aH ?_|((with_reducible refine aB ?_ ?_)<;>intro hc<;>(try simp only[List.length_map,ne_eq,dP] at hc)<;>try(exfalso;omega)))
 ·exact⟨Stepped.same h cO dA⟩
theorem zj {o:Obj} {s:bk} {L:Lay} {H:Hp} {nx:Nat} (h:fe o s L H nx) {q:Nat} (hq:q<s.bf.length) (hbuf:(s.core q).buf=[]):bw Tryz.prog 29 [.pt L.m 1 0 0,i64 q] H nx (Stepped o L H nx (dO o s q)):=by
 refine aO xT rfl ?_
 have hk:¬out s q:=by unfold out;omega
 have he:kW s q=0:=by rw[kW,if_neg hk]
 rw[dO,if_neg hk,Int.toNat_natCast,hbuf]
 obtain⟨dm,rm⟩:=h.m
 obtain⟨dc,rc⟩:=h.c
 obtain⟨db,rb⟩:=h.cY q hq
 have hel:=dG h
 have hei:=eM h hq
 have hbuf2:(s.bf.getD q default).buf=[]:=hbuf
 simp only[bx.av,hbuf2] at hei rb
 obtain⟨l1,l2,l3,l4,l5⟩:=h.pJ hq
 repeat' (first|((with_reducible refine aF ?_);conv=>whnf)|refine aG ?_|exact aC|with_reducible refine aD ?_ ?_|(apply aA;(·(first|exact hei _|exact cA)))|((refine aQ (he▸fY (h.cL dA cO) q) ?_ ?_);(·exact True.intro))|((refine aV (fun _=>he▸fY (h.cL dA cO) q) ?_ ?_);(·exact True.intro))|refine aH ?_|((with_reducible refine aB ?_ ?_)<;>intro hc<;>(try simp only[List.length_map,ne_eq,dP] at hc)<;>try(exfalso;omega)))
 exact⟨Stepped.same h cO dA⟩
theorem C8 {o:Obj} {s:bk} {L:Lay} {H:Hp} {nx:Nat} (h:fe o s L H nx) (g:Good o s) (ok:cw o) {q:Nat} (hq:q<s.bf.length) {x:dC} {t:List dC} (hbuf:(s.core q).buf=x::t):bw Tryz.prog 29 [.pt L.m 1 0 0,i64 q] H nx (Stepped o L H nx (dO o s q)):=by
 refine aO xT rfl ?_
 have hk:¬out s q:=by unfold out;omega
 have he:kW s q=0:=by rw[kW,if_neg hk]
 rw[dO,if_neg hk,Int.toNat_natCast,hbuf]
 obtain⟨dm,rm⟩:=h.m
 obtain⟨dc,rc⟩:=h.c
 obtain⟨dmem,rmem⟩:=h.mem
 obtain⟨dpr,rpr⟩:=h.pr
 obtain⟨db,rb⟩:=h.cY q hq
 have hel:=dG h
 have hei:=eM h hq
 have hbuf2:(s.bf.getD q default).buf=x::t:=hbuf
 have hx:=g.addr q hq x (by rw[hbuf];simp)
 have hbl:t.length<1000:=by
  have h1:=g.buf q hq
  have h2:=ok.buffer
  rw[hbuf,List.length_cons] at h1;omega
 simp only[bx.av,hbuf2,List.length_cons,List.map_cons] at hei rb
 obtain⟨l1,l2,l3,l4,l5⟩:=h.pJ hq
 obtain⟨a1,a2,a3,a4,a5,a6,a7,a8,a9,a10⟩:=h.apart hq
 repeat' (first|((with_reducible refine aF ?_);conv=>whnf)|refine aG ?_|exact aC|with_reducible refine aD ?_ ?_|(apply aA;(·(first|exact hei _|exact cA)))|((refine aQ (he▸fY (h.cL dA cO) q) ?_ ?_);(·exact True.intro))|((refine aV (fun _=>he▸fY (h.cL dA cO) q) ?_ ?_);(·exact True.intro))|refine aH ?_|((with_reducible refine aB ?_ ?_)<;>intro hc<;>(try simp only[List.length_map,ne_eq,dP] at hc)<;>try(exfalso;omega)))
 have hlen:((t.length+1:Nat):Int) - 1=(t.length:Int):=by omega
 have hlen2:(((t.length+1:Nat):Int) - 1).toNat=t.length:=by rw[hlen];simp
 refine⟨⟨rfl,cO,⟨_,h.next hq { s.core q with buf:=t } (nx+34) (s.mem.set x.addr.toNat x.word) s.bg cO (.inr ⟨cO,cO⟩) ⟨_,_,bo,(by simp only[List.length_set])⟩ ⟨_,_,bo,(by rw[hlen2];rfl)⟩ ⟨_,_,bo,(by rw[List.map_set])⟩ ⟨_,_,bo,rfl⟩ ⟨_,_,bo, ?_⟩ (by intro j hj hne hlt n1 n2 n3 n4 n5;repeat(first|exact rfl|(refine Eq.trans (bh (by omega)) ?_)))⟩,(by intro b' hb' hout;obtain⟨o1,o2,o3,o4,o5⟩:=Lay.out hout (q:=q) (by rw[h.lens];exact hq);repeat(first|exact rfl|(refine Eq.trans (bh (by omega)) ?_)))⟩⟩
 rw[hlen2]
 have e1:t.length+1 - Int.toNat 1=t.length:=by simp
 have e2:List.drop (Int.toNat 1) (x.av::List.map dC.av t)=List.map dC.av t:=rfl
 rw[e1,e2,List.take_of_length_le (by simp)]
 simp
 exact List.take_of_length_le (by simp)
theorem wq {o:Obj} {s:bk} {L:Lay} {H:Hp} {nx:Nat} (h:fe o s L H nx) (g:Good o s) (ok:cw o) (k:Int):bw Tryz.prog 29 [.pt L.m 1 0 0,i64 k] H nx (Stepped o L H nx (dO o s k)):=by
 by_cases hk:out s k
 ·exact zk h k hk
 ·have h2:k=(k.toNat:Int):=by unfold out at hk;omega
  rw[h2]
  have hq:k.toNat<s.bf.length:=by unfold out at hk;omega
  cases hb:(s.core k.toNat).buf with
  |nil=>exact zj h hq hb
  |cons x t=>exact C8 h g ok hq hb
def cn (o:Obj) (s:bk) (kind k:Int):bk×dy×Int:=if kind=1 then fV o s k else if kind=2 then dO o s k else(s,lY,182)
theorem G6 {o:Obj} {s:bk} {L:Lay} {H:Hp} {nx:Nat} (h:fe o s L H nx) (g:Good o s) (ok:cw o) (hpl:(s.bg.length+1) * 16≤140737488355328) (k:Int):bw Tryz.prog 10 [.pt L.m 1 0 0, .agg [u8 1,i64 k]] H nx (Stepped o L H nx (fV o s k)):=by
 refine aO xS rfl ?_
 repeat' (first|((with_reducible refine aF ?_);conv=>whnf)|refine aG ?_|exact aC|with_reducible refine aD ?_ ?_|(apply aA;(·exact cA))|refine aH ?_|((with_reducible refine aB ?_ ?_)<;>intro hc<;>(try simp only[List.length_map,ne_eq,dP] at hc)<;>try(exfalso;omega)))
 refine aP (GZ (h.cL dA cO) g ok hpl _) ?_
 rintro _ H2 n2 ⟨rfl,hn3,⟨L',hM,hmv⟩,hfr2⟩
 have hlt:=h.lt
 have hnx:nx+1∉L.ids:=fun hm=>by have:=h.lt _ hm;omega
 have hn4:nx+3≤n2:=Nat.le_trans cO hn3
 have e4b:bd H2 (nx+1)=some (.row 37 7 _ [lY.av]):=(hfr2 _ cO hnx).trans bo
 have hfr3:∀b,b<nx→b∉L.ids→bd H2 b=bd H b:=fun b hb hbo=>(hfr2 b cO hbo).trans (by repeat(first|exact rfl|(refine Eq.trans (bh (by omega)) ?_)))
 have hmv2:∀b,b∈L'.ids→b∈L.ids∨nx+2≤b:=fun b hb=>(hmv.ids b hb).imp id (fun hh=>Nat.le_trans cO hh)
 have hmm:=hmv.m
 clear hfr2 hmv hn3
 repeat' (first|((with_reducible refine aF ?_);conv=>whnf)|refine aG ?_|exact aC|with_reducible refine aD ?_ ?_|(apply aA;(·exact cA))|refine aH ?_|((with_reducible refine aB ?_ ?_)<;>intro hc<;>(try simp only[List.length_map,ne_eq,dP] at hc)<;>try(exfalso;omega)))
 refine⟨⟨rfl,cO,⟨L',hM.eE (fun b hb=> ?_) cO,⟨hmm,fun b hb=>(hmv2 b hb).imp id (fun hh=>by omega)⟩⟩,fun b hb hbo=> ?_⟩⟩
 ·have hne:b≠nx+1:=fun he=>(hmv2 b hb).elim (fun hh=>hnx (he▸hh)) (fun hh=>by omega)
  repeat(first|exact rfl|(refine Eq.trans (bh (by omega)) ?_))
 ·repeat(first|exact hfr3 b hb hbo|(refine Eq.trans (bh (by omega)) ?_))
theorem yG {o:Obj} {s:bk} {L:Lay} {H:Hp} {nx:Nat} (h:fe o s L H nx) (g:Good o s) (ok:cw o) (hpl:(s.bg.length+1) * 16≤140737488355328) (k:Int):bw Tryz.prog 10 [.pt L.m 1 0 0, .agg [u8 2,i64 k]] H nx (Stepped o L H nx (dO o s k)):=by
 refine aO xS rfl ?_
 repeat' (first|((with_reducible refine aF ?_);conv=>whnf)|refine aG ?_|exact aC|with_reducible refine aD ?_ ?_|(apply aA;(·exact cA))|refine aH ?_|((with_reducible refine aB ?_ ?_)<;>intro hc<;>(try simp only[List.length_map,ne_eq,dP] at hc)<;>try(exfalso;omega)))
 refine aP (wq (h.cL dA cO) g ok _) ?_
 rintro _ H2 n2 ⟨rfl,hn3,⟨L',hM,hmv⟩,hfr2⟩
 have hlt:=h.lt
 have hnx:nx+1∉L.ids:=fun hm=>by have:=h.lt _ hm;omega
 have hn4:nx+3≤n2:=Nat.le_trans cO hn3
 have e4b:bd H2 (nx+1)=some (.row 37 7 _ [lY.av]):=(hfr2 _ cO hnx).trans bo
 have hfr3:∀b,b<nx→b∉L.ids→bd H2 b=bd H b:=fun b hb hbo=>(hfr2 b cO hbo).trans (by repeat(first|exact rfl|(refine Eq.trans (bh (by omega)) ?_)))
 have hmv2:∀b,b∈L'.ids→b∈L.ids∨nx+2≤b:=fun b hb=>(hmv.ids b hb).imp id (fun hh=>Nat.le_trans cO hh)
 have hmm:=hmv.m
 clear hfr2 hmv hn3
 repeat' (first|((with_reducible refine aF ?_);conv=>whnf)|refine aG ?_|exact aC|with_reducible refine aD ?_ ?_|(apply aA;(·exact cA))|refine aH ?_|((with_reducible refine aB ?_ ?_)<;>intro hc<;>(try simp only[List.length_map,ne_eq,dP] at hc)<;>try(exfalso;omega)))
 refine⟨⟨rfl,cO,⟨L',hM.eE (fun b hb=> ?_) cO,⟨hmm,fun b hb=>(hmv2 b hb).imp id (fun hh=>by omega)⟩⟩,fun b hb hbo=> ?_⟩⟩
 ·have hne:b≠nx+1:=fun he=>(hmv2 b hb).elim (fun hh=>hnx (he▸hh)) (fun hh=>by omega)
  repeat(first|exact rfl|(refine Eq.trans (bh (by omega)) ?_))
 ·repeat(first|exact hfr3 b hb hbo|(refine Eq.trans (bh (by omega)) ?_))
theorem G5 {o:Obj} {s:bk} {L:Lay} {H:Hp} {nx:Nat} (h:fe o s L H nx) (kind k:Int) (h1:kind≠1) (h2:kind≠2):bw Tryz.prog 10 [.pt L.m 1 0 0, .agg [u8 kind,i64 k]] H nx (Stepped o L H nx (s,lY,182)):=by
 refine aO xS rfl ?_
 repeat' (first|((with_reducible refine aF ?_);conv=>whnf)|refine aG ?_|exact aC|with_reducible refine aD ?_ ?_|(apply aA;(·exact cA))|refine aH ?_|((with_reducible refine aB ?_ ?_)<;>intro hc<;>(try simp only[List.length_map,ne_eq,dP] at hc)<;>try(exfalso;omega)))
 ·exact⟨Stepped.same h cO dA⟩
theorem nz {o:Obj} {s:bk} {L:Lay} {H:Hp} {nx:Nat} (h:fe o s L H nx) (g:Good o s) (ok:cw o) (hpl:(s.bg.length+1) * 16≤140737488355328) (kind k:Int):bw Tryz.prog 10 [.pt L.m 1 0 0, .agg [u8 kind,i64 k]] H nx (Stepped o L H nx (cn o s kind k)):=by
 unfold cn
 by_cases h1:kind=1
 ·subst h1;exact G6 h g ok hpl k
 rw[if_neg h1]
 by_cases h2:kind=2
 ·subst h2;exact yG h g ok hpl k
 rw[if_neg h2]
 exact G5 h kind k h1 h2
end Go.Proofs.YtlonbgdonffcbaaGreatDoor
/- Lists cloned. -/
namespace Go.Proofs.YtlonbgdonffcbaaGreatDoor
open Go Go.cW Go.Proofs
set_option linter.unusedSimpArgs false
set_option linter.unusedVariables false
def gK (H:Hp) (nx:Nat) (e:TypeId) (sz:Nat) (es:List AV):AV→Hp→Nat→Prop:=fun r H' n=>∃b' d',r= .sl b' es.length∧nx≤b'∧b'<n∧nx≤n∧bd H' b'=some (.row e sz d' es)∧∀b,b<nx→bd H' b=bd H b
theorem gK.of {P:Program} {f:FuncId} {args:List AV} {H:Hp} {nx:Nat} {e:TypeId} {sz:Nat} {es:List AV} (hsz:0<sz) (h:bw P f args H nx (fun r H' n=>(r= .sc (.slice none 0 0)∧es=[]∧nx≤n∧∀b,b<nx→bd H' b=bd H b)∨gK H nx e sz es r H' n)):bw P f args H nx (gK H nx e sz es):=by
 refine h.wk ?_
 rintro r H' n (⟨rfl,rfl,h1,h2⟩|h1)
 ·refine⟨_,_,_,Wk.nil (nx:=n) e sz .any hsz,n, .any,rfl,h1,Nat.lt_succ_self _,by omega,cK _ _ _,fun b hb=> ?_⟩
  rw[bh (by omega)];exact h2 b hb
 ·exact⟨r,H',n,Wk.refl _ _ _,h1⟩
theorem pj {es:List AV} (hsz:es.length * 8≤140737488355328):bw Tryz.prog 27 [.im 1 .any es] [] 0 (gK [] 0 2 1 es):=by
 refine gK.of (by omega) ?_
 refine aO EP rfl ?_
 cases hes:es with
 |nil=>
  repeat' (first|((with_reducible refine aF ?_);conv=>whnf)|refine aG ?_|exact aC|with_reducible refine aD ?_ ?_|(apply aA;(·exact cA))|refine aH ?_|((with_reducible refine aB ?_ ?_)<;>intro hc<;>(try simp only[List.length_map,ne_eq,dP] at hc)<;>try(exfalso;omega)))
  ·exact⟨.inl ⟨rfl,rfl,cO,dA⟩⟩
  ·exact⟨.inr ⟨_,_,rfl,cO,cO,cO,bo,dA⟩⟩
 |cons x t=>
  rw[hes] at hsz
  simp only[List.length_cons] at hsz
  repeat' (first|((with_reducible refine aF ?_);conv=>whnf)|refine aG ?_|exact aC|with_reducible refine aD ?_ ?_|(apply aA;(·exact cA))|refine aH ?_|((with_reducible refine aB ?_ ?_)<;>intro hc<;>(try simp only[List.length_map,ne_eq,dP] at hc)<;>try(exfalso;omega)))
  ·exact⟨.inr ⟨3,_,(by simp),cO,cO,cO,bo,dA⟩⟩
theorem fu {es:List AV} (hsz:es.length * 8≤140737488355328):bw Tryz.prog 27 [.im 1 .any es] [] 0 (fun r1 H1 _=>∃b d0,r1= .sl b es.length∧bd H1 b=some (.row 2 1 d0 es)):=
 (pj hsz).mono fun r H n ⟨b,d,h1,_,_,_,h2,_⟩=>⟨b,d,h1,h2⟩
theorem nU {es:List AV} (hsz:es.length * 8≤140737488355328) (hf:cG 0 es):Pure Tryz.prog 27 [.im 1 .any es] (fun r=>r= .im 1 .any es):=(fu hsz).tc hf
theorem oh {es:List AV} (hsz:es.length * 24≤140737488355328):bw Tryz.prog 92 [.im 3 .any es] [] 0 (gK [] 0 125 3 es):=by
 refine gK.of (by omega) ?_
 refine aO F5 rfl ?_
 cases hes:es with
 |nil=>
  repeat' (first|((with_reducible refine aF ?_);conv=>whnf)|refine aG ?_|exact aC|with_reducible refine aD ?_ ?_|(apply aA;(·exact cA))|refine aH ?_|((with_reducible refine aB ?_ ?_)<;>intro hc<;>(try simp only[List.length_map,ne_eq,dP] at hc)<;>try(exfalso;omega)))
  ·exact⟨.inl ⟨rfl,rfl,cO,dA⟩⟩
  ·exact⟨.inr ⟨_,_,rfl,cO,cO,cO,bo,dA⟩⟩
 |cons x t=>
  rw[hes] at hsz
  simp only[List.length_cons] at hsz
  repeat' (first|((with_reducible refine aF ?_);conv=>whnf)|refine aG ?_|exact aC|with_reducible refine aD ?_ ?_|(apply aA;(·exact cA))|refine aH ?_|((with_reducible refine aB ?_ ?_)<;>intro hc<;>(try simp only[List.length_map,ne_eq,dP] at hc)<;>try(exfalso;omega)))
  ·exact⟨.inr ⟨3,_,(by simp),cO,cO,cO,bo,dA⟩⟩
theorem kL {es:List AV} (hsz:es.length * 24≤140737488355328):bw Tryz.prog 92 [.im 3 .any es] [] 0 (fun r1 H1 _=>∃b d0,r1= .sl b es.length∧bd H1 b=some (.row 125 3 d0 es)):=
 (oh hsz).mono fun r H n ⟨b,d,h1,_,_,_,h2,_⟩=>⟨b,d,h1,h2⟩
theorem mR {es:List AV} (hsz:es.length * 24≤140737488355328) (hf:cG 0 es):Pure Tryz.prog 92 [.im 3 .any es] (fun r=>r= .im 3 .any es):=(kL hsz).tc hf
theorem og {es:List AV} (hsz:es.length * 16≤140737488355328):bw Tryz.prog 34 [.im 2 .any es] [] 0 (gK [] 0 68 2 es):=by
 refine gK.of (by omega) ?_
 refine aO EU rfl ?_
 cases hes:es with
 |nil=>
  repeat' (first|((with_reducible refine aF ?_);conv=>whnf)|refine aG ?_|exact aC|with_reducible refine aD ?_ ?_|(apply aA;(·exact cA))|refine aH ?_|((with_reducible refine aB ?_ ?_)<;>intro hc<;>(try simp only[List.length_map,ne_eq,dP] at hc)<;>try(exfalso;omega)))
  ·exact⟨.inl ⟨rfl,rfl,cO,dA⟩⟩
  ·exact⟨.inr ⟨_,_,rfl,cO,cO,cO,bo,dA⟩⟩
 |cons x t=>
  rw[hes] at hsz
  simp only[List.length_cons] at hsz
  repeat' (first|((with_reducible refine aF ?_);conv=>whnf)|refine aG ?_|exact aC|with_reducible refine aD ?_ ?_|(apply aA;(·exact cA))|refine aH ?_|((with_reducible refine aB ?_ ?_)<;>intro hc<;>(try simp only[List.length_map,ne_eq,dP] at hc)<;>try(exfalso;omega)))
  ·exact⟨.inr ⟨3,_,(by simp),cO,cO,cO,bo,dA⟩⟩
theorem kK {es:List AV} (hsz:es.length * 16≤140737488355328):bw Tryz.prog 34 [.im 2 .any es] [] 0 (fun r1 H1 _=>∃b d0,r1= .sl b es.length∧bd H1 b=some (.row 68 2 d0 es)):=
 (og hsz).mono fun r H n ⟨b,d,h1,_,_,_,h2,_⟩=>⟨b,d,h1,h2⟩
theorem mQ {es:List AV} (hsz:es.length * 16≤140737488355328) (hf:cG 0 es):Pure Tryz.prog 34 [.im 2 .any es] (fun r=>r= .im 2 .any es):=(kK hsz).tc hf
theorem qz {es:List AV} (hsz:es.length * 64≤140737488355328):bw Tryz.prog 26 [.im 9 .any es] [] 0 (gK [] 0 63 9 es):=by
 refine gK.of (by omega) ?_
 refine aO EO rfl ?_
 cases hes:es with
 |nil=>
  repeat' (first|((with_reducible refine aF ?_);conv=>whnf)|refine aG ?_|exact aC|with_reducible refine aD ?_ ?_|(apply aA;(·exact cA))|refine aH ?_|((with_reducible refine aB ?_ ?_)<;>intro hc<;>(try simp only[List.length_map,ne_eq,dP] at hc)<;>try(exfalso;omega)))
  ·exact⟨.inl ⟨rfl,rfl,cO,dA⟩⟩
  ·exact⟨.inr ⟨_,_,rfl,cO,cO,cO,bo,dA⟩⟩
 |cons x t=>
  rw[hes] at hsz
  simp only[List.length_cons] at hsz
  repeat' (first|((with_reducible refine aF ?_);conv=>whnf)|refine aG ?_|exact aC|with_reducible refine aD ?_ ?_|(apply aA;(·exact cA))|refine aH ?_|((with_reducible refine aB ?_ ?_)<;>intro hc<;>(try simp only[List.length_map,ne_eq,dP] at hc)<;>try(exfalso;omega)))
  ·exact⟨.inr ⟨3,_,(by simp),cO,cO,cO,bo,dA⟩⟩
theorem rA {es:List AV} (hsz:es.length * 64≤140737488355328):bw Tryz.prog 26 [.im 9 .any es] [] 0 (fun r1 H1 _=>∃b d0,r1= .sl b es.length∧bd H1 b=some (.row 63 9 d0 es)):=
 (qz hsz).mono fun r H n ⟨b,d,h1,_,_,_,h2,_⟩=>⟨b,d,h1,h2⟩
theorem oe {es:List AV} (hsz:es.length * 64≤140737488355328) (hf:cG 0 es):Pure Tryz.prog 26 [.im 9 .any es] (fun r=>r= .im 9 .any es):=(rA hsz).tc hf
end Go.Proofs.YtlonbgdonffcbaaGreatDoor
end
