import Derived.Test.YtlonbgdonffcbaaGreatDoorM24
import Derived.Test.YtlonbgdonffcbaaGreatDoorM21
section
/- A new machine. -/
namespace Go.Proofs.YtlonbgdonffcbaaGreatDoor
open Go Go.cY Go.Proofs
set_option linter.unusedSimpArgs false
set_option linter.unusedVariables false
def fC (o:Obj):Bool:=eX o&&(pG o.mem.length o.bg 0).isNone
theorem qN {o:Obj} (h:fC o=true):gq o= .dB [i64 0,i64 0,i64 0]:=by
 simp only[fC,Bool.and_eq_true,Option.isNone_iff_eq_none] at h
 rw[gq,if_pos h.1,h.2]
theorem AP {o:Obj} (h:fC o=false):∃k n:Int,gq o= .dB [i64 160,i64 k,i64 n]:=by
 rw[gq]
 by_cases hs:eX o=true
 ·rw[if_pos hs]
  cases hb:pG o.mem.length o.bg 0 with
  |none=>simp[fC,hs,hb] at h
  |some p=>exact⟨p.1,p.2,rfl⟩
 ·rw[if_neg hs];exact⟨0,0,rfl⟩
theorem gx {o:Obj} (ho:o.Wf) (i:Nat):Pure Tryz.prog 26 [.im 9 .any ((o.bg.getD i default).code.map Instr.av)] (fun r=>r= .im 9 .any ((o.bg.getD i default).code.map Instr.av)):=
 pH (by rw[List.length_map];have:=(ho.at i).len;omega) (by simp[cI,cB])
theorem wy (f:Core→AV) {l:List Core} {i:Nat} (h:i<l.length):(l.take (i+1)).map f=(l.take i).map f++[f (l.getD i default)]:=by
 rw[List.take_succ_eq_append_getElem h,List.map_append];simp[List.getD,h]
def core0:bx:=⟨0,false,fun _=>0,[]⟩
def rS:AV:= .agg (core0.cells (.sc (.slice none 0 0)))
def LW (o:Obj) (H:Hp) (nx:Nat):AV→Hp→Nat→Prop:=fun r H' n=>nx≤n∧∃m c mm v,r= .dB [.pt m 1 0 0,i64 0]∧(nx≤m∧m<n)∧(nx≤c∧c<n)∧(nx≤mm∧mm<n)∧m≠c∧m≠mm∧c≠mm∧
 (∃d es,bf H' m=some (.row 77 8 d es)∧es=[.agg [.sc (.slice none 0 0),i64 o.shared,i64 o.iG,i64 o.buffer,v, .sl c o.bg.length, .sl mm o.mem.length, .sc (.slice none 0 0)]])∧
 (∃d es,bf H' c=some (.row 93 19 d es)∧es=List.replicate o.bg.length rS)∧
 (∃d,bf H' mm=some (.row 2 1 d (o.mem.map i64)))∧
 ((v= .sc (.slice none 0 0)∧o.bg=[])∨∃cb d,v= .sl cb o.bg.length∧(nx≤cb∧cb<n)∧cb≠m∧cb≠c∧cb≠mm∧bf H' cb=some (.row 66 2 d (o.bg.map Core.av)))∧
 ∀b,b<nx→bf H' b=bf H b
def cZ (o:Obj):bk:={ bg:=List.replicate o.bg.length core0,mem:=o.mem,bh:=[] }
set_option maxRecDepth 20000 in
theorem J1 {o:Obj} (ho:o.Wf) (ok:cz o) (h:fC o=true) {H:Hp} {nx:Nat}:bz Tryz.prog 9 [o.av] H nx (LW o H nx):=by
 refine aO O5 rfl ?_
 have hp:=jz o ho
 rw[qN h] at hp
 have hoc:=ok.bg
 repeat' (first|((with_reducible refine aF ?_);conv=>whnf)|refine aG ?_|exact aC|with_reducible refine aD ?_ ?_|(apply aA;(·exact cF))|refine aK (hp) ?_|refine aH ?_|((with_reducible refine aB ?_ ?_)<;>intro hc<;>(try simp only[List.length_map,ne_eq,dW] at hc)<;>try(exfalso;omega)))
 refine aT (fun i:Nat=>[(1, .pt nx 1 0 0),(7, .pt (nx+14) 1 0 0),(23, .im 2 .any (o.bg.map Core.av)),(24,i64 o.bg.length),(25,i64 i)]) (fun i H' n=>i≤o.bg.length∧nx+15≤n∧(∃d,bf H' nx=some (.row 25 5 d [o.av]))∧(∃v d,bf H' (nx+14)=some (.row 25 5 d [.agg [.sc (.slice none 0 0),i64 o.shared,i64 o.iG,i64 o.buffer,v]])∧((i=0∧v= .sc (.slice none 0 0))∨∃cb d' es,0<i∧v= .sl cb i∧nx+15≤cb∧cb<n∧bf H' cb=some (.row 66 2 d' es)∧es=(o.bg.take i).map Core.av))∧∀b,b<nx→bf H' b=bf H b) (fun i=>o.bg.length - i) 0 cG ⟨Nat.zero_le _,cO,⟨_,bo⟩,⟨_,_,bo, .inl ⟨rfl,rfl⟩⟩,dH⟩ ?_
 rintro i H' n ⟨hi,hn,⟨d1,r1⟩,⟨v,d7,r7,hv⟩,hfr⟩
 rcases hv with⟨rfl,rfl⟩|⟨cb,dcb,es,hi0,rfl,hcb1,hcb2,rcb,hes⟩
 ·repeat' (first|((with_reducible refine aF ?_);conv=>whnf)|refine aG ?_|exact aC|with_reducible refine aD ?_ ?_|(apply aA;(·exact cF))|((with_reducible refine aN (gx ho _) ?_ ?_);(·exact bn))|((with_reducible refine aM (fun _=>gx ho _) ?_ ?_);(·exact bn))|((with_reducible refine aJ (gx ho _) ?_ ?_);(·exact bn))|((with_reducible refine aL (fun _=>gx ho _) ?_ ?_);(·exact bn))|refine aH ?_|((with_reducible refine aB ?_ ?_)<;>intro hc<;>(try simp only[List.length_map,ne_eq,dW] at hc)<;>try(exfalso;omega)))
  ·refine⟨0+1,by omega,cG,by omega,cO,⟨_,bo⟩,⟨_,_,bo, .inr ⟨n+14,_,_,by omega,rfl,cO,cO,bo, ?_⟩⟩,(by intro _b _hb;repeat(first|exact hfr _ _hb|exact rfl|(refine Eq.trans (bj (by first|omega|(simp only[List.length_cons,List.length_nil];omega))) ?_)))⟩
   rw[wy _ (by omega)];rfl
  refine aZ (es:=o.mem.map i64) [] .any (gC (by rw[List.length_map];have:=ok.mem;omega)) (fun i hi=>by rw[dR _ _ _ _ (by simpa using hi)];trivial) (fun _ _=>rfl) (by simp[cJ,cB,cI]) ?_
  repeat' (first|((with_reducible refine aF ?_);conv=>whnf)|refine aG ?_|exact aC|with_reducible refine aD ?_ ?_|(apply aA;(·exact cF))|refine aH ?_|((with_reducible refine aB ?_ ?_)<;>intro hc<;>(try simp only[List.length_map,ne_eq,dW] at hc)<;>try(exfalso;omega)))
  refine⟨cO,n+10,n+5,n+8, .sc (.slice none 0 0),rfl,⟨cO,cO⟩,⟨cO,cO⟩,⟨cO,cO⟩,by omega,by omega,by omega,⟨_,_,bo,(by simp only[List.length_map,Int.toNat_natCast];rfl)⟩,⟨_,_,bo,(by simp only[List.length_map,Int.toNat_natCast];rfl)⟩,⟨_,bo⟩, .inl ⟨rfl,List.eq_nil_of_length_eq_zero (by omega)⟩,(by intro _b _hb;repeat(first|exact hfr _ _hb|exact rfl|(refine Eq.trans (bj (by first|omega|(simp only[List.length_cons,List.length_nil];omega))) ?_)))⟩
 ·have hel:es.length=i:=by rw[hes];simp;omega
  repeat' (first|((with_reducible refine aF ?_);conv=>whnf)|refine aG ?_|exact aC|with_reducible refine aD ?_ ?_|(apply aA;(·exact cF))|((with_reducible refine aN (gx ho _) ?_ ?_);(·exact bn))|((with_reducible refine aM (fun _=>gx ho _) ?_ ?_);(·exact bn))|((with_reducible refine aJ (gx ho _) ?_ ?_);(·exact bn))|((with_reducible refine aL (fun _=>gx ho _) ?_ ?_);(·exact bn))|refine aH ?_|((with_reducible refine aB ?_ ?_)<;>intro hc<;>(try simp only[List.length_map,ne_eq,dW] at hc)<;>try(exfalso;omega)))
  ·refine⟨i+1,by omega,cG,by omega,cO,⟨_,bo⟩,⟨_,_,bo, .inr ⟨cb,_,_,by omega,rfl,cO,cO,bo, ?_⟩⟩,(by intro _b _hb;repeat(first|exact hfr _ _hb|exact rfl|(refine Eq.trans (bj (by first|omega|(simp only[List.length_cons,List.length_nil];omega))) ?_)))⟩
   rw[wy _ (by omega),←hes];rfl
  refine aZ (es:=o.mem.map i64) [] .any (gC (by rw[List.length_map];have:=ok.mem;omega)) (fun i hi=>by rw[dR _ _ _ _ (by simpa using hi)];trivial) (fun _ _=>rfl) (by simp[cJ,cB,cI]) ?_
  repeat' (first|((with_reducible refine aF ?_);conv=>whnf)|refine aG ?_|exact aC|with_reducible refine aD ?_ ?_|(apply aA;(·exact cF))|refine aH ?_|((with_reducible refine aB ?_ ?_)<;>intro hc<;>(try simp only[List.length_map,ne_eq,dW] at hc)<;>try(exfalso;omega)))
  refine⟨cO,n+10,n+5,n+8, .sl cb i,rfl,⟨cO,cO⟩,⟨cO,cO⟩,⟨cO,cO⟩,by omega,by omega,by omega,⟨_,_,bo,(by simp only[List.length_map,Int.toNat_natCast];rfl)⟩,⟨_,_,bo,(by simp only[List.length_map,Int.toNat_natCast];rfl)⟩,⟨_,bo⟩, .inr ⟨cb,dcb,by rw[show i=o.bg.length by omega],⟨by omega,cO⟩,by omega,by omega,by omega, ?_⟩,(by intro _b _hb;repeat(first|exact hfr _ _hb|exact rfl|(refine Eq.trans (bj (by first|omega|(simp only[List.length_cons,List.length_nil];omega))) ?_)))⟩
  have e:o.bg.map Core.av=es:=by rw[hes,List.take_of_length_le (by omega)]
  rw[e];(repeat(first|exact cN _ _ _|assumption|refine sm (by first|omega|(simp only[List.length_cons,List.length_nil];omega)) ?_))
end Go.Proofs.YtlonbgdonffcbaaGreatDoor
/- A new machine, told as one. -/
namespace Go.Proofs.YtlonbgdonffcbaaGreatDoor
open Go Go.cY Go.Proofs
set_option linter.unusedSimpArgs false
set_option linter.unusedVariables false
theorem cc.rB (c c2:Cx) (sz:Nat) (d:AV):cc c c2 (.sc (.slice none 0 0)) (.im sz d []):=by
 intro v hv
 rw[VR] at hv
 subst hv
 rw[VR]
 exact⟨none,0,rfl,by simp, .inl rfl⟩
def OD (o:Obj) (H:Hp) (nx:Nat):AV→Hp→Nat→Prop:=fun r H' n=>∃L,r= .dB [.pt L.m 1 0 0,i64 0]∧fS o (cZ o) L H' n∧nx≤n∧(∀b∈L.ids,nx≤b)∧∀b,b<nx→bf H' b=bf H b
def fE (o:Obj) (m c mm n:Nat):Lay:=⟨m,c,mm,n,(List.range o.bg.length).map fun i=>n+1+i⟩
def qz (o:Obj) (m c mm n:Nat) (H':Hp):Hp:=(m,some (.row 77 8 .any [kG o (cZ o) (fE o m c mm n)]))::(c,some (.row 93 19 .any (rows (cZ o) (fE o m c mm n))))::(n,some (.row 68 2 .any []))::AE 125 3 (n+1) o.bg.length H'
theorem J0 (o:Obj) {m c mm n:Nat} (H':Hp) (b:Nat) (h1:b≠m) (h2:b≠c) (h3:b<n):bf (qz o m c mm n H') b=bf H' b:=by
 rw[qz,bj h1,bj h2,bj (by omega),fm,if_neg (by omega)]
theorem zg (o:Obj) (m c mm n:Nat):rows (cZ o) (fE o m c mm n)=(List.range o.bg.length).map fun i=>core0.av (n+1+i):=by
 simp only[rows,cZ,fE]
 apply List.ext_getElem
 ·simp
 ·intro i h1 h2
  simp
theorem rA (o:Obj) {m c mm n:Nat} {b:Nat} (h:b∈(fE o m c mm n).ids):b=m∨b=c∨b=mm∨(n≤b∧b<n+1+o.bg.length):=by
 simp only[fE,Lay.ids,List.mem_cons,List.mem_map,List.mem_range] at h
 rcases h with h|h|h|h|⟨i,hi,h⟩
 ·exact .inl h
 ·exact .inr (.inl h)
 ·exact .inr (.inr (.inl h))
 ·exact .inr (.inr (.inr (by omega)))
 ·exact .inr (.inr (.inr (by omega)))
theorem NA (o:Obj) {m c mm n:Nat} {H2:Hp} {d:AV} (hm:m<n) (hc:c<n) (hmm:mm<n) (a1:m≠c) (a2:m≠mm) (a3:c≠mm)
 (h1:∃d,bf H2 m=some (.row 77 8 d [kG o (cZ o) (fE o m c mm n)])) (h2:∃d,bf H2 c=some (.row 93 19 d (rows (cZ o) (fE o m c mm n))))
 (h3:bf H2 mm=some (.row 2 1 d (o.mem.map i64))) (h4:∃d,bf H2 n=some (.row 68 2 d [])) (h5:∀i,i<o.bg.length→∃d,bf H2 (n+1+i)=some (.row 125 3 d [])):
 fS o (cZ o) (fE o m c mm n) H2 (n+1+o.bg.length):=by
 refine⟨h1,h2,⟨_,h3⟩,h4, ?_, ?_, ?_, ?_⟩
 ·intro i hi
  have hi2:i<o.bg.length:=by simpa[cZ] using hi
  have e1:(fE o m c mm n).c9.getD i 0=n+1+i:=by simp[fE,List.getD,hi2]
  have e2:((cZ o).bg.getD i default).buf=[]:=by simp[cZ,List.getD,hi2,core0]
  rw[e1,e2];exact h5 i hi2
 ·simp[fE,cZ]
 ·intro b hb
  rcases rA o hb with h|h|h|h<;>omega
 ·simp only[fE,Lay.ids,List.nodup_cons,List.mem_cons,not_or,List.mem_map,List.mem_range,not_exists,not_and]
  refine⟨⟨a1,a2,by omega,fun i hi=>by omega⟩,⟨a3,by omega,fun i hi=>by omega⟩,⟨by omega,fun i hi=>by omega⟩,fun i hi=>by omega, ?_⟩
  refine List.pairwise_iff_getElem.2 fun i j hi hj hij=> ?_
  simp;omega
theorem AJ {c c2:Cx} (hle:c.le c2) {b:Nat} (h:cc c c2 (.sc (.slice none 0 0)) (.sl b 0)):cc c c2 rS (core0.av b):=
 cc.agg (.cons (cc.cP hle _) (.cons (cc.cP hle _) (.cons (cc.cP hle _) (.cons (cc.cP hle _) (.cons (cc.cP hle _) (.cons (cc.cP hle _) (.cons (cc.cP hle _) (.cons (cc.cP hle _) (.cons (cc.cP hle _) (.cons (cc.cP hle _) (.cons (cc.cP hle _) (.cons (cc.cP hle _) (.cons (cc.cP hle _) (.cons (cc.cP hle _) (.cons (cc.cP hle _) (.cons (cc.cP hle _) (.cons (cc.cP hle _) (.cons (cc.cP hle _) (.cons h .nil)))))))))))))))))))
theorem wU {o:Obj} {m c mm n:Nat} {H' Hd:Hp} {v:AV} (hm:m<n) (hc:c<n) (hmm:mm<n) (a1:m≠c) (a2:m≠mm) (a3:c≠mm)
 (r1:∃d,bf H' m=some (.row 77 8 d [.agg [.sc (.slice none 0 0),i64 o.shared,i64 o.iG,i64 o.buffer,v, .sl c o.bg.length, .sl mm o.mem.length, .sc (.slice none 0 0)]]))
 (r2:∃d,bf H' c=some (.row 93 19 d (List.replicate o.bg.length rS)))
 (hd:∀b,bf Hd b=bf H' b∨bf Hd b=none)
 (hv2:∀(w0:World) (x x2:Cx),dA w0 x→x.H=bf H'→x2.w=x.w→x.le x2→(∀b k blk p z,bf H' b=some k→bf (qz o m c mm n Hd) b=none→x.ρ b=some (blk,p,z)→¬x2.M blk)→cc x x2 v (.im 2 .any (o.bg.map Core.av))):
 Wk (.dB [.pt m 1 0 0,i64 0]) H' n (.dB [.pt m 1 0 0,i64 0]) (qz o m c mm n Hd) (n+1+o.bg.length):=by
 obtain⟨d1,r1⟩:=r1
 obtain⟨d2,r2⟩:=r2
 have look:∀b,bf (qz o m c mm n Hd) b=if b=m then some (.row 77 8 .any [kG o (cZ o) (fE o m c mm n)]) else if b=c then some (.row 93 19 .any (rows (cZ o) (fE o m c mm n))) else if b=n then some (.row 68 2 .any []) else if n+1≤b∧b<n+1+o.bg.length then some (.row 125 3 .any []) else bf Hd b:=by
  intro b
  rw[qz]
  by_cases h1:b=m
  ·subst h1;rw[cN,if_pos rfl]
  rw[bj h1,if_neg h1]
  by_cases h2:b=c
  ·subst h2;rw[cN,if_pos rfl]
  rw[bj h2,if_neg h2]
  by_cases h3:b=n
  ·subst h3;rw[cN,if_pos rfl]
  rw[bj h3,if_neg h3,fm]
 refine Wk.tell (by omega) (fun b e sz d es he=> ?_) (fun w0 x x2 hS hU hx hx2 hw hle hnew hM=>⟨cc.cP hle _,fun b e sz d es d0 es0 he he0=> ?_⟩)
 ·rw[look] at he
  by_cases h1:b=m
  ·subst h1;rw[if_pos rfl] at he;cases he
   exact .inl ⟨_,_,r1,rfl⟩
  rw[if_neg h1] at he
  by_cases h2:b=c
  ·subst h2;rw[if_pos rfl] at he;cases he
   exact .inl ⟨_,_,r2,by rw[zg];simp⟩
  rw[if_neg h2] at he
  by_cases h3:b=n
  ·subst h3;rw[if_pos rfl] at he;cases he
   exact .inr ⟨by omega,by omega,rfl,by omega⟩
  rw[if_neg h3] at he
  by_cases h4:n+1≤b∧b<n+1+o.bg.length
  ·rw[if_pos h4] at he;cases he
   exact .inr ⟨by omega,by omega,rfl,by omega⟩
  rw[if_neg h4] at he
  rcases hd b with h5|h5
  ·rw[h5] at he;exact .inl ⟨_,_,he,rfl⟩
  ·rw[h5] at he;cases he
 ·have hnil:∀b,(b=n∨(n+1≤b∧b<n+1+o.bg.length))→cc x x2 (.sc (.slice none 0 0)) (.sl b 0):=by
   intro b hb
   have hb2:∃e sz,0<sz∧bf (qz o m c mm n Hd) b=some (.row e sz .any []):=by
    rw[look,if_neg (by omega),if_neg (by omega)]
    rcases hb with h|h
    ·rw[if_pos h];exact⟨_,2,by omega,rfl⟩
    ·rw[if_neg (by omega),if_pos h];exact⟨_,3,by omega,rfl⟩
   obtain⟨e,sz,_,hb3⟩:=hb2
   obtain⟨g1,g2⟩:=hnew b e sz .any (by omega) hb3
   exact cc.nil g1 (by rw[hx2];exact hb3) g2
  rw[look] at he
  by_cases h1:b=m
  ·subst h1;rw[if_pos rfl] at he;cases he
   rw[r1] at he0;cases he0
   have hlen:(cZ o).bg.length=o.bg.length:=by simp[cZ]
   rw[kG,hlen]
   exact .cons (cc.agg (.cons (cc.cP hle _) (.cons (cc.cP hle _) (.cons (cc.cP hle _) (.cons (cc.cP hle _) (.cons (hv2 w0 x x2 hS hx hw hle hM) (.cons (cc.cP hle _) (.cons (cc.cP hle _) (.cons (hnil n (.inl rfl)) .nil))))))))) .nil
  rw[if_neg h1] at he
  by_cases h2:b=c
  ·subst h2;rw[if_pos rfl] at he;cases he
   rw[r2] at he0;cases he0
   rw[zg]
   refine dF.yG (by simp) fun i hi=> ?_
   have hi2:i<o.bg.length:=by simpa using hi
   have e1:(List.replicate o.bg.length rS).getD i .any=rS:=by simp[List.getD,hi2]
   have e2:((List.range o.bg.length).map fun i=>core0.av (n+1+i)).getD i .any=core0.av (n+1+i):=by simp[List.getD,hi2]
   rw[e1,e2]
   exact AJ hle (hnil _ (.inr ⟨by omega,by omega⟩))
  rw[if_neg h2] at he
  by_cases h3:b=n
  ·subst h3;rw[if_pos rfl] at he;cases he
   have:=hU b (hS.row b _ _ _ _ (by rw[hx];exact he0)).1
   omega
  rw[if_neg h3] at he
  by_cases h4:n+1≤b∧b<n+1+o.bg.length
  ·rw[if_pos h4] at he;cases he
   have:=hU b (hS.row b _ _ _ _ (by rw[hx];exact he0)).1
   omega
  rw[if_neg h4] at he
  rcases hd b with h5|h5
  ·rw[h5,he0] at he;cases he;exact dF.cP hle _
  ·rw[h5] at he;cases he
theorem born {o:Obj} {m c mm n nx:Nat} {H Hd:Hp} (hn:nx≤n) (hm:nx≤m∧m<n) (hc:nx≤c∧c<n) (hmm:nx≤mm∧mm<n) (a1:m≠c) (a2:m≠mm) (a3:c≠mm) (r3:∃d,bf Hd mm=some (.row 2 1 d (o.mem.map i64))) (hf:∀b,b<nx→bf Hd b=bf H b):
 OD o H nx (.dB [.pt m 1 0 0,i64 0]) (qz o m c mm n Hd) (n+1+o.bg.length):=by
 obtain⟨d3,r3⟩:=r3
 have look:∀b,bf (qz o m c mm n Hd) b=if b=m then some (.row 77 8 .any [kG o (cZ o) (fE o m c mm n)]) else if b=c then some (.row 93 19 .any (rows (cZ o) (fE o m c mm n))) else if b=n then some (.row 68 2 .any []) else if n+1≤b∧b<n+1+o.bg.length then some (.row 125 3 .any []) else bf Hd b:=by
  intro b
  rw[qz]
  by_cases h1:b=m
  ·subst h1;rw[cN,if_pos rfl]
  rw[bj h1,if_neg h1]
  by_cases h2:b=c
  ·subst h2;rw[cN,if_pos rfl]
  rw[bj h2,if_neg h2]
  by_cases h3:b=n
  ·subst h3;rw[cN,if_pos rfl]
  rw[bj h3,if_neg h3,fm]
 refine⟨fE o m c mm n,rfl, ?_,by omega,fun b hb=> ?_,fun b hb=> ?_⟩
 ·have r3b:bf (qz o m c mm n Hd) mm=some (.row 2 1 d3 (o.mem.map i64)):=by
   rw[look,if_neg (Ne.symm a2),if_neg (Ne.symm a3),if_neg (by omega),if_neg (by omega)];exact r3
  refine NA (d:=d3) o hm.2 hc.2 hmm.2 a1 a2 a3 ⟨_,by rw[look,if_pos rfl]⟩ ⟨_,by rw[look,if_neg (Ne.symm a1),if_pos rfl]⟩ r3b ⟨_,by rw[look,if_neg (by omega),if_neg (by omega),if_pos rfl]⟩ (fun i hi=>⟨_,by rw[look,if_neg (by omega),if_neg (by omega),if_neg (by omega),if_pos (by omega)]⟩)
 ·rcases rA o hb with h|h|h|h<;>omega
 ·rw[look,if_neg (by omega),if_neg (by omega),if_neg (by omega),if_neg (by omega)];exact hf b hb
theorem yE {o:Obj} (ho:o.Wf) (ok:cz o) (h:fC o=true) {H:Hp} {nx:Nat}:bz Tryz.prog 9 [o.av] H nx (OD o H nx):=by
 refine(J1 ho ok h).wk ?_
 rintro r H' n ⟨hn,m,c,mm,v,rfl,hm,hc,hmm,a1,a2,a3,⟨d1,_,r1,rfl⟩,⟨d2,_,r2,rfl⟩,⟨d3,r3⟩,hv,hf⟩
 rcases hv with⟨rfl,hoc⟩|⟨cb,d4,rfl,hcb,b1,b2,b3,r4⟩
 ·refine⟨_,_,_,wU (Hd:=H') hm.2 hc.2 hmm.2 a1 a2 a3 ⟨_,r1⟩ ⟨_,r2⟩ (fun b=> .inl rfl) (fun w0 x x2 _ _ _ _ _=> ?_),born hn hm hc hmm a1 a2 a3 ⟨_,r3⟩ hf⟩
  rw[hoc];exact cc.rB _ _ _ _
 ·refine⟨_,_,_,wU (Hd:=(cb,none)::H') hm.2 hc.2 hmm.2 a1 a2 a3 ⟨_,r1⟩ ⟨_,r2⟩ (fun b=> ?_) (fun w0 x x2 hS hx hw hle hM=> ?_),born hn hm hc hmm a1 a2 a3 ⟨d3,by rw[bj (Ne.symm b3)];exact r3⟩ (fun b hb=>by rw[bj (by omega)];exact hf b hb)⟩
  ·by_cases hb:b=cb
   ·subst hb;exact .inr (cN _ _ _)
   ·exact .inl (bj hb)
  ·have hl:o.bg.length=(o.bg.map Core.av).length:=by simp
   rw[hl]
   refine cc.im hS hle .any hw (by rw[hx];exact r4) (fun blk p z hρ=>hM cb _ blk p z r4 ?_ hρ)
   rw[J0 o _ _ b1 b2 hcb.2,cN]
end Go.Proofs.YtlonbgdonffcbaaGreatDoor
end
section
/- What stays right. -/
namespace Go.Proofs.YtlonbgdonffcbaaGreatDoor
open Go Go.cY Go.Proofs
set_option linter.unusedSimpArgs false
set_option linter.unusedVariables false
theorem od:∀{l pre:List Core},gr pre l=true→∀q,q<l.length→∃p,iX p (l.getD q default)=true
 |[],_,_,q,h=>by simp at h
 |c::r,pre,h,q,hq=>by
  rw[gr,Bool.and_eq_true] at h
  cases q with
  |zero=>exact⟨pre,h.1⟩
  |succ q=>
   obtain⟨p,hp⟩:=od h.2 q (by simpa using hq)
   exact⟨p,by simpa using hp⟩
theorem ui {len mem:Int}:∀{l:List Instr} {k:Nat},nu len mem l k=none→∀q,q<l.length→iI (l.getD q default) len mem=true
 |[],_,_,q,h=>by simp at h
 |i::r,k,h,q,hq=>by
  rw[nu] at h
  by_cases hi:iI i len mem=true
  ·rw[if_pos hi] at h
   cases q with
   |zero=>exact hi
   |succ q=>simpa using ui h q (by simpa using hq)
  ·rw[if_neg hi] at h;cases h
theorem uj {mem:Int}:∀{l:List Core} {k:Nat},pG mem l k=none→∀q,q<l.length→nu (l.getD q default).code.length mem (l.getD q default).code 0=none
 |[],_,_,q,h=>by simp at h
 |c::r,k,h,q,hq=>by
  rw[pG] at h
  cases hb:nu c.code.length mem c.code 0 with
  |some n=>rw[hb] at h;cases h
  |none=>
   rw[hb] at h
   cases q with
   |zero=>exact hb
   |succ q=>simpa using uj h q (by simpa using hq)
theorem nU {o:Obj} (h:fC o=true):cz o:=by
 simp only[fC,Bool.and_eq_true,Option.isNone_iff_eq_none] at h
 obtain⟨h1,h2⟩:=h
 simp only[eX,Bool.and_eq_true,decide_eq_true_eq] at h1
 obtain⟨⟨⟨⟨⟨⟨⟨⟨⟨p1,p2⟩,p3⟩,p4⟩,p5⟩,p6⟩,p7⟩,p8⟩,p9⟩,p10⟩:=h1
 have hc:=fun q (hq:q<o.bg.length)=>od p10 q hq
 refine⟨⟨p7,p8⟩,by omega,by omega,fun q hq=> ?_,fun q hq=> ?_,fun q hq k hk=>ui (uj h2 q hq) k hk⟩
 ·obtain⟨p,hp⟩:=hc q hq
  simp only[iX,Bool.and_eq_true,decide_eq_true_eq] at hp
  exact⟨hp.1.1.2,hp.1.2⟩
 ·obtain⟨p,hp⟩:=hc q hq
  simp only[iX,Bool.and_eq_true,decide_eq_true_eq] at hp
  exact hp.2
theorem BB {o:Obj} (ok:cz o):Good o (cZ o):=by
 have hc:∀q,q<(cZ o).bg.length→(cZ o).core q=core0:=by
  intro q hq
  simp only[cZ,List.length_replicate] at hq
  simp[cZ,List.getD,hq]
 have hl:(cZ o).bg.length=o.bg.length:=by simp[cZ]
 refine⟨hl,rfl,fun q hq=> ?_,fun q hq=> ?_,fun q hq x hx=> ?_⟩
 ·rw[hc q hq]
  have:=ok.code q (by omega)
  exact⟨by decide,by show(0:Int)<_;omega⟩
 ·rw[hc q hq]
  have:=ok.buffer
  show((0:Nat):Int)≤_;omega
 ·rw[hc q hq] at hx;cases hx
theorem DZ {s:bk} {q:Nat} (hq:q<s.bg.length) (c:bx) (j:Nat):(s.cr q c).core j=if j=q then c else s.core j:=by
 by_cases h:j=q
 ·subst h;simp[bk.cr,List.getD,hq]
 ·rw[if_neg h];simp[bk.cr,List.getD,List.getElem?_set_ne (Ne.symm h)]
theorem Good.set {o:Obj} {s:bk} (g:Good o s) {q:Nat} (hq:q<s.bg.length) {c:bx} {mem:List Int} {pr:List cH} (hm:mem.length=s.mem.length) (h1:0≤c.pc∧c.pc<(o.core q).code.length) (h2:(c.buf.length:Int)≤o.buffer) (h3:∀x∈c.buf,0≤x.addr∧x.addr<s.mem.length):
 Good o { s.cr q c with mem:=mem,bh:=pr }:=by
 have hc:=DZ hq c
 have hl:({ s.cr q c with mem:=mem,bh:=pr }:bk).bg.length=s.bg.length:=by simp[bk.cr]
 refine⟨hl.trans g.n,hm.trans g.mem,fun j hj=> ?_,fun j hj=> ?_,fun j hj x hx=> ?_⟩
 ·have e:({ s.cr q c with mem:=mem,bh:=pr }:bk).core j=if j=q then c else s.core j:=hc j
  rw[e]
  split
  ·rename_i h;rw[h];exact h1
  ·exact g.pc j (by rw[hl] at hj;exact hj)
 ·have e:({ s.cr q c with mem:=mem,bh:=pr }:bk).core j=if j=q then c else s.core j:=hc j
  rw[e]
  split
  ·exact h2
  ·exact g.buf j (by rw[hl] at hj;exact hj)
 ·have e:({ s.cr q c with mem:=mem,bh:=pr }:bk).core j=if j=q then c else s.core j:=hc j
  rw[e] at hx
  show 0≤x.addr∧x.addr<mem.length
  rw[hm]
  split at hx
  ·exact h3 x hx
  ·exact g.addr j (by rw[hl] at hj;exact hj) x hx
theorem gH {s:bk} {q:Nat} (c:bx):(s.inc q).cr q c=s.cr q c:=by
 simp[bk.inc,bk.cr]
theorem Good.uX {o:Obj} {s:bk} (g:Good o s) {q:Nat} (hq:q<s.bg.length) {c:bx} (h1:0≤c.pc∧c.pc<(o.core q).code.length) (h2:(c.buf.length:Int)≤o.buffer) (h3:∀x∈c.buf,0≤x.addr∧x.addr<s.mem.length):Good o (s.cr q c):=
 g.set hq (mem:=s.mem) (pr:=s.bh) rfl h1 h2 h3
theorem Good.P5 {o:Obj} {s:bk} (g:Good o s) (ok:cz o) {q:Nat} (hq:q<s.bg.length) (did:eF) (hdp:did.pc=(s.core q).pc) (hst:fA o s q (c8 o s q)=false):Good o (act (s.inc q) q (c8 o s q) did).1:=by
 have hqo:q<o.bg.length:=by rw[←g.n];exact hq
 have iok:mW (c8 o s q) (o.core q).code.length o.mem.length:=lA (ok.ok q hqo (s.core q).pc.toNat (by have:=g.pc q hq;omega))
 have hp:=g.pc q hq
 have hb:=g.buf q hq
 have ha:=g.addr q hq
 have hpc:(c8 o s q).kind≠8→(c8 o s q).kind≠10→(s.core q).pc+1<(o.core q).code.length:=by
  intro h8 h10
  have hl:=ok.last q hqo
  have hlc:=ok.code q hqo
  simp only[qm,Bool.or_eq_true,decide_eq_true_eq] at hl
  refine Decidable.byContradiction fun hn=> ?_
  have he:(s.core q).pc.toNat=(((o.core q).code.length:Int) - 1).toNat:=by omega
  rw[c8,he] at h8 h10
  rcases hl with hl|hl
  ·exact h10 hl
  ·exact h8 hl
 have hc:=qh hq
 have hm:(s.inc q).mem=s.mem:=rfl
 have hpr:(s.inc q).bh=s.bh:=rfl
 generalize c8 o s q=i at *
 have hk:=kinds iok.kind
 by_cases k1:i.kind=1
 ·simp only[act,if_pos k1,sQ,gH,hc]
  exact g.uX hq ⟨by show 0≤(s.core q).pc+1;omega,hpc (by omega) (by omega)⟩ hb ha
 by_cases k2:i.kind=2
 ·simp only[act,if_neg k1,if_pos k2,vB,gH,hc]
  exact g.uX hq ⟨by show 0≤(s.core q).pc+1;omega,hpc (by omega) (by omega)⟩ hb ha
 by_cases k3:i.kind=3
 ·simp only[act,if_neg k1,if_neg k2,if_pos k3,mJ,gH,hc]
  exact g.uX hq ⟨by show 0≤(s.core q).pc+1;omega,hpc (by omega) (by omega)⟩ hb ha
 by_cases k4:i.kind=4
 ·simp only[act,if_neg k1,if_neg k2,if_neg k3,if_pos k4,lR,gH,hc]
  simp only[fA,if_pos k4,decide_eq_false_iff_not] at hst
  refine g.uX hq ⟨by show 0≤(s.core q).pc+1;omega,hpc (by omega) (by omega)⟩ ?_ ?_
  ·show(((s.core q).buf++[_]).length:Int)≤_
   simp only[List.length_append,List.length_cons,List.length_nil];omega
  ·intro x hx
   rcases List.mem_append.1 hx with hx|hx
   ·exact ha x hx
   ·simp only[List.mem_singleton] at hx
    subst hx
    have h2:=iok.addr (by omega)
    rw[g.mem];exact h2
 by_cases k5:i.kind=5
 ·simp only[act,if_neg k1,if_neg k2,if_neg k3,if_neg k4,if_pos k5,oB,gH,hc,hm]
  exact g.set hq (by simp) ⟨by show 0≤(s.core q).pc+1;omega,hpc (by omega) (by omega)⟩ hb ha
 by_cases k6:i.kind=6
 ·simp only[act,if_neg k1,if_neg k2,if_neg k3,if_neg k4,if_neg k5,if_pos k6,lQ,gH,hc]
  exact g.uX hq ⟨by show 0≤(s.core q).pc+1;omega,hpc (by omega) (by omega)⟩ hb ha
 by_cases k7:i.kind=7
 ·simp only[act,if_neg k1,if_neg k2,if_neg k3,if_neg k4,if_neg k5,if_neg k6,if_pos k7,doPrint,gH,hc]
  exact g.set hq (mem:=s.mem) rfl ⟨by show 0≤(s.core q).pc+1;omega,hpc (by omega) (by omega)⟩ hb ha
 by_cases k8:i.kind=8
 ·simp only[act,if_neg k1,if_neg k2,if_neg k3,if_neg k4,if_neg k5,if_neg k6,if_neg k7,if_pos k8,oA,gH,hc]
  exact g.uX hq (iok.to (by omega)) hb ha
 by_cases k9:i.kind=9
 ·simp only[act,if_neg k1,if_neg k2,if_neg k3,if_neg k4,if_neg k5,if_neg k6,if_neg k7,if_neg k8,if_pos k9,oC,gH,hc]
  split
  ·exact g.uX hq (iok.to (by omega)) hb ha
  ·exact g.uX hq ⟨by show 0≤(s.core q).pc+1;omega,hpc (by omega) (by omega)⟩ hb ha
 simp only[act,if_neg k1,if_neg k2,if_neg k3,if_neg k4,if_neg k5,if_neg k6,if_neg k7,if_neg k8,if_neg k9,nz,gH,hc]
 exact g.uX hq (by show 0≤did.pc∧did.pc<_;rw[hdp];exact hp) hb ha
theorem Good.run {o:Obj} {s:bk} (g:Good o s) (ok:cz o) (k:Int):Good o (fD o s k).1:=by
 rw[fD]
 by_cases h1:out s k
 ·rw[if_pos h1];exact g
 rw[if_neg h1]
 by_cases h2:(s.core k.toNat).halted=true
 ·rw[if_pos h2];exact g
 rw[if_neg h2]
 by_cases h3:fA o s k.toNat (c8 o s k.toNat)=true
 ·rw[if_pos h3];exact g
 rw[if_neg h3]
 exact g.P5 ok (by unfold out at h1;omega) _ rfl (by simpa using h3)
theorem Good.drain {o:Obj} {s:bk} (g:Good o s) (k:Int):Good o (dD o s k).1:=by
 rw[dD]
 by_cases h1:out s k
 ·rw[if_pos h1];exact g
 rw[if_neg h1]
 have hq:k.toNat<s.bg.length:=by unfold out at h1;omega
 have hb:=g.buf _ hq
 have ha:=g.addr _ hq
 cases hbuf:(s.core k.toNat).buf with
 |nil=>exact g
 |cons x t=>
  rw[hbuf] at hb ha
  simp only[List.length_cons] at hb
  exact g.set hq (by simp) (g.pc _ hq) (by show(t.length:Int)≤_;omega) (fun y hy=>ha y (by simp[hy]))
theorem Good.step {o:Obj} {s:bk} (g:Good o s) (ok:cz o) (kind k:Int):Good o (cj o s kind k).1:=by
 rw[cj]
 split
 ·exact g.run ok k
 ·split
  ·exact g.drain k
  ·exact g
theorem yT (o:Obj) (s:bk) (k:Int):(fD o s k).1.bh.length≤s.bh.length+1:=by
 have ha:∀(i:Instr) (d:eF) (q:Nat),(act (s.inc q) q i d).1.bh.length≤s.bh.length+1:=by
  intro i d q
  simp only[act]
  repeat' split
  all_goals simp[sQ,vB,mJ,lR,oB,lQ,doPrint,oA,oC,nz,bk.cr,bk.inc]
 rw[fD]
 repeat' split
 all_goals first|exact ha _ _ _|simp
theorem lF (o:Obj) (s:bk) (kind k:Int):(cj o s kind k).1.bh.length≤s.bh.length+1:=by
 rw[cj]
 split
 ·exact yT o s k
 ·split
  ·rw[dD]
   repeat' split
   all_goals simp[bk.cr]
  ·simp
end Go.Proofs.YtlonbgdonffcbaaGreatDoor
/- What the laws ask of a machine. -/
namespace Go.Proofs.YtlonbgdonffcbaaGreatDoor
open Go Go.cY Go.Proofs
set_option linter.unusedSimpArgs false
set_option linter.unusedVariables false
def Made (o:Obj) (H:Hp) (nx:Nat):AV→Hp→Nat→Prop:=fun r H' n=>∃L,r= .dB [.pt L.m 1 0 0,bl true]∧fS o (cZ o) L H' n∧nx≤n∧(∀b∈L.ids,nx≤b)∧∀b,b<nx→bf H' b=bf H b
end Go.Proofs.YtlonbgdonffcbaaGreatDoor
end
section
/- One round with the store drained right behind it. -/
namespace Go.Proofs.YtlonbgdonffcbaaGreatDoor
open Go Go.cY Go.Proofs
set_option linter.unusedSimpArgs false
set_option linter.unusedVariables false
end Go.Proofs.YtlonbgdonffcbaaGreatDoor
/- A machine that is looked at alone. -/
namespace Go.Proofs.YtlonbgdonffcbaaGreatDoor
open Go Go.cY Go.Proofs
set_option linter.unusedSimpArgs false
set_option linter.unusedVariables false
abbrev bx.frozen (c:bx):AV:= .agg (c.cells (.im 3 .any (c.buf.map cx.av)))
def bk.frozen (o:Obj) (s:bk):AV:= .ip 8 .any [.agg [.sc (.slice none 0 0),i64 o.shared,i64 o.iG,i64 o.buffer, .im 2 .any (o.bg.map Core.av), .im 19 .any (s.bg.map bx.frozen), .im 1 .any (s.mem.map i64), .im 2 .any (s.bh.map cH.av)]] 0 0
theorem fS.eM {o:Obj} {s:bk} {L:Lay} {H:Hp} {nx:Nat} (h:fS o s L H nx):eM H 6 (.pt L.m 1 0 0)=s.frozen o:=by
 obtain⟨d1,h1⟩:=h.m
 obtain⟨d2,h2⟩:=h.c
 obtain⟨d3,h3⟩:=h.mem
 obtain⟨d4,h4⟩:=h.pr
 have hcores:(rows s L).map (cY.eM H 3)=s.bg.map bx.frozen:=by
  apply List.ext_getElem
  ·simp[rows,h.lens]
  ·intro i p1 p2
   have hi:i<s.bg.length:=by simpa using p2
   have hib:i<L.c9.length:=by rw[h.lens];exact hi
   obtain⟨d5,h5⟩:=h.c9 i hi
   have e1:L.c9.getD i 0=L.c9[i]:=by simp[List.getD,hib]
   have e2:s.bg.getD i default=s.bg[i]:=by simp[List.getD,hi]
   rw[e1,e2] at h5
   simp only[List.getElem_map,rows,List.getElem_zipWith,bx.av,cY.eM,bx.cells,List.map_cons,List.map_nil,xh,h5]
   rw[if_pos (by simp),eK 1 (by simp[cI,cB,cJ])]
   rfl
 rw[MR (len:=1) h1 (by rfl),bk.frozen]
 simp only[List.map_cons,List.map_nil,cY.eM,xh,h2,h3,h4]
 rw[if_pos (dK h),if_pos (by simp),if_pos (by simp),hcores,eK 3 (by simp[cI,cB]),eK 3 (by simp[cI,cB,cJ])]
theorem ic (o:Obj) (s:bk):cB 0 (s.frozen o):=by
 simp[bk.frozen,cB,cJ,cI,bx.cells]
theorem qT (o:Obj) (s:bk):Pure Tryz.prog 71 [s.frozen o] (fun r=>r=i64 s.bg.length):=by
 refine aI GG rfl ?_
 repeat' (first|((with_reducible refine aF ?_);conv=>whnf)|refine aG ?_|exact aC|with_reducible refine aD ?_ ?_|(apply aA;(·exact cF))|refine aH ?_|((with_reducible refine aB ?_ ?_)<;>intro hc<;>(try simp only[List.length_map,ne_eq,dW] at hc)<;>try(exfalso;omega)))
 rw[List.length_map]
end Go.Proofs.YtlonbgdonffcbaaGreatDoor
/- What a step does, told by what it says that it did. -/
namespace Go.Proofs.YtlonbgdonffcbaaGreatDoor
open Go Go.cY Go.Proofs
set_option linter.unusedSimpArgs false
set_option linter.unusedVariables false
end Go.Proofs.YtlonbgdonffcbaaGreatDoor
end
section
/- A core looked at. -/
namespace Go.Proofs.YtlonbgdonffcbaaGreatDoor
open Go Go.cY Go.Proofs
set_option linter.unusedSimpArgs false
set_option linter.unusedVariables false
end Go.Proofs.YtlonbgdonffcbaaGreatDoor
end
section
/- A machine that is looked at alone: its parts; lists that are the same. -/
namespace Go.Proofs.YtlonbgdonffcbaaGreatDoor
open Go Go.cY Go.Proofs
set_option linter.unusedSimpArgs false
set_option linter.unusedVariables false
@[simp] theorem N5 (c:bx):cJ 0 (c.cells (.im 3 .any (c.buf.map cx.av))):=by simp[bx.cells,cJ,cB,cI]
theorem oR (o:Obj) (s:bk) (hm:s.mem.length≤4096):Pure Tryz.prog 37 [s.frozen o] (fun r=>r= .im 1 .any (s.mem.map i64)):=by
 refine aI FP rfl ?_
 have h1:=nv (es:=s.mem.map i64) (by rw[List.length_map];omega) (by simp[cI,cB])
 repeat' (first|((with_reducible refine aF ?_);conv=>whnf)|refine aG ?_|exact aC|with_reducible refine aD ?_ ?_|(apply aA;(·exact cF))|refine aK (h1) ?_|refine aH ?_|((with_reducible refine aB ?_ ?_)<;>intro hc<;>(try simp only[List.length_map,ne_eq,dW] at hc)<;>try(exfalso;omega)))
 exact rfl
theorem la (o:Obj) (s:bk) (hm:s.bh.length * 16≤140737488355328):Pure Tryz.prog 12 [s.frozen o] (fun r=>r= .im 2 .any (s.bh.map cH.av)):=by
 refine aI E8 rfl ?_
 have h1:=ml (es:=s.bh.map cH.av) (by rw[List.length_map];omega) (by simp[cI,cB,cJ])
 repeat' (first|((with_reducible refine aF ?_);conv=>whnf)|refine aG ?_|exact aC|with_reducible refine aD ?_ ?_|(apply aA;(·exact cF))|refine aK (h1) ?_|refine aH ?_|((with_reducible refine aB ?_ ?_)<;>intro hc<;>(try simp only[List.length_map,ne_eq,dW] at hc)<;>try(exfalso;omega)))
 exact rfl
theorem MT (o:Obj) (s:bk) (k:Int):Pure Tryz.prog 58 [s.frozen o,i64 k] (fun r=>r=i64 (kd s k)):=by
 refine aI BQ rfl ?_
 repeat' (first|((with_reducible refine aF ?_);conv=>whnf)|refine aG ?_|exact aC|with_reducible refine aD ?_ ?_|(apply aA;(·exact cF))|refine aH ?_|((with_reducible refine aB ?_ ?_)<;>intro hc<;>(try simp only[List.length_map,ne_eq,dW] at hc)<;>try(exfalso;omega)))
 ·rw[kd,if_pos (by unfold out;omega)]
 ·rw[kd,if_neg (by unfold out;omega)]
theorem je {s:bk} {q:Nat} (hq:q<s.bg.length) (d:AV):(s.bg.map bx.frozen).getD q d=(s.core q).frozen:=dR _ _ _ _ hq
theorem KX (o:Obj) (s:bk) (q:Nat) (hq:q<s.bg.length) (hb:(s.core q).buf.length<1000):Pure Tryz.prog 90 [s.frozen o,i64 q] (fun r=>r= .dB [(s.core q).frozen,i64 0]):=by
 refine aI GY rfl ?_
 have hk:¬out s q:=by unfold out;omega
 have he:kd s q=0:=by rw[kd,if_neg hk]
 have h1:=mn (es:=(s.core q).buf.map cx.av) (by rw[List.length_map];omega) (by simp[cI,cB,cJ])
 have h2:=MT o s q
 rw[he,bk.frozen] at h2
 repeat' (first|((with_reducible refine aF ?_);conv=>whnf)|refine aG ?_|exact aC|with_reducible refine aD ?_ ?_|(apply aA;(·(first|exact je hq _|exact cF)))|refine aK (h2) ?_|refine aK (h1) ?_|refine aH ?_|((with_reducible refine aB ?_ ?_)<;>intro hc<;>(try simp only[List.length_map,ne_eq,dW] at hc)<;>try(exfalso;omega)))
 exact rfl
def fZ (c:bx):Bool:=c.halted&&decide (c.buf.length=0)
theorem jJ (c:bx):Pure Tryz.prog 36 [c.frozen] (fun r=>r=bl (!fZ c)):=by
 refine aI FO rfl ?_
 repeat' (first|((with_reducible refine aF ?_);conv=>whnf)|refine aG ?_|exact aC|with_reducible refine aD ?_ ?_|(apply aA;(·exact cF))|refine aH ?_|((with_reducible refine aB ?_ ?_)<;>intro hc<;>(try simp only[List.length_map,ne_eq,dW] at hc)<;>try(exfalso;omega)))
 simp only[fZ]
 cases hh:c.halted<;>cases hb:c.buf<;>simp[hh,hb]
theorem xn (cs:List bx) (hl:cs.length≤8):Pure Tryz.prog 65 [.im 19 .any (cs.map bx.frozen), .fn (.func 36) [] []] (fun r=>∃k,r=i64 k∧(0≤k↔cs.all fZ=false)):=by
 refine aI GC rfl ?_
 repeat' (first|((with_reducible refine aF ?_);conv=>whnf)|refine aG ?_|exact aC|with_reducible refine aD ?_ ?_|(apply aA;(·exact cF))|refine aH ?_|((with_reducible refine aB ?_ ?_)<;>intro hc<;>(try simp only[List.length_map,ne_eq,dW] at hc)<;>try(exfalso;omega)))
 refine aT (fun i:Nat=>[(0, .im 19 .any (cs.map bx.frozen)),(1, .fn (.func 36) [] []),(7,i64 cs.length),(8,i64 i)]) (fun i _ _=>i≤cs.length∧∀j,j<i→fZ (cs.getD j default)=true) (fun i=>cs.length - i) 0 cG ⟨Nat.zero_le _,fun j hj=>by omega⟩ ?_
 rintro i H' n ⟨hi,hall⟩
 repeat' (first|((with_reducible refine aF ?_);conv=>whnf)|refine aG ?_|exact aC|with_reducible refine aD ?_ ?_|(apply aA;(·exact cF))|((with_reducible refine aN (jJ _) ?_ ?_);(·exact bn))|((with_reducible refine aM (fun _=>jJ _) ?_ ?_);(·exact bn))|((with_reducible refine aJ (jJ _) ?_ ?_);(·exact bn))|((with_reducible refine aL (fun _=>jJ _) ?_ ?_);(·exact bn))|refine aH ?_|((with_reducible refine aB ?_ ?_)<;>intro hc<;>(try simp only[List.length_map,ne_eq,dW] at hc)<;>try(exfalso;omega)))
 ·refine⟨⟨by simp[cB],(i:Int),rfl,fun _=> ?_,fun _=>by omega⟩⟩
  have hi2:i<cs.length:=by omega
  rw[List.all_eq_false]
  refine⟨cs[i],List.getElem_mem hi2, ?_⟩
  have:cs.getD i default=cs[i]:=by simp[List.getD,hi2]
  rw[this] at hc;simp[hc]
 ·refine⟨i+1,by omega,cG,by omega,fun j hj=> ?_⟩
  by_cases hji:j=i
  ·subst hji;exact hc
  ·exact hall j (by omega)
 ·refine⟨⟨by simp[cB],(-1:Int),rfl,fun h=>by omega,fun h=> ?_⟩⟩
  exfalso
  have:cs.all fZ=true:=by
   rw[List.all_eq_true]
   intro x hx
   obtain⟨j,hj,rfl⟩:=List.mem_iff_getElem.1 hx
   have:=hall j (by omega)
   simpa[List.getD,hj] using this
  rw[this] at h;cases h
theorem rj (cs:List bx) (hl:cs.length≤8):Pure Tryz.prog 35 [.im 19 .any (cs.map bx.frozen), .fn (.func 36) [] []] (fun r=>r=bl (!cs.all fZ)):=by
 refine aI FN rfl ?_
 repeat' (first|((with_reducible refine aF ?_);conv=>whnf)|refine aG ?_|exact aC|with_reducible refine aD ?_ ?_|(apply aA;(·exact cF))|refine aH ?_|((with_reducible refine aB ?_ ?_)<;>intro hc<;>(try simp only[List.length_map,ne_eq,dW] at hc)<;>try(exfalso;omega)))
 refine bB (xn cs hl) (by simp[cJ,cB,cI]) ?_
 rintro _ ⟨k,rfl,hk⟩
 repeat' (first|((with_reducible refine aF ?_);conv=>whnf)|refine aG ?_|exact aC|with_reducible refine aD ?_ ?_|(apply aA;(·exact cF))|refine aH ?_|((with_reducible refine aB ?_ ?_)<;>intro hc<;>(try simp only[List.length_map,ne_eq,dW] at hc)<;>try(exfalso;omega)))
 cases hb:cs.all fZ with
 |true=>
  rw[hb] at hk
  have:¬(0≤k):=fun h=>by simpa using hk.1 h
  simp[this]
 |false=>simp[hk.2 hb]
theorem my (o:Obj) (s:bk) (hl:s.bg.length≤8):Pure Tryz.prog 13 [s.frozen o] (fun r=>r=bl (s.bg.all fZ)):=by
 refine aI E9 rfl ?_
 repeat' (first|((with_reducible refine aF ?_);conv=>whnf)|refine aG ?_|exact aC|with_reducible refine aD ?_ ?_|(apply aA;(·exact cF))|refine aK (rj s.bg hl) ?_|refine aH ?_|((with_reducible refine aB ?_ ?_)<;>intro hc<;>(try simp only[List.length_map,ne_eq,dW] at hc)<;>try(exfalso;omega)))
 simp
structure eH (s:bk):Prop where
 bg:s.bg.length≤8
 mem:s.mem.length≤4096
 bh:s.bh.length * 16≤140737488355328
 buf:∀q,q<s.bg.length→(s.core q).buf.length<1000
theorem Good.G2 {o:Obj} {s:bk} (g:Good o s) (ok:cz o) (hp:s.bh.length * 16≤140737488355328):eH s:=
 ⟨by rw[g.n];exact ok.bg,by rw[g.mem];exact ok.mem,hp,fun q hq=>by have:=g.buf q hq;have:=ok.buffer;omega⟩
end Go.Proofs.YtlonbgdonffcbaaGreatDoor
end
section
/- What is ready, by the program. -/
namespace Go.Proofs.YtlonbgdonffcbaaGreatDoor
open Go Go.cY Go.Proofs Go.RowKit
set_option linter.unusedSimpArgs false
set_option linter.unusedVariables false
theorem cq {P:Program} {f:FuncId} {args:List AV} {u:AV} (h:bz P f args [] 0 (fun r H _=>cY.eM H 6 r=u)) (hf:cB 0 u):Pure P f args (fun r=>r=u):=by
 refine⟨h.1,fun M w vs hM hv=> ?_⟩
 have hS:dA w ⟨fun _=>none,bf [],fun _=>False,w,M⟩:=⟨Below.refl _ _,hM,fun b e sz d es he=>by simp[bf] at he,fun b b' k k' blk o z o' z' hk=>by simp[bf] at hk⟩
 have hv':cR ⟨fun _=>none,bf [],fun _=>False,w,M⟩ args vs:=hv
 refine(h.2 w _ vs hS rfl (fun _ h=>h.elim) hv').mono ?_
 rintro en w' ⟨v,r1,H1,nx',ρ,U,he,hz,hU,hS',_,g2⟩
 have h3:=kp hS' rfl 6 (a:=r1) (v:=v) (by rw[hz];exact hf) g2
 rw[hz] at h3
 exact⟨v,_,he,rfl,hf,h3,hS'.below⟩
theorem iV {P:Program} {f:FuncId} {args:List AV} {a b:AV} (h:Pure P f args (fun r=>r=a)) (hf:cB 0 b) (hle:∀c,cc c c a b):Pure P f args (fun r=>r=b):=
 ⟨h.1,fun M w vs hM hv=>(h.2 M w vs hM hv).mono fun _ _ ⟨v,r,he,hR,hf0,hvr,hb⟩=>⟨v,b,he,rfl,hf,hle _ v (by rw[←hR];exact hvr),hb⟩⟩
def oL (l:List cC):AV:=if l=[] then .sc (.slice none 0 0) else .im 2 .any (l.map cC.av)
@[simp] theorem LH (n:Nat) (o:Obj) (s:bk):cB n (s.frozen o):=by simp[bk.frozen,cB,cJ,cI,bx.cells]
@[simp] theorem N8 (n:Nat):cB n rS:=by simp[rS,cB,cJ,bx.cells]
@[simp] theorem MO (n:Nat) (l:List cC):cB n (oL l):=by
  unfold oL
  split<;>simp[cB,cJ,cI]
theorem J2 {o:Obj} {s:bk} (g:Good o s) (q:Nat) (hq:q<s.bg.length):Pure Tryz.prog 59 [s.frozen o,i64 q, .sc (.pointer none)] (fun r=>r= .agg [s.frozen o, .ip 19 .any (s.bg.map bx.frozen) q 0,u8 (c8 o s q).kind,u8 (c8 o s q).op,i64 (c8 o s q).d,i64 (c8 o s q).a,i64 (c8 o s q).b,i64 (c8 o s q).addr,i64 (c8 o s q).to,i64 (c8 o s q).word,i64 (c8 o s q).fr, .sc (.pointer none)]):=by
 refine aI BR rfl ?_
 have hqo:q<o.bg.length:=by rw[←g.n];exact hq
 have hpc:=g.pc q hq
 have hpc2:(s.core q).pc.toNat<(o.core q).code.length:=by omega
 have hpc3:0≤(s.core q).pc:=hpc.1
 repeat' (first|((with_reducible refine aF ?_);conv=>whnf)|refine aG ?_|exact aC|with_reducible refine aD ?_ ?_|(apply aA;(·(first|exact je hq _|exact dR _ _ _ _ hpc2|exact cF)))|refine aH ?_|((with_reducible refine aB ?_ ?_)<;>intro hc<;>(try simp only[List.length_map,ne_eq,dW] at hc)<;>try(exfalso;omega)))
 show AV.agg (List.map (cY.eM _ 5) [s.frozen o, .ip 19 .any (s.bg.map bx.frozen) q 0,u8 (c8 o s q).kind,u8 (c8 o s q).op,i64 (c8 o s q).d,i64 (c8 o s q).a,i64 (c8 o s q).b,i64 (c8 o s q).addr,i64 (c8 o s q).to,i64 (c8 o s q).word,i64 (c8 o s q).fr, .sc (.pointer none)])=_
 rw[eK 5 (by simp[cJ,cB,cI,bx.cells])]
theorem CO (o:Obj) (s:bk) (q:Nat) (hq:q<s.bg.length) (i:Instr):Pure Tryz.prog 60 [.agg [s.frozen o, .ip 19 .any (s.bg.map bx.frozen) q 0,u8 i.kind,u8 i.op,i64 i.d,i64 i.a,i64 i.b,i64 i.addr,i64 i.to,i64 i.word,i64 i.fr, .sc (.pointer none)]] (fun r=>r=bl (fA o s q i)):=by
 refine aI BS rfl ?_
 repeat' (first|((with_reducible refine aF ?_);conv=>whnf)|refine aG ?_|exact aC|with_reducible refine aD ?_ ?_|(apply aA;(·(first|exact je hq _|exact cF)))|refine aH ?_|((with_reducible refine aB ?_ ?_)<;>intro hc<;>(try simp only[List.length_map,ne_eq,dW] at hc)<;>try(exfalso;omega)))
 all_goals simp only[fA]
 all_goals (try simp only[List.length_map])
 ·rw[if_pos (by assumption)]
 ·rw[if_neg (by omega),if_pos (by omega)]
 ·rw[if_neg (by omega),if_pos (by omega)]
 ·rw[if_neg (by omega),if_pos (by omega)]
 ·rw[if_neg (by omega),if_neg (by omega)]
def ez (o:Obj) (s:bk) (q:Nat):List cC:=(if(s.core q).halted=false∧fA o s q (c8 o s q)=false then[⟨1,q⟩] else[])++(if 0<(s.core q).buf.length then[⟨2,q⟩] else[])
def dZ (o:Obj) (s:bk) (n:Nat):List cC:=(List.range n).flatMap (ez o s)
theorem oy (o:Obj) (s:bk) (n:Nat):dZ o s (n+1)=dZ o s n++ez o s n:=by simp[dZ,List.range_succ]
theorem yV (o:Obj) (s:bk) (n:Nat):(ez o s n).length≤2:=by
 simp only[ez,List.length_append]
 split<;>split<;>simp
theorem jo (o:Obj) (s:bk):∀n,(dZ o s n).length≤2 * n
 |0=>by simp[dZ]
 |n+1=>by rw[oy,List.length_append];have:=jo o s n;have:=yV o s n;omega
def Grown (lo:Nat) (l:List cC) (v:AV) (H:Hp) (n:Nat):Prop:=(l=[]∧v= .sc (.slice none 0 0))∨∃b,v= .sl b l.length∧(lo≤b∧b<n)∧0<l.length∧∃d es,bf H b=some (.row 42 2 d es)∧es=l.map cC.av
theorem I3 {l m:List AV} {n k:Nat} (hl:l.length=1) (hm:m.length=1) (h:(n+2) * k≤140737488355328):(n+l.length+m.length) * k≤jh:=by rw[hl,hm];exact h
theorem Grown.mk {l:List cC} {lo b n len:Nat} {H:Hp} {d:AV} {es:List AV} (hlen:l.length=len) (h0:lo≤b) (hb:b<n) (hp:0<len) (r:bf H b=some (.row 42 2 d es)) (he:es=l.map cC.av):Grown lo l (.sl b len) H n:=by
 subst hlen;exact .inr ⟨b,rfl,⟨h0,hb⟩,hp,d,es,r,he⟩
theorem zm {o:Obj} {s:bk} {q:Nat} (h1:(s.core q).halted=false∧fA o s q (c8 o s q)=false) (h2:(0:Int)<(s.core q).buf.length):ez o s q=[⟨1,q⟩,⟨2,q⟩]:=by
 rw[ez,if_pos h1,if_pos (by omega)];rfl
theorem HO {o:Obj} {s:bk} {q:Nat} (h1:(s.core q).halted=false∧fA o s q (c8 o s q)=false) (h2:((s.core q).buf.length:Int)≤0):ez o s q=[⟨1,q⟩]:=by
 rw[ez,if_pos h1,if_neg (by omega)];rfl
theorem w6 {o:Obj} {s:bk} {q:Nat} (h1:¬(s.core q).halted=false∨fA o s q (c8 o s q)=true) (h2:(0:Int)<(s.core q).buf.length):ez o s q=[⟨2,q⟩]:=by
 rw[ez,if_neg (by rcases h1 with h|h<;>simp_all),if_pos (by omega)];rfl
theorem zn {o:Obj} {s:bk} {q:Nat} (h1:¬(s.core q).halted=false∨fA o s q (c8 o s q)=true) (h2:((s.core q).buf.length:Int)≤0):ez o s q=[]:=by
 rw[ez,if_neg (by rcases h1 with h|h<;>simp_all),if_neg (by omega)];rfl
set_option maxHeartbeats 4000000 in
theorem w9 {o:Obj} {s:bk} (g:Good o s) (hc:s.bg.length≤8):bz Tryz.prog 55 [s.frozen o] [] 0 (fun r H n=>Grown 0 (dZ o s s.bg.length) r H n):=by
 refine aO F6 rfl ?_
 have h1:=qT o s
 simp only[bk.frozen] at h1 ⊢
 repeat' (first|((with_reducible refine aF ?_);conv=>whnf)|refine aG ?_|exact aC|with_reducible refine aD ?_ ?_|(apply aA;(·exact cF))|refine aK (h1) ?_|refine aH ?_|((with_reducible refine aB ?_ ?_)<;>intro hc<;>(try simp only[List.length_map,ne_eq,dW] at hc)<;>try(exfalso;omega)))
 refine aT (fun p:Nat×AV=>[(0,s.frozen o),(7,i64 s.bg.length),(8,i64 p.1),(3,p.2)]) (fun p H n=>p.1≤s.bg.length∧Grown 0 (dZ o s p.1) p.2 H n) (fun p=>s.bg.length - p.1) (0, .sc (.slice none 0 0)) cG ⟨Nat.zero_le _, .inl ⟨rfl,rfl⟩⟩ ?_
 rintro⟨k,v⟩ H n ⟨hk,hv⟩
 simp only at hk hv
 dsimp only
 have hle:=jo o s k
 by_cases hkl:k<s.bg.length
 ·have h2:=J2 g k hkl
  have h3:=CO o s k hkl (c8 o s k)
  simp only[bk.frozen] at h2 h3 ⊢
  have hnx:=oy o s k
  rcases hv with⟨hl,rfl⟩|⟨b,rfl,hb,hl,d,es,r,hes⟩
  ·repeat' (first|((with_reducible refine aF ?_);conv=>whnf)|refine aG ?_|exact aC|with_reducible refine aD ?_ ?_|(apply aA;(·(first|exact je hkl _|exact cF)))|refine aK (h2) ?_|refine aK (h3) ?_|refine aH ?_|((with_reducible refine aB ?_ ?_)<;>intro hc<;>(try simp only[List.length_map,ne_eq,dW] at hc)<;>try(exfalso;omega)))
   ·have ra:=zm (o:=o) (s:=s) (q:=k) (by assumption) hc
    exact⟨(k+1, .sl (n+22) 2),by show s.bg.length - (k+1)<s.bg.length - k;omega,cG,by show k+1≤s.bg.length;omega,Grown.mk (by rw[hnx,ra,hl];rfl) cO cO (by omega) bo (by rw[hnx,ra,hl];rfl)⟩
   ·have ra:=HO (o:=o) (s:=s) (q:=k) (by assumption) hc
    exact⟨(k+1, .sl (n+22) 1),by show s.bg.length - (k+1)<s.bg.length - k;omega,cG,by show k+1≤s.bg.length;omega,Grown.mk (by rw[hnx,ra,hl];rfl) cO cO (by omega) bo (by rw[hnx,ra,hl];rfl)⟩
   ·have ra:=w6 (o:=o) (s:=s) (q:=k) (by assumption) hc
    exact⟨(k+1, .sl (n+29) 1),by show s.bg.length - (k+1)<s.bg.length - k;omega,cG,by show k+1≤s.bg.length;omega,Grown.mk (by rw[hnx,ra,hl];rfl) cO cO (by omega) bo (by rw[hnx,ra,hl];rfl)⟩
   ·have ra:=zn (o:=o) (s:=s) (q:=k) (by assumption) hc
    exact⟨(k+1, .sc (.slice none 0 0)),by show s.bg.length - (k+1)<s.bg.length - k;omega,cG,by show k+1≤s.bg.length;omega, .inl ⟨by rw[hnx,ra,hl];rfl,rfl⟩⟩
  ·have hesl:es.length=(dZ o s k).length:=by rw[hes];simp
   repeat' (first|((with_reducible refine aF ?_);conv=>whnf)|refine aG ?_|exact aC|with_reducible refine aD ?_ ?_|(apply aA;(·(first|exact je hkl _|exact cF)))|refine aK (h2) ?_|refine aK (h3) ?_|refine aH ?_|((with_reducible refine aB ?_ ?_)<;>intro hc<;>(try simp only[List.length_map,ne_eq,dW] at hc)<;>try(exfalso;omega)))
   ·exact⟨I3 rfl rfl (by omega)⟩
   ·have ra:=zm (o:=o) (s:=s) (q:=k) (by assumption) hc
    exact⟨(k+1, .sl b ((dZ o s k).length+2)),by show s.bg.length - (k+1)<s.bg.length - k;omega,cG,by show k+1≤s.bg.length;omega,Grown.mk (by rw[hnx,ra,List.length_append];rfl) hb.1 (Nat.lt_of_lt_of_le hb.2 cO) (by omega) bo (by rw[hnx,ra,List.map_append,←hes];exact List.append_assoc _ [_] [_])⟩
   ·have ra:=HO (o:=o) (s:=s) (q:=k) (by assumption) hc
    exact⟨(k+1, .sl b ((dZ o s k).length+1)),by show s.bg.length - (k+1)<s.bg.length - k;omega,cG,by show k+1≤s.bg.length;omega,Grown.mk (by rw[hnx,ra,List.length_append];rfl) hb.1 (Nat.lt_of_lt_of_le hb.2 cO) (by omega) bo (by rw[hnx,ra,List.map_append,←hes];exact rfl)⟩
   ·have ra:=w6 (o:=o) (s:=s) (q:=k) (by assumption) hc
    exact⟨(k+1, .sl b ((dZ o s k).length+1)),by show s.bg.length - (k+1)<s.bg.length - k;omega,cG,by show k+1≤s.bg.length;omega,Grown.mk (by rw[hnx,ra,List.length_append];rfl) hb.1 (Nat.lt_of_lt_of_le hb.2 cO) (by omega) bo (by rw[hnx,ra,List.map_append,←hes];exact rfl)⟩
   ·have ra:=zn (o:=o) (s:=s) (q:=k) (by assumption) hc
    exact⟨(k+1, .sl b (dZ o s k).length),by show s.bg.length - (k+1)<s.bg.length - k;omega,cG,by show k+1≤s.bg.length;omega,Grown.mk (by rw[hnx,ra,List.append_nil]) hb.1 (Nat.lt_of_lt_of_le hb.2 cO) hl bo (by rw[hnx,ra,List.append_nil];exact hes)⟩
 ·have hkn:k=s.bg.length:=by omega
  subst hkn
  simp only[bk.frozen]
  rcases hv with⟨hl,rfl⟩|⟨b,rfl,hb,hl,d,es,r,hes⟩
  ·repeat' (first|((with_reducible refine aF ?_);conv=>whnf)|refine aG ?_|exact aC|with_reducible refine aD ?_ ?_|(apply aA;(·exact cF))|refine aH ?_|((with_reducible refine aB ?_ ?_)<;>intro hc<;>(try simp only[List.length_map,ne_eq,dW] at hc)<;>try(exfalso;omega)))
   exact⟨.inl ⟨hl,rfl⟩⟩
  ·repeat' (first|((with_reducible refine aF ?_);conv=>whnf)|refine aG ?_|exact aC|with_reducible refine aD ?_ ?_|(apply aA;(·exact cF))|refine aH ?_|((with_reducible refine aB ?_ ?_)<;>intro hc<;>(try simp only[List.length_map,ne_eq,dW] at hc)<;>try(exfalso;omega)))
   exact⟨.inr ⟨b,rfl,⟨hb.1,Nat.lt_of_lt_of_le hb.2 cO⟩,hl,d,es,bo,hes⟩⟩
theorem CA {o:Obj} {s:bk} (g:Good o s) (hc:s.bg.length≤8):Pure Tryz.prog 55 [s.frozen o] (fun r=>r=oL (dZ o s s.bg.length)):=by
 refine cq ((w9 g hc).mono fun r H n hr=> ?_) (by simp)
 rcases hr with⟨h1,rfl⟩|⟨b,rfl,_,hl,d,es,hr,rfl⟩
 ·rw[oL,if_pos h1,xh]
 ·rw[mN hr (by simp),eK 5 (by simp[cI,cB,cJ]),oL,if_neg (fun h=>by rw[h] at hl;exact absurd hl (by simp))]
end Go.Proofs.YtlonbgdonffcbaaGreatDoor
end
