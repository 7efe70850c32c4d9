import Derived.Test.YtlonbgdonffcbaaGreatDoorM24
import Derived.Test.YtlonbgdonffcbaaGreatDoorM21
section
/- A new machine. -/
namespace Go.Proofs.YtlonbgdonffcbaaGreatDoor
open Go Go.cU Go.Proofs
set_option linter.unusedSimpArgs false
set_option linter.unusedVariables false
def eU (o:Obj):Bool:=eN o&&(o7 o.mem.length o.bd 0).isNone
theorem pZ {o:Obj} (h:eU o=true):gW o= .dE [i64 0,i64 0,i64 0]:=by
 simp only[eU,Bool.and_eq_true,Option.isNone_iff_eq_none] at h
 rw[gW,if_pos h.1,h.2]
theorem zg {o:Obj} (h:eU o=false):∃k n:Int,gW o= .dE [i64 160,i64 k,i64 n]:=by
 rw[gW]
 by_cases hs:eN o=true
 ·rw[if_pos hs]
  cases hb:o7 o.mem.length o.bd 0 with
  |none=>simp[eU,hs,hb] at h
  |some p=>exact⟨p.1,p.2,rfl⟩
 ·rw[if_neg hs];exact⟨0,0,rfl⟩
theorem gh {o:Obj} (ho:o.Wf) (i:Nat):Pure Tryz.prog 26 [.im 9 .any ((o.bd.getD i default).code.map Instr.av)] (fun r=>r= .im 9 .any ((o.bd.getD i default).code.map Instr.av)):=
 o8 (by rw[List.length_map];have:=(ho.at i).len;omega) (by simp[cD,cA])
theorem wS (f:Core→AV) {l:List Core} {i:Nat} (h:i<l.length):(l.take (i+1)).map f=(l.take i).map f++[f (l.getD i default)]:=by
 rw[List.take_succ_eq_append_getElem h,List.map_append];simp[List.getD,h]
def core0:bx:=⟨0,false,fun _=>0,[]⟩
def qo:AV:= .agg (core0.cells (.sc (.slice none 0 0)))
def KV (o:Obj) (H:Hp) (nx:Nat):AV→Hp→Nat→Prop:=fun r H' n=>nx≤n∧∃m c mm v,r= .dE [.pt m 1 0 0,i64 0]∧(nx≤m∧m<n)∧(nx≤c∧c<n)∧(nx≤mm∧mm<n)∧m≠c∧m≠mm∧c≠mm∧
 (∃d es,bf H' m=some (.row 77 8 d es)∧es=[.agg [.sc (.slice none 0 0),i64 o.shared,i64 o.fX,i64 o.buffer,v, .sl c o.bd.length, .sl mm o.mem.length, .sc (.slice none 0 0)]])∧
 (∃d es,bf H' c=some (.row 93 19 d es)∧es=List.replicate o.bd.length qo)∧
 (∃d,bf H' mm=some (.row 2 1 d (o.mem.map i64)))∧
 ((v= .sc (.slice none 0 0)∧o.bd=[])∨∃cb d,v= .sl cb o.bd.length∧(nx≤cb∧cb<n)∧cb≠m∧cb≠c∧cb≠mm∧bf H' cb=some (.row 66 2 d (o.bd.map Core.av)))∧
 ∀b,b<nx→bf H' b=bf H b
def dY (o:Obj):bk:={ bd:=List.replicate o.bd.length core0,mem:=o.mem,bg:=[] }
set_option maxRecDepth 20000 in
theorem I7 {o:Obj} (ho:o.Wf) (ok:cx o) (h:eU o=true) {H:Hp} {nx:Nat}:bw Tryz.prog 9 [o.av] H nx (KV o H nx):=by
 refine aO N7 rfl ?_
 have hp:=jn o ho
 rw[pZ h] at hp
 have hoc:=ok.bd
 repeat' (first|((with_reducible refine aF ?_);conv=>whnf)|refine aG ?_|exact aC|with_reducible refine aD ?_ ?_|(apply aA;(·exact bz))|refine aK (hp) ?_|refine aH ?_|((with_reducible refine aB ?_ ?_)<;>intro hc<;>(try simp only[List.length_map,ne_eq,dL] at hc)<;>try(exfalso;omega)))
 refine aR (fun i:Nat=>[(1, .pt nx 1 0 0),(7, .pt (nx+14) 1 0 0),(23, .im 2 .any (o.bd.map Core.av)),(24,i64 o.bd.length),(25,i64 i)]) (fun i H' n=>i≤o.bd.length∧nx+15≤n∧(∃d,bf H' nx=some (.row 25 5 d [o.av]))∧(∃v d,bf H' (nx+14)=some (.row 25 5 d [.agg [.sc (.slice none 0 0),i64 o.shared,i64 o.fX,i64 o.buffer,v]])∧((i=0∧v= .sc (.slice none 0 0))∨∃cb d' es,0<i∧v= .sl cb i∧nx+15≤cb∧cb<n∧bf H' cb=some (.row 66 2 d' es)∧es=(o.bd.take i).map Core.av))∧∀b,b<nx→bf H' b=bf H b) (fun i=>o.bd.length - i) 0 cG ⟨Nat.zero_le _,cM,⟨_,bn⟩,⟨_,_,bn, .inl ⟨rfl,rfl⟩⟩,dC⟩ ?_
 rintro i H' n ⟨hi,hn,⟨d1,r1⟩,⟨v,d7,r7,hv⟩,hfr⟩
 rcases hv with⟨rfl,rfl⟩|⟨cb,dcb,es,hi0,rfl,hcb1,hcb2,rcb,hes⟩
 ·repeat' (first|((with_reducible refine aF ?_);conv=>whnf)|refine aG ?_|exact aC|with_reducible refine aD ?_ ?_|(apply aA;(·exact bz))|((with_reducible refine aJ (gh ho _) ?_ ?_);(·exact bj))|((with_reducible refine aN (fun _=>gh ho _) ?_ ?_);(·exact bj))|((with_reducible refine aL (gh ho _) ?_ ?_);(·exact bj))|((with_reducible refine aM (fun _=>gh ho _) ?_ ?_);(·exact bj))|refine aH ?_|((with_reducible refine aB ?_ ?_)<;>intro hc<;>(try simp only[List.length_map,ne_eq,dL] at hc)<;>try(exfalso;omega)))
  ·refine⟨0+1,by omega,cG,by omega,cM,⟨_,bn⟩,⟨_,_,bn, .inr ⟨n+14,_,_,by omega,rfl,cM,cM,bn, ?_⟩⟩,(by intro _b _hb;repeat(first|exact hfr _ _hb|exact rfl|(refine Eq.trans (bh (by first|omega|(simp only[List.length_cons,List.length_nil];omega))) ?_)))⟩
   rw[wS _ (by omega)];rfl
  refine aY (es:=o.mem.map i64) [] .any (fp (by rw[List.length_map];have:=ok.mem;omega)) (fun i hi=>by rw[dS _ _ _ _ (by simpa using hi)];trivial) (fun _ _=>rfl) (by simp[cH,cA,cD]) ?_
  repeat' (first|((with_reducible refine aF ?_);conv=>whnf)|refine aG ?_|exact aC|with_reducible refine aD ?_ ?_|(apply aA;(·exact bz))|refine aH ?_|((with_reducible refine aB ?_ ?_)<;>intro hc<;>(try simp only[List.length_map,ne_eq,dL] at hc)<;>try(exfalso;omega)))
  refine⟨cM,n+10,n+5,n+8, .sc (.slice none 0 0),rfl,⟨cM,cM⟩,⟨cM,cM⟩,⟨cM,cM⟩,by omega,by omega,by omega,⟨_,_,bn,(by simp only[List.length_map,Int.toNat_natCast];rfl)⟩,⟨_,_,bn,(by simp only[List.length_map,Int.toNat_natCast];rfl)⟩,⟨_,bn⟩, .inl ⟨rfl,List.eq_nil_of_length_eq_zero (by omega)⟩,(by intro _b _hb;repeat(first|exact hfr _ _hb|exact rfl|(refine Eq.trans (bh (by first|omega|(simp only[List.length_cons,List.length_nil];omega))) ?_)))⟩
 ·have hel:es.length=i:=by rw[hes];simp;omega
  repeat' (first|((with_reducible refine aF ?_);conv=>whnf)|refine aG ?_|exact aC|with_reducible refine aD ?_ ?_|(apply aA;(·exact bz))|((with_reducible refine aJ (gh ho _) ?_ ?_);(·exact bj))|((with_reducible refine aN (fun _=>gh ho _) ?_ ?_);(·exact bj))|((with_reducible refine aL (gh ho _) ?_ ?_);(·exact bj))|((with_reducible refine aM (fun _=>gh ho _) ?_ ?_);(·exact bj))|refine aH ?_|((with_reducible refine aB ?_ ?_)<;>intro hc<;>(try simp only[List.length_map,ne_eq,dL] at hc)<;>try(exfalso;omega)))
  ·refine⟨i+1,by omega,cG,by omega,cM,⟨_,bn⟩,⟨_,_,bn, .inr ⟨cb,_,_,by omega,rfl,cM,cM,bn, ?_⟩⟩,(by intro _b _hb;repeat(first|exact hfr _ _hb|exact rfl|(refine Eq.trans (bh (by first|omega|(simp only[List.length_cons,List.length_nil];omega))) ?_)))⟩
   rw[wS _ (by omega),←hes];rfl
  refine aY (es:=o.mem.map i64) [] .any (fp (by rw[List.length_map];have:=ok.mem;omega)) (fun i hi=>by rw[dS _ _ _ _ (by simpa using hi)];trivial) (fun _ _=>rfl) (by simp[cH,cA,cD]) ?_
  repeat' (first|((with_reducible refine aF ?_);conv=>whnf)|refine aG ?_|exact aC|with_reducible refine aD ?_ ?_|(apply aA;(·exact bz))|refine aH ?_|((with_reducible refine aB ?_ ?_)<;>intro hc<;>(try simp only[List.length_map,ne_eq,dL] at hc)<;>try(exfalso;omega)))
  refine⟨cM,n+10,n+5,n+8, .sl cb i,rfl,⟨cM,cM⟩,⟨cM,cM⟩,⟨cM,cM⟩,by omega,by omega,by omega,⟨_,_,bn,(by simp only[List.length_map,Int.toNat_natCast];rfl)⟩,⟨_,_,bn,(by simp only[List.length_map,Int.toNat_natCast];rfl)⟩,⟨_,bn⟩, .inr ⟨cb,dcb,by rw[show i=o.bd.length by omega],⟨by omega,cM⟩,by omega,by omega,by omega, ?_⟩,(by intro _b _hb;repeat(first|exact hfr _ _hb|exact rfl|(refine Eq.trans (bh (by first|omega|(simp only[List.length_cons,List.length_nil];omega))) ?_)))⟩
  have e:o.bd.map Core.av=es:=by rw[hes,List.take_of_length_le (by omega)]
  rw[e];(repeat(first|exact cK _ _ _|assumption|refine sJ (by first|omega|(simp only[List.length_cons,List.length_nil];omega)) ?_))
end Go.Proofs.YtlonbgdonffcbaaGreatDoor
/- A new machine, told as one. -/
namespace Go.Proofs.YtlonbgdonffcbaaGreatDoor
open Go Go.cU Go.Proofs
set_option linter.unusedSimpArgs false
set_option linter.unusedVariables false
theorem c9.sY (c c2:Cx) (sz:Nat) (d:AV):c9 c c2 (.sc (.slice none 0 0)) (.im sz d []):=by
 intro v hv
 rw[VR] at hv
 subst hv
 rw[VR]
 exact⟨none,0,rfl,by simp, .inl rfl⟩
def NJ (o:Obj) (H:Hp) (nx:Nat):AV→Hp→Nat→Prop:=fun r H' n=>∃L,r= .dE [.pt L.m 1 0 0,i64 0]∧fh o (dY o) L H' n∧nx≤n∧(∀b∈L.ids,nx≤b)∧∀b,b<nx→bf H' b=bf H b
def ez (o:Obj) (m c mm n:Nat):Lay:=⟨m,c,mm,n,(List.range o.bd.length).map fun i=>n+1+i⟩
def q6 (o:Obj) (m c mm n:Nat) (H':Hp):Hp:=(m,some (.row 77 8 .any [jx o (dY o) (ez o m c mm n)]))::(c,some (.row 93 19 .any (rows (dY o) (ez o m c mm n))))::(n,some (.row 68 2 .any []))::zX 125 3 (n+1) o.bd.length H'
theorem I6 (o:Obj) {m c mm n:Nat} (H':Hp) (b:Nat) (h1:b≠m) (h2:b≠c) (h3:b<n):bf (q6 o m c mm n H') b=bf H' b:=by
 rw[q6,bh h1,bh h2,bh (by omega),fc,if_neg (by omega)]
theorem zA (o:Obj) (m c mm n:Nat):rows (dY o) (ez o m c mm n)=(List.range o.bd.length).map fun i=>core0.av (n+1+i):=by
 simp only[rows,dY,ez]
 apply List.ext_getElem
 ·simp
 ·intro i h1 h2
  simp
theorem q7 (o:Obj) {m c mm n:Nat} {b:Nat} (h:b∈(ez o m c mm n).ids):b=m∨b=c∨b=mm∨(n≤b∧b<n+1+o.bd.length):=by
 simp only[ez,Lay.ids,List.mem_cons,List.mem_map,List.mem_range] at h
 rcases h with h|h|h|h|⟨i,hi,h⟩
 ·exact .inl h
 ·exact .inr (.inl h)
 ·exact .inr (.inr (.inl h))
 ·exact .inr (.inr (.inr (by omega)))
 ·exact .inr (.inr (.inr (by omega)))
theorem MD (o:Obj) {m c mm n:Nat} {H2:Hp} {d:AV} (hm:m<n) (hc:c<n) (hmm:mm<n) (a1:m≠c) (a2:m≠mm) (a3:c≠mm)
 (h1:∃d,bf H2 m=some (.row 77 8 d [jx o (dY o) (ez o m c mm n)])) (h2:∃d,bf H2 c=some (.row 93 19 d (rows (dY o) (ez o m c mm n))))
 (h3:bf H2 mm=some (.row 2 1 d (o.mem.map i64))) (h4:∃d,bf H2 n=some (.row 68 2 d [])) (h5:∀i,i<o.bd.length→∃d,bf H2 (n+1+i)=some (.row 125 3 d [])):
 fh o (dY o) (ez o m c mm n) H2 (n+1+o.bd.length):=by
 refine⟨h1,h2,⟨_,h3⟩,h4, ?_, ?_, ?_, ?_⟩
 ·intro i hi
  have hi2:i<o.bd.length:=by simpa[dY] using hi
  have e1:(ez o m c mm n).cZ.getD i 0=n+1+i:=by simp[ez,List.getD,hi2]
  have e2:((dY o).bd.getD i default).buf=[]:=by simp[dY,List.getD,hi2,core0]
  rw[e1,e2];exact h5 i hi2
 ·simp[ez,dY]
 ·intro b hb
  rcases q7 o hb with h|h|h|h<;>omega
 ·simp only[ez,Lay.ids,List.nodup_cons,List.mem_cons,not_or,List.mem_map,List.mem_range,not_exists,not_and]
  refine⟨⟨a1,a2,by omega,fun i hi=>by omega⟩,⟨a3,by omega,fun i hi=>by omega⟩,⟨by omega,fun i hi=>by omega⟩,fun i hi=>by omega, ?_⟩
  refine List.pairwise_iff_getElem.2 fun i j hi hj hij=> ?_
  simp;omega
theorem z8 {c c2:Cx} (hle:c.le c2) {b:Nat} (h:c9 c c2 (.sc (.slice none 0 0)) (.sl b 0)):c9 c c2 qo (core0.av b):=
 c9.agg (.cons (c9.cL hle _) (.cons (c9.cL hle _) (.cons (c9.cL hle _) (.cons (c9.cL hle _) (.cons (c9.cL hle _) (.cons (c9.cL hle _) (.cons (c9.cL hle _) (.cons (c9.cL hle _) (.cons (c9.cL hle _) (.cons (c9.cL hle _) (.cons (c9.cL hle _) (.cons (c9.cL hle _) (.cons (c9.cL hle _) (.cons (c9.cL hle _) (.cons (c9.cL hle _) (.cons (c9.cL hle _) (.cons (c9.cL hle _) (.cons (c9.cL hle _) (.cons h .nil)))))))))))))))))))
theorem vq {o:Obj} {m c mm n:Nat} {H' Hd:Hp} {v:AV} (hm:m<n) (hc:c<n) (hmm:mm<n) (a1:m≠c) (a2:m≠mm) (a3:c≠mm)
 (r1:∃d,bf H' m=some (.row 77 8 d [.agg [.sc (.slice none 0 0),i64 o.shared,i64 o.fX,i64 o.buffer,v, .sl c o.bd.length, .sl mm o.mem.length, .sc (.slice none 0 0)]]))
 (r2:∃d,bf H' c=some (.row 93 19 d (List.replicate o.bd.length qo)))
 (hd:∀b,bf Hd b=bf H' b∨bf Hd b=none)
 (hv2:∀(w0:World) (x x2:Cx),cw w0 x→x.H=bf H'→x2.w=x.w→x.le x2→(∀b k blk p z,bf H' b=some k→bf (q6 o m c mm n Hd) b=none→x.ρ b=some (blk,p,z)→¬x2.M blk)→c9 x x2 v (.im 2 .any (o.bd.map Core.av))):
 Wk (.dE [.pt m 1 0 0,i64 0]) H' n (.dE [.pt m 1 0 0,i64 0]) (q6 o m c mm n Hd) (n+1+o.bd.length):=by
 obtain⟨d1,r1⟩:=r1
 obtain⟨d2,r2⟩:=r2
 have look:∀b,bf (q6 o m c mm n Hd) b=if b=m then some (.row 77 8 .any [jx o (dY o) (ez o m c mm n)]) else if b=c then some (.row 93 19 .any (rows (dY o) (ez o m c mm n))) else if b=n then some (.row 68 2 .any []) else if n+1≤b∧b<n+1+o.bd.length then some (.row 125 3 .any []) else bf Hd b:=by
  intro b
  rw[q6]
  by_cases h1:b=m
  ·subst h1;rw[cK,if_pos rfl]
  rw[bh h1,if_neg h1]
  by_cases h2:b=c
  ·subst h2;rw[cK,if_pos rfl]
  rw[bh h2,if_neg h2]
  by_cases h3:b=n
  ·subst h3;rw[cK,if_pos rfl]
  rw[bh h3,if_neg h3,fc]
 refine Wk.tell (by omega) (fun b e sz d es he=> ?_) (fun w0 x x2 hS hU hx hx2 hw hle hnew hM=>⟨c9.cL hle _,fun b e sz d es d0 es0 he he0=> ?_⟩)
 ·rw[look] at he
  by_cases h1:b=m
  ·subst h1;rw[if_pos rfl] at he;cases he
   exact .inl ⟨_,_,r1,rfl⟩
  rw[if_neg h1] at he
  by_cases h2:b=c
  ·subst h2;rw[if_pos rfl] at he;cases he
   exact .inl ⟨_,_,r2,by rw[zA];simp⟩
  rw[if_neg h2] at he
  by_cases h3:b=n
  ·subst h3;rw[if_pos rfl] at he;cases he
   exact .inr ⟨by omega,by omega,rfl,by omega⟩
  rw[if_neg h3] at he
  by_cases h4:n+1≤b∧b<n+1+o.bd.length
  ·rw[if_pos h4] at he;cases he
   exact .inr ⟨by omega,by omega,rfl,by omega⟩
  rw[if_neg h4] at he
  rcases hd b with h5|h5
  ·rw[h5] at he;exact .inl ⟨_,_,he,rfl⟩
  ·rw[h5] at he;cases he
 ·have hnil:∀b,(b=n∨(n+1≤b∧b<n+1+o.bd.length))→c9 x x2 (.sc (.slice none 0 0)) (.sl b 0):=by
   intro b hb
   have hb2:∃e sz,0<sz∧bf (q6 o m c mm n Hd) b=some (.row e sz .any []):=by
    rw[look,if_neg (by omega),if_neg (by omega)]
    rcases hb with h|h
    ·rw[if_pos h];exact⟨_,2,by omega,rfl⟩
    ·rw[if_neg (by omega),if_pos h];exact⟨_,3,by omega,rfl⟩
   obtain⟨e,sz,_,hb3⟩:=hb2
   obtain⟨g1,g2⟩:=hnew b e sz .any (by omega) hb3
   exact c9.nil g1 (by rw[hx2];exact hb3) g2
  rw[look] at he
  by_cases h1:b=m
  ·subst h1;rw[if_pos rfl] at he;cases he
   rw[r1] at he0;cases he0
   have hlen:(dY o).bd.length=o.bd.length:=by simp[dY]
   rw[jx,hlen]
   exact .cons (c9.agg (.cons (c9.cL hle _) (.cons (c9.cL hle _) (.cons (c9.cL hle _) (.cons (c9.cL hle _) (.cons (hv2 w0 x x2 hS hx hw hle hM) (.cons (c9.cL hle _) (.cons (c9.cL hle _) (.cons (hnil n (.inl rfl)) .nil))))))))) .nil
  rw[if_neg h1] at he
  by_cases h2:b=c
  ·subst h2;rw[if_pos rfl] at he;cases he
   rw[r2] at he0;cases he0
   rw[zA]
   refine dB.x0 (by simp) fun i hi=> ?_
   have hi2:i<o.bd.length:=by simpa using hi
   have e1:(List.replicate o.bd.length qo).getD i .any=qo:=by simp[List.getD,hi2]
   have e2:((List.range o.bd.length).map fun i=>core0.av (n+1+i)).getD i .any=core0.av (n+1+i):=by simp[List.getD,hi2]
   rw[e1,e2]
   exact z8 hle (hnil _ (.inr ⟨by omega,by omega⟩))
  rw[if_neg h2] at he
  by_cases h3:b=n
  ·subst h3;rw[if_pos rfl] at he;cases he
   have:=hU b (hS.row b _ _ _ _ (by rw[hx];exact he0)).1
   omega
  rw[if_neg h3] at he
  by_cases h4:n+1≤b∧b<n+1+o.bd.length
  ·rw[if_pos h4] at he;cases he
   have:=hU b (hS.row b _ _ _ _ (by rw[hx];exact he0)).1
   omega
  rw[if_neg h4] at he
  rcases hd b with h5|h5
  ·rw[h5,he0] at he;cases he;exact dB.cL hle _
  ·rw[h5] at he;cases he
theorem born {o:Obj} {m c mm n nx:Nat} {H Hd:Hp} (hn:nx≤n) (hm:nx≤m∧m<n) (hc:nx≤c∧c<n) (hmm:nx≤mm∧mm<n) (a1:m≠c) (a2:m≠mm) (a3:c≠mm) (r3:∃d,bf Hd mm=some (.row 2 1 d (o.mem.map i64))) (hf:∀b,b<nx→bf Hd b=bf H b):
 NJ o H nx (.dE [.pt m 1 0 0,i64 0]) (q6 o m c mm n Hd) (n+1+o.bd.length):=by
 obtain⟨d3,r3⟩:=r3
 have look:∀b,bf (q6 o m c mm n Hd) b=if b=m then some (.row 77 8 .any [jx o (dY o) (ez o m c mm n)]) else if b=c then some (.row 93 19 .any (rows (dY o) (ez o m c mm n))) else if b=n then some (.row 68 2 .any []) else if n+1≤b∧b<n+1+o.bd.length then some (.row 125 3 .any []) else bf Hd b:=by
  intro b
  rw[q6]
  by_cases h1:b=m
  ·subst h1;rw[cK,if_pos rfl]
  rw[bh h1,if_neg h1]
  by_cases h2:b=c
  ·subst h2;rw[cK,if_pos rfl]
  rw[bh h2,if_neg h2]
  by_cases h3:b=n
  ·subst h3;rw[cK,if_pos rfl]
  rw[bh h3,if_neg h3,fc]
 refine⟨ez o m c mm n,rfl, ?_,by omega,fun b hb=> ?_,fun b hb=> ?_⟩
 ·have r3b:bf (q6 o m c mm n Hd) mm=some (.row 2 1 d3 (o.mem.map i64)):=by
   rw[look,if_neg (Ne.symm a2),if_neg (Ne.symm a3),if_neg (by omega),if_neg (by omega)];exact r3
  refine MD (d:=d3) o hm.2 hc.2 hmm.2 a1 a2 a3 ⟨_,by rw[look,if_pos rfl]⟩ ⟨_,by rw[look,if_neg (Ne.symm a1),if_pos rfl]⟩ r3b ⟨_,by rw[look,if_neg (by omega),if_neg (by omega),if_pos rfl]⟩ (fun i hi=>⟨_,by rw[look,if_neg (by omega),if_neg (by omega),if_neg (by omega),if_pos (by omega)]⟩)
 ·rcases q7 o hb with h|h|h|h<;>omega
 ·rw[look,if_neg (by omega),if_neg (by omega),if_neg (by omega),if_neg (by omega)];exact hf b hb
theorem ME {o:Obj} (ho:o.Wf) (ok:cx o) (h:eU o=true) {H:Hp} {nx:Nat}:bw Tryz.prog 9 [o.av] H nx (NJ o H nx):=by
 refine(I7 ho ok h).wk ?_
 rintro r H' n ⟨hn,m,c,mm,v,rfl,hm,hc,hmm,a1,a2,a3,⟨d1,_,r1,rfl⟩,⟨d2,_,r2,rfl⟩,⟨d3,r3⟩,hv,hf⟩
 rcases hv with⟨rfl,hoc⟩|⟨cb,d4,rfl,hcb,b1,b2,b3,r4⟩
 ·refine⟨_,_,_,vq (Hd:=H') hm.2 hc.2 hmm.2 a1 a2 a3 ⟨_,r1⟩ ⟨_,r2⟩ (fun b=> .inl rfl) (fun w0 x x2 _ _ _ _ _=> ?_),born hn hm hc hmm a1 a2 a3 ⟨_,r3⟩ hf⟩
  rw[hoc];exact c9.sY _ _ _ _
 ·refine⟨_,_,_,vq (Hd:=(cb,none)::H') hm.2 hc.2 hmm.2 a1 a2 a3 ⟨_,r1⟩ ⟨_,r2⟩ (fun b=> ?_) (fun w0 x x2 hS hx hw hle hM=> ?_),born hn hm hc hmm a1 a2 a3 ⟨d3,by rw[bh (Ne.symm b3)];exact r3⟩ (fun b hb=>by rw[bh (by omega)];exact hf b hb)⟩
  ·by_cases hb:b=cb
   ·subst hb;exact .inr (cK _ _ _)
   ·exact .inl (bh hb)
  ·have hl:o.bd.length=(o.bd.map Core.av).length:=by simp
   rw[hl]
   refine c9.im hS hle .any hw (by rw[hx];exact r4) (fun blk p z hρ=>hM cb _ blk p z r4 ?_ hρ)
   rw[I6 o _ _ b1 b2 hcb.2,cK]
end Go.Proofs.YtlonbgdonffcbaaGreatDoor
end
section
/- What stays right. -/
namespace Go.Proofs.YtlonbgdonffcbaaGreatDoor
open Go Go.cU Go.Proofs
set_option linter.unusedSimpArgs false
set_option linter.unusedVariables false
theorem oH:∀{l pre:List Core},gY pre l=true→∀q,q<l.length→∃p,iO p (l.getD q default)=true
 |[],_,_,q,h=>by simp at h
 |c::r,pre,h,q,hq=>by
  rw[gY,Bool.and_eq_true] at h
  cases q with
  |zero=>exact⟨pre,h.1⟩
  |succ q=>
   obtain⟨p,hp⟩:=oH h.2 q (by simpa using hq)
   exact⟨p,by simpa using hp⟩
theorem uJ {len mem:Int}:∀{l:List Instr} {k:Nat},nR len mem l k=none→∀q,q<l.length→hX (l.getD q default) len mem=true
 |[],_,_,q,h=>by simp at h
 |i::r,k,h,q,hq=>by
  rw[nR] at h
  by_cases hi:hX i len mem=true
  ·rw[if_pos hi] at h
   cases q with
   |zero=>exact hi
   |succ q=>simpa using uJ h q (by simpa using hq)
  ·rw[if_neg hi] at h;cases h
theorem uK {mem:Int}:∀{l:List Core} {k:Nat},o7 mem l k=none→∀q,q<l.length→nR (l.getD q default).code.length mem (l.getD q default).code 0=none
 |[],_,_,q,h=>by simp at h
 |c::r,k,h,q,hq=>by
  rw[o7] at h
  cases hb:nR c.code.length mem c.code 0 with
  |some n=>rw[hb] at h;cases h
  |none=>
   rw[hb] at h
   cases q with
   |zero=>exact hb
   |succ q=>simpa using uK h q (by simpa using hq)
theorem qa {o:Obj} (h:eU o=true):cx o:=by
 simp only[eU,Bool.and_eq_true,Option.isNone_iff_eq_none] at h
 obtain⟨h1,h2⟩:=h
 simp only[eN,Bool.and_eq_true,decide_eq_true_eq] at h1
 obtain⟨⟨⟨⟨⟨⟨⟨⟨⟨p1,p2⟩,p3⟩,p4⟩,p5⟩,p6⟩,p7⟩,p8⟩,p9⟩,p10⟩:=h1
 have hc:=fun q (hq:q<o.bd.length)=>oH p10 q hq
 refine⟨⟨p7,p8⟩,by omega,by omega,fun q hq=> ?_,fun q hq=> ?_,fun q hq k hk=>uJ (uK h2 q hq) k hk⟩
 ·obtain⟨p,hp⟩:=hc q hq
  simp only[iO,Bool.and_eq_true,decide_eq_true_eq] at hp
  exact⟨hp.1.1.2,hp.1.2⟩
 ·obtain⟨p,hp⟩:=hc q hq
  simp only[iO,Bool.and_eq_true,decide_eq_true_eq] at hp
  exact hp.2
theorem AF {o:Obj} (ok:cx o):Good o (dY o):=by
 have hc:∀q,q<(dY o).bd.length→(dY o).core q=core0:=by
  intro q hq
  simp only[dY,List.length_replicate] at hq
  simp[dY,List.getD,hq]
 have hl:(dY o).bd.length=o.bd.length:=by simp[dY]
 refine⟨hl,rfl,fun q hq=> ?_,fun q hq=> ?_,fun q hq x hx=> ?_⟩
 ·rw[hc q hq]
  have:=ok.code q (by omega)
  exact⟨by decide,by show(0:Int)<_;omega⟩
 ·rw[hc q hq]
  have:=ok.buffer
  show((0:Nat):Int)≤_;omega
 ·rw[hc q hq] at hx;cases hx
theorem C5 {s:bk} {q:Nat} (hq:q<s.bd.length) (c:bx) (j:Nat):(s.cn q c).core j=if j=q then c else s.core j:=by
 by_cases h:j=q
 ·subst h;simp[bk.cn,List.getD,hq]
 ·rw[if_neg h];simp[bk.cn,List.getD,List.getElem?_set_ne (Ne.symm h)]
theorem Good.set {o:Obj} {s:bk} (g:Good o s) {q:Nat} (hq:q<s.bd.length) {c:bx} {mem:List Int} {pr:List cF} (hm:mem.length=s.mem.length) (h1:0≤c.pc∧c.pc<(o.core q).code.length) (h2:(c.buf.length:Int)≤o.buffer) (h3:∀x∈c.buf,0≤x.addr∧x.addr<s.mem.length):
 Good o { s.cn q c with mem:=mem,bg:=pr }:=by
 have hc:=C5 hq c
 have hl:({ s.cn q c with mem:=mem,bg:=pr }:bk).bd.length=s.bd.length:=by simp[bk.cn]
 refine⟨hl.trans g.n,hm.trans g.mem,fun j hj=> ?_,fun j hj=> ?_,fun j hj x hx=> ?_⟩
 ·have e:({ s.cn q c with mem:=mem,bg:=pr }:bk).core j=if j=q then c else s.core j:=hc j
  rw[e]
  split
  ·rename_i h;rw[h];exact h1
  ·exact g.pc j (by rw[hl] at hj;exact hj)
 ·have e:({ s.cn q c with mem:=mem,bg:=pr }:bk).core j=if j=q then c else s.core j:=hc j
  rw[e]
  split
  ·exact h2
  ·exact g.buf j (by rw[hl] at hj;exact hj)
 ·have e:({ s.cn q c with mem:=mem,bg:=pr }:bk).core j=if j=q then c else s.core j:=hc j
  rw[e] at hx
  show 0≤x.addr∧x.addr<mem.length
  rw[hm]
  split at hx
  ·exact h3 x hx
  ·exact g.addr j (by rw[hl] at hj;exact hj) x hx
theorem fw {s:bk} {q:Nat} (c:bx):(s.inc q).cn q c=s.cn q c:=by
 simp[bk.inc,bk.cn]
theorem Good.tj {o:Obj} {s:bk} (g:Good o s) {q:Nat} (hq:q<s.bd.length) {c:bx} (h1:0≤c.pc∧c.pc<(o.core q).code.length) (h2:(c.buf.length:Int)≤o.buffer) (h3:∀x∈c.buf,0≤x.addr∧x.addr<s.mem.length):Good o (s.cn q c):=
 g.set hq (mem:=s.mem) (pr:=s.bg) rfl h1 h2 h3
theorem Good.O3 {o:Obj} {s:bk} (g:Good o s) (ok:cx o) {q:Nat} (hq:q<s.bd.length) (did:eA) (hdp:did.pc=(s.core q).pc) (hst:ep o s q (cX o s q)=false):Good o (act (s.inc q) q (cX o s q) did).1:=by
 have hqo:q<o.bd.length:=by rw[←g.n];exact hq
 have iok:oB (cX o s q) (o.core q).code.length o.mem.length:=kr (ok.ok q hqo (s.core q).pc.toNat (by have:=g.pc q hq;omega))
 have hp:=g.pc q hq
 have hb:=g.buf q hq
 have ha:=g.addr q hq
 have hpc:(cX o s q).kind≠8→(cX o s q).kind≠10→(s.core q).pc+1<(o.core q).code.length:=by
  intro h8 h10
  have hl:=ok.last q hqo
  have hlc:=ok.code q hqo
  simp only[qQ,Bool.or_eq_true,decide_eq_true_eq] at hl
  refine Decidable.byContradiction fun hn=> ?_
  have he:(s.core q).pc.toNat=(((o.core q).code.length:Int) - 1).toNat:=by omega
  rw[cX,he] at h8 h10
  rcases hl with hl|hl
  ·exact h10 hl
  ·exact h8 hl
 have hc:=qK hq
 have hm:(s.inc q).mem=s.mem:=rfl
 have hpr:(s.inc q).bg=s.bg:=rfl
 generalize cX o s q=i at *
 have hk:=kinds iok.kind
 by_cases k1:i.kind=1
 ·simp only[act,if_pos k1,rf,fw,hc]
  exact g.tj hq ⟨by show 0≤(s.core q).pc+1;omega,hpc (by omega) (by omega)⟩ hb ha
 by_cases k2:i.kind=2
 ·simp only[act,if_neg k1,if_pos k2,uV,fw,hc]
  exact g.tj hq ⟨by show 0≤(s.core q).pc+1;omega,hpc (by omega) (by omega)⟩ hb ha
 by_cases k3:i.kind=3
 ·simp only[act,if_neg k1,if_neg k2,if_pos k3,ll,fw,hc]
  exact g.tj hq ⟨by show 0≤(s.core q).pc+1;omega,hpc (by omega) (by omega)⟩ hb ha
 by_cases k4:i.kind=4
 ·simp only[act,if_neg k1,if_neg k2,if_neg k3,if_pos k4,lL,fw,hc]
  simp only[ep,if_pos k4,decide_eq_false_iff_not] at hst
  refine g.tj hq ⟨by show 0≤(s.core q).pc+1;omega,hpc (by omega) (by omega)⟩ ?_ ?_
  ·show(((s.core q).buf++[_]).length:Int)≤_
   simp only[List.length_append,List.length_cons,List.length_nil];omega
  ·intro x hx
   rcases List.mem_append.1 hx with hx|hx
   ·exact ha x hx
   ·simp only[List.mem_singleton] at hx
    subst hx
    have h2:=iok.addr (by omega)
    rw[g.mem];exact h2
 by_cases k5:i.kind=5
 ·simp only[act,if_neg k1,if_neg k2,if_neg k3,if_neg k4,if_pos k5,nX,fw,hc,hm]
  exact g.set hq (by simp) ⟨by show 0≤(s.core q).pc+1;omega,hpc (by omega) (by omega)⟩ hb ha
 by_cases k6:i.kind=6
 ·simp only[act,if_neg k1,if_neg k2,if_neg k3,if_neg k4,if_neg k5,if_pos k6,lK,fw,hc]
  exact g.tj hq ⟨by show 0≤(s.core q).pc+1;omega,hpc (by omega) (by omega)⟩ hb ha
 by_cases k7:i.kind=7
 ·simp only[act,if_neg k1,if_neg k2,if_neg k3,if_neg k4,if_neg k5,if_neg k6,if_pos k7,doPrint,fw,hc]
  exact g.set hq (mem:=s.mem) rfl ⟨by show 0≤(s.core q).pc+1;omega,hpc (by omega) (by omega)⟩ hb ha
 by_cases k8:i.kind=8
 ·simp only[act,if_neg k1,if_neg k2,if_neg k3,if_neg k4,if_neg k5,if_neg k6,if_neg k7,if_pos k8,nW,fw,hc]
  exact g.tj hq (iok.to (by omega)) hb ha
 by_cases k9:i.kind=9
 ·simp only[act,if_neg k1,if_neg k2,if_neg k3,if_neg k4,if_neg k5,if_neg k6,if_neg k7,if_neg k8,if_pos k9,nY,fw,hc]
  split
  ·exact g.tj hq (iok.to (by omega)) hb ha
  ·exact g.tj hq ⟨by show 0≤(s.core q).pc+1;omega,hpc (by omega) (by omega)⟩ hb ha
 simp only[act,if_neg k1,if_neg k2,if_neg k3,if_neg k4,if_neg k5,if_neg k6,if_neg k7,if_neg k8,if_neg k9,nV,fw,hc]
 exact g.tj hq (by show 0≤did.pc∧did.pc<_;rw[hdp];exact hp) hb ha
theorem Good.run {o:Obj} {s:bk} (g:Good o s) (ok:cx o) (k:Int):Good o (fE o s k).1:=by
 rw[fE]
 by_cases h1:out s k
 ·rw[if_pos h1];exact g
 rw[if_neg h1]
 by_cases h2:(s.core k.toNat).halted=true
 ·rw[if_pos h2];exact g
 rw[if_neg h2]
 by_cases h3:ep o s k.toNat (cX o s k.toNat)=true
 ·rw[if_pos h3];exact g
 rw[if_neg h3]
 exact g.O3 ok (by unfold out at h1;omega) _ rfl (by simpa using h3)
theorem Good.drain {o:Obj} {s:bk} (g:Good o s) (k:Int):Good o (dP o s k).1:=by
 rw[dP]
 by_cases h1:out s k
 ·rw[if_pos h1];exact g
 rw[if_neg h1]
 have hq:k.toNat<s.bd.length:=by unfold out at h1;omega
 have hb:=g.buf _ hq
 have ha:=g.addr _ hq
 cases hbuf:(s.core k.toNat).buf with
 |nil=>exact g
 |cons x t=>
  rw[hbuf] at hb ha
  simp only[List.length_cons] at hb
  exact g.set hq (by simp) (g.pc _ hq) (by show(t.length:Int)≤_;omega) (fun y hy=>ha y (by simp[hy]))
theorem Good.step {o:Obj} {s:bk} (g:Good o s) (ok:cx o) (kind k:Int):Good o (ck o s kind k).1:=by
 rw[ck]
 split
 ·exact g.run ok k
 ·split
  ·exact g.drain k
  ·exact g
theorem xi (o:Obj) (s:bk) (k:Int):(fE o s k).1.bg.length≤s.bg.length+1:=by
 have ha:∀(i:Instr) (d:eA) (q:Nat),(act (s.inc q) q i d).1.bg.length≤s.bg.length+1:=by
  intro i d q
  simp only[act]
  repeat' split
  all_goals simp[rf,uV,ll,lL,nX,lK,doPrint,nW,nY,nV,bk.cn,bk.inc]
 rw[fE]
 repeat' split
 all_goals first|exact ha _ _ _|simp
theorem lA (o:Obj) (s:bk) (kind k:Int):(ck o s kind k).1.bg.length≤s.bg.length+1:=by
 rw[ck]
 split
 ·exact xi o s k
 ·split
  ·rw[dP]
   repeat' split
   all_goals simp[bk.cn]
  ·simp
end Go.Proofs.YtlonbgdonffcbaaGreatDoor
/- What the laws ask of a machine. -/
namespace Go.Proofs.YtlonbgdonffcbaaGreatDoor
open Go Go.cU Go.Proofs
set_option linter.unusedSimpArgs false
set_option linter.unusedVariables false
def Made (o:Obj) (H:Hp) (nx:Nat):AV→Hp→Nat→Prop:=fun r H' n=>∃L,r= .dE [.pt L.m 1 0 0,bl true]∧fh o (dY o) L H' n∧nx≤n∧(∀b∈L.ids,nx≤b)∧∀b,b<nx→bf H' b=bf H b
end Go.Proofs.YtlonbgdonffcbaaGreatDoor
end
section
/- One round with the store drained right behind it. -/
namespace Go.Proofs.YtlonbgdonffcbaaGreatDoor
open Go Go.cU Go.Proofs
set_option linter.unusedSimpArgs false
set_option linter.unusedVariables false
end Go.Proofs.YtlonbgdonffcbaaGreatDoor
/- A machine that is looked at alone. -/
namespace Go.Proofs.YtlonbgdonffcbaaGreatDoor
open Go Go.cU Go.Proofs
set_option linter.unusedSimpArgs false
set_option linter.unusedVariables false
abbrev bx.frozen (c:bx):AV:= .agg (c.cells (.im 3 .any (c.buf.map dA.av)))
def bk.frozen (o:Obj) (s:bk):AV:= .ip 8 .any [.agg [.sc (.slice none 0 0),i64 o.shared,i64 o.fX,i64 o.buffer, .im 2 .any (o.bd.map Core.av), .im 19 .any (s.bd.map bx.frozen), .im 1 .any (s.mem.map i64), .im 2 .any (s.bg.map cF.av)]] 0 0
theorem fh.dy {o:Obj} {s:bk} {L:Lay} {H:Hp} {nx:Nat} (h:fh o s L H nx):dy H 6 (.pt L.m 1 0 0)=s.frozen o:=by
 obtain⟨d1,h1⟩:=h.m
 obtain⟨d2,h2⟩:=h.c
 obtain⟨d3,h3⟩:=h.mem
 obtain⟨d4,h4⟩:=h.pr
 have hcores:(rows s L).map (cU.dy H 3)=s.bd.map bx.frozen:=by
  apply List.ext_getElem
  ·simp[rows,h.lens]
  ·intro i p1 p2
   have hi:i<s.bd.length:=by simpa using p2
   have hib:i<L.cZ.length:=by rw[h.lens];exact hi
   obtain⟨d5,h5⟩:=h.cZ i hi
   have e1:L.cZ.getD i 0=L.cZ[i]:=by simp[List.getD,hib]
   have e2:s.bd.getD i default=s.bd[i]:=by simp[List.getD,hi]
   rw[e1,e2] at h5
   simp only[List.getElem_map,rows,List.getElem_zipWith,bx.av,cU.dy,bx.cells,List.map_cons,List.map_nil,kh,h5]
   rw[if_pos (by simp),dj 1 (by simp[cD,cA,cH])]
   rfl
 rw[LV (len:=1) h1 (by rfl),bk.frozen]
 simp only[List.map_cons,List.map_nil,cU.dy,kh,h2,h3,h4]
 rw[if_pos (dG h),if_pos (by simp),if_pos (by simp),hcores,dj 3 (by simp[cD,cA]),dj 3 (by simp[cD,cA,cH])]
theorem iQ (o:Obj) (s:bk):cA 0 (s.frozen o):=by
 simp[bk.frozen,cA,cH,cD,bx.cells]
theorem pj (o:Obj) (s:bk):Pure Tryz.prog 71 [s.frozen o] (fun r=>r=i64 s.bd.length):=by
 refine aI FL rfl ?_
 repeat' (first|((with_reducible refine aF ?_);conv=>whnf)|refine aG ?_|exact aC|with_reducible refine aD ?_ ?_|(apply aA;(·exact bz))|refine aH ?_|((with_reducible refine aB ?_ ?_)<;>intro hc<;>(try simp only[List.length_map,ne_eq,dL] at hc)<;>try(exfalso;omega)))
 rw[List.length_map]
end Go.Proofs.YtlonbgdonffcbaaGreatDoor
/- What a step does, told by what it says that it did. -/
namespace Go.Proofs.YtlonbgdonffcbaaGreatDoor
open Go Go.cU Go.Proofs
set_option linter.unusedSimpArgs false
set_option linter.unusedVariables false
end Go.Proofs.YtlonbgdonffcbaaGreatDoor
end
section
/- A core looked at. -/
namespace Go.Proofs.YtlonbgdonffcbaaGreatDoor
open Go Go.cU Go.Proofs
set_option linter.unusedSimpArgs false
set_option linter.unusedVariables false
end Go.Proofs.YtlonbgdonffcbaaGreatDoor
end
section
/- A machine that is looked at alone: its parts; lists that are the same. -/
namespace Go.Proofs.YtlonbgdonffcbaaGreatDoor
open Go Go.cU Go.Proofs
set_option linter.unusedSimpArgs false
set_option linter.unusedVariables false
@[simp] theorem NA (c:bx):cH 0 (c.cells (.im 3 .any (c.buf.map dA.av))):=by simp[bx.cells,cH,cA,cD]
theorem sV (o:Obj) (s:bk) (hm:s.mem.length≤4096):Pure Tryz.prog 37 [s.frozen o] (fun r=>r= .im 1 .any (s.mem.map i64)):=by
 refine aI EY rfl ?_
 have h1:=nS (es:=s.mem.map i64) (by rw[List.length_map];omega) (by simp[cD,cA])
 repeat' (first|((with_reducible refine aF ?_);conv=>whnf)|refine aG ?_|exact aC|with_reducible refine aD ?_ ?_|(apply aA;(·exact bz))|refine aK (h1) ?_|refine aH ?_|((with_reducible refine aB ?_ ?_)<;>intro hc<;>(try simp only[List.length_map,ne_eq,dL] at hc)<;>try(exfalso;omega)))
 exact rfl
theorem nt (o:Obj) (s:bk) (hm:s.bg.length * 16≤140737488355328):Pure Tryz.prog 12 [s.frozen o] (fun r=>r= .im 2 .any (s.bg.map cF.av)):=by
 refine aI EF rfl ?_
 have h1:=mN (es:=s.bg.map cF.av) (by rw[List.length_map];omega) (by simp[cD,cA,cH])
 repeat' (first|((with_reducible refine aF ?_);conv=>whnf)|refine aG ?_|exact aC|with_reducible refine aD ?_ ?_|(apply aA;(·exact bz))|refine aK (h1) ?_|refine aH ?_|((with_reducible refine aB ?_ ?_)<;>intro hc<;>(try simp only[List.length_map,ne_eq,dL] at hc)<;>try(exfalso;omega)))
 exact rfl
theorem LX (o:Obj) (s:bk) (k:Int):Pure Tryz.prog 58 [s.frozen o,i64 k] (fun r=>r=i64 (kU s k)):=by
 refine aI AT rfl ?_
 repeat' (first|((with_reducible refine aF ?_);conv=>whnf)|refine aG ?_|exact aC|with_reducible refine aD ?_ ?_|(apply aA;(·exact bz))|refine aH ?_|((with_reducible refine aB ?_ ?_)<;>intro hc<;>(try simp only[List.length_map,ne_eq,dL] at hc)<;>try(exfalso;omega)))
 ·rw[kU,if_pos (by unfold out;omega)]
 ·rw[kU,if_neg (by unfold out;omega)]
theorem j4 {s:bk} {q:Nat} (hq:q<s.bd.length) (d:AV):(s.bd.map bx.frozen).getD q d=(s.core q).frozen:=dS _ _ _ _ hq
theorem J3 (o:Obj) (s:bk) (q:Nat) (hq:q<s.bd.length) (hb:(s.core q).buf.length<1000):Pure Tryz.prog 90 [s.frozen o,i64 q] (fun r=>r= .dE [(s.core q).frozen,i64 0]):=by
 refine aI F4 rfl ?_
 have hk:¬out s q:=by unfold out;omega
 have he:kU s q=0:=by rw[kU,if_neg hk]
 have h1:=mO (es:=(s.core q).buf.map dA.av) (by rw[List.length_map];omega) (by simp[cD,cA,cH])
 have h2:=LX o s q
 rw[he,bk.frozen] at h2
 repeat' (first|((with_reducible refine aF ?_);conv=>whnf)|refine aG ?_|exact aC|with_reducible refine aD ?_ ?_|(apply aA;(·(first|exact j4 hq _|exact bz)))|refine aK (h2) ?_|refine aK (h1) ?_|refine aH ?_|((with_reducible refine aB ?_ ?_)<;>intro hc<;>(try simp only[List.length_map,ne_eq,dL] at hc)<;>try(exfalso;omega)))
 exact rfl
def fT (c:bx):Bool:=c.halted&&decide (c.buf.length=0)
theorem iy (c:bx):Pure Tryz.prog 36 [c.frozen] (fun r=>r=bl (!fT c)):=by
 refine aI EX rfl ?_
 repeat' (first|((with_reducible refine aF ?_);conv=>whnf)|refine aG ?_|exact aC|with_reducible refine aD ?_ ?_|(apply aA;(·exact bz))|refine aH ?_|((with_reducible refine aB ?_ ?_)<;>intro hc<;>(try simp only[List.length_map,ne_eq,dL] at hc)<;>try(exfalso;omega)))
 simp only[fT]
 cases hh:c.halted<;>cases hb:c.buf<;>simp[hh,hb]
theorem xK (cs:List bx) (hl:cs.length≤8):Pure Tryz.prog 65 [.im 19 .any (cs.map bx.frozen), .fn (.func 36) [] []] (fun r=>∃k,r=i64 k∧(0≤k↔cs.all fT=false)):=by
 refine aI FI rfl ?_
 repeat' (first|((with_reducible refine aF ?_);conv=>whnf)|refine aG ?_|exact aC|with_reducible refine aD ?_ ?_|(apply aA;(·exact bz))|refine aH ?_|((with_reducible refine aB ?_ ?_)<;>intro hc<;>(try simp only[List.length_map,ne_eq,dL] at hc)<;>try(exfalso;omega)))
 refine aR (fun i:Nat=>[(0, .im 19 .any (cs.map bx.frozen)),(1, .fn (.func 36) [] []),(7,i64 cs.length),(8,i64 i)]) (fun i _ _=>i≤cs.length∧∀j,j<i→fT (cs.getD j default)=true) (fun i=>cs.length - i) 0 cG ⟨Nat.zero_le _,fun j hj=>by omega⟩ ?_
 rintro i H' n ⟨hi,hall⟩
 repeat' (first|((with_reducible refine aF ?_);conv=>whnf)|refine aG ?_|exact aC|with_reducible refine aD ?_ ?_|(apply aA;(·exact bz))|((with_reducible refine aJ (iy _) ?_ ?_);(·exact bj))|((with_reducible refine aN (fun _=>iy _) ?_ ?_);(·exact bj))|((with_reducible refine aL (iy _) ?_ ?_);(·exact bj))|((with_reducible refine aM (fun _=>iy _) ?_ ?_);(·exact bj))|refine aH ?_|((with_reducible refine aB ?_ ?_)<;>intro hc<;>(try simp only[List.length_map,ne_eq,dL] at hc)<;>try(exfalso;omega)))
 ·refine⟨⟨by simp[cA],(i:Int),rfl,fun _=> ?_,fun _=>by omega⟩⟩
  have hi2:i<cs.length:=by omega
  rw[List.all_eq_false]
  refine⟨cs[i],List.getElem_mem hi2, ?_⟩
  have:cs.getD i default=cs[i]:=by simp[List.getD,hi2]
  rw[this] at hc;simp[hc]
 ·refine⟨i+1,by omega,cG,by omega,fun j hj=> ?_⟩
  by_cases hji:j=i
  ·subst hji;exact hc
  ·exact hall j (by omega)
 ·refine⟨⟨by simp[cA],(-1:Int),rfl,fun h=>by omega,fun h=> ?_⟩⟩
  exfalso
  have:cs.all fT=true:=by
   rw[List.all_eq_true]
   intro x hx
   obtain⟨j,hj,rfl⟩:=List.mem_iff_getElem.1 hx
   have:=hall j (by omega)
   simpa[List.getD,hj] using this
  rw[this] at h;cases h
theorem rB (cs:List bx) (hl:cs.length≤8):Pure Tryz.prog 35 [.im 19 .any (cs.map bx.frozen), .fn (.func 36) [] []] (fun r=>r=bl (!cs.all fT)):=by
 refine aI EW rfl ?_
 repeat' (first|((with_reducible refine aF ?_);conv=>whnf)|refine aG ?_|exact aC|with_reducible refine aD ?_ ?_|(apply aA;(·exact bz))|refine aH ?_|((with_reducible refine aB ?_ ?_)<;>intro hc<;>(try simp only[List.length_map,ne_eq,dL] at hc)<;>try(exfalso;omega)))
 refine bA (xK cs hl) (by simp[cH,cA,cD]) ?_
 rintro _ ⟨k,rfl,hk⟩
 repeat' (first|((with_reducible refine aF ?_);conv=>whnf)|refine aG ?_|exact aC|with_reducible refine aD ?_ ?_|(apply aA;(·exact bz))|refine aH ?_|((with_reducible refine aB ?_ ?_)<;>intro hc<;>(try simp only[List.length_map,ne_eq,dL] at hc)<;>try(exfalso;omega)))
 cases hb:cs.all fT with
 |true=>
  rw[hb] at hk
  have:¬(0≤k):=fun h=>by simpa using hk.1 h
  simp[this]
 |false=>simp[hk.2 hb]
theorem DB (o:Obj) (s:bk) (hl:s.bd.length≤8):Pure Tryz.prog 13 [s.frozen o] (fun r=>r=bl (s.bd.all fT)):=by
 refine aI EG rfl ?_
 repeat' (first|((with_reducible refine aF ?_);conv=>whnf)|refine aG ?_|exact aC|with_reducible refine aD ?_ ?_|(apply aA;(·exact bz))|refine aK (rB s.bd hl) ?_|refine aH ?_|((with_reducible refine aB ?_ ?_)<;>intro hc<;>(try simp only[List.length_map,ne_eq,dL] at hc)<;>try(exfalso;omega)))
 simp
structure eK (s:bk):Prop where
 bd:s.bd.length≤8
 mem:s.mem.length≤4096
 bg:s.bg.length * 16≤140737488355328
 buf:∀q,q<s.bd.length→(s.core q).buf.length<1000
theorem Good.F8 {o:Obj} {s:bk} (g:Good o s) (ok:cx o) (hp:s.bg.length * 16≤140737488355328):eK s:=
 ⟨by rw[g.n];exact ok.bd,by rw[g.mem];exact ok.mem,hp,fun q hq=>by have:=g.buf q hq;have:=ok.buffer;omega⟩
end Go.Proofs.YtlonbgdonffcbaaGreatDoor
end
section
/- What is ready, by the program. -/
namespace Go.Proofs.YtlonbgdonffcbaaGreatDoor
open Go Go.cU Go.Proofs Go.RowKit
set_option linter.unusedSimpArgs false
set_option linter.unusedVariables false
theorem cr {P:Program} {f:FuncId} {args:List AV} {u:AV} (h:bw P f args [] 0 (fun r H _=>cU.dy H 6 r=u)) (hf:cA 0 u):Pure P f args (fun r=>r=u):=by
 refine⟨h.1,fun M w vs hM hv=> ?_⟩
 have hS:cw w ⟨fun _=>none,bf [],fun _=>False,w,M⟩:=⟨Below.refl _ _,hM,fun b e sz d es he=>by simp[bf] at he,fun b b' k k' blk o z o' z' hk=>by simp[bf] at hk⟩
 have hv':cQ ⟨fun _=>none,bf [],fun _=>False,w,M⟩ args vs:=hv
 refine(h.2 w _ vs hS rfl (fun _ h=>h.elim) hv').mono ?_
 rintro en w' ⟨v,r1,H1,nx',ρ,U,he,hz,hU,hS',_,g2⟩
 have h3:=kj hS' rfl 6 (a:=r1) (v:=v) (by rw[hz];exact hf) g2
 rw[hz] at h3
 exact⟨v,_,he,rfl,hf,h3,hS'.below⟩
theorem jg {P:Program} {f:FuncId} {args:List AV} {a b:AV} (h:Pure P f args (fun r=>r=a)) (hf:cA 0 b) (hle:∀c,c9 c c a b):Pure P f args (fun r=>r=b):=
 ⟨h.1,fun M w vs hM hv=>(h.2 M w vs hM hv).mono fun _ _ ⟨v,r,he,hR,hf0,hvr,hb⟩=>⟨v,b,he,rfl,hf,hle _ v (by rw[←hR];exact hvr),hb⟩⟩
def ni (l:List cV):AV:=if l=[] then .sc (.slice none 0 0) else .im 2 .any (l.map cV.av)
@[simp] theorem KJ (n:Nat) (o:Obj) (s:bk):cA n (s.frozen o):=by simp[bk.frozen,cA,cH,cD,bx.cells]
@[simp] theorem ND (n:Nat):cA n qo:=by simp[qo,cA,cH,bx.cells]
@[simp] theorem LR (n:Nat) (l:List cV):cA n (ni l):=by
  unfold ni
  split<;>simp[cA,cH,cD]
theorem I8 {o:Obj} {s:bk} (g:Good o s) (q:Nat) (hq:q<s.bd.length):Pure Tryz.prog 59 [s.frozen o,i64 q, .sc (.pointer none)] (fun r=>r= .agg [s.frozen o, .ip 19 .any (s.bd.map bx.frozen) q 0,u8 (cX o s q).kind,u8 (cX o s q).op,i64 (cX o s q).d,i64 (cX o s q).a,i64 (cX o s q).b,i64 (cX o s q).addr,i64 (cX o s q).to,i64 (cX o s q).word,i64 (cX o s q).fr, .sc (.pointer none)]):=by
 refine aI AU rfl ?_
 have hqo:q<o.bd.length:=by rw[←g.n];exact hq
 have hpc:=g.pc q hq
 have hpc2:(s.core q).pc.toNat<(o.core q).code.length:=by omega
 have hpc3:0≤(s.core q).pc:=hpc.1
 repeat' (first|((with_reducible refine aF ?_);conv=>whnf)|refine aG ?_|exact aC|with_reducible refine aD ?_ ?_|(apply aA;(·(first|exact j4 hq _|exact dS _ _ _ _ hpc2|exact bz)))|refine aH ?_|((with_reducible refine aB ?_ ?_)<;>intro hc<;>(try simp only[List.length_map,ne_eq,dL] at hc)<;>try(exfalso;omega)))
 show AV.agg (List.map (cU.dy _ 5) [s.frozen o, .ip 19 .any (s.bd.map bx.frozen) q 0,u8 (cX o s q).kind,u8 (cX o s q).op,i64 (cX o s q).d,i64 (cX o s q).a,i64 (cX o s q).b,i64 (cX o s q).addr,i64 (cX o s q).to,i64 (cX o s q).word,i64 (cX o s q).fr, .sc (.pointer none)])=_
 rw[dj 5 (by simp[cH,cA,cD,bx.cells])]
theorem BS (o:Obj) (s:bk) (q:Nat) (hq:q<s.bd.length) (i:Instr):Pure Tryz.prog 60 [.agg [s.frozen o, .ip 19 .any (s.bd.map bx.frozen) q 0,u8 i.kind,u8 i.op,i64 i.d,i64 i.a,i64 i.b,i64 i.addr,i64 i.to,i64 i.word,i64 i.fr, .sc (.pointer none)]] (fun r=>r=bl (ep o s q i)):=by
 refine aI AW rfl ?_
 repeat' (first|((with_reducible refine aF ?_);conv=>whnf)|refine aG ?_|exact aC|with_reducible refine aD ?_ ?_|(apply aA;(·(first|exact j4 hq _|exact bz)))|refine aH ?_|((with_reducible refine aB ?_ ?_)<;>intro hc<;>(try simp only[List.length_map,ne_eq,dL] at hc)<;>try(exfalso;omega)))
 all_goals simp only[ep]
 all_goals (try simp only[List.length_map])
 ·rw[if_pos (by assumption)]
 ·rw[if_neg (by omega),if_pos (by omega)]
 ·rw[if_neg (by omega),if_pos (by omega)]
 ·rw[if_neg (by omega),if_pos (by omega)]
 ·rw[if_neg (by omega),if_neg (by omega)]
def eo (o:Obj) (s:bk) (q:Nat):List cV:=(if(s.core q).halted=false∧ep o s q (cX o s q)=false then[⟨1,q⟩] else[])++(if 0<(s.core q).buf.length then[⟨2,q⟩] else[])
def dV (o:Obj) (s:bk) (n:Nat):List cV:=(List.range n).flatMap (eo o s)
theorem oT (o:Obj) (s:bk) (n:Nat):dV o s (n+1)=dV o s n++eo o s n:=by simp[dV,List.range_succ]
theorem xl (o:Obj) (s:bk) (n:Nat):(eo o s n).length≤2:=by
 simp only[eo,List.length_append]
 split<;>split<;>simp
theorem jc (o:Obj) (s:bk):∀n,(dV o s n).length≤2 * n
 |0=>by simp[dV]
 |n+1=>by rw[oT,List.length_append];have:=jc o s n;have:=xl o s n;omega
def Grown (lo:Nat) (l:List cV) (v:AV) (H:Hp) (n:Nat):Prop:=(l=[]∧v= .sc (.slice none 0 0))∨∃b,v= .sl b l.length∧(lo≤b∧b<n)∧0<l.length∧∃d es,bf H b=some (.row 42 2 d es)∧es=l.map cV.av
theorem HT {l m:List AV} {n k:Nat} (hl:l.length=1) (hm:m.length=1) (h:(n+2) * k≤140737488355328):(n+l.length+m.length) * k≤j7:=by rw[hl,hm];exact h
theorem Grown.mk {l:List cV} {lo b n len:Nat} {H:Hp} {d:AV} {es:List AV} (hlen:l.length=len) (h0:lo≤b) (hb:b<n) (hp:0<len) (r:bf H b=some (.row 42 2 d es)) (he:es=l.map cV.av):Grown lo l (.sl b len) H n:=by
 subst hlen;exact .inr ⟨b,rfl,⟨h0,hb⟩,hp,d,es,r,he⟩
theorem zG {o:Obj} {s:bk} {q:Nat} (h1:(s.core q).halted=false∧ep o s q (cX o s q)=false) (h2:(0:Int)<(s.core q).buf.length):eo o s q=[⟨1,q⟩,⟨2,q⟩]:=by
 rw[eo,if_pos h1,if_pos (by omega)];rfl
theorem GS {o:Obj} {s:bk} {q:Nat} (h1:(s.core q).halted=false∧ep o s q (cX o s q)=false) (h2:((s.core q).buf.length:Int)≤0):eo o s q=[⟨1,q⟩]:=by
 rw[eo,if_pos h1,if_neg (by omega)];rfl
theorem wB {o:Obj} {s:bk} {q:Nat} (h1:¬(s.core q).halted=false∨ep o s q (cX o s q)=true) (h2:(0:Int)<(s.core q).buf.length):eo o s q=[⟨2,q⟩]:=by
 rw[eo,if_neg (by rcases h1 with h|h<;>simp_all),if_pos (by omega)];rfl
theorem zH {o:Obj} {s:bk} {q:Nat} (h1:¬(s.core q).halted=false∨ep o s q (cX o s q)=true) (h2:((s.core q).buf.length:Int)≤0):eo o s q=[]:=by
 rw[eo,if_neg (by rcases h1 with h|h<;>simp_all),if_neg (by omega)];rfl
set_option maxHeartbeats 4000000 in
theorem wD {o:Obj} {s:bk} (g:Good o s) (hc:s.bd.length≤8):bw Tryz.prog 55 [s.frozen o] [] 0 (fun r H n=>Grown 0 (dV o s s.bd.length) r H n):=by
 refine aO FC rfl ?_
 have h1:=pj o s
 simp only[bk.frozen] at h1 ⊢
 repeat' (first|((with_reducible refine aF ?_);conv=>whnf)|refine aG ?_|exact aC|with_reducible refine aD ?_ ?_|(apply aA;(·exact bz))|refine aK (h1) ?_|refine aH ?_|((with_reducible refine aB ?_ ?_)<;>intro hc<;>(try simp only[List.length_map,ne_eq,dL] at hc)<;>try(exfalso;omega)))
 refine aR (fun p:Nat×AV=>[(0,s.frozen o),(7,i64 s.bd.length),(8,i64 p.1),(3,p.2)]) (fun p H n=>p.1≤s.bd.length∧Grown 0 (dV o s p.1) p.2 H n) (fun p=>s.bd.length - p.1) (0, .sc (.slice none 0 0)) cG ⟨Nat.zero_le _, .inl ⟨rfl,rfl⟩⟩ ?_
 rintro⟨k,v⟩ H n ⟨hk,hv⟩
 simp only at hk hv
 dsimp only
 have hle:=jc o s k
 by_cases hkl:k<s.bd.length
 ·have h2:=I8 g k hkl
  have h3:=BS o s k hkl (cX o s k)
  simp only[bk.frozen] at h2 h3 ⊢
  have hnx:=oT o s k
  rcases hv with⟨hl,rfl⟩|⟨b,rfl,hb,hl,d,es,r,hes⟩
  ·repeat' (first|((with_reducible refine aF ?_);conv=>whnf)|refine aG ?_|exact aC|with_reducible refine aD ?_ ?_|(apply aA;(·(first|exact j4 hkl _|exact bz)))|refine aK (h2) ?_|refine aK (h3) ?_|refine aH ?_|((with_reducible refine aB ?_ ?_)<;>intro hc<;>(try simp only[List.length_map,ne_eq,dL] at hc)<;>try(exfalso;omega)))
   ·have ra:=zG (o:=o) (s:=s) (q:=k) (by assumption) hc
    exact⟨(k+1, .sl (n+22) 2),by show s.bd.length - (k+1)<s.bd.length - k;omega,cG,by show k+1≤s.bd.length;omega,Grown.mk (by rw[hnx,ra,hl];rfl) cM cM (by omega) bn (by rw[hnx,ra,hl];rfl)⟩
   ·have ra:=GS (o:=o) (s:=s) (q:=k) (by assumption) hc
    exact⟨(k+1, .sl (n+22) 1),by show s.bd.length - (k+1)<s.bd.length - k;omega,cG,by show k+1≤s.bd.length;omega,Grown.mk (by rw[hnx,ra,hl];rfl) cM cM (by omega) bn (by rw[hnx,ra,hl];rfl)⟩
   ·have ra:=wB (o:=o) (s:=s) (q:=k) (by assumption) hc
    exact⟨(k+1, .sl (n+29) 1),by show s.bd.length - (k+1)<s.bd.length - k;omega,cG,by show k+1≤s.bd.length;omega,Grown.mk (by rw[hnx,ra,hl];rfl) cM cM (by omega) bn (by rw[hnx,ra,hl];rfl)⟩
   ·have ra:=zH (o:=o) (s:=s) (q:=k) (by assumption) hc
    exact⟨(k+1, .sc (.slice none 0 0)),by show s.bd.length - (k+1)<s.bd.length - k;omega,cG,by show k+1≤s.bd.length;omega, .inl ⟨by rw[hnx,ra,hl];rfl,rfl⟩⟩
  ·have hesl:es.length=(dV o s k).length:=by rw[hes];simp
   repeat' (first|((with_reducible refine aF ?_);conv=>whnf)|refine aG ?_|exact aC|with_reducible refine aD ?_ ?_|(apply aA;(·(first|exact j4 hkl _|exact bz)))|refine aK (h2) ?_|refine aK (h3) ?_|refine aH ?_|((with_reducible refine aB ?_ ?_)<;>intro hc<;>(try simp only[List.length_map,ne_eq,dL] at hc)<;>try(exfalso;omega)))
   ·exact⟨HT rfl rfl (by omega)⟩
   ·have ra:=zG (o:=o) (s:=s) (q:=k) (by assumption) hc
    exact⟨(k+1, .sl b ((dV o s k).length+2)),by show s.bd.length - (k+1)<s.bd.length - k;omega,cG,by show k+1≤s.bd.length;omega,Grown.mk (by rw[hnx,ra,List.length_append];rfl) hb.1 (Nat.lt_of_lt_of_le hb.2 cM) (by omega) bn (by rw[hnx,ra,List.map_append,←hes];exact List.append_assoc _ [_] [_])⟩
   ·have ra:=GS (o:=o) (s:=s) (q:=k) (by assumption) hc
    exact⟨(k+1, .sl b ((dV o s k).length+1)),by show s.bd.length - (k+1)<s.bd.length - k;omega,cG,by show k+1≤s.bd.length;omega,Grown.mk (by rw[hnx,ra,List.length_append];rfl) hb.1 (Nat.lt_of_lt_of_le hb.2 cM) (by omega) bn (by rw[hnx,ra,List.map_append,←hes];exact rfl)⟩
   ·have ra:=wB (o:=o) (s:=s) (q:=k) (by assumption) hc
    exact⟨(k+1, .sl b ((dV o s k).length+1)),by show s.bd.length - (k+1)<s.bd.length - k;omega,cG,by show k+1≤s.bd.length;omega,Grown.mk (by rw[hnx,ra,List.length_append];rfl) hb.1 (Nat.lt_of_lt_of_le hb.2 cM) (by omega) bn (by rw[hnx,ra,List.map_append,←hes];exact rfl)⟩
   ·have ra:=zH (o:=o) (s:=s) (q:=k) (by assumption) hc
    exact⟨(k+1, .sl b (dV o s k).length),by show s.bd.length - (k+1)<s.bd.length - k;omega,cG,by show k+1≤s.bd.length;omega,Grown.mk (by rw[hnx,ra,List.append_nil]) hb.1 (Nat.lt_of_lt_of_le hb.2 cM) hl bn (by rw[hnx,ra,List.append_nil];exact hes)⟩
 ·have hkn:k=s.bd.length:=by omega
  subst hkn
  simp only[bk.frozen]
  rcases hv with⟨hl,rfl⟩|⟨b,rfl,hb,hl,d,es,r,hes⟩
  ·repeat' (first|((with_reducible refine aF ?_);conv=>whnf)|refine aG ?_|exact aC|with_reducible refine aD ?_ ?_|(apply aA;(·exact bz))|refine aH ?_|((with_reducible refine aB ?_ ?_)<;>intro hc<;>(try simp only[List.length_map,ne_eq,dL] at hc)<;>try(exfalso;omega)))
   exact⟨.inl ⟨hl,rfl⟩⟩
  ·repeat' (first|((with_reducible refine aF ?_);conv=>whnf)|refine aG ?_|exact aC|with_reducible refine aD ?_ ?_|(apply aA;(·exact bz))|refine aH ?_|((with_reducible refine aB ?_ ?_)<;>intro hc<;>(try simp only[List.length_map,ne_eq,dL] at hc)<;>try(exfalso;omega)))
   exact⟨.inr ⟨b,rfl,⟨hb.1,Nat.lt_of_lt_of_le hb.2 cM⟩,hl,d,es,bn,hes⟩⟩
theorem BG {o:Obj} {s:bk} (g:Good o s) (hc:s.bd.length≤8):Pure Tryz.prog 55 [s.frozen o] (fun r=>r=ni (dV o s s.bd.length)):=by
 refine cr ((wD g hc).mono fun r H n hr=> ?_) (by simp)
 rcases hr with⟨h1,rfl⟩|⟨b,rfl,_,hl,d,es,hr,rfl⟩
 ·rw[ni,if_pos h1,kh]
 ·rw[ki hr (by simp),dj 5 (by simp[cD,cA,cH]),ni,if_neg (fun h=>by rw[h] at hl;exact absurd hl (by simp))]
end Go.Proofs.YtlonbgdonffcbaaGreatDoor
end
