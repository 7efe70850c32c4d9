import Derived.Test.YtlonbgdonffcbaaGreatDoorM24
import Derived.Test.YtlonbgdonffcbaaGreatDoorM21
section
/- A new machine. -/
namespace Go.Proofs.YtlonbgdonffcbaaGreatDoor
open Go Go.cW Go.Proofs
set_option linter.unusedSimpArgs false
set_option linter.unusedVariables false
def eU (o:Obj):Bool:=eV o&&(od o.mem.length o.bf 0).isNone
theorem pf {o:Obj} (h:eU o=true):gV o= .dD [i64 0,i64 0,i64 0]:=by
 simp only[eU,Bool.and_eq_true,Option.isNone_iff_eq_none] at h
 rw[gV,if_pos h.1,h.2]
theorem rY {o:Obj} (h:eU o=false):∃k n:Int,gV o= .dD [i64 160,i64 k,i64 n]:=by
 rw[gV]
 by_cases hs:eV o=true
 ·rw[if_pos hs]
  cases hb:od o.mem.length o.bf 0 with
  |none=>simp[eU,hs,hb] at h
  |some p=>exact⟨p.1,p.2,rfl⟩
 ·rw[if_neg hs];exact⟨0,0,rfl⟩
theorem gZ {o:Obj} (ho:o.Wf) (i:Nat):Pure Tryz.prog 26 [.im 9 .any ((o.bf.getD i default).code.map Instr.av)] (fun r=>r= .im 9 .any ((o.bf.getD i default).code.map Instr.av)):=
 oe (by rw[List.length_map];have:=(ho.at i).len;omega) (by simp[cF,cC])
theorem wW (f:Core→AV) {l:List Core} {i:Nat} (h:i<l.length):(l.take (i+1)).map f=(l.take i).map f++[f (l.getD i default)]:=by
 rw[List.take_succ_eq_append_getElem h,List.map_append];simp[List.getD,h]
def core0:bx:=⟨0,false,fun _=>0,[]⟩
def qq:AV:= .agg (core0.cells (.sc (.slice none 0 0)))
def KQ (o:Obj) (H:Hp) (nx:Nat):AV→Hp→Nat→Prop:=fun r H' n=>nx≤n∧∃m c mm v,r= .dD [.pt m 1 0 0,i64 0]∧(nx≤m∧m<n)∧(nx≤c∧c<n)∧(nx≤mm∧mm<n)∧m≠c∧m≠mm∧c≠mm∧
 (∃d es,bd H' m=some (.row 77 8 d es)∧es=[.agg [.sc (.slice none 0 0),i64 o.shared,i64 o.gu,i64 o.buffer,v, .sl c o.bf.length, .sl mm o.mem.length, .sc (.slice none 0 0)]])∧
 (∃d es,bd H' c=some (.row 93 19 d es)∧es=List.replicate o.bf.length qq)∧
 (∃d,bd H' mm=some (.row 2 1 d (o.mem.map i64)))∧
 ((v= .sc (.slice none 0 0)∧o.bf=[])∨∃cb d,v= .sl cb o.bf.length∧(nx≤cb∧cb<n)∧cb≠m∧cb≠c∧cb≠mm∧bd H' cb=some (.row 66 2 d (o.bf.map Core.av)))∧
 ∀b,b<nx→bd H' b=bd H b
def da (o:Obj):bk:={ bf:=List.replicate o.bf.length core0,mem:=o.mem,bg:=[] }
def PS (H:Hp) (nx:Nat):AV→Hp→Nat→Prop:=Kept H nx (.dD [.sc (.pointer none),i64 160])
theorem I3 {o:Obj} (ho:o.Wf) (h:eU o=false) {H:Hp} {nx:Nat}:bw Tryz.prog 9 [o.av] H nx (PS H nx):=by
 refine aO M9 rfl ?_
 obtain⟨k,n,hk⟩:=rY h
 have hp:=iK o ho
 rw[hk] at hp
 repeat' (first|((with_reducible refine aF ?_);conv=>whnf)|refine aG ?_|exact aC|with_reducible refine aD ?_ ?_|(apply aA;(·exact cA))|refine aK (hp) ?_|refine aH ?_|((with_reducible refine aB ?_ ?_)<;>intro hc<;>(try simp only[List.length_map,ne_eq,dP] at hc)<;>try(exfalso;omega)))
 all_goals exact⟨⟨rfl,cO,dA⟩⟩
set_option maxRecDepth 20000 in
theorem I4 {o:Obj} (ho:o.Wf) (ok:cw o) (h:eU o=true) {H:Hp} {nx:Nat}:bw Tryz.prog 9 [o.av] H nx (KQ o H nx):=by
 refine aO M9 rfl ?_
 have hp:=iK o ho
 rw[pf h] at hp
 have hoc:=ok.bf
 repeat' (first|((with_reducible refine aF ?_);conv=>whnf)|refine aG ?_|exact aC|with_reducible refine aD ?_ ?_|(apply aA;(·exact cA))|refine aK (hp) ?_|refine aH ?_|((with_reducible refine aB ?_ ?_)<;>intro hc<;>(try simp only[List.length_map,ne_eq,dP] at hc)<;>try(exfalso;omega)))
 refine aT (fun i:Nat=>[(1, .pt nx 1 0 0),(7, .pt (nx+14) 1 0 0),(23, .im 2 .any (o.bf.map Core.av)),(24,i64 o.bf.length),(25,i64 i)]) (fun i H' n=>i≤o.bf.length∧nx+15≤n∧(∃d,bd H' nx=some (.row 25 5 d [o.av]))∧(∃v d,bd H' (nx+14)=some (.row 25 5 d [.agg [.sc (.slice none 0 0),i64 o.shared,i64 o.gu,i64 o.buffer,v]])∧((i=0∧v= .sc (.slice none 0 0))∨∃cb d' es,0<i∧v= .sl cb i∧nx+15≤cb∧cb<n∧bd H' cb=some (.row 66 2 d' es)∧es=(o.bf.take i).map Core.av))∧∀b,b<nx→bd H' b=bd H b) (fun i=>o.bf.length - i) 0 cH ⟨Nat.zero_le _,cO,⟨_,bo⟩,⟨_,_,bo, .inl ⟨rfl,rfl⟩⟩,dA⟩ ?_
 rintro i H' n ⟨hi,hn,⟨d1,r1⟩,⟨v,d7,r7,hv⟩,hfr⟩
 rcases hv with⟨rfl,rfl⟩|⟨cb,dcb,es,hi0,rfl,hcb1,hcb2,rcb,hes⟩
 ·repeat' (first|((with_reducible refine aF ?_);conv=>whnf)|refine aG ?_|exact aC|with_reducible refine aD ?_ ?_|(apply aA;(·exact cA))|((with_reducible refine aN (gZ ho _) ?_ ?_);(·exact bj))|((with_reducible refine aM (fun _=>gZ ho _) ?_ ?_);(·exact bj))|((with_reducible refine aJ (gZ ho _) ?_ ?_);(·exact bj))|((with_reducible refine aL (fun _=>gZ ho _) ?_ ?_);(·exact bj))|refine aH ?_|((with_reducible refine aB ?_ ?_)<;>intro hc<;>(try simp only[List.length_map,ne_eq,dP] at hc)<;>try(exfalso;omega)))
  ·refine⟨0+1,by omega,cH,by omega,cO,⟨_,bo⟩,⟨_,_,bo, .inr ⟨n+14,_,_,by omega,rfl,cO,cO,bo, ?_⟩⟩,(by intro _b _hb;repeat(first|exact hfr _ _hb|exact rfl|(refine Eq.trans (bh (by first|omega|(simp only[List.length_cons,List.length_nil];omega))) ?_)))⟩
   rw[wW _ (by omega)];rfl
  refine aY (es:=o.mem.map i64) [] .any (fu (by rw[List.length_map];have:=ok.mem;omega)) (fun i hi=>by rw[dY _ _ _ _ (by simpa using hi)];trivial) (fun _ _=>rfl) (by simp[cG,cC,cF]) ?_
  repeat' (first|((with_reducible refine aF ?_);conv=>whnf)|refine aG ?_|exact aC|with_reducible refine aD ?_ ?_|(apply aA;(·exact cA))|refine aH ?_|((with_reducible refine aB ?_ ?_)<;>intro hc<;>(try simp only[List.length_map,ne_eq,dP] at hc)<;>try(exfalso;omega)))
  refine⟨cO,n+10,n+5,n+8, .sc (.slice none 0 0),rfl,⟨cO,cO⟩,⟨cO,cO⟩,⟨cO,cO⟩,by omega,by omega,by omega,⟨_,_,bo,(by simp only[List.length_map,Int.toNat_natCast];rfl)⟩,⟨_,_,bo,(by simp only[List.length_map,Int.toNat_natCast];rfl)⟩,⟨_,bo⟩, .inl ⟨rfl,List.eq_nil_of_length_eq_zero (by omega)⟩,(by intro _b _hb;repeat(first|exact hfr _ _hb|exact rfl|(refine Eq.trans (bh (by first|omega|(simp only[List.length_cons,List.length_nil];omega))) ?_)))⟩
 ·have hel:es.length=i:=by rw[hes];simp;omega
  repeat' (first|((with_reducible refine aF ?_);conv=>whnf)|refine aG ?_|exact aC|with_reducible refine aD ?_ ?_|(apply aA;(·exact cA))|((with_reducible refine aN (gZ ho _) ?_ ?_);(·exact bj))|((with_reducible refine aM (fun _=>gZ ho _) ?_ ?_);(·exact bj))|((with_reducible refine aJ (gZ ho _) ?_ ?_);(·exact bj))|((with_reducible refine aL (fun _=>gZ ho _) ?_ ?_);(·exact bj))|refine aH ?_|((with_reducible refine aB ?_ ?_)<;>intro hc<;>(try simp only[List.length_map,ne_eq,dP] at hc)<;>try(exfalso;omega)))
  ·refine⟨i+1,by omega,cH,by omega,cO,⟨_,bo⟩,⟨_,_,bo, .inr ⟨cb,_,_,by omega,rfl,cO,cO,bo, ?_⟩⟩,(by intro _b _hb;repeat(first|exact hfr _ _hb|exact rfl|(refine Eq.trans (bh (by first|omega|(simp only[List.length_cons,List.length_nil];omega))) ?_)))⟩
   rw[wW _ (by omega),←hes];rfl
  refine aY (es:=o.mem.map i64) [] .any (fu (by rw[List.length_map];have:=ok.mem;omega)) (fun i hi=>by rw[dY _ _ _ _ (by simpa using hi)];trivial) (fun _ _=>rfl) (by simp[cG,cC,cF]) ?_
  repeat' (first|((with_reducible refine aF ?_);conv=>whnf)|refine aG ?_|exact aC|with_reducible refine aD ?_ ?_|(apply aA;(·exact cA))|refine aH ?_|((with_reducible refine aB ?_ ?_)<;>intro hc<;>(try simp only[List.length_map,ne_eq,dP] at hc)<;>try(exfalso;omega)))
  refine⟨cO,n+10,n+5,n+8, .sl cb i,rfl,⟨cO,cO⟩,⟨cO,cO⟩,⟨cO,cO⟩,by omega,by omega,by omega,⟨_,_,bo,(by simp only[List.length_map,Int.toNat_natCast];rfl)⟩,⟨_,_,bo,(by simp only[List.length_map,Int.toNat_natCast];rfl)⟩,⟨_,bo⟩, .inr ⟨cb,dcb,by rw[show i=o.bf.length by omega],⟨by omega,cO⟩,by omega,by omega,by omega, ?_⟩,(by intro _b _hb;repeat(first|exact hfr _ _hb|exact rfl|(refine Eq.trans (bh (by first|omega|(simp only[List.length_cons,List.length_nil];omega))) ?_)))⟩
  have e:o.bf.map Core.av=es:=by rw[hes,List.take_of_length_le (by omega)]
  rw[e];(repeat(first|exact cK _ _ _|assumption|refine sL (by first|omega|(simp only[List.length_cons,List.length_nil];omega)) ?_))
end Go.Proofs.YtlonbgdonffcbaaGreatDoor
/- A new machine, told as one. -/
namespace Go.Proofs.YtlonbgdonffcbaaGreatDoor
open Go Go.cW Go.Proofs
set_option linter.unusedSimpArgs false
set_option linter.unusedVariables false
theorem c8.vv (c c2:Cx) (sz:Nat) (d:AV):c8 c c2 (.sc (.slice none 0 0)) (.im sz d []):=by
 intro v hv
 rw[VR] at hv
 subst hv
 rw[VR]
 exact⟨none,0,rfl,by simp, .inl rfl⟩
def NF (o:Obj) (H:Hp) (nx:Nat):AV→Hp→Nat→Prop:=fun r H' n=>∃L,r= .dD [.pt L.m 1 0 0,i64 0]∧fe o (da o) L H' n∧nx≤n∧(∀b∈L.ids,nx≤b)∧∀b,b<nx→bd H' b=bd H b
def ew (o:Obj) (m c mm n:Nat):Lay:=⟨m,c,mm,n,(List.range o.bf.length).map fun i=>n+1+i⟩
def qa (o:Obj) (m c mm n:Nat) (H':Hp):Hp:=(m,some (.row 77 8 .any [jx o (da o) (ew o m c mm n)]))::(c,some (.row 93 19 .any (rows (da o) (ew o m c mm n))))::(n,some (.row 68 2 .any []))::zY 125 3 (n+1) o.bf.length H'
theorem I2 (o:Obj) {m c mm n:Nat} (H':Hp) (b:Nat) (h1:b≠m) (h2:b≠c) (h3:b<n):bd (qa o m c mm n H') b=bd H' b:=by
 rw[qa,bh h1,bh h2,bh (by omega),fg,if_neg (by omega)]
theorem zA (o:Obj) (m c mm n:Nat):rows (da o) (ew o m c mm n)=(List.range o.bf.length).map fun i=>core0.av (n+1+i):=by
 simp only[rows,da,ew]
 apply List.ext_getElem
 ·simp
 ·intro i h1 h2
  simp
theorem qb (o:Obj) {m c mm n:Nat} {b:Nat} (h:b∈(ew o m c mm n).ids):b=m∨b=c∨b=mm∨(n≤b∧b<n+1+o.bf.length):=by
 simp only[ew,Lay.ids,List.mem_cons,List.mem_map,List.mem_range] at h
 rcases h with h|h|h|h|⟨i,hi,h⟩
 ·exact .inl h
 ·exact .inr (.inl h)
 ·exact .inr (.inr (.inl h))
 ·exact .inr (.inr (.inr (by omega)))
 ·exact .inr (.inr (.inr (by omega)))
theorem MA (o:Obj) {m c mm n:Nat} {H2:Hp} {d:AV} (hm:m<n) (hc:c<n) (hmm:mm<n) (a1:m≠c) (a2:m≠mm) (a3:c≠mm)
 (h1:∃d,bd H2 m=some (.row 77 8 d [jx o (da o) (ew o m c mm n)])) (h2:∃d,bd H2 c=some (.row 93 19 d (rows (da o) (ew o m c mm n))))
 (h3:bd H2 mm=some (.row 2 1 d (o.mem.map i64))) (h4:∃d,bd H2 n=some (.row 68 2 d [])) (h5:∀i,i<o.bf.length→∃d,bd H2 (n+1+i)=some (.row 125 3 d [])):
 fe o (da o) (ew o m c mm n) H2 (n+1+o.bf.length):=by
 refine⟨h1,h2,⟨_,h3⟩,h4, ?_, ?_, ?_, ?_⟩
 ·intro i hi
  have hi2:i<o.bf.length:=by simpa[da] using hi
  have e1:(ew o m c mm n).cY.getD i 0=n+1+i:=by simp[ew,List.getD,hi2]
  have e2:((da o).bf.getD i default).buf=[]:=by simp[da,List.getD,hi2,core0]
  rw[e1,e2];exact h5 i hi2
 ·simp[ew,da]
 ·intro b hb
  rcases qb o hb with h|h|h|h<;>omega
 ·simp only[ew,Lay.ids,List.nodup_cons,List.mem_cons,not_or,List.mem_map,List.mem_range,not_exists,not_and]
  refine⟨⟨a1,a2,by omega,fun i hi=>by omega⟩,⟨a3,by omega,fun i hi=>by omega⟩,⟨by omega,fun i hi=>by omega⟩,fun i hi=>by omega, ?_⟩
  refine List.pairwise_iff_getElem.2 fun i j hi hj hij=> ?_
  simp;omega
theorem za {c c2:Cx} (hle:c.le c2) {b:Nat} (h:c8 c c2 (.sc (.slice none 0 0)) (.sl b 0)):c8 c c2 qq (core0.av b):=
 c8.agg (.cons (c8.cL hle _) (.cons (c8.cL hle _) (.cons (c8.cL hle _) (.cons (c8.cL hle _) (.cons (c8.cL hle _) (.cons (c8.cL hle _) (.cons (c8.cL hle _) (.cons (c8.cL hle _) (.cons (c8.cL hle _) (.cons (c8.cL hle _) (.cons (c8.cL hle _) (.cons (c8.cL hle _) (.cons (c8.cL hle _) (.cons (c8.cL hle _) (.cons (c8.cL hle _) (.cons (c8.cL hle _) (.cons (c8.cL hle _) (.cons (c8.cL hle _) (.cons h .nil)))))))))))))))))))
theorem vu {o:Obj} {m c mm n:Nat} {H' Hd:Hp} {v:AV} (hm:m<n) (hc:c<n) (hmm:mm<n) (a1:m≠c) (a2:m≠mm) (a3:c≠mm)
 (r1:∃d,bd H' m=some (.row 77 8 d [.agg [.sc (.slice none 0 0),i64 o.shared,i64 o.gu,i64 o.buffer,v, .sl c o.bf.length, .sl mm o.mem.length, .sc (.slice none 0 0)]]))
 (r2:∃d,bd H' c=some (.row 93 19 d (List.replicate o.bf.length qq)))
 (hd:∀b,bd Hd b=bd H' b∨bd Hd b=none)
 (hv2:∀(w0:World) (x x2:Cx),cu w0 x→x.H=bd H'→x2.w=x.w→x.le x2→(∀b k blk p z,bd H' b=some k→bd (qa o m c mm n Hd) b=none→x.ρ b=some (blk,p,z)→¬x2.M blk)→c8 x x2 v (.im 2 .any (o.bf.map Core.av))):
 Wk (.dD [.pt m 1 0 0,i64 0]) H' n (.dD [.pt m 1 0 0,i64 0]) (qa o m c mm n Hd) (n+1+o.bf.length):=by
 obtain⟨d1,r1⟩:=r1
 obtain⟨d2,r2⟩:=r2
 have look:∀b,bd (qa o m c mm n Hd) b=if b=m then some (.row 77 8 .any [jx o (da o) (ew o m c mm n)]) else if b=c then some (.row 93 19 .any (rows (da o) (ew o m c mm n))) else if b=n then some (.row 68 2 .any []) else if n+1≤b∧b<n+1+o.bf.length then some (.row 125 3 .any []) else bd Hd b:=by
  intro b
  rw[qa]
  by_cases h1:b=m
  ·subst h1;rw[cK,if_pos rfl]
  rw[bh h1,if_neg h1]
  by_cases h2:b=c
  ·subst h2;rw[cK,if_pos rfl]
  rw[bh h2,if_neg h2]
  by_cases h3:b=n
  ·subst h3;rw[cK,if_pos rfl]
  rw[bh h3,if_neg h3,fg]
 refine Wk.tell (by omega) (fun b e sz d es he=> ?_) (fun w0 x x2 hS hU hx hx2 hw hle hnew hM=>⟨c8.cL hle _,fun b e sz d es d0 es0 he he0=> ?_⟩)
 ·rw[look] at he
  by_cases h1:b=m
  ·subst h1;rw[if_pos rfl] at he;cases he
   exact .inl ⟨_,_,r1,rfl⟩
  rw[if_neg h1] at he
  by_cases h2:b=c
  ·subst h2;rw[if_pos rfl] at he;cases he
   exact .inl ⟨_,_,r2,by rw[zA];simp⟩
  rw[if_neg h2] at he
  by_cases h3:b=n
  ·subst h3;rw[if_pos rfl] at he;cases he
   exact .inr ⟨by omega,by omega,rfl,by omega⟩
  rw[if_neg h3] at he
  by_cases h4:n+1≤b∧b<n+1+o.bf.length
  ·rw[if_pos h4] at he;cases he
   exact .inr ⟨by omega,by omega,rfl,by omega⟩
  rw[if_neg h4] at he
  rcases hd b with h5|h5
  ·rw[h5] at he;exact .inl ⟨_,_,he,rfl⟩
  ·rw[h5] at he;cases he
 ·have hnil:∀b,(b=n∨(n+1≤b∧b<n+1+o.bf.length))→c8 x x2 (.sc (.slice none 0 0)) (.sl b 0):=by
   intro b hb
   have hb2:∃e sz,0<sz∧bd (qa o m c mm n Hd) b=some (.row e sz .any []):=by
    rw[look,if_neg (by omega),if_neg (by omega)]
    rcases hb with h|h
    ·rw[if_pos h];exact⟨_,2,by omega,rfl⟩
    ·rw[if_neg (by omega),if_pos h];exact⟨_,3,by omega,rfl⟩
   obtain⟨e,sz,_,hb3⟩:=hb2
   obtain⟨g1,g2⟩:=hnew b e sz .any (by omega) hb3
   exact c8.nil g1 (by rw[hx2];exact hb3) g2
  rw[look] at he
  by_cases h1:b=m
  ·subst h1;rw[if_pos rfl] at he;cases he
   rw[r1] at he0;cases he0
   have hlen:(da o).bf.length=o.bf.length:=by simp[da]
   rw[jx,hlen]
   exact .cons (c8.agg (.cons (c8.cL hle _) (.cons (c8.cL hle _) (.cons (c8.cL hle _) (.cons (c8.cL hle _) (.cons (hv2 w0 x x2 hS hx hw hle hM) (.cons (c8.cL hle _) (.cons (c8.cL hle _) (.cons (hnil n (.inl rfl)) .nil))))))))) .nil
  rw[if_neg h1] at he
  by_cases h2:b=c
  ·subst h2;rw[if_pos rfl] at he;cases he
   rw[r2] at he0;cases he0
   rw[zA]
   refine cz.x6 (by simp) fun i hi=> ?_
   have hi2:i<o.bf.length:=by simpa using hi
   have e1:(List.replicate o.bf.length qq).getD i .any=qq:=by simp[List.getD,hi2]
   have e2:((List.range o.bf.length).map fun i=>core0.av (n+1+i)).getD i .any=core0.av (n+1+i):=by simp[List.getD,hi2]
   rw[e1,e2]
   exact za hle (hnil _ (.inr ⟨by omega,by omega⟩))
  rw[if_neg h2] at he
  by_cases h3:b=n
  ·subst h3;rw[if_pos rfl] at he;cases he
   have:=hU b (hS.row b _ _ _ _ (by rw[hx];exact he0)).1
   omega
  rw[if_neg h3] at he
  by_cases h4:n+1≤b∧b<n+1+o.bf.length
  ·rw[if_pos h4] at he;cases he
   have:=hU b (hS.row b _ _ _ _ (by rw[hx];exact he0)).1
   omega
  rw[if_neg h4] at he
  rcases hd b with h5|h5
  ·rw[h5,he0] at he;cases he;exact cz.cL hle _
  ·rw[h5] at he;cases he
theorem born {o:Obj} {m c mm n nx:Nat} {H Hd:Hp} (hn:nx≤n) (hm:nx≤m∧m<n) (hc:nx≤c∧c<n) (hmm:nx≤mm∧mm<n) (a1:m≠c) (a2:m≠mm) (a3:c≠mm) (r3:∃d,bd Hd mm=some (.row 2 1 d (o.mem.map i64))) (hf:∀b,b<nx→bd Hd b=bd H b):
 NF o H nx (.dD [.pt m 1 0 0,i64 0]) (qa o m c mm n Hd) (n+1+o.bf.length):=by
 obtain⟨d3,r3⟩:=r3
 have look:∀b,bd (qa o m c mm n Hd) b=if b=m then some (.row 77 8 .any [jx o (da o) (ew o m c mm n)]) else if b=c then some (.row 93 19 .any (rows (da o) (ew o m c mm n))) else if b=n then some (.row 68 2 .any []) else if n+1≤b∧b<n+1+o.bf.length then some (.row 125 3 .any []) else bd Hd b:=by
  intro b
  rw[qa]
  by_cases h1:b=m
  ·subst h1;rw[cK,if_pos rfl]
  rw[bh h1,if_neg h1]
  by_cases h2:b=c
  ·subst h2;rw[cK,if_pos rfl]
  rw[bh h2,if_neg h2]
  by_cases h3:b=n
  ·subst h3;rw[cK,if_pos rfl]
  rw[bh h3,if_neg h3,fg]
 refine⟨ew o m c mm n,rfl, ?_,by omega,fun b hb=> ?_,fun b hb=> ?_⟩
 ·have r3b:bd (qa o m c mm n Hd) mm=some (.row 2 1 d3 (o.mem.map i64)):=by
   rw[look,if_neg (Ne.symm a2),if_neg (Ne.symm a3),if_neg (by omega),if_neg (by omega)];exact r3
  refine MA (d:=d3) o hm.2 hc.2 hmm.2 a1 a2 a3 ⟨_,by rw[look,if_pos rfl]⟩ ⟨_,by rw[look,if_neg (Ne.symm a1),if_pos rfl]⟩ r3b ⟨_,by rw[look,if_neg (by omega),if_neg (by omega),if_pos rfl]⟩ (fun i hi=>⟨_,by rw[look,if_neg (by omega),if_neg (by omega),if_neg (by omega),if_pos (by omega)]⟩)
 ·rcases qb o hb with h|h|h|h<;>omega
 ·rw[look,if_neg (by omega),if_neg (by omega),if_neg (by omega),if_neg (by omega)];exact hf b hb
theorem x0 {o:Obj} (ho:o.Wf) (ok:cw o) (h:eU o=true) {H:Hp} {nx:Nat}:bw Tryz.prog 9 [o.av] H nx (NF o H nx):=by
 refine(I4 ho ok h).wk ?_
 rintro r H' n ⟨hn,m,c,mm,v,rfl,hm,hc,hmm,a1,a2,a3,⟨d1,_,r1,rfl⟩,⟨d2,_,r2,rfl⟩,⟨d3,r3⟩,hv,hf⟩
 rcases hv with⟨rfl,hoc⟩|⟨cb,d4,rfl,hcb,b1,b2,b3,r4⟩
 ·refine⟨_,_,_,vu (Hd:=H') hm.2 hc.2 hmm.2 a1 a2 a3 ⟨_,r1⟩ ⟨_,r2⟩ (fun b=> .inl rfl) (fun w0 x x2 _ _ _ _ _=> ?_),born hn hm hc hmm a1 a2 a3 ⟨_,r3⟩ hf⟩
  rw[hoc];exact c8.vv _ _ _ _
 ·refine⟨_,_,_,vu (Hd:=(cb,none)::H') hm.2 hc.2 hmm.2 a1 a2 a3 ⟨_,r1⟩ ⟨_,r2⟩ (fun b=> ?_) (fun w0 x x2 hS hx hw hle hM=> ?_),born hn hm hc hmm a1 a2 a3 ⟨d3,by rw[bh (Ne.symm b3)];exact r3⟩ (fun b hb=>by rw[bh (by omega)];exact hf b hb)⟩
  ·by_cases hb:b=cb
   ·subst hb;exact .inr (cK _ _ _)
   ·exact .inl (bh hb)
  ·have hl:o.bf.length=(o.bf.map Core.av).length:=by simp
   rw[hl]
   refine c8.im hS hle .any hw (by rw[hx];exact r4) (fun blk p z hρ=>hM cb _ blk p z r4 ?_ hρ)
   rw[I2 o _ _ b1 b2 hcb.2,cK]
end Go.Proofs.YtlonbgdonffcbaaGreatDoor
end
section
/- What stays right. -/
namespace Go.Proofs.YtlonbgdonffcbaaGreatDoor
open Go Go.cW Go.Proofs
set_option linter.unusedSimpArgs false
set_option linter.unusedVariables false
theorem oK:∀{l pre:List Core},gW pre l=true→∀q,q<l.length→∃p,iL p (l.getD q default)=true
 |[],_,_,q,h=>by simp at h
 |c::r,pre,h,q,hq=>by
  rw[gW,Bool.and_eq_true] at h
  cases q with
  |zero=>exact⟨pre,h.1⟩
  |succ q=>
   obtain⟨p,hp⟩:=oK h.2 q (by simpa using hq)
   exact⟨p,by simpa using hp⟩
theorem uK {len mem:Int}:∀{l:List Instr} {k:Nat},nT len mem l k=none→∀q,q<l.length→gw (l.getD q default) len mem=true
 |[],_,_,q,h=>by simp at h
 |i::r,k,h,q,hq=>by
  rw[nT] at h
  by_cases hi:gw i len mem=true
  ·rw[if_pos hi] at h
   cases q with
   |zero=>exact hi
   |succ q=>simpa using uK h q (by simpa using hq)
  ·rw[if_neg hi] at h;cases h
theorem uL {mem:Int}:∀{l:List Core} {k:Nat},od mem l k=none→∀q,q<l.length→nT (l.getD q default).code.length mem (l.getD q default).code 0=none
 |[],_,_,q,h=>by simp at h
 |c::r,k,h,q,hq=>by
  rw[od] at h
  cases hb:nT c.code.length mem c.code 0 with
  |some n=>rw[hb] at h;cases h
  |none=>
   rw[hb] at h
   cases q with
   |zero=>exact hb
   |succ q=>simpa using uL h q (by simpa using hq)
theorem ky {o:Obj} (h:eU o=true):cw o:=by
 simp only[eU,Bool.and_eq_true,Option.isNone_iff_eq_none] at h
 obtain⟨h1,h2⟩:=h
 simp only[eV,Bool.and_eq_true,decide_eq_true_eq] at h1
 obtain⟨⟨⟨⟨⟨⟨⟨⟨⟨p1,p2⟩,p3⟩,p4⟩,p5⟩,p6⟩,p7⟩,p8⟩,p9⟩,p10⟩:=h1
 have hc:=fun q (hq:q<o.bf.length)=>oK p10 q hq
 refine⟨⟨p7,p8⟩,by omega,by omega,fun q hq=> ?_,fun q hq=> ?_,fun q hq k hk=>uK (uL h2 q hq) k hk⟩
 ·obtain⟨p,hp⟩:=hc q hq
  simp only[iL,Bool.and_eq_true,decide_eq_true_eq] at hp
  exact⟨hp.1.1.2,hp.1.2⟩
 ·obtain⟨p,hp⟩:=hc q hq
  simp only[iL,Bool.and_eq_true,decide_eq_true_eq] at hp
  exact hp.2
theorem AG {o:Obj} (ok:cw o):Good o (da o):=by
 have hc:∀q,q<(da o).bf.length→(da o).core q=core0:=by
  intro q hq
  simp only[da,List.length_replicate] at hq
  simp[da,List.getD,hq]
 have hl:(da o).bf.length=o.bf.length:=by simp[da]
 refine⟨hl,rfl,fun q hq=> ?_,fun q hq=> ?_,fun q hq x hx=> ?_⟩
 ·rw[hc q hq]
  have:=ok.code q (by omega)
  exact⟨by decide,by show(0:Int)<_;omega⟩
 ·rw[hc q hq]
  have:=ok.buffer
  show((0:Nat):Int)≤_;omega
 ·rw[hc q hq] at hx;cases hx
theorem C5 {s:bk} {q:Nat} (hq:q<s.bf.length) (c:bx) (j:Nat):(s.cp q c).core j=if j=q then c else s.core j:=by
 by_cases h:j=q
 ·subst h;simp[bk.cp,List.getD,hq]
 ·rw[if_neg h];simp[bk.cp,List.getD,List.getElem?_set_ne (Ne.symm h)]
theorem Good.set {o:Obj} {s:bk} (g:Good o s) {q:Nat} (hq:q<s.bf.length) {c:bx} {mem:List Int} {pr:List cD} (hm:mem.length=s.mem.length) (h1:0≤c.pc∧c.pc<(o.core q).code.length) (h2:(c.buf.length:Int)≤o.buffer) (h3:∀x∈c.buf,0≤x.addr∧x.addr<s.mem.length):
 Good o { s.cp q c with mem:=mem,bg:=pr }:=by
 have hc:=C5 hq c
 have hl:({ s.cp q c with mem:=mem,bg:=pr }:bk).bf.length=s.bf.length:=by simp[bk.cp]
 refine⟨hl.trans g.n,hm.trans g.mem,fun j hj=> ?_,fun j hj=> ?_,fun j hj x hx=> ?_⟩
 ·have e:({ s.cp q c with mem:=mem,bg:=pr }:bk).core j=if j=q then c else s.core j:=hc j
  rw[e]
  split
  ·rename_i h;rw[h];exact h1
  ·exact g.pc j (by rw[hl] at hj;exact hj)
 ·have e:({ s.cp q c with mem:=mem,bg:=pr }:bk).core j=if j=q then c else s.core j:=hc j
  rw[e]
  split
  ·exact h2
  ·exact g.buf j (by rw[hl] at hj;exact hj)
 ·have e:({ s.cp q c with mem:=mem,bg:=pr }:bk).core j=if j=q then c else s.core j:=hc j
  rw[e] at hx
  show 0≤x.addr∧x.addr<mem.length
  rw[hm]
  split at hx
  ·exact h3 x hx
  ·exact g.addr j (by rw[hl] at hj;exact hj) x hx
theorem gA {s:bk} {q:Nat} (c:bx):(s.inc q).cp q c=s.cp q c:=by
 simp[bk.inc,bk.cp]
theorem Good.tm {o:Obj} {s:bk} (g:Good o s) {q:Nat} (hq:q<s.bf.length) {c:bx} (h1:0≤c.pc∧c.pc<(o.core q).code.length) (h2:(c.buf.length:Int)≤o.buffer) (h3:∀x∈c.buf,0≤x.addr∧x.addr<s.mem.length):Good o (s.cp q c):=
 g.set hq (mem:=s.mem) (pr:=s.bg) rfl h1 h2 h3
theorem Good.O1 {o:Obj} {s:bk} (g:Good o s) (ok:cw o) {q:Nat} (hq:q<s.bf.length) (did:dy) (hdp:did.pc=(s.core q).pc) (hst:eo o s q (cX o s q)=false):Good o (act (s.inc q) q (cX o s q) did).1:=by
 have hqo:q<o.bf.length:=by rw[←g.n];exact hq
 have iok:oF (cX o s q) (o.core q).code.length o.mem.length:=kr (ok.ok q hqo (s.core q).pc.toNat (by have:=g.pc q hq;omega))
 have hp:=g.pc q hq
 have hb:=g.buf q hq
 have ha:=g.addr q hq
 have hpc:(cX o s q).kind≠8→(cX o s q).kind≠10→(s.core q).pc+1<(o.core q).code.length:=by
  intro h8 h10
  have hl:=ok.last q hqo
  have hlc:=ok.code q hqo
  simp only[qU,Bool.or_eq_true,decide_eq_true_eq] at hl
  refine Decidable.byContradiction fun hn=> ?_
  have he:(s.core q).pc.toNat=(((o.core q).code.length:Int) - 1).toNat:=by omega
  rw[cX,he] at h8 h10
  rcases hl with hl|hl
  ·exact h10 hl
  ·exact h8 hl
 have hc:=qO hq
 have hm:(s.inc q).mem=s.mem:=rfl
 have hpr:(s.inc q).bg=s.bg:=rfl
 generalize cX o s q=i at *
 have hk:=kinds iok.kind
 by_cases k1:i.kind=1
 ·simp only[act,if_pos k1,rh,gA,hc]
  exact g.tm hq ⟨by show 0≤(s.core q).pc+1;omega,hpc (by omega) (by omega)⟩ hb ha
 by_cases k2:i.kind=2
 ·simp only[act,if_neg k1,if_pos k2,uX,gA,hc]
  exact g.tm hq ⟨by show 0≤(s.core q).pc+1;omega,hpc (by omega) (by omega)⟩ hb ha
 by_cases k3:i.kind=3
 ·simp only[act,if_neg k1,if_neg k2,if_pos k3,lr,gA,hc]
  exact g.tm hq ⟨by show 0≤(s.core q).pc+1;omega,hpc (by omega) (by omega)⟩ hb ha
 by_cases k4:i.kind=4
 ·simp only[act,if_neg k1,if_neg k2,if_neg k3,if_pos k4,lK,gA,hc]
  simp only[eo,if_pos k4,decide_eq_false_iff_not] at hst
  refine g.tm hq ⟨by show 0≤(s.core q).pc+1;omega,hpc (by omega) (by omega)⟩ ?_ ?_
  ·show(((s.core q).buf++[_]).length:Int)≤_
   simp only[List.length_append,List.length_cons,List.length_nil];omega
  ·intro x hx
   rcases List.mem_append.1 hx with hx|hx
   ·exact ha x hx
   ·simp only[List.mem_singleton] at hx
    subst hx
    have h2:=iok.addr (by omega)
    rw[g.mem];exact h2
 by_cases k5:i.kind=5
 ·simp only[act,if_neg k1,if_neg k2,if_neg k3,if_neg k4,if_pos k5,nZ,gA,hc,hm]
  exact g.set hq (by simp) ⟨by show 0≤(s.core q).pc+1;omega,hpc (by omega) (by omega)⟩ hb ha
 by_cases k6:i.kind=6
 ·simp only[act,if_neg k1,if_neg k2,if_neg k3,if_neg k4,if_neg k5,if_pos k6,lJ,gA,hc]
  exact g.tm hq ⟨by show 0≤(s.core q).pc+1;omega,hpc (by omega) (by omega)⟩ hb ha
 by_cases k7:i.kind=7
 ·simp only[act,if_neg k1,if_neg k2,if_neg k3,if_neg k4,if_neg k5,if_neg k6,if_pos k7,doPrint,gA,hc]
  exact g.set hq (mem:=s.mem) rfl ⟨by show 0≤(s.core q).pc+1;omega,hpc (by omega) (by omega)⟩ hb ha
 by_cases k8:i.kind=8
 ·simp only[act,if_neg k1,if_neg k2,if_neg k3,if_neg k4,if_neg k5,if_neg k6,if_neg k7,if_pos k8,nY,gA,hc]
  exact g.tm hq (iok.to (by omega)) hb ha
 by_cases k9:i.kind=9
 ·simp only[act,if_neg k1,if_neg k2,if_neg k3,if_neg k4,if_neg k5,if_neg k6,if_neg k7,if_neg k8,if_pos k9,n0,gA,hc]
  split
  ·exact g.tm hq (iok.to (by omega)) hb ha
  ·exact g.tm hq ⟨by show 0≤(s.core q).pc+1;omega,hpc (by omega) (by omega)⟩ hb ha
 simp only[act,if_neg k1,if_neg k2,if_neg k3,if_neg k4,if_neg k5,if_neg k6,if_neg k7,if_neg k8,if_neg k9,nX,gA,hc]
 exact g.tm hq (by show 0≤did.pc∧did.pc<_;rw[hdp];exact hp) hb ha
theorem Good.run {o:Obj} {s:bk} (g:Good o s) (ok:cw o) (k:Int):Good o (fV o s k).1:=by
 rw[fV]
 by_cases h1:out s k
 ·rw[if_pos h1];exact g
 rw[if_neg h1]
 by_cases h2:(s.core k.toNat).halted=true
 ·rw[if_pos h2];exact g
 rw[if_neg h2]
 by_cases h3:eo o s k.toNat (cX o s k.toNat)=true
 ·rw[if_pos h3];exact g
 rw[if_neg h3]
 exact g.O1 ok (by unfold out at h1;omega) _ rfl (by simpa using h3)
theorem Good.drain {o:Obj} {s:bk} (g:Good o s) (k:Int):Good o (dO o s k).1:=by
 rw[dO]
 by_cases h1:out s k
 ·rw[if_pos h1];exact g
 rw[if_neg h1]
 have hq:k.toNat<s.bf.length:=by unfold out at h1;omega
 have hb:=g.buf _ hq
 have ha:=g.addr _ hq
 cases hbuf:(s.core k.toNat).buf with
 |nil=>exact g
 |cons x t=>
  rw[hbuf] at hb ha
  simp only[List.length_cons] at hb
  exact g.set hq (by simp) (g.pc _ hq) (by show(t.length:Int)≤_;omega) (fun y hy=>ha y (by simp[hy]))
theorem Good.step {o:Obj} {s:bk} (g:Good o s) (ok:cw o) (kind k:Int):Good o (cn o s kind k).1:=by
 rw[cn]
 split
 ·exact g.run ok k
 ·split
  ·exact g.drain k
  ·exact g
theorem xk (o:Obj) (s:bk) (k:Int):(fV o s k).1.bg.length≤s.bg.length+1:=by
 have ha:∀(i:Instr) (d:dy) (q:Nat),(act (s.inc q) q i d).1.bg.length≤s.bg.length+1:=by
  intro i d q
  simp only[act]
  repeat' split
  all_goals simp[rh,uX,lr,lK,nZ,lJ,doPrint,nY,n0,nX,bk.cp,bk.inc]
 rw[fV]
 repeat' split
 all_goals first|exact ha _ _ _|simp
theorem jI (o:Obj) (s:bk) (kind k:Int):(cn o s kind k).1.bg.length≤s.bg.length+1:=by
 rw[cn]
 split
 ·exact xk o s k
 ·split
  ·rw[dO]
   repeat' split
   all_goals simp[bk.cp]
  ·simp
end Go.Proofs.YtlonbgdonffcbaaGreatDoor
/- What the laws ask of a machine. -/
namespace Go.Proofs.YtlonbgdonffcbaaGreatDoor
open Go Go.cW Go.Proofs
set_option linter.unusedSimpArgs false
set_option linter.unusedVariables false
def Made (o:Obj) (H:Hp) (nx:Nat):AV→Hp→Nat→Prop:=fun r H' n=>∃L,r= .dD [.pt L.m 1 0 0,bl true]∧fe o (da o) L H' n∧nx≤n∧(∀b∈L.ids,nx≤b)∧∀b,b<nx→bd H' b=bd H b
end Go.Proofs.YtlonbgdonffcbaaGreatDoor
end
section
/- One round with the store drained right behind it. -/
namespace Go.Proofs.YtlonbgdonffcbaaGreatDoor
open Go Go.cW Go.Proofs
set_option linter.unusedSimpArgs false
set_option linter.unusedVariables false
end Go.Proofs.YtlonbgdonffcbaaGreatDoor
/- A machine that is looked at alone. -/
namespace Go.Proofs.YtlonbgdonffcbaaGreatDoor
open Go Go.cW Go.Proofs
set_option linter.unusedSimpArgs false
set_option linter.unusedVariables false
abbrev bx.frozen (c:bx):AV:= .agg (c.cells (.im 3 .any (c.buf.map dC.av)))
def bk.frozen (o:Obj) (s:bk):AV:= .ip 8 .any [.agg [.sc (.slice none 0 0),i64 o.shared,i64 o.gu,i64 o.buffer, .im 2 .any (o.bf.map Core.av), .im 19 .any (s.bf.map bx.frozen), .im 1 .any (s.mem.map i64), .im 2 .any (s.bg.map cD.av)]] 0 0
theorem fe.eH {o:Obj} {s:bk} {L:Lay} {H:Hp} {nx:Nat} (h:fe o s L H nx):eH H 6 (.pt L.m 1 0 0)=s.frozen o:=by
 obtain⟨d1,h1⟩:=h.m
 obtain⟨d2,h2⟩:=h.c
 obtain⟨d3,h3⟩:=h.mem
 obtain⟨d4,h4⟩:=h.pr
 have hcores:(rows s L).map (cW.eH H 3)=s.bf.map bx.frozen:=by
  apply List.ext_getElem
  ·simp[rows,h.lens]
  ·intro i p1 p2
   have hi:i<s.bf.length:=by simpa using p2
   have hib:i<L.cY.length:=by rw[h.lens];exact hi
   obtain⟨d5,h5⟩:=h.cY i hi
   have e1:L.cY.getD i 0=L.cY[i]:=by simp[List.getD,hib]
   have e2:s.bf.getD i default=s.bf[i]:=by simp[List.getD,hi]
   rw[e1,e2] at h5
   simp only[List.getElem_map,rows,List.getElem_zipWith,bx.av,cW.eH,bx.cells,List.map_cons,List.map_nil,xI,h5]
   rw[if_pos (by simp),eK 1 (by simp[cF,cC,cG])]
   rfl
 rw[LR (len:=1) h1 (by rfl),bk.frozen]
 simp only[List.map_cons,List.map_nil,cW.eH,xI,h2,h3,h4]
 rw[if_pos (dG h),if_pos (by simp),if_pos (by simp),hcores,eK 3 (by simp[cF,cC]),eK 3 (by simp[cF,cC,cG])]
theorem iP (o:Obj) (s:bk):cC 0 (s.frozen o):=by
 simp[bk.frozen,cC,cG,cF,bx.cells]
theorem pq (o:Obj) (s:bk):Pure Tryz.prog 71 [s.frozen o] (fun r=>r=i64 s.bf.length):=by
 refine aI FK rfl ?_
 repeat' (first|((with_reducible refine aF ?_);conv=>whnf)|refine aG ?_|exact aC|with_reducible refine aD ?_ ?_|(apply aA;(·exact cA))|refine aH ?_|((with_reducible refine aB ?_ ?_)<;>intro hc<;>(try simp only[List.length_map,ne_eq,dP] at hc)<;>try(exfalso;omega)))
 rw[List.length_map]
end Go.Proofs.YtlonbgdonffcbaaGreatDoor
/- What a step does, told by what it says that it did. -/
namespace Go.Proofs.YtlonbgdonffcbaaGreatDoor
open Go Go.cW Go.Proofs
set_option linter.unusedSimpArgs false
set_option linter.unusedVariables false
end Go.Proofs.YtlonbgdonffcbaaGreatDoor
end
section
/- A core looked at. -/
namespace Go.Proofs.YtlonbgdonffcbaaGreatDoor
open Go Go.cW Go.Proofs
set_option linter.unusedSimpArgs false
set_option linter.unusedVariables false
end Go.Proofs.YtlonbgdonffcbaaGreatDoor
end
section
/- A machine that is looked at alone: its parts; lists that are the same. -/
namespace Go.Proofs.YtlonbgdonffcbaaGreatDoor
open Go Go.cW Go.Proofs
set_option linter.unusedSimpArgs false
set_option linter.unusedVariables false
@[simp] theorem M5 (c:bx):cG 0 (c.cells (.im 3 .any (c.buf.map dC.av))):=by simp[bx.cells,cG,cC,cF]
theorem nt (o:Obj) (s:bk) (hm:s.mem.length≤4096):Pure Tryz.prog 37 [s.frozen o] (fun r=>r= .im 1 .any (s.mem.map i64)):=by
 refine aI EX rfl ?_
 have h1:=nU (es:=s.mem.map i64) (by rw[List.length_map];omega) (by simp[cF,cC])
 repeat' (first|((with_reducible refine aF ?_);conv=>whnf)|refine aG ?_|exact aC|with_reducible refine aD ?_ ?_|(apply aA;(·exact cA))|refine aK (h1) ?_|refine aH ?_|((with_reducible refine aB ?_ ?_)<;>intro hc<;>(try simp only[List.length_map,ne_eq,dP] at hc)<;>try(exfalso;omega)))
 exact rfl
theorem je (o:Obj) (s:bk) (hm:s.bg.length * 16≤140737488355328):Pure Tryz.prog 12 [s.frozen o] (fun r=>r= .im 2 .any (s.bg.map cD.av)):=by
 refine aI EE rfl ?_
 have h1:=mQ (es:=s.bg.map cD.av) (by rw[List.length_map];omega) (by simp[cF,cC,cG])
 repeat' (first|((with_reducible refine aF ?_);conv=>whnf)|refine aG ?_|exact aC|with_reducible refine aD ?_ ?_|(apply aA;(·exact cA))|refine aK (h1) ?_|refine aH ?_|((with_reducible refine aB ?_ ?_)<;>intro hc<;>(try simp only[List.length_map,ne_eq,dP] at hc)<;>try(exfalso;omega)))
 exact rfl
theorem LU (o:Obj) (s:bk) (k:Int):Pure Tryz.prog 58 [s.frozen o,i64 k] (fun r=>r=i64 (kW s k)):=by
 refine aI AU rfl ?_
 repeat' (first|((with_reducible refine aF ?_);conv=>whnf)|refine aG ?_|exact aC|with_reducible refine aD ?_ ?_|(apply aA;(·exact cA))|refine aH ?_|((with_reducible refine aB ?_ ?_)<;>intro hc<;>(try simp only[List.length_map,ne_eq,dP] at hc)<;>try(exfalso;omega)))
 ·rw[kW,if_pos (by unfold out;omega)]
 ·rw[kW,if_neg (by unfold out;omega)]
theorem j7 {s:bk} {q:Nat} (hq:q<s.bf.length) (d:AV):(s.bf.map bx.frozen).getD q d=(s.core q).frozen:=dY _ _ _ _ hq
theorem J0 (o:Obj) (s:bk) (q:Nat) (hq:q<s.bf.length) (hb:(s.core q).buf.length<1000):Pure Tryz.prog 90 [s.frozen o,i64 q] (fun r=>r= .dD [(s.core q).frozen,i64 0]):=by
 refine aI F3 rfl ?_
 have hk:¬out s q:=by unfold out;omega
 have he:kW s q=0:=by rw[kW,if_neg hk]
 have h1:=mR (es:=(s.core q).buf.map dC.av) (by rw[List.length_map];omega) (by simp[cF,cC,cG])
 have h2:=LU o s q
 rw[he,bk.frozen] at h2
 repeat' (first|((with_reducible refine aF ?_);conv=>whnf)|refine aG ?_|exact aC|with_reducible refine aD ?_ ?_|(apply aA;(·(first|exact j7 hq _|exact cA)))|refine aK (h2) ?_|refine aK (h1) ?_|refine aH ?_|((with_reducible refine aB ?_ ?_)<;>intro hc<;>(try simp only[List.length_map,ne_eq,dP] at hc)<;>try(exfalso;omega)))
 exact rfl
def fI (c:bx):Bool:=c.halted&&decide (c.buf.length=0)
theorem iz (c:bx):Pure Tryz.prog 36 [c.frozen] (fun r=>r=bl (!fI c)):=by
 refine aI EW rfl ?_
 repeat' (first|((with_reducible refine aF ?_);conv=>whnf)|refine aG ?_|exact aC|with_reducible refine aD ?_ ?_|(apply aA;(·exact cA))|refine aH ?_|((with_reducible refine aB ?_ ?_)<;>intro hc<;>(try simp only[List.length_map,ne_eq,dP] at hc)<;>try(exfalso;omega)))
 simp only[fI]
 cases hh:c.halted<;>cases hb:c.buf<;>simp[hh,hb]
theorem xN (cs:List bx) (hl:cs.length≤8):Pure Tryz.prog 65 [.im 19 .any (cs.map bx.frozen), .fn (.func 36) [] []] (fun r=>∃k,r=i64 k∧(0≤k↔cs.all fI=false)):=by
 refine aI FH rfl ?_
 repeat' (first|((with_reducible refine aF ?_);conv=>whnf)|refine aG ?_|exact aC|with_reducible refine aD ?_ ?_|(apply aA;(·exact cA))|refine aH ?_|((with_reducible refine aB ?_ ?_)<;>intro hc<;>(try simp only[List.length_map,ne_eq,dP] at hc)<;>try(exfalso;omega)))
 refine aT (fun i:Nat=>[(0, .im 19 .any (cs.map bx.frozen)),(1, .fn (.func 36) [] []),(7,i64 cs.length),(8,i64 i)]) (fun i _ _=>i≤cs.length∧∀j,j<i→fI (cs.getD j default)=true) (fun i=>cs.length - i) 0 cH ⟨Nat.zero_le _,fun j hj=>by omega⟩ ?_
 rintro i H' n ⟨hi,hall⟩
 repeat' (first|((with_reducible refine aF ?_);conv=>whnf)|refine aG ?_|exact aC|with_reducible refine aD ?_ ?_|(apply aA;(·exact cA))|((with_reducible refine aN (iz _) ?_ ?_);(·exact bj))|((with_reducible refine aM (fun _=>iz _) ?_ ?_);(·exact bj))|((with_reducible refine aJ (iz _) ?_ ?_);(·exact bj))|((with_reducible refine aL (fun _=>iz _) ?_ ?_);(·exact bj))|refine aH ?_|((with_reducible refine aB ?_ ?_)<;>intro hc<;>(try simp only[List.length_map,ne_eq,dP] at hc)<;>try(exfalso;omega)))
 ·refine⟨⟨by simp[cC],(i:Int),rfl,fun _=> ?_,fun _=>by omega⟩⟩
  have hi2:i<cs.length:=by omega
  rw[List.all_eq_false]
  refine⟨cs[i],List.getElem_mem hi2, ?_⟩
  have:cs.getD i default=cs[i]:=by simp[List.getD,hi2]
  rw[this] at hc;simp[hc]
 ·refine⟨i+1,by omega,cH,by omega,fun j hj=> ?_⟩
  by_cases hji:j=i
  ·subst hji;exact hc
  ·exact hall j (by omega)
 ·refine⟨⟨by simp[cC],(-1:Int),rfl,fun h=>by omega,fun h=> ?_⟩⟩
  exfalso
  have:cs.all fI=true:=by
   rw[List.all_eq_true]
   intro x hx
   obtain⟨j,hj,rfl⟩:=List.mem_iff_getElem.1 hx
   have:=hall j (by omega)
   simpa[List.getD,hj] using this
  rw[this] at h;cases h
theorem rD (cs:List bx) (hl:cs.length≤8):Pure Tryz.prog 35 [.im 19 .any (cs.map bx.frozen), .fn (.func 36) [] []] (fun r=>r=bl (!cs.all fI)):=by
 refine aI EV rfl ?_
 repeat' (first|((with_reducible refine aF ?_);conv=>whnf)|refine aG ?_|exact aC|with_reducible refine aD ?_ ?_|(apply aA;(·exact cA))|refine aH ?_|((with_reducible refine aB ?_ ?_)<;>intro hc<;>(try simp only[List.length_map,ne_eq,dP] at hc)<;>try(exfalso;omega)))
 refine bA (xN cs hl) (by simp[cG,cC,cF]) ?_
 rintro _ ⟨k,rfl,hk⟩
 repeat' (first|((with_reducible refine aF ?_);conv=>whnf)|refine aG ?_|exact aC|with_reducible refine aD ?_ ?_|(apply aA;(·exact cA))|refine aH ?_|((with_reducible refine aB ?_ ?_)<;>intro hc<;>(try simp only[List.length_map,ne_eq,dP] at hc)<;>try(exfalso;omega)))
 cases hb:cs.all fI with
 |true=>
  rw[hb] at hk
  have:¬(0≤k):=fun h=>by simpa using hk.1 h
  simp[this]
 |false=>simp[hk.2 hb]
theorem uY (o:Obj) (s:bk) (hl:s.bf.length≤8):Pure Tryz.prog 13 [s.frozen o] (fun r=>r=bl (s.bf.all fI)):=by
 refine aI EF rfl ?_
 repeat' (first|((with_reducible refine aF ?_);conv=>whnf)|refine aG ?_|exact aC|with_reducible refine aD ?_ ?_|(apply aA;(·exact cA))|refine aK (rD s.bf hl) ?_|refine aH ?_|((with_reducible refine aB ?_ ?_)<;>intro hc<;>(try simp only[List.length_map,ne_eq,dP] at hc)<;>try(exfalso;omega)))
 simp
structure eB (s:bk):Prop where
 bf:s.bf.length≤8
 mem:s.mem.length≤4096
 bg:s.bg.length * 16≤140737488355328
 buf:∀q,q<s.bf.length→(s.core q).buf.length<1000
theorem Good.vl {o:Obj} {s:bk} (g:Good o s) (ok:cw o) (hp:s.bg.length * 16≤140737488355328):eB s:=
 ⟨by rw[g.n];exact ok.bf,by rw[g.mem];exact ok.mem,hp,fun q hq=>by have:=g.buf q hq;have:=ok.buffer;omega⟩
end Go.Proofs.YtlonbgdonffcbaaGreatDoor
end
section
/- What is ready, by the program. -/
namespace Go.Proofs.YtlonbgdonffcbaaGreatDoor
open Go Go.cW Go.Proofs Go.RowKit
set_option linter.unusedSimpArgs false
set_option linter.unusedVariables false
theorem cr {P:Program} {f:FuncId} {args:List AV} {u:AV} (h:bw P f args [] 0 (fun r H _=>cW.eH H 6 r=u)) (hf:cC 0 u):Pure P f args (fun r=>r=u):=by
 refine⟨h.1,fun M w vs hM hv=> ?_⟩
 have hS:cu w ⟨fun _=>none,bd [],fun _=>False,w,M⟩:=⟨Below.refl _ _,hM,fun b e sz d es he=>by simp[bd] at he,fun b b' k k' blk o z o' z' hk=>by simp[bd] at hk⟩
 have hv':cQ ⟨fun _=>none,bd [],fun _=>False,w,M⟩ args vs:=hv
 refine(h.2 w _ vs hS rfl (fun _ h=>h.elim) hv').mono ?_
 rintro en w' ⟨v,r1,H1,nx',ρ,U,he,hz,hU,hS',_,g2⟩
 have h3:=ki hS' rfl 6 (a:=r1) (v:=v) (by rw[hz];exact hf) g2
 rw[hz] at h3
 exact⟨v,_,he,rfl,hf,h3,hS'.below⟩
theorem lW {P:Program} {f:FuncId} {args:List AV} {a b:AV} (h:Pure P f args (fun r=>r=a)) (hf:cC 0 b) (hle:∀c,c8 c c a b):Pure P f args (fun r=>r=b):=
 ⟨h.1,fun M w vs hM hv=>(h.2 M w vs hM hv).mono fun _ _ ⟨v,r,he,hR,hf0,hvr,hb⟩=>⟨v,b,he,rfl,hf,hle _ v (by rw[←hR];exact hvr),hb⟩⟩
def nk (l:List cM):AV:=if l=[] then .sc (.slice none 0 0) else .im 2 .any (l.map cM.av)
@[simp] theorem KE (n:Nat) (o:Obj) (s:bk):cC n (s.frozen o):=by simp[bk.frozen,cC,cG,cF,bx.cells]
@[simp] theorem M8 (n:Nat):cC n qq:=by simp[qq,cC,cG,bx.cells]
@[simp] theorem LN (n:Nat) (l:List cM):cC n (nk l):=by
  unfold nk
  split<;>simp[cC,cG,cF]
theorem I5 {o:Obj} {s:bk} (g:Good o s) (q:Nat) (hq:q<s.bf.length):Pure Tryz.prog 59 [s.frozen o,i64 q, .sc (.pointer none)] (fun r=>r= .agg [s.frozen o, .ip 19 .any (s.bf.map bx.frozen) q 0,u8 (cX o s q).kind,u8 (cX o s q).op,i64 (cX o s q).d,i64 (cX o s q).a,i64 (cX o s q).b,i64 (cX o s q).addr,i64 (cX o s q).to,i64 (cX o s q).word,i64 (cX o s q).fr, .sc (.pointer none)]):=by
 refine aI AW rfl ?_
 have hqo:q<o.bf.length:=by rw[←g.n];exact hq
 have hpc:=g.pc q hq
 have hpc2:(s.core q).pc.toNat<(o.core q).code.length:=by omega
 have hpc3:0≤(s.core q).pc:=hpc.1
 repeat' (first|((with_reducible refine aF ?_);conv=>whnf)|refine aG ?_|exact aC|with_reducible refine aD ?_ ?_|(apply aA;(·(first|exact j7 hq _|exact dY _ _ _ _ hpc2|exact cA)))|refine aH ?_|((with_reducible refine aB ?_ ?_)<;>intro hc<;>(try simp only[List.length_map,ne_eq,dP] at hc)<;>try(exfalso;omega)))
 show AV.agg (List.map (cW.eH _ 5) [s.frozen o, .ip 19 .any (s.bf.map bx.frozen) q 0,u8 (cX o s q).kind,u8 (cX o s q).op,i64 (cX o s q).d,i64 (cX o s q).a,i64 (cX o s q).b,i64 (cX o s q).addr,i64 (cX o s q).to,i64 (cX o s q).word,i64 (cX o s q).fr, .sc (.pointer none)])=_
 rw[eK 5 (by simp[cG,cC,cF,bx.cells])]
theorem BS (o:Obj) (s:bk) (q:Nat) (hq:q<s.bf.length) (i:Instr):Pure Tryz.prog 60 [.agg [s.frozen o, .ip 19 .any (s.bf.map bx.frozen) q 0,u8 i.kind,u8 i.op,i64 i.d,i64 i.a,i64 i.b,i64 i.addr,i64 i.to,i64 i.word,i64 i.fr, .sc (.pointer none)]] (fun r=>r=bl (eo o s q i)):=by
 refine aI AX rfl ?_
 repeat' (first|((with_reducible refine aF ?_);conv=>whnf)|refine aG ?_|exact aC|with_reducible refine aD ?_ ?_|(apply aA;(·(first|exact j7 hq _|exact cA)))|refine aH ?_|((with_reducible refine aB ?_ ?_)<;>intro hc<;>(try simp only[List.length_map,ne_eq,dP] at hc)<;>try(exfalso;omega)))
 all_goals simp only[eo]
 all_goals (try simp only[List.length_map])
 ·rw[if_pos (by assumption)]
 ·rw[if_neg (by omega),if_pos (by omega)]
 ·rw[if_neg (by omega),if_pos (by omega)]
 ·rw[if_neg (by omega),if_pos (by omega)]
 ·rw[if_neg (by omega),if_neg (by omega)]
def ej (o:Obj) (s:bk) (q:Nat):List cM:=(if(s.core q).halted=false∧eo o s q (cX o s q)=false then[⟨1,q⟩] else[])++(if 0<(s.core q).buf.length then[⟨2,q⟩] else[])
def dV (o:Obj) (s:bk) (n:Nat):List cM:=(List.range n).flatMap (ej o s)
theorem oV (o:Obj) (s:bk) (n:Nat):dV o s (n+1)=dV o s n++ej o s n:=by simp[dV,List.range_succ]
theorem xn (o:Obj) (s:bk) (n:Nat):(ej o s n).length≤2:=by
 simp only[ej,List.length_append]
 split<;>split<;>simp
theorem jg (o:Obj) (s:bk):∀n,(dV o s n).length≤2 * n
 |0=>by simp[dV]
 |n+1=>by rw[oV,List.length_append];have:=jg o s n;have:=xn o s n;omega
def Grown (lo:Nat) (l:List cM) (v:AV) (H:Hp) (n:Nat):Prop:=(l=[]∧v= .sc (.slice none 0 0))∨∃b,v= .sl b l.length∧(lo≤b∧b<n)∧0<l.length∧∃d es,bd H b=some (.row 42 2 d es)∧es=l.map cM.av
theorem HU {l m:List AV} {n k:Nat} (hl:l.length=1) (hm:m.length=1) (h:(n+2) * k≤140737488355328):(n+l.length+m.length) * k≤ja:=by rw[hl,hm];exact h
theorem Grown.mk {l:List cM} {lo b n len:Nat} {H:Hp} {d:AV} {es:List AV} (hlen:l.length=len) (h0:lo≤b) (hb:b<n) (hp:0<len) (r:bd H b=some (.row 42 2 d es)) (he:es=l.map cM.av):Grown lo l (.sl b len) H n:=by
 subst hlen;exact .inr ⟨b,rfl,⟨h0,hb⟩,hp,d,es,r,he⟩
theorem zG {o:Obj} {s:bk} {q:Nat} (h1:(s.core q).halted=false∧eo o s q (cX o s q)=false) (h2:(0:Int)<(s.core q).buf.length):ej o s q=[⟨1,q⟩,⟨2,q⟩]:=by
 rw[ej,if_pos h1,if_pos (by omega)];rfl
theorem GR {o:Obj} {s:bk} {q:Nat} (h1:(s.core q).halted=false∧eo o s q (cX o s q)=false) (h2:((s.core q).buf.length:Int)≤0):ej o s q=[⟨1,q⟩]:=by
 rw[ej,if_pos h1,if_neg (by omega)];rfl
theorem wG {o:Obj} {s:bk} {q:Nat} (h1:¬(s.core q).halted=false∨eo o s q (cX o s q)=true) (h2:(0:Int)<(s.core q).buf.length):ej o s q=[⟨2,q⟩]:=by
 rw[ej,if_neg (by rcases h1 with h|h<;>simp_all),if_pos (by omega)];rfl
theorem zH {o:Obj} {s:bk} {q:Nat} (h1:¬(s.core q).halted=false∨eo o s q (cX o s q)=true) (h2:((s.core q).buf.length:Int)≤0):ej o s q=[]:=by
 rw[ej,if_neg (by rcases h1 with h|h<;>simp_all),if_neg (by omega)];rfl
set_option maxHeartbeats 4000000 in
theorem wI {o:Obj} {s:bk} (g:Good o s) (hc:s.bf.length≤8):bw Tryz.prog 55 [s.frozen o] [] 0 (fun r H n=>Grown 0 (dV o s s.bf.length) r H n):=by
 refine aO FB rfl ?_
 have h1:=pq o s
 simp only[bk.frozen] at h1 ⊢
 repeat' (first|((with_reducible refine aF ?_);conv=>whnf)|refine aG ?_|exact aC|with_reducible refine aD ?_ ?_|(apply aA;(·exact cA))|refine aK (h1) ?_|refine aH ?_|((with_reducible refine aB ?_ ?_)<;>intro hc<;>(try simp only[List.length_map,ne_eq,dP] at hc)<;>try(exfalso;omega)))
 refine aT (fun p:Nat×AV=>[(0,s.frozen o),(7,i64 s.bf.length),(8,i64 p.1),(3,p.2)]) (fun p H n=>p.1≤s.bf.length∧Grown 0 (dV o s p.1) p.2 H n) (fun p=>s.bf.length - p.1) (0, .sc (.slice none 0 0)) cH ⟨Nat.zero_le _, .inl ⟨rfl,rfl⟩⟩ ?_
 rintro⟨k,v⟩ H n ⟨hk,hv⟩
 simp only at hk hv
 dsimp only
 have hle:=jg o s k
 by_cases hkl:k<s.bf.length
 ·have h2:=I5 g k hkl
  have h3:=BS o s k hkl (cX o s k)
  simp only[bk.frozen] at h2 h3 ⊢
  have hnx:=oV o s k
  rcases hv with⟨hl,rfl⟩|⟨b,rfl,hb,hl,d,es,r,hes⟩
  ·repeat' (first|((with_reducible refine aF ?_);conv=>whnf)|refine aG ?_|exact aC|with_reducible refine aD ?_ ?_|(apply aA;(·(first|exact j7 hkl _|exact cA)))|refine aK (h2) ?_|refine aK (h3) ?_|refine aH ?_|((with_reducible refine aB ?_ ?_)<;>intro hc<;>(try simp only[List.length_map,ne_eq,dP] at hc)<;>try(exfalso;omega)))
   ·have ra:=zG (o:=o) (s:=s) (q:=k) (by assumption) hc
    exact⟨(k+1, .sl (n+22) 2),by show s.bf.length - (k+1)<s.bf.length - k;omega,cH,by show k+1≤s.bf.length;omega,Grown.mk (by rw[hnx,ra,hl];rfl) cO cO (by omega) bo (by rw[hnx,ra,hl];rfl)⟩
   ·have ra:=GR (o:=o) (s:=s) (q:=k) (by assumption) hc
    exact⟨(k+1, .sl (n+22) 1),by show s.bf.length - (k+1)<s.bf.length - k;omega,cH,by show k+1≤s.bf.length;omega,Grown.mk (by rw[hnx,ra,hl];rfl) cO cO (by omega) bo (by rw[hnx,ra,hl];rfl)⟩
   ·have ra:=wG (o:=o) (s:=s) (q:=k) (by assumption) hc
    exact⟨(k+1, .sl (n+29) 1),by show s.bf.length - (k+1)<s.bf.length - k;omega,cH,by show k+1≤s.bf.length;omega,Grown.mk (by rw[hnx,ra,hl];rfl) cO cO (by omega) bo (by rw[hnx,ra,hl];rfl)⟩
   ·have ra:=zH (o:=o) (s:=s) (q:=k) (by assumption) hc
    exact⟨(k+1, .sc (.slice none 0 0)),by show s.bf.length - (k+1)<s.bf.length - k;omega,cH,by show k+1≤s.bf.length;omega, .inl ⟨by rw[hnx,ra,hl];rfl,rfl⟩⟩
  ·have hesl:es.length=(dV o s k).length:=by rw[hes];simp
   repeat' (first|((with_reducible refine aF ?_);conv=>whnf)|refine aG ?_|exact aC|with_reducible refine aD ?_ ?_|(apply aA;(·(first|exact j7 hkl _|exact cA)))|refine aK (h2) ?_|refine aK (h3) ?_|refine aH ?_|((with_reducible refine aB ?_ ?_)<;>intro hc<;>(try simp only[List.length_map,ne_eq,dP] at hc)<;>try(exfalso;omega)))
   ·exact⟨HU rfl rfl (by omega)⟩
   ·have ra:=zG (o:=o) (s:=s) (q:=k) (by assumption) hc
    exact⟨(k+1, .sl b ((dV o s k).length+2)),by show s.bf.length - (k+1)<s.bf.length - k;omega,cH,by show k+1≤s.bf.length;omega,Grown.mk (by rw[hnx,ra,List.length_append];rfl) hb.1 (Nat.lt_of_lt_of_le hb.2 cO) (by omega) bo (by rw[hnx,ra,List.map_append,←hes];exact List.append_assoc _ [_] [_])⟩
   ·have ra:=GR (o:=o) (s:=s) (q:=k) (by assumption) hc
    exact⟨(k+1, .sl b ((dV o s k).length+1)),by show s.bf.length - (k+1)<s.bf.length - k;omega,cH,by show k+1≤s.bf.length;omega,Grown.mk (by rw[hnx,ra,List.length_append];rfl) hb.1 (Nat.lt_of_lt_of_le hb.2 cO) (by omega) bo (by rw[hnx,ra,List.map_append,←hes];exact rfl)⟩
   ·have ra:=wG (o:=o) (s:=s) (q:=k) (by assumption) hc
    exact⟨(k+1, .sl b ((dV o s k).length+1)),by show s.bf.length - (k+1)<s.bf.length - k;omega,cH,by show k+1≤s.bf.length;omega,Grown.mk (by rw[hnx,ra,List.length_append];rfl) hb.1 (Nat.lt_of_lt_of_le hb.2 cO) (by omega) bo (by rw[hnx,ra,List.map_append,←hes];exact rfl)⟩
   ·have ra:=zH (o:=o) (s:=s) (q:=k) (by assumption) hc
    exact⟨(k+1, .sl b (dV o s k).length),by show s.bf.length - (k+1)<s.bf.length - k;omega,cH,by show k+1≤s.bf.length;omega,Grown.mk (by rw[hnx,ra,List.append_nil]) hb.1 (Nat.lt_of_lt_of_le hb.2 cO) hl bo (by rw[hnx,ra,List.append_nil];exact hes)⟩
 ·have hkn:k=s.bf.length:=by omega
  subst hkn
  simp only[bk.frozen]
  rcases hv with⟨hl,rfl⟩|⟨b,rfl,hb,hl,d,es,r,hes⟩
  ·repeat' (first|((with_reducible refine aF ?_);conv=>whnf)|refine aG ?_|exact aC|with_reducible refine aD ?_ ?_|(apply aA;(·exact cA))|refine aH ?_|((with_reducible refine aB ?_ ?_)<;>intro hc<;>(try simp only[List.length_map,ne_eq,dP] at hc)<;>try(exfalso;omega)))
   exact⟨.inl ⟨hl,rfl⟩⟩
  ·repeat' (first|((with_reducible refine aF ?_);conv=>whnf)|refine aG ?_|exact aC|with_reducible refine aD ?_ ?_|(apply aA;(·exact cA))|refine aH ?_|((with_reducible refine aB ?_ ?_)<;>intro hc<;>(try simp only[List.length_map,ne_eq,dP] at hc)<;>try(exfalso;omega)))
   exact⟨.inr ⟨b,rfl,⟨hb.1,Nat.lt_of_lt_of_le hb.2 cO⟩,hl,d,es,bo,hes⟩⟩
theorem BH {o:Obj} {s:bk} (g:Good o s) (hc:s.bf.length≤8):Pure Tryz.prog 55 [s.frozen o] (fun r=>r=nk (dV o s s.bf.length)):=by
 refine cr ((wI g hc).mono fun r H n hr=> ?_) (by simp)
 rcases hr with⟨h1,rfl⟩|⟨b,rfl,_,hl,d,es,hr,rfl⟩
 ·rw[nk,if_pos h1,xI]
 ·rw[nf hr (by simp),eK 5 (by simp[cF,cC,cG]),nk,if_neg (fun h=>by rw[h] at hl;exact absurd hl (by simp))]
end Go.Proofs.YtlonbgdonffcbaaGreatDoor
end
