import Derived.Test.YtlonbgdonffcbaaGreatDoorM40
import Derived.Test.YtlonbgdonffcbaaGreatDoorM37
import Derived.Test.YtlonbgdonffcbaaGreatDoorM32
import Derived.Test.YtlonbgdonffcbaaGreatDoorM25
import Derived.Test.YtlonbgdonffcbaaGreatDoorM21
section
/- How the laws begin: the walk. -/
namespace Go.cU
open Go.RowKit
section
variable {P:Program} {n lo:Nat} {fr:Fr} {H:Hp} {nx:Nat} {Q:QT}
theorem WL.rt {lc:LC} {fr2:Fr} {H2:Hp} {nx2:Nat} (hw:Rt fr H nx fr2 H2 nx2) (h:WL P n lo lc fr2 H2 nx2 Q):WL P n lo lc fr H nx Q:=
 fun code hc w0 M0 c0 a w hh=>h code hc w0 M0 c0 a w (hw _ _ _ _ _ _ _ hh)
theorem WL.cut {a b:LC} (h:Go (W P n lo a fr H nx (jI (fun fr' H' nx'=>∃fr2 H2 nx2,Rt fr' H' nx' fr2 H2 nx2∧WL P n lo b fr2 H2 nx2 Q) Q))):WL P n lo (.seq a b) fr H nx Q:=
 WL.seq ((fA h).mono fun e fr H nx hh=>by
  cases e with
  |normal=>
   obtain⟨fr2,H2,nx2,h1,h2⟩:=hh
   exact WL.rt h1 h2
  |exit id=>exact hh
  |ret=>exact hh)
theorem bR {f:FuncId} {args:List AV} {R:AV→Hp→Nat→Prop} (X:cz P f) (ha:Nat.ble args.length X.n=true) (h:WL P X.n nx X.lc (iT 0 args) H nx (wG X.rs R)):bw P f args H nx R:=by
 obtain⟨fn,h1,h2,h3,h4,h5⟩:=X.ok
 have h6:X.n=fn.ntmps:=h5
 rw[h6] at h ha
 exact bw.j9 h1 h2 h3 h4 (Nat.le_of_ble_eq_true ha) (h.mono fun _ _ _ _=>zI)
theorem aq {lc:LC} {b:Nat} {q:Option dx} (h:bf H b=q) (k:∀H2:Hp,bf H2 b=q→Go (W P n lo lc fr H2 nx Q)):W P n lo lc fr H nx Q:=k H h
end
end Go.cU
namespace Go.Proofs.YtlonbgdonffcbaaGreatDoor
open Go Go.cU Go.Proofs
set_option linter.unusedSimpArgs false
set_option linter.unusedVariables false
set_option maxRecDepth 8000
theorem za {o1:Obj} {wk:List cN} (c0:Pure Tryz.prog 21 [bl false] (fun r=>r=o1.av)) (c1:Pure Tryz.prog 17 [o1.av,i64 2000] (fun r=>r= .dE [di wk,i64 0])) (hwk:wk.length=2)
 (c2:Pure Tryz.prog 22 [kP.av,i64 9] (fun r=>r= .dE [di [DA],i64 0])) (c3:Pure Tryz.prog 11 [kP.av,i64 9,dw [⟨0,0⟩]] (fun r=>r= .dE [bl true,i64 0])):Pure Tryz.prog 7 [] (fun r=>r=bl true):=by
 have hfw:=gm wk
 refine cr ?_ (by simp[cA])
 refine bR N5 rfl ?_
 refine WL.cut ?_
 refine cc ?_
 refine⟨_,_,_,Rt.refl _ _ _,WL.cut ?_⟩
 refine cc ?_
 refine⟨_,_,_,Rt.refl _ _ _,WL.cut ?_⟩
 refine cc ?_
 refine⟨[(1,di wk),(2,i64 0),(3, .pt 13 1 0 0)],_,_,(Rt.wk (Wk.gS (cb:=13) (jf [6,9,11] _) 5 .any rfl fun b q hq=>s9 hq)).trans (Rt.less cG),fA ?_⟩
 refine aq (b:=13) (q:=some (.row 25 5 .any [kP.av])) rfl ?_
 intro H2 r3
 refine cc ?_
 refine aW c3 (by rfl) (by simp[cH,cA]) (by simp[iz]) ?_
 have r0:decide (((wk.map cN.av).length:Int)=2)=true:=by rw[List.length_map,hwk];rfl
 have a0:(DA.mem.map i64).length=1:=rfl
 have e0:∀d,(DA.mem.map i64).getD (0:Int).toNat d=i64 7:=fun _=>rfl
 refine cc ?_
 exact⟨rfl⟩
theorem uL:Pure Tryz.prog 7 [] (fun r=>r=bl true):=by
 obtain⟨w1,w2⟩:=CU
 obtain⟨p1,p2,p3,p4⟩:=x6
 have c1:=OL LA ((2000:Nat):Int)
 have c2:=GO zC ((9:Nat):Int)
 have c3:=MN zC ((9:Nat):Int) [⟨0,0⟩] (by simp)
 rw[w1] at c1
 rw[p1,p2] at c2
 rw[p3,p4] at c3
 exact za CT c1 w2 c2 c3
end Go.Proofs.YtlonbgdonffcbaaGreatDoor
end
section
/- Has, stands: the walks. -/
namespace Go.Proofs.YtlonbgdonffcbaaGreatDoor
open Go Go.cU Go.Proofs
set_option linter.unusedSimpArgs false
set_option linter.unusedVariables false
set_option maxRecDepth 8000
theorem D6 {l:List cN} (hl:l.length≤65536) (hin:∀x∈l,kV x) (e:cN):Pure Tryz.prog 15 [di l,e.av] (fun r=>r=bl (decide (e∈l))):=by
 refine aI EH rfl ?_
 have a0:(l.map cN.av).length=l.length:=List.length_map _
 refine cc ?_
 refine aR (fun i:Nat=>[(0,di l),(3, .pt 0 1 0 0),(5,i64 i)]) (fun i H n=>i≤l.length∧1≤n∧(∀j,j<i→l.getD j default≠e)∧∃d,bf H 0=some (.row 48 3 d [e.av])) (fun i=>l.length - i) 0 cG ⟨Nat.zero_le _,cM,fun j hj=>by omega,⟨_,bn⟩⟩ ?_
 rintro i H n ⟨hi,hn,hall,d,r0'⟩
 by_cases hil:i<l.length
 ·have e0:=fun d=>gw (l:=l) hil d
  have e0:∀d,(l.map cN.av).getD ((i:Int)).toNat d=(l.getD i default).av:=fun d=>by rw[Int.toNat_natCast];exact gw hil d
  have hx:=hin _ (fP default hil)
  have hmem:=fP (l:=l) default hil
  have hnx:l.getD i default≠e→∀j,j<i+1→l.getD j default≠e:=fun h j hj=>by
   by_cases e2:j=i
   ·rw[e2];exact h
   ·exact hall j (by omega)
  generalize l.getD i default=x at e0 hx hmem hnx
  have c0:=xj x e hx.1 hx.2
  by_cases hc:x=e
  ·have hz:=(iw.zero x e).2 hc
   rw[hz] at c0
   refine cc ?_
   refine iu (Eq.symm (decide_eq_true ?_))
   rw[←hc];exact hmem
  ·have hz:eB x e≠0:=fun h=>hc ((iw.zero x e).1 h)
   have r0:=decide_eq_false hz
   refine cc ?_
   exact⟨i+1,by omega,cG,by omega,by omega,hnx hc,⟨_,bn⟩⟩
 ·refine cc ?_
  refine iu (Eq.symm (decide_eq_false ?_))
  intro hm
  obtain⟨j,hj,rfl⟩:=List.mem_iff_getElem.1 hm
  refine hall j (by omega) ?_
  simp[List.getD,hj]
end Go.Proofs.YtlonbgdonffcbaaGreatDoor
end
section
/- One core: one end at most, and it is plain. -/
namespace Go.Proofs.YtlonbgdonffcbaaGreatDoor
open Go Go.cU Go.Proofs
set_option linter.unusedSimpArgs false
set_option linter.unusedVariables false
set_option maxRecDepth 8000
theorem po {s:bk}:s.bd.all fT=true↔pH s:=by
 rw[List.all_eq_true]
 constructor
 ·intro h q hq
  have:=h _ (ox hq)
  simpa[fT] using this
 ·intro h c hc
  obtain⟨q,hq,rfl⟩:=List.mem_iff_getElem.1 hc
  have:=h q hq
  rw[ph hq] at this
  simpa[fT] using this
end Go.Proofs.YtlonbgdonffcbaaGreatDoor
end
section
/- An object of one's own; objects that are the same. -/
namespace Go.Proofs.YtlonbgdonffcbaaGreatDoor
open Go Go.cU Go.Proofs Go.RowKit
set_option linter.unusedSimpArgs false
set_option linter.unusedVariables false
abbrev gX (c:Core) (b:Nat):AV:= .agg [.sc (.string c.name), .sl b c.code.length]
structure oD (o:Obj) (H:Hp) (B:List Nat) (i lo n:Nat):Prop where
 len:B.length=i
 new:∀j,j<i→lo≤B.getD j 0∧B.getD j 0<n∧∃d,bf H (B.getD j 0)=some (.row 63 9 d ((o.core j).code.map Instr.av))
 apart:∀j k,j<k→k<i→B.getD j 0≠B.getD k 0
theorem oD.next {o:Obj} {H H':Hp} {B:List Nat} {i lo n n' b:Nat} (h:oD o H B i lo n) (hb:n≤b∧b<n') (hlo:lo≤n) (hr:∃d,bf H' b=some (.row 63 9 d ((o.core i).code.map Instr.av))) (hf:∀x,lo≤x→x<n→x∈B→bf H' x=bf H x):oD o H' (B++[b]) (i+1) lo n':=by
 have same:(B++[b]).getD i 0=b:=by simp[List.getD,←h.len]
 have ne:∀j,j<i→(B++[b]).getD j 0=B.getD j 0:=fun j hj=>by simp[List.getD,List.getElem?_append,h.len,hj]
 refine⟨by simp[h.len],fun j h1=> ?_,fun j k h1 h2=> ?_⟩
 ·by_cases hj:j=i
  ·subst hj;rw[same];exact⟨by omega,by omega,hr⟩
  ·obtain⟨g1,g2,d,g3⟩:=h.new j (by omega)
   rw[ne j (by omega)]
   exact⟨g1,by omega,d,(hf _ g1 g2 (iR (by rw[h.len];omega))).trans g3⟩
 ·by_cases hk:k=i
  ·subst hk
   rw[same,ne j (by omega)]
   have:=(h.new j (by omega)).2.1
   omega
  ·rw[ne k (by omega),ne j (by omega)]
   exact h.apart j k h1 (by omega)
theorem re {o:Obj} {B:List Nat} {i:Nat} (hB:B.length=i) (hi:i<o.bd.length) (b:Nat):List.zipWith gX (o.bd.take (i+1)) (B++[b])=List.zipWith gX (o.bd.take i) B++[gX (o.core i) b]:=by
 rw[List.take_succ_eq_append_getElem hi,List.zipWith_append (by rw[List.length_take,hB];omega)]
 simp[List.getD,hi]
theorem IF {o:Obj} (ho:o.Wf) (i:Nat) (hi:i<o.bd.length):(o.core i).code.length * 64≤140737488351232:=by
 have:o.core i∈o.bd:=by simp[Obj.core,List.getD,hi]
 exact(ho.bd _ this).len
def yM (o:Obj) (H:Hp) (nx:Nat):AV→Hp→Nat→Prop:=fun r H' n=>∃mb v,r= .agg [.sl mb o.mem.length,i64 o.shared,i64 o.fX,i64 o.buffer,v]∧(nx≤mb∧mb<n)∧nx≤n∧(∃d,bf H' mb=some (.row 2 1 d (o.mem.map i64)))∧(∀b,b<nx→bf H' b=bf H b)∧
 ((o.bd=[]∧v= .sc (.slice none 0 0))∨∃cb B d es,v= .sl cb o.bd.length∧0<o.bd.length∧(nx≤cb∧cb<n)∧cb≠mb∧bf H' cb=some (.row 66 2 d es)∧es=List.zipWith gX o.bd B∧oD o H' B o.bd.length nx n∧cb∉B∧mb∉B)
set_option maxHeartbeats 4000000 in
theorem xY (o:Obj) (ho:o.Wf) {H:Hp} {nx:Nat}:bw Tryz.prog 16 [o.av] H nx (yM o H nx):=by
 refine aO EI rfl ?_
 have hml:=ho.tO
 have hcl:=ho.jo
 repeat' (first|((with_reducible refine aF ?_);conv=>whnf)|refine aG ?_|exact aC|with_reducible refine aD ?_ ?_|(apply aA;(·exact bz))|refine aH ?_|((with_reducible refine aB ?_ ?_)<;>intro hc<;>(try simp only[List.length_map,ne_eq,dL] at hc)<;>try(exfalso;omega)))
 refine aR (fun p:Nat×AV=>[(1, .pt nx 1 0 0),(2, .pt (nx+1) 1 0 0),(3,p.2),(4,i64 p.1)]) (fun p H9 n9=>p.1≤o.bd.length∧nx+10≤n9∧(∃d,bf H9 nx=some (.row 25 5 d [.agg [.sl (nx+2) (0+(o.mem.map i64).length),i64 o.shared,i64 o.fX,i64 o.buffer, .im 2 .any (o.bd.map Core.av)]]))∧
  (∃d e,bf H9 (nx+1)=some (.row 25 5 d [.agg e])∧e.length=5)∧(∃d,bf H9 (nx+2)=some (.row 2 1 d (o.mem.map i64)))∧(∀b,b<nx→bf H9 b=bf H b)∧
  ((p.1=0∧p.2= .sc (.slice none 0 0))∨∃cb B d es,0<p.1∧p.2= .sl cb p.1∧nx+10≤cb∧cb<n9∧bf H9 cb=some (.row 66 2 d es)∧es=List.zipWith gX (o.bd.take p.1) B∧oD o H9 B p.1 (nx+10) n9∧cb∉B))
  (fun p=>o.bd.length - p.1) (0, .sc (.slice none 0 0)) cG ⟨Nat.zero_le _,cM,⟨_,bn⟩,⟨_,_,bn,rfl⟩,⟨_,bn⟩,fun b hb=>cE, .inl ⟨rfl,rfl⟩⟩ ?_
 rintro⟨i,v⟩ H9 n9 ⟨hi,hn,⟨d1,r1⟩,⟨d2,e2,r2,he2⟩,⟨d3,r3⟩,hfr,hv⟩
 simp only at hi hv
 dsimp only
 by_cases hi2:i<o.bd.length
 ·have hcd:=IF ho i hi2
  rcases hv with⟨rfl,rfl⟩|⟨cb,B,d5,es,hi0,rfl,hcb1,hcb2,rcb,hes,hB,hcbB⟩
  ·repeat' (first|((with_reducible refine aF ?_);conv=>whnf)|refine aG ?_|exact aC|with_reducible refine aD ?_ ?_|(apply aA;(·(first|exact dS _ _ _ _ hi2|exact bz)))|refine aH ?_|((with_reducible refine aB ?_ ?_)<;>intro hc<;>(try simp only[List.length_map,ne_eq,dL] at hc)<;>try(exfalso;omega)))
   ·exact⟨by rw[Nat.zero_add,List.length_map];exact Nat.le_trans hcd (by decide)⟩
   refine⟨(1, .sl (n9+22) 1),by show o.bd.length - 1<o.bd.length - 0;omega,cG,by show 1≤o.bd.length;omega,cM,⟨_,bn⟩,⟨_,_,bn,he2⟩,⟨_,bn⟩,fun b hb=>(cE:_=bf H9 b).trans (hfr b hb), .inr ⟨n9+22,[n9+12],_,_,by show 0<1;omega,rfl,by omega,cM,bn, ?_, ?_,by simp⟩⟩
   ·show _=List.zipWith gX (o.bd.take (0+1)) ([]++[n9+12])
    rw[re (B:=[]) (i:=0) rfl hi2]
    show[AV.agg [_, .sl _ _]]=[]++[AV.agg [_, .sl _ _]]
    simp
   ·exact oD.next (B:=[]) (i:=0) (⟨rfl,fun j hj=>by omega,fun j k _ hk=>by omega⟩:oD o H9 [] 0 (nx+10) n9) ⟨cM,cM⟩ hn ⟨_,bn⟩ (fun x _ _ hx=>by simp at hx)
  ·have hel:es.length=i:=by rw[hes];simp[hB.len];omega
   repeat' (first|((with_reducible refine aF ?_);conv=>whnf)|refine aG ?_|exact aC|with_reducible refine aD ?_ ?_|(apply aA;(·(first|exact dS _ _ _ _ hi2|exact bz)))|refine aH ?_|((with_reducible refine aB ?_ ?_)<;>intro hc<;>(try simp only[List.length_map,ne_eq,dL] at hc)<;>try(exfalso;omega)))
   ·exact⟨by rw[Nat.zero_add,List.length_map];exact Nat.le_trans hcd (by decide)⟩
   refine⟨(i+1, .sl cb (i+1)),by show o.bd.length - (i+1)<o.bd.length - i;omega,cG,by show i+1≤o.bd.length;omega,cM,⟨_,bn⟩,⟨_,_,bn,he2⟩,⟨_,bn⟩,fun b hb=>(cE:_=bf H9 b).trans (hfr b hb), .inr ⟨cb,B++[n9+12],_,_,by show 0<i+1;omega,rfl,hcb1,by exact Nat.lt_of_lt_of_le hcb2 cM,bn, ?_, ?_, ?_⟩⟩
   ·show _=List.zipWith gX (o.bd.take (i+1)) (B++[n9+12])
    rw[re hB.len hi2,←hes]
    congr 1
    show[AV.agg [_, .sl _ _]]=[AV.agg [_, .sl _ _]]
    simp
   ·exact hB.next ⟨cM,cM⟩ hn ⟨_,bn⟩ (fun x h1 h2 h3=>by have h4:x≠cb:=fun he=>hcbB (he▸h3);exact cE)
   ·simp only[List.mem_append,List.mem_singleton,not_or]
    exact⟨hcbB,by omega⟩
 ·have hin:i=o.bd.length:=by omega
  subst hin
  have ht:o.bd.take o.bd.length=o.bd:=List.take_of_length_le (Nat.le_refl _)
  rcases hv with⟨h0,rfl⟩|⟨cb,B,d5,es,hi0,rfl,hcb1,hcb2,rcb,hes,hB,hcbB⟩
  ·repeat' (first|((with_reducible refine aF ?_);conv=>whnf)|refine aG ?_|exact aC|with_reducible refine aD ?_ ?_|(apply aA;(·exact bz))|refine aH ?_|((with_reducible refine aB ?_ ?_)<;>intro hc<;>(try simp only[List.length_map,ne_eq,dL] at hc)<;>try(exfalso;omega)))
   refine⟨nx+2,_, ?_,⟨by omega,cM⟩,cM,⟨_,bn⟩,fun b hb=>(cE:_=bf H9 b).trans (hfr b hb), .inl ⟨List.eq_nil_of_length_eq_zero h0,rfl⟩⟩
   simp
  ·repeat' (first|((with_reducible refine aF ?_);conv=>whnf)|refine aG ?_|exact aC|with_reducible refine aD ?_ ?_|(apply aA;(·exact bz))|refine aH ?_|((with_reducible refine aB ?_ ?_)<;>intro hc<;>(try simp only[List.length_map,ne_eq,dL] at hc)<;>try(exfalso;omega)))
   rw[ht] at hes
   refine⟨nx+2,_, ?_,⟨by omega,cM⟩,cM,⟨_,bn⟩,fun b hb=>(cE:_=bf H9 b).trans (hfr b hb), .inr ⟨cb,B,_,_,rfl,hi0,⟨by omega,Nat.lt_of_lt_of_le hcb2 cM⟩,by omega,bn,hes,⟨hB.len,fun j hj=> ?_,hB.apart⟩,hcbB,fun hm=> ?_⟩⟩
   ·simp
   ·obtain⟨g1,g2,d,g3⟩:=hB.new j hj
    have h4:B.getD j 0≠cb:=fun he=>hcbB (he▸iR (by rw[hB.len];exact hj))
    exact⟨by omega,Nat.lt_of_lt_of_le g2 cM,d,(cE:_=bf H9 _).trans g3⟩
   ·obtain⟨j,hj,he⟩:=List.mem_iff_getElem.1 hm
    have g1:=(hB.new j (by rw[←hB.len];exact hj)).1
    have e:B.getD j 0=B[j]:=by simp[List.getD,hj]
    rw[e,he] at g1;omega
theorem IM {H:Hp} {c:Core} {b:Nat} {d:AV} (k:Nat) (h:bf H b=some (.row 63 9 d (c.code.map Instr.av))):cU.dy H (k+3) (gX c b)=c.av:=by
 simp only[gX,cU.dy,List.map_cons,List.map_nil,kh,h]
 rw[if_pos (by simp),dj (k+1) (by simp[cD,cA])]
 rfl
theorem DK {o:Obj} {H:Hp} {B:List Nat} {lo n:Nat} (k:Nat) (h:oD o H B o.bd.length lo n):(List.zipWith gX o.bd B).map (cU.dy H (k+3))=o.bd.map Core.av:=by
 apply List.ext_getElem
 ·simp[h.len]
 ·intro i p1 p2
  have hi:i<o.bd.length:=by simpa using p2
  have hib:i<B.length:=by rw[h.len];exact hi
  obtain⟨_,_,d,g⟩:=h.new i hi
  have e1:B.getD i 0=B[i]:=by simp[List.getD,hib]
  have e2:o.core i=o.bd[i]:=by simp[Obj.core,List.getD,hi]
  rw[e1,e2] at g
  simp only[List.getElem_map,List.getElem_zipWith]
  exact IM k g
theorem xF {o:Obj} {H H':Hp} {nx n:Nat} {r:AV} (k:Nat) (h:yM o H nx r H' n):cU.dy H' (k+6) r=if o.bd=[] then .agg [.im 1 .any (o.mem.map i64),i64 o.shared,i64 o.fX,i64 o.buffer, .sc (.slice none 0 0)] else o.av:=by
 obtain⟨mb,v,rfl,_,_,⟨d1,h1⟩,_,h2⟩:=h
 rcases h2 with⟨h3,rfl⟩|⟨cb,B,d,es,rfl,h0,_,_,h4,hes,hB,_,_⟩
 ·rw[if_pos h3]
  simp only[cU.dy,List.map_cons,List.map_nil,kh,h1]
  rw[if_pos (by simp),dj (k+4) (by simp[cD,cA])]
 ·rw[if_neg (fun h=>by rw[h] at h0;exact absurd h0 (by simp))]
  have hl:es.length=o.bd.length:=by rw[hes];simp[hB.len]
  show AV.agg [cU.dy H' (k+5) (.sl mb _),cU.dy H' (k+5) (i64 _),cU.dy H' (k+5) (i64 _),cU.dy H' (k+5) (i64 _),cU.dy H' (k+5) (.sl cb _)]=_
  rw[ki h1 (by simp),ki h4 hl,hes,DK (k+1) hB,dj (k+4) (by simp[cD,cA]),kh,kh,kh]
  rfl
theorem xZ (o:Obj) (ho:o.Wf):Pure Tryz.prog 16 [o.av] (fun r=>r=o.av):=by
 have h:=cr (u:=if o.bd=[] then .agg [.im 1 .any (o.mem.map i64),i64 o.shared,i64 o.fX,i64 o.buffer, .sc (.slice none 0 0)] else o.av) ((xY o ho (H:=[]) (nx:=0)).mono fun r H n hr=>xF 0 hr) (by split<;>simp[cA,cH,cD])
 refine jg h (by simp[cA]) fun c=> ?_
 by_cases hc:o.bd=[]
 ·rw[if_pos hc,Obj.av,Obj.cells,hc]
  exact c9.agg (.cons (fun _ h=>h) (.cons (fun _ h=>h) (.cons (fun _ h=>h) (.cons (fun _ h=>h) (.cons (c9.sY _ _ _ _) .nil)))))
 ·rw[if_neg hc];exact fun _ h=>h
end Go.Proofs.YtlonbgdonffcbaaGreatDoor
end
section
/- A greater buffer: no end is lost; the walk. -/
namespace Go.Proofs.YtlonbgdonffcbaaGreatDoor
open Go Go.cU Go.Proofs
set_option linter.unusedSimpArgs false
set_option linter.unusedVariables false
set_option maxRecDepth 8000
theorem J6 {o:Obj} {b:Int} (h:eU o=true) (h1:o.buffer<b) (h2:b≤16):eU (o.wide b)=true:=by
 simp only[eU,Bool.and_eq_true,eN,decide_eq_true_eq] at h ⊢
 obtain⟨⟨⟨⟨⟨⟨⟨⟨⟨⟨p1,p2⟩,p3⟩,p4⟩,p5⟩,p6⟩,p7⟩,p8⟩,p9⟩,p10⟩,q⟩:=h
 exact⟨⟨⟨⟨⟨⟨⟨⟨⟨⟨p1,p2⟩,p3⟩,p4⟩,p5⟩,p6⟩,by show 1≤b;omega⟩,by show b≤16;omega⟩,p9⟩,p10⟩,q⟩
theorem nI {o:Obj} {b:Int} (h:o.Wf) (hb:cu b):(o.wide b).Wf:=⟨h.mem,h.tO,h.shared,h.fX,hb,h.bd,h.jo⟩
theorem wh {o:Obj} {most b:Int} (h0:(cd false o most).1=0) (h1:o.buffer<b) (h2:b≤16):(cd false (o.wide b) most).1=0∨(cd false (o.wide b) most).1=3:=by
 obtain⟨hok,hm,_⟩:=oo h0
 have hw:=J6 hok h1 h2
 unfold cd
 rw[if_neg (by rw[hw];simp),if_neg (fun e=>e hm)]
 cases kZ false (o.wide b) most.toNat with
 |none=>exact .inr rfl
 |some l=>exact .inl rfl
theorem wi {o:Obj} (ho:o.Wf) {most b:Int} (hb:cu b) (h0:(cd false o most).1=0) (h1:o.buffer<b) (h2:(cd false (o.wide b) most).1=0):∀e∈eE false o most,e∈eE false (o.wide b) most:=by
 intro e he
 rw[nZ h0] at he
 rw[nZ h2]
 obtain⟨ok,hf,_⟩:=mK ho h0
 obtain⟨ok2,_,_⟩:=mK (nI ho hb) h2
 obtain⟨_,hm,hT⟩:=oo h2
 have hc:=uG ok2 (nI ho hb).words (by omega) hT
 obtain⟨i,hi,ei,rfl⟩:=pw.1 he
 have hr:=(hf.reach i hi).wide (b:=b) (by omega)
 obtain⟨j,hj,q1,q2,q3⟩:=hr.zm ok2 (nI ho hb).words hc (po.1 ei)
 refine pw.2 ⟨j,hj,po.2 q3, ?_⟩
 show(⟨_,_,true⟩:cN)=⟨_,_,true⟩
 rw[q1,q2];rfl
set_option maxHeartbeats 1000000 in
theorem uT {o:Obj} (ho:o.Wf) (most more:Int) (hmo:cu more):Pure Tryz.prog 4 [o.av,i64 most,i64 more] (fun r=>r=bl true):=by
 have c0:=uL
 have c1:=KE ho most
 have c2:=xZ o ho
 have c3:Pure Tryz.prog 8 [.agg (o.cells.set (0+3) (.sc (.int .i64 more))),i64 most] (fun r=>r= .dE [di (eE false (o.wide more) most),i64 (cd false (o.wide more) most).1]):=KE (nI ho hmo) most
 have hf1:=gm (eE false o most)
 have hf2:=gm (eE false (o.wide more) most)
 obtain⟨hin,hel⟩:=mT (p:=false) ho most
 obtain⟨hin2,hel2⟩:=mT (p:=false) (nI ho hmo) most
 by_cases h0:(cd false o most).1=0
 ·by_cases h1:more≤o.buffer
  ·rw[h0] at c1
   have r0:=decide_eq_true h1
   generalize eE false o most=es at *
   refine aI IZ rfl ?_
   refine cc ?_
   first|trivial|exact rfl|exact iu rfl
  ·by_cases h2:16<more
   ·rw[h0] at c1
    have r0:=decide_eq_false h1
    have r1:=decide_eq_true h2
    generalize eE false o most=es at *
    refine aI IZ rfl ?_
    refine cc ?_
    first|trivial|exact rfl|exact iu rfl
   ·have r0:=decide_eq_false h1
    have r1:=decide_eq_false h2
    have hhas:=fun h=>wi ho (most:=most) hmo h0 (by omega) h
    have herr:=wh (most:=most) h0 (b:=more) (by omega) (by omega)
    have hbad:(cd false (o.wide more) most).1=3→eE false (o.wide more) most=[]:=fun h=>by unfold eE;rw[if_neg (by rw[h];decide)]
    rw[h0] at c1
    generalize eE false o most=es at *
    generalize eE false (o.wide more) most=es2 at *
    generalize (cd false (o.wide more) most).1=er at *
    rcases herr with rfl|rfl
    ·have hhas:=hhas rfl
     refine aI IZ rfl ?_
     refine cc ?_
     refine aJ c3 (by simp[cH,cA,Obj.cells,cD]) ?_
     refine cc ?_
     refine aR (fun i:Nat=>[(7,di es),(10,di es2),(12,i64 i)]) (fun i H n=>i≤es.length) (fun i=>es.length - i) 0 cG (Nat.zero_le _) ?_
     clear c0 c1 c2 c3
     have a0:(es.map cN.av).length=es.length:=List.length_map _
     rintro i H n hi
     by_cases hil:i<es.length
     ·have e0:∀d,(es.map cN.av).getD ((i:Int)).toNat d=(es.getD i default).av:=fun d=>by rw[Int.toNat_natCast];exact gw hil d
      have hmem:=hhas _ (fP (l:=es) default hil)
      generalize es.getD i default=x at e0 hmem
      have c0:=D6 hel2 hin2 x
      rw[decide_eq_true hmem] at c0
      refine cc ?_
      exact⟨i+1,by omega,cG,by omega⟩
     ·refine cc ?_
      first|trivial|exact rfl|exact iu rfl
    ·obtain rfl:=hbad rfl
     refine aI IZ rfl ?_
     refine cc ?_
     refine aJ c3 (by simp[cH,cA,Obj.cells,cD]) ?_
     refine cc ?_
     first|trivial|exact rfl|exact iu rfl
 ·have he:eE false o most=[]:=by unfold eE;rw[if_neg h0]
  rw[he] at c1
  generalize (cd false o most).1=er at *
  have r0:=decide_eq_true h0
  have r1:=decide_eq_false h0
  refine aI IZ rfl ?_
  refine cc ?_
  first|trivial|exact rfl|exact iu rfl
end Go.Proofs.YtlonbgdonffcbaaGreatDoor
end
section
/- With a greater buffer no end is lost: for every object, cap and size. No conditions. -/
namespace Go.Proofs.YtlonbgdonffcbaaGreatDoor
open Go Go.cU Go.Proofs Go.RowKit Go.ChangeShapes Go.WideShapes Go.ChangeAt
set_option linter.unusedSimpArgs false
set_option linter.unusedVariables false
set_option maxRecDepth 100000 in
theorem nz (os:Os) (started:os.Started) (H:Type) (enc:TypeId×Value→H):
 ReturnsInHanded {} Tryz.checked os 4 .any (fun w args=>(Rows.tsoDeeperSpec.pre enc Tryz.prog Tryz.f4 [] false w args∧laidMetH Tryz.prog vC w)∧sizedMet enc Tryz.prog Tryz.f4 (OpenSpec.ofChange Rows.tsoDeeperSpec) false w args) (Rows.tsoDeeperSpec.post enc Tryz.prog Tryz.f4 false true false false):=by
 refine returnsInHanded_of_change_and (C:=Tryz.checked) (X:=fun w _=>laidMetH Tryz.prog vC w) (fun _ _ _ hh h=>h.of_heap hh) own started (by kernel_rfl) Tryz.func4
  (ChangeSpec.witness_shaped (enc:=enc) (C:=Tryz.checked) (os:=os) (X:=fun w _=>laidMetH Tryz.prog vC w) false (World.doorLaid Tryz.prog 400 os) #[.agg #[.slice none 0 0, .int .i64 0, .int .i64 0, .int .i64 0, .slice none 0 0], .int .i64 0, .int .i64 0] 8 rfl (World.shaped_of_RefB (by kernel_rfl) (by kernel_rfl)) (by kernel_rfl) (by kernel_rfl) (by kernel_rfl) (C7 os _)) ?_
 intro W base args ds gs before hval hW _ hr hL _
 refine tN (ts:=[25,3,3]) (tb:=4) laidOut (by kernel_rfl) rfl Tryz.underlying4 (by kernel_rfl) (fun ds h=> ?_) (fun t ht=> ?_)
  (jP (ag:=true) (by kernel_rfl) BB (fun h=>by cases h) (jP (ag:=false) (by kernel_rfl) (da Tryz.underlying3) (fun _ _ _=>rfl) (jP (ag:=false) (by kernel_rfl) (da Tryz.underlying3) (fun _ _ _=>rfl) tT)))
  (fun a h=> ?_) hval hW hr (JB hL)
 ·match ds,h with
  |[d0,d1,d2],_=>rfl
 ·have:∀t∈[25,3,3],Tryz.prog.readableRec t=true∧t<Tryz.prog.types.size:=by
   simp only[List.forall_mem_cons]
   refine⟨⟨by kernel_rfl,of_decide_eq_true (by kernel_rfl)⟩,⟨by kernel_rfl,of_decide_eq_true (by kernel_rfl)⟩,⟨by kernel_rfl,of_decide_eq_true (by kernel_rfl)⟩,by simp⟩
  exact this t ht
 ·exact uT (o:=a.1) h.1 a.2.1 a.2.2.1 (ew h.2.2.1)
theorem rM:Rows.TsoDeeperSaid:=
 OpenClaim.holds_of_wide 4 Tryz.f4 rfl rfl rfl rfl rfl rfl rfl ⟨rfl,rfl,rfl,rfl,rfl⟩ rfl rfl rfl rfl rfl (by kernel_rfl) Tryz.func4 (by kernel_rfl)
  (of_decide_eq_true (by kernel_rfl)) (by unfold Func.isWrapper;first|(rw[if_pos (by decide+kernel)];kernel_rfl)|(rw[if_neg (by decide+kernel)];exact⟨rfl,rfl⟩))
  (fun os started H enc _=>nz os started H enc)
set_option maxRecDepth 100000 in
theorem tsoDeeper_holds:Rows.TsoDeeperCardSaid:=
 Claim7.holds_tied_plain_at .later [] [.data, .data, .data] true (true, "d4ad994dce242371731b714917e4b718e5faa8c908ab88b1ad48a85915cf5659") false
  rM (fun _ h=>by cases h) (by kernel_rfl) (fun _ h=>by cases h) tsoDeeper_row_tie rfl ⟨rfl,rfl⟩ (by kernel_rfl) rfl
  (fun f fn hf hfn=>by
   obtain rfl:f=4:=Option.some.inj ((show Tryz.prog.funcNamed "stile/stilelaw20.TsoDeeper" =some 4 by kernel_rfl).symm.trans hf)|>.symm
   obtain rfl:fn=Tryz.f4:=(Option.some.inj (Tryz.func4.symm.trans hfn)).symm
   exact⟨by kernel_rfl,fun j t ht=>by
    rw[show Tryz.f4.params=#[25,3,3] by kernel_rfl] at ht
    have hm:t∈[25,3,3]:=by simpa using Array.mem_of_getElem? ht
    have hall:([25,3,3].all fun u=> !Tryz.prog.wantsStandIn u)=true:=by kernel_rfl
    exact(show Tryz.prog.wantsStandIn t=false by simpa using List.all_eq_true.1 hall t hm)⟩)
  (by kernel_rfl)
end Go.Proofs.YtlonbgdonffcbaaGreatDoor
end
