import Derived.Test.YtlonbgdonffcbaaGreatDoorM26
import Derived.Test.YtlonbgdonffcbaaGreatDoorM32
import Derived.Test.YtlonbgdonffcbaaGreatDoorM29
import Derived.Test.YtlonbgdonffcbaaGreatDoorM34
import Derived.Test.YtlonbgdonffcbaaGreatDoorM35
section
/- A number in base 36 put behind bytes: the library's walk. -/
namespace Go.Proofs.YtlonbgdonffcbaaGreatDoor
open Go Go.cW Go.Proofs
set_option linter.unusedSimpArgs false
set_option linter.unusedVariables false
abbrev rZ (l:List UInt8):ByteArray:=⟨l.toArray⟩
abbrev dG (l:List UInt8):List AV:=l.map fun b=> .sc (.int .u8 (b.toNat:Int))
abbrev u64 (n:Nat):AV:= .sc (.int .u64 (n:Int))
theorem BO:Pure Tryz.prog 146 [i64 36] (fun r=>r=bl false):=fj (by simp[cC]) (by kernel_rfl)
def j6 (l:List UInt8):List AV:=List.replicate (65 - l.length) (.sc (.int .u8 0))++dG l
theorem zl {l:List UInt8} (h:l.length≤65):(j6 l).length=65:=by simp[j6];omega
theorem ri {l:List UInt8} (h:l.length≤64) (d:UInt8):(j6 l).set (64 - l.length) (.sc (.int .u8 (d.toNat:Int)))=j6 (d::l):=by
 have h1:65 - l.length=(64 - l.length)+1:=by omega
 have h2:65 - (d::l).length=64 - l.length:=by simp
 unfold j6
 rw[h1,h2,List.replicate_succ',List.append_assoc,List.set_append_right _ _ (by simp)]
 simp
theorem wq {l:List UInt8} (h:l.length≤65):(j6 l).drop (65 - l.length)=dG l:=by
 unfold j6
 rw[List.drop_append,List.length_replicate,Nat.sub_self,List.drop_zero,List.drop_of_length_le (by simp),List.nil_append]
theorem wrap_u64 {n:Int} (h0:0≤n) (h1:n<18446744073709551616):IntKind.u64.wrap n=n:=by simp[IntKind.wrap,IntKind.bits,IntKind.signed];omega
def zw:ByteArray:=⟨#[48,49,50,51,52,53,54,55,56,57,97,98,99,100,101,102,103,104,105,106,107,108,109,110,111,112,113,114,115,116,117,118,119,120,121,122]⟩
theorem yb {n:Nat} (h:n<36):zw.data.toList.getD n 0=d36 n:=by
 have:∀n:Fin 36,zw.data.toList.getD n.val 0=d36 n.val:=by decide
 exact this ⟨n,h⟩
set_option maxHeartbeats 4000000 in
theorem zp {q:Nat} {es:List AV} {d:AV} {H:Hp} {nx u:Nat} (hq:q<nx) (hr:bf H q=some (.row 5 1 d es)) (hes:es.length≤140737488355000) (hu:u≤9223372036854775808):
 bx Tryz.prog 142 [.sl q es.length,u64 u,i64 36,bl false,bl true] H nx (fun r H' n=>r= .dF [.sl q (es.length+(dx 13 u []).length), .sc (.string ⟨#[]⟩)]∧nx≤n∧(∃d,bf H' q=some (.row 5 1 d (es++dG (dx 13 u []))))∧∀y,y<nx→y≠q→bf H' y=bf H y):=by
 have c0:=BO
 refine aO vr rfl ?_
 refine cm ?_
 have hw36:IntKind.u64.wrap 36=36:=by decide
 rw[hw36]
 refine aU (fun σ:Nat×List UInt8=>[(0, .sl q es.length),(1,u64 σ.1),(3,bl false),(4,bl true),(11, .sc (.string ⟨#[]⟩)),(12, .pt (nx+12) 65 0 0),(13,i64 ((65 - σ.2.length:Nat):Int)),(17, .sc (.int .u64 36))])
  (fun σ H' n=>nx+13≤n∧(∃f,f+σ.2.length=13∧dx 13 u []=dx f σ.1 σ.2∧σ.1<36^(f+1))∧σ.1≤u∧(∃d,bf H' (nx+12)=some (.row 208 1 d (j6 σ.2)))∧(∃d,bf H' q=some (.row 5 1 d es))∧∀y,y<nx→y≠q→bf H' y=bf H y) (fun σ=>σ.1) (u,[]) cL
  ⟨cN,⟨13,rfl,rfl,wB hu⟩,Nat.le_refl _,⟨_,bo⟩,⟨_,bo⟩,fun y h1 h2=>cD⟩ ?_
 clear hr
 rintro⟨n,l⟩ H2 nx2 ⟨hn,⟨f,hf,hd,hnf⟩,hnu,⟨d1,r1'⟩,⟨d2,r2'⟩,hk⟩
 dsimp only at hf hd hnf hnu r1' ⊢
 have hll:l.length≤13:=by omega
 have a0:=zl (l:=l) (by omega)
 have r3:∀d,(j6 l).getD ((((65 - l.length:Nat):Int) - 1).toNat) d= .sc (.int .u8 0):=fun d=>by
  rw[show(((65 - l.length:Nat):Int) - 1).toNat=64 - l.length by omega]
  unfold j6
  rw[List.getD,List.getElem?_append_left (by simp;omega),List.getElem?_replicate,if_pos (by omega)]
  rfl
 have hidx:(((65 - l.length:Nat):Int) - 1).toNat=64 - l.length:=by omega
 by_cases h36:n<36
 ·have a1:(0:Int)≤(n:Int)∧(n:Int)<((zw.size:Nat):Int):=⟨by omega,by show(n:Int)<36;omega⟩
  have hdn:dx f n l=d36 n::l:=by
   cases f with
   |zero=>rfl
   |succ f=>rw[dx,if_pos h36]
  have key:List.take (65 - (((65 - l.length:Nat):Int) - 1).toNat) (List.drop (((65 - l.length:Nat):Int) - 1).toNat ((j6 l).set (((65 - l.length:Nat):Int) - 1).toNat (.sc (.int .u8 ((zw.data.toList.getD n 0).toNat:Int)))))=dG (d36 n::l):=by
   rw[hidx,yb h36,ri (by omega)]
   have:=wq (l:=d36 n::l) (by simp;omega)
   rw[show 65 - (d36 n::l).length=64 - l.length by simp] at this
   rw[this,List.take_of_length_le (by simp;omega)]
  refine cm ?_
  refine⟨⟨?_,cN,⟨d2, ?_⟩,fun y h1 h2=>Eq.trans cD (hk y h1 h2)⟩⟩
  ·rw[hd,hdn,show(d36 n::l).length=(dG (d36 n::l)).length from(List.length_map _).symm,←key];rfl
  ·rw[hd,hdn,←key]
   exact bo
 ·have hq:IntKind.u64.wrap ((n:Int).tdiv 36)=((n /36:Nat):Int):=by
   rw[Int.tdiv_eq_ediv_of_nonneg (by omega),show(n:Int) /36=((n /36:Nat):Int) by omega]
   exact wrap_u64 (by omega) (by omega)
  have hm:IntKind.u64.wrap (((n /36:Nat):Int) * 36)=((n /36 * 36:Nat):Int):=by
   rw[show((n /36:Nat):Int) * 36=((n /36 * 36:Nat):Int) by omega]
   exact wrap_u64 (by omega) (by omega)
  have hs:IntKind.u64.wrap ((n:Int) - ((n /36 * 36:Nat):Int))=((n%36:Nat):Int):=by
   rw[show(n:Int) - ((n /36 * 36:Nat):Int)=((n%36:Nat):Int) by omega]
   exact wrap_u64 (by omega) (by omega)
  have r0:=hq
  have r1:=hm
  have r2:=hs
  have a1:(0:Int)≤((n%36:Nat):Int)∧((n%36:Nat):Int)<((zw.size:Nat):Int):=⟨by omega,by show((n%36:Nat):Int)<36;omega⟩
  have h36':n%36<36:=Nat.mod_lt _ (by omega)
  have key:(j6 l).set (((65 - l.length:Nat):Int) - 1).toNat (.sc (.int .u8 ((zw.data.toList.getD (n%36) 0).toNat:Int)))=j6 (d36 (n%36)::l):=by
   rw[hidx,yb h36',ri (by omega)]
  obtain⟨f,rfl⟩:∃g,f=g+1:=⟨f - 1,by
   rcases Nat.eq_zero_or_pos f with e|e
   ·subst e;simp at hnf;omega
   ·omega⟩
  refine cm ?_
  refine⟨(n /36,d36 (n%36)::l),by dsimp only;omega, ?_,cN,⟨f,by simp;omega,by rw[hd,dx,if_neg h36],by dsimp only;rw[Nat.div_lt_iff_lt_mul (by omega)];rw[Nat.pow_succ] at hnf;exact hnf⟩,by dsimp only;omega,⟨d1,by dsimp only;rw[←key];exact bo⟩,⟨d2,bo⟩,fun y h1 h2=>Eq.trans cD (hk y h1 h2)⟩
  have:((65 - l.length:Nat):Int) - 1=((65 - (d36 (n%36)::l).length:Nat):Int):=by simp;omega
  rw[this]
  exact cL
theorem sm {q:Nat} {es:List AV} {d:AV} {H:Hp} {nx u:Nat} (hq:q<nx) (hr:bf H q=some (.row 5 1 d es)) (hes:es.length≤140737488355000) (hu:u≤9223372036854775808):
 bx Tryz.prog 119 [.sl q es.length,u64 u,i64 36] H nx (fun r H' n=>r= .sl q (es.length+(dx 13 u []).length)∧nx≤n∧(∃d,bf H' q=some (.row 5 1 d (es++dG (dx 13 u []))))∧∀y,y<nx→y≠q→bf H' y=bf H y):=by
 refine aO vY rfl ?_
 refine cm ?_
 refine aP (zp (q:=q) (es:=es) (d:=d) (by omega) ?_ hes hu) ?_
 ·exact bo
 rintro r H2 n2 ⟨rfl,hn,⟨d2,r2⟩,hk⟩
 refine cm ?_
 exact⟨⟨rfl,cN,⟨d2,bo⟩,fun y h1 h2=>Eq.trans cD ((hk y cN h2).trans cD)⟩⟩
set_option maxHeartbeats 1000000 in
theorem EH {q:Nat} {es:List AV} {d:AV} {H:Hp} {nx:Nat} {x:Int} (hq:q<nx) (hr:bf H q=some (.row 5 1 d es)) (hes:es.length≤140737488354000) (hx:dA x):
 bx Tryz.prog 111 [.sl q es.length,i64 x,i64 36] H nx (fun r H' n=>r= .sl q (es.length+(eS x).length)∧nx≤n∧(∃d,bf H' q=some (.row 5 1 d (es++dG (eS x))))∧∀y,y<nx→y≠q→bf H' y=bf H y):=by
 obtain⟨x1,x2⟩:=hx
 refine aO vW rfl ?_
 by_cases h0:x<0
 ·have r0:IntKind.u64.wrap x=x+18446744073709551616:=by simp[IntKind.wrap,IntKind.bits,IntKind.signed];omega
  have r1:IntKind.u64.wrap (0 - (x+18446744073709551616))=((x.natAbs:Nat):Int):=by simp[IntKind.wrap,IntKind.bits,IntKind.signed];omega
  have e:eS x=45::dx 13 x.natAbs []:=by unfold eS;rw[if_pos h0]
  refine cm ?_
  have hl:(es++[AV.sc (Value.int IntKind.u8 45)]).length=es.length+1:=by simp
  have hc:=fun(H:Hp) (nx:Nat) (h1:q<nx) h2=>sm (H:=H) (nx:=nx) (q:=q) (es:=es++[.sc (.int .u8 45)]) (d:=d) h1 h2 (by rw[hl];omega) (show x.natAbs≤9223372036854775808 by omega)
  rw[hl] at hc
  refine aP (hc _ _ (by omega) ?_) ?_
  ·exact bo
  rintro r H2 n2 ⟨rfl,hn,⟨d2,r2⟩,hk⟩
  refine cm ?_
  refine⟨⟨by rw[e,List.length_cons,Nat.add_assoc,Nat.add_comm 1],cN,⟨d2, ?_⟩,fun y h1 h2=>Eq.trans cD ((hk y cN h2).trans cD)⟩⟩
  rw[List.append_assoc] at r2
  rw[e,show dG (45::dx 13 x.natAbs [])=[.sc (.int .u8 45)]++dG (dx 13 x.natAbs []) from rfl]
  exact bo
 ·have r0:IntKind.u64.wrap x=((x.toNat:Nat):Int):=by simp[IntKind.wrap,IntKind.bits,IntKind.signed];omega
  have e:eS x=dx 13 x.toNat []:=by unfold eS;rw[if_neg h0]
  refine cm ?_
  refine aP (sm (q:=q) (es:=es) (d:=d) (by omega) ?_ (by omega) (by omega)) ?_
  ·exact bo
  rintro r H2 n2 ⟨rfl,hn,⟨d2,r2⟩,hk⟩
  refine cm ?_
  rw[e]
  exact⟨⟨rfl,cN,⟨d2,bo⟩,fun y h1 h2=>Eq.trans cD ((hk y cN h2).trans cD)⟩⟩
theorem B0 {q:Nat} {es:List AV} {d:AV} {H:Hp} {nx:Nat} {x:Int} (hq:q<nx) (hr:bf H q=some (.row 5 1 d es)) (hes:es.length≤140737488354000) (hx:dA x):
 bx Tryz.prog 89 [.sl q es.length,i64 x,i64 36] H nx (fun r H' n=>r= .sl q (es.length+(eS x).length)∧nx≤n∧(∃d,bf H' q=some (.row 5 1 d (es++dG (eS x))))∧∀y,y<nx→y≠q→bf H' y=bf H y):=by
 refine aO F7 rfl ?_
 refine cm ?_
 refine aP (EH (q:=q) (es:=es) (d:=d) (by omega) ?_ hes hx) ?_
 ·exact bo
 rintro r H2 n2 ⟨rfl,hn,⟨d2,r2⟩,hk⟩
 refine cm ?_
 exact⟨⟨rfl,cN,⟨d2,bo⟩,fun y h1 h2=>Eq.trans cD ((hk y cN h2).trans cD)⟩⟩
structure Kb (b q:Nat) (l:List UInt8) (H:Hp):Prop where
 rb:∃d,bf H b=some (.row 148 1 d [.sl q l.length])
 rq:∃d,bf H q=some (.row 5 1 d (dG l))
 ne:b≠q
theorem Kb.cK {b q:Nat} {l:List UInt8} {H H2:Hp} (h:Kb b q l H) (hb:bf H2 b=bf H b) (hq:bf H2 q=bf H q):Kb b q l H2:=by
 obtain⟨⟨d1,h1⟩,⟨d2,h2⟩,h3⟩:=h
 exact⟨⟨d1,hb.trans h1⟩,⟨d2,hq.trans h2⟩,h3⟩
theorem GO {b q:Nat} {l:List UInt8} {H:Hp} {nx:Nat} {x:Int} (h:Kb b q l H) (hb:b<nx) (hq:q<nx) (hl:l.length≤140737488353000) (hx:dA x):
 bx Tryz.prog 88 [i64 x, .pt b 1 0 0] H nx (fun r H' n=>r= .dF []∧nx≤n∧Kb b q (l++ct x) H'∧∀y,y<nx→y≠b→y≠q→bf H' y=bf H y):=by
 obtain⟨⟨d1,h1⟩,⟨d2,h2⟩,h3⟩:=h
 have hn:=ta x
 refine aO F6 rfl ?_
 refine cm ?_
 have hbl:(dG l).length=l.length:=List.length_map _
 rw[←hbl]
 refine aP (B0 (q:=q) (es:=dG l) (d:=d2) (by omega) ?_ (by rw[hbl];omega) hx) ?_
 ·exact bo
 rintro r H2 n2 ⟨rfl,hn2,⟨d3,r3⟩,hk⟩
 have h1':=(hk b cN h3).trans ((cD:_=bf H b).trans h1)
 have a0:((dG l)++dG (eS x)).length=(dG l).length+(eS x).length:=by simp
 refine cm ?_
 refine⟨⟨rfl,cN,⟨⟨d1, ?_⟩,⟨d3, ?_⟩,h3⟩,fun y h5 h6 h7=>Eq.trans cD ((hk y cN h7).trans cD)⟩⟩
 ·have:(l++ct x).length=(dG l).length+(eS x).length+1:=by simp[ct];omega
  rw[this]
  exact bo
 ·have:dG (l++ct x)=dG l++dG (eS x)++[.sc (.int .u8 32)]:=by simp[ct]
  rw[this]
  exact bo
end Go.Proofs.YtlonbgdonffcbaaGreatDoor
end
section
/- The key of a situation: the walk. -/
namespace Go.Proofs.YtlonbgdonffcbaaGreatDoor
open Go Go.cW Go.Proofs
set_option linter.unusedSimpArgs false
set_option linter.unusedVariables false
set_option maxRecDepth 8000
theorem J3 {α:Type} (f:α→List UInt8) (l:List α) (j:Nat):((l.take j).flatMap f).length≤(l.flatMap f).length:=by
 conv=>rhs;rw[←List.take_append_drop j l,List.flatMap_append,List.length_append]
 omega
theorem fm {α:Type} (f:α→List UInt8) {l:List α} {j:Nat} (h:j<l.length) (d:α):(l.take (j+1)).flatMap f=(l.take j).flatMap f++f (l.getD j d):=by
 rw[List.take_succ_eq_append_getElem h,List.flatMap_append]
 simp[List.getD,List.getElem?_eq_getElem h]
theorem kM {α:Type} (f:α→List UInt8) {l:List α} {j:Nat} (h:j<l.length) (d:α):((l.take j).flatMap f).length+(f (l.getD j d)).length≤(l.flatMap f).length:=by
 have:=J3 f l (j+1)
 rw[fm f h d,List.length_append] at this
 exact this
theorem N0 {te e:TypeId} {sz b nx:Nat} {H:Hp} {d:AV} (hb:b<nx) (hsz:0<sz) (h:bf H b=some (.row te 1 d [.sc (.slice none 0 0)])):∃H2,Wk .any H nx .any H2 (nx+1)∧bf H2 b=some (.row te 1 .any [.sl nx 0])∧bf H2 nx=some (.row e sz .any [])∧∀y,y<nx→y≠b→bf H2 y=bf H y:=by
 refine⟨ki te e sz b 1 nx H,Wk.born hb hsz h, ?_, ?_,fun y y1 y2=>C1 y1 y2⟩
 ·rw[ki,cJ,sg];rfl
 ·rw[ki,bg (by omega),fi,if_pos (by omega)]
theorem wv {te:TypeId} (e:TypeId) (sz:Nat) {b nx:Nat} {H:Hp} {d:AV} {fr:Fr} {P:Fr→Hp→Nat→Prop} (hb:b<nx) (hsz:0<sz) (h:bf H b=some (.row te 1 d [.sc (.slice none 0 0)]))
 (k:∀H2,bf H2 b=some (.row te 1 .any [.sl nx 0])→bf H2 nx=some (.row e sz .any [])→(∀y,y<nx→y≠b→bf H2 y=bf H y)→P fr H2 (nx+1)):∃fr2 H2 nx2,Rt fr H nx fr2 H2 nx2∧P fr2 H2 nx2:=by
 obtain⟨H2,hw,q1,q2,q3⟩:=N0 (e:=e) (sz:=sz) hb hsz h
 exact⟨fr,H2,nx+1,Rt.wk hw,k H2 q1 q2 q3⟩
def rE (b:Nat) (l:List UInt8) (H:Hp) (n:Nat):Prop:=∃q,q<n∧Kb b q l H
theorem rE.skip {b n n2:Nat} {l:List UInt8} {H H2:Hp} (h:rE b l H n) (hn:n≤n2) (hk:∀y,y<n→bf H2 y=bf H y) (hb:b<n:=by omega):rE b l H2 n2:=by
 obtain⟨q,hq,h⟩:=h
 exact⟨q,by omega,h.cK (hk b hb) (hk q hq)⟩
theorem rE.app {b q n:Nat} {l:List UInt8} {x:UInt8} {H:Hp} {d1 d2:AV} (h1:bf H b=some (.row 148 1 d1 [.sl q (l.length+1)])) (h2:bf H q=some (.row 5 1 d2 (dG l++[.sc (.int .u8 (x.toNat:Int))]))) (h3:b≠q) (hq:q<n):rE b (l++[x]) H n:=
 ⟨q,hq,⟨d1,by rw[List.length_append];exact h1⟩,⟨d2,by rw[show dG (l++[x])=dG l++[.sc (.int .u8 (x.toNat:Int))] by simp];exact h2⟩,h3⟩
theorem u0:∀l:List UInt8,hC (dG l)=some (l.map fun b=>(b.toNat:Int))
 |[]=>rfl
 |b::l=>by
  have:=u0 l
  simp only[List.map_cons,hC] at this ⊢
  rw[this];rfl
theorem M6 (l:List UInt8):B6 (l.map fun b=>(b.toNat:Int))=rZ l:=by
 have:∀(l:List UInt8) (r:ByteArray),(l.map fun b=>(b.toNat:Int)).foldl (fun r n=>r.push (UInt8.ofNat n.toNat)) r=⟨r.data++l.toArray⟩:=by
  intro l
  induction l with
  |nil=>intro r;simp
  |cons b l ih=>
   intro r
   rw[List.map_cons,List.foldl_cons,ih]
   congr 1
   show(r.push _).data++_=_
   rw[ByteArray.push]
   simp
 have:=this l ByteArray.empty
 unfold B6
 rw[this]
 simp[ByteArray.empty,ByteArray.emptyWithCapacity]
 rfl
def O8 (b n:Nat) (H H2:Hp):Prop:=∀y,y<n→y≠b→(∀d es,bf H y≠some (.row 5 1 d es))→bf H2 y=bf H y
theorem O8.row {b n y:Nat} {H H2:Hp} {e:TypeId} {sz:Nat} {d:AV} {es:List AV} (h:O8 b n H H2) (hy:y<n) (hb:y≠b) (hr:bf H y=some (.row e sz d es)) (he:sz≠1):bf H2 y=some (.row e sz d es):=by
 rw[h y hy hb fun d2 es2 hh=> ?_]
 ·exact hr
 ·rw[hr] at hh;cases hh;exact he rfl
theorem eG {b:Nat} {l:List UInt8} {H:Hp} {nx:Nat} {x:Int} (h:rE b l H nx) (hb:b<nx) (hl:l.length≤140737488353000) (hx:dA x):
 bx Tryz.prog 88 [i64 x, .pt b 1 0 0] H nx (fun r H' n=>r= .dF []∧nx≤n∧rE b (l++ct x) H' n∧O8 b nx H H'):=by
 obtain⟨q,hq,h⟩:=h
 refine(GO h hb hq hl hx).mono ?_
 rintro r H2 n ⟨h1,h2,h3,h4⟩
 refine⟨h1,h2,⟨q,by omega,h3⟩,fun y y1 y2 y3=>h4 y y1 y2 fun e=> ?_⟩
 subst e
 obtain⟨d,hd⟩:=h.rq
 exact y3 _ _ hd
set_option maxHeartbeats 4000000 in
theorem EK (o:Obj) (s:bj) (hw:MW s) (hlk:eH s) (hsz:(dn s).length≤140737488340000):Pure Tryz.prog 62 [s.frozen o] (fun r=>r= .sc (.string (rZ (dn s)))):=by
 have c0:=qC o s
 have c1:=s7 o s hlk.mem
 have c2:=oF o s hlk.bh
 simp only[bj.frozen] at c0 c1 c2 ⊢
 refine cz ?_ (by simp[cC])
 refine aO FJ rfl ?_
 refine cm ?_
 refine aR (fun i:Nat=>[(0,s.frozen o),(3, .pt 1 1 0 0),(4, .fn (.func 88) [] [.pt 1 1 0 0]),(18,i64 s.bd.length),(19,i64 i)])
  (fun i H n=>i≤s.bd.length∧2≤n∧rE 1 ((s.bd.take i).flatMap dS) H n) (fun i=>s.bd.length - i) 0
  (wv 5 1 (b:=1) (d:=gI false [.slice none 0 0]) (by omega) (by omega) bo fun H2 q1 q2 q3=>⟨cL,Nat.zero_le _,by omega,_,by omega,⟨_,q1⟩,⟨_,q2⟩,by omega⟩) ?_
 rintro i H n ⟨hi,hn,hB⟩
 simp only[bj.frozen]
 have hkl:(dn s).length=(s.bd.flatMap dS).length+((s.mem.flatMap ct).length+(1+(s.bh.flatMap fP).length)):=by simp only[dn,List.length_append,List.length_cons];omega
 have hc8:=hlk.bd
 by_cases hil:i<s.bd.length
 ·have hle:=kM dS hil default
  have hnx:=fm dS hil default
  have hc:=hw.core _ (pI hil)
  have c3:=KD o s i hil (hlk.buf i hil)
  simp only[bj.frozen] at c3
  have hce:s.bd.getD i default=s.core i:=rfl
  rw[hce] at hle hnx
  have hbl:=hlk.buf i hil
  generalize s.core i=c at *
  have hcl:(dS c).length=(ct c.pc).length+((eX c).length+((de c).length+(1+((c.buf.flatMap storeT).length+1)))):=by simp only[dS,List.length_append,List.length_cons,List.length_nil];omega
  refine cm ?_
  refine aP (eG (hB.skip (by omega) ?_) (by omega) (by omega) hc.pc) ?_
  ·exact fun y hy=>cD
  rintro r H2 n2 ⟨rfl,hn2,hB2,ho2⟩
  have r8:=ho2.row (y:=n+8) (e:=152) (sz:=19) (d:=_) (es:=[c.frozen]) cN (by omega) bo (by decide)
  have hBl:((s.bd.take i).flatMap dS++ct c.pc++eX c).length=((s.bd.take i).flatMap dS).length+(ct c.pc).length+(eX c).length:=by simp only[List.length_append]
  have hBe:(s.bd.take i).flatMap dS++dS c=((s.bd.take i).flatMap dS++ct c.pc++eX c)++(de c++(47::(c.buf.flatMap storeT++[124]))):=by simp[dS]
  have hAl:((s.bd.take i).flatMap dS++ct c.pc).length=((s.bd.take i).flatMap dS).length+(ct c.pc).length:=List.length_append
  by_cases hh:c.halted=true
  ·have hht:eX c=[104]:=by unfold eX;rw[if_pos hh]
   obtain⟨q3,hq3,⟨⟨g1,p1⟩,⟨g2,p2⟩,hne3⟩⟩:=hB2
   have a0:(dG ((s.bd.take i).flatMap dS++ct c.pc)).length=((s.bd.take i).flatMap dS++ct c.pc).length:=List.length_map _
   have hq8:q3≠n+8:=fun e=>by rw[e,r8] at p2;cases p2
   generalize hBB:(s.bd.take i).flatMap dS++ct c.pc++eX c=B at *
   have hBa:B=((s.bd.take i).flatMap dS++ct c.pc)++[104]:=by rw[←hBB,hht]
   refine cm ?_
   refine aR (fun j:Nat=>[(0,s.frozen o),(3, .pt 1 1 0 0),(4, .fn (.func 88) [] [.pt 1 1 0 0]),(18,i64 s.bd.length),(19,i64 i),(5,i64 i),(6, .pt (n+8) 1 0 0),(38, .agg ((List.range 16).map fun j=>i64 (c.dX j))),(39,i64 j)])
    (fun j H' n'=>j≤16∧n+9≤n'∧rE 1 (B++((List.range 16).take j).flatMap (fun j=>ct (c.dX j))) H' n'∧∃d,bf H' (n+8)=some (.row 152 19 d [c.frozen])) (fun j=>16 - j) 0
    ⟨_,_,_,Rt.refl _ _ _,cL,Nat.zero_le _,cN,(by rw[show(List.range 16).take 0=[] from rfl,List.flatMap_nil,List.append_nil,hBa];exact rE.app (q:=q3) bo bo hne3 cN),⟨_,bo⟩⟩ ?_
   clear p1 p2 r8 a0
   rintro j H4 n4 ⟨hj,hn4,hB4,⟨d8,r8⟩⟩
   simp only[bj.frozen]
   by_cases hjl:j<16
   ·have e0:∀d,((List.range 16).map fun j=>i64 (c.dX j)).getD ((j:Int)).toNat d=i64 (c.dX j):=fun d=>by
     rw[Int.toNat_natCast,List.getD,List.getElem?_map,List.getElem?_range hjl];rfl
    have e1:∀d,((List.range 16).map fun j=>i64 (c.dX j)).getD (((j:Int)).toNat * 1) d=i64 (c.dX j):=fun d=>by rw[Nat.mul_one];exact e0 d
    have hle2:=kM (fun j=>ct (c.dX j)) (l:=List.range 16) (j:=j) (by simpa using hjl) 0
    have hnx2:=fm (fun j=>ct (c.dX j)) (l:=List.range 16) (j:=j) (by simpa using hjl) 0
    have hrg:(List.range 16).getD j 0=j:=by simp[List.getD,hjl]
    rw[hrg] at hle2 hnx2
    have hrl:((List.range 16).flatMap fun j=>ct (c.dX j)).length=(de c).length:=rfl
    refine cm ?_
    refine aP (eG (hB4.skip (by omega) ?_) (by omega) (by rw[List.length_append];omega) (hc.dX j hjl)) ?_
    ·exact fun y hy=>cD
    rintro r H5 n5 ⟨rfl,hn5,hB5,ho5⟩
    have r8':=ho5.row (y:=n+8) cN (by omega) bo (by decide)
    refine cm ?_
    exact⟨j+1,by omega,_,_,_,Rt.refl _ _ _,cL,by omega,cN,by rw[hnx2,←List.append_assoc];exact hB5.skip (by omega) fun y hy=>cD,⟨_,bo⟩⟩
   ·obtain rfl:j=16:=by omega
    rw[show(List.range 16).take 16=List.range 16 from rfl] at hB4
    change rE 1 (B++de c) H4 n4 at hB4
    obtain⟨q4,hq4,⟨⟨g1,p1⟩,⟨g2,p2⟩,hne4⟩⟩:=hB4
    have hq8:q4≠n+8:=fun e=>by rw[e,r8] at p2;cases p2
    have a0:(dG (B++de c)).length=(B++de c).length:=List.length_map _
    have hBr:(B++de c).length=B.length+(de c).length:=List.length_append
    refine cm ?_
    simp only[List.length_map]
    refine aR (fun j:Nat=>[(0,s.frozen o),(3, .pt 1 1 0 0),(4, .fn (.func 88) [] [.pt 1 1 0 0]),(18,i64 s.bd.length),(19,i64 i),(5,i64 i),(50, .im 3 .any (c.buf.map cr.av)),(51,i64 c.buf.length),(52,i64 j)])
     (fun j H' n'=>j≤c.buf.length∧n+9≤n'∧rE 1 (B++de c++[47]++(c.buf.take j).flatMap storeT) H' n') (fun j=>c.buf.length - j) 0
     ⟨_,_,_,Rt.refl _ _ _,cL,Nat.zero_le _,cN,(by rw[List.take_zero,List.flatMap_nil,List.append_nil];exact rE.app (q:=q4) bo bo hne4 cN)⟩ ?_
    clear p1 p2 r8 hBr
    rintro j H4 n4 ⟨hj,hn4,hB4⟩
    simp only[bj.frozen]
    have hBr:(B++de c++[47]).length=B.length+(de c).length+1:=by simp only[List.length_append,List.length_cons,List.length_nil]
    by_cases hjl:j<c.buf.length
    ·have e0:∀d,(c.buf.map cr.av).getD ((j:Int)).toNat d=(c.buf.getD j default).av:=fun d=>by rw[Int.toNat_natCast];exact dh _ _ _ d hjl
     have hle2:=kM storeT hjl default
     have hnx2:=fm storeT hjl default
     have hsw:=hc.buf _ (gX default hjl)
     have a1:(c.buf.map cr.av).length=c.buf.length:=List.length_map _
     generalize c.buf.getD j default=x at *
     have hxl:(storeT x).length=(ct x.pc).length+((ct x.addr).length+(ct x.word).length):=by simp only[storeT,List.length_append]
     refine cm ?_
     refine aP (eG (hB4.skip (by omega) ?_) (by omega) (by rw[List.length_append];omega) hsw.1) ?_
     ·exact fun y hy=>cD
     rintro r H5 n5 ⟨rfl,hn5,hB5,ho5⟩
     have r9:=ho5.row (y:=n4+3) (e:=125) (sz:=3) (d:=_) (es:=_) cN (by omega) bo (by decide)
     refine cm ?_
     refine aP (eG (hB5.skip (by omega) ?_) (by omega) (by simp only[List.length_append] at *;omega) hsw.2.1) ?_
     ·exact fun y hy=>cD
     rintro r H6 n6 ⟨rfl,hn6,hB6,ho6⟩
     have r9':=ho6.row (y:=n4+3) (e:=125) (sz:=3) (d:=_) (es:=_) cN (by omega) bo (by decide)
     refine cm ?_
     refine aP (eG (hB6.skip (by omega) ?_) (by omega) (by simp only[List.length_append] at *;omega) hsw.2.2) ?_
     ·exact fun y hy=>cD
     rintro r H7 n7 ⟨rfl,hn7,hB7,ho7⟩
     refine cm ?_
     exact⟨j+1,by omega,_,_,_,Rt.refl _ _ _,cL,by omega,cN,by rw[hnx2];simp only[storeT,←List.append_assoc] at hB7 ⊢;exact hB7.skip (by omega) fun y hy=>cD⟩
    ·obtain rfl:j=c.buf.length:=by omega
     rw[List.take_length] at hB4
     obtain⟨q4,hq4,⟨⟨g1,p1⟩,⟨g2,p2⟩,hne4⟩⟩:=hB4
     have a0:(dG (B++de c++[47]++c.buf.flatMap storeT)).length=(B++de c++[47]++c.buf.flatMap storeT).length:=List.length_map _
     have hBb:(B++de c++[47]++c.buf.flatMap storeT).length=B.length+(de c).length+1+(c.buf.flatMap storeT).length:=by rw[List.length_append,hBr]
     have hend:(s.bd.take (i+1)).flatMap dS=(B++de c++[47]++c.buf.flatMap storeT)++[124]:=by rw[hnx,hBe];simp[dS]
     refine cm ?_
     refine⟨i+1,by omega,_,_,_,Rt.refl _ _ _,cL,by omega,cN,(by rw[hend];exact rE.app (q:=q4) bo bo hne4 cN)⟩
  ·have hht:eX c=[]:=by unfold eX;rw[if_neg hh]
   have hh:c.halted=false:=by simpa using hh
   generalize hBB:(s.bd.take i).flatMap dS++ct c.pc++eX c=B at *
   have hBa:B=((s.bd.take i).flatMap dS++ct c.pc):=by rw[←hBB,hht,List.append_nil]
   rw[←hBa] at hB2
   refine cm ?_
   refine aR (fun j:Nat=>[(0,s.frozen o),(3, .pt 1 1 0 0),(4, .fn (.func 88) [] [.pt 1 1 0 0]),(18,i64 s.bd.length),(19,i64 i),(5,i64 i),(6, .pt (n+8) 1 0 0),(38, .agg ((List.range 16).map fun j=>i64 (c.dX j))),(39,i64 j)])
    (fun j H' n'=>j≤16∧n+9≤n'∧rE 1 (B++((List.range 16).take j).flatMap (fun j=>ct (c.dX j))) H' n'∧∃d,bf H' (n+8)=some (.row 152 19 d [c.frozen])) (fun j=>16 - j) 0
    ⟨_,_,_,Rt.refl _ _ _,cL,Nat.zero_le _,cN,(by rw[show(List.range 16).take 0=[] from rfl,List.flatMap_nil,List.append_nil];exact hB2.skip (by omega) fun y hy=>cD),⟨_,bo⟩⟩ ?_
   clear hB2 r8
   rintro j H4 n4 ⟨hj,hn4,hB4,⟨d8,r8⟩⟩
   simp only[bj.frozen]
   by_cases hjl:j<16
   ·have e0:∀d,((List.range 16).map fun j=>i64 (c.dX j)).getD ((j:Int)).toNat d=i64 (c.dX j):=fun d=>by
     rw[Int.toNat_natCast,List.getD,List.getElem?_map,List.getElem?_range hjl];rfl
    have e1:∀d,((List.range 16).map fun j=>i64 (c.dX j)).getD (((j:Int)).toNat * 1) d=i64 (c.dX j):=fun d=>by rw[Nat.mul_one];exact e0 d
    have hle2:=kM (fun j=>ct (c.dX j)) (l:=List.range 16) (j:=j) (by simpa using hjl) 0
    have hnx2:=fm (fun j=>ct (c.dX j)) (l:=List.range 16) (j:=j) (by simpa using hjl) 0
    have hrg:(List.range 16).getD j 0=j:=by simp[List.getD,hjl]
    rw[hrg] at hle2 hnx2
    have hrl:((List.range 16).flatMap fun j=>ct (c.dX j)).length=(de c).length:=rfl
    refine cm ?_
    refine aP (eG (hB4.skip (by omega) ?_) (by omega) (by rw[List.length_append];omega) (hc.dX j hjl)) ?_
    ·exact fun y hy=>cD
    rintro r H5 n5 ⟨rfl,hn5,hB5,ho5⟩
    have r8':=ho5.row (y:=n+8) cN (by omega) bo (by decide)
    refine cm ?_
    exact⟨j+1,by omega,_,_,_,Rt.refl _ _ _,cL,by omega,cN,by rw[hnx2,←List.append_assoc];exact hB5.skip (by omega) fun y hy=>cD,⟨_,bo⟩⟩
   ·obtain rfl:j=16:=by omega
    rw[show(List.range 16).take 16=List.range 16 from rfl] at hB4
    change rE 1 (B++de c) H4 n4 at hB4
    obtain⟨q4,hq4,⟨⟨g1,p1⟩,⟨g2,p2⟩,hne4⟩⟩:=hB4
    have hq8:q4≠n+8:=fun e=>by rw[e,r8] at p2;cases p2
    have a0:(dG (B++de c)).length=(B++de c).length:=List.length_map _
    have hBr:(B++de c).length=B.length+(de c).length:=List.length_append
    refine cm ?_
    simp only[List.length_map]
    refine aR (fun j:Nat=>[(0,s.frozen o),(3, .pt 1 1 0 0),(4, .fn (.func 88) [] [.pt 1 1 0 0]),(18,i64 s.bd.length),(19,i64 i),(5,i64 i),(50, .im 3 .any (c.buf.map cr.av)),(51,i64 c.buf.length),(52,i64 j)])
     (fun j H' n'=>j≤c.buf.length∧n+9≤n'∧rE 1 (B++de c++[47]++(c.buf.take j).flatMap storeT) H' n') (fun j=>c.buf.length - j) 0
     ⟨_,_,_,Rt.refl _ _ _,cL,Nat.zero_le _,cN,(by rw[List.take_zero,List.flatMap_nil,List.append_nil];exact rE.app (q:=q4) bo bo hne4 cN)⟩ ?_
    clear p1 p2 r8 hBr
    rintro j H4 n4 ⟨hj,hn4,hB4⟩
    simp only[bj.frozen]
    have hBr:(B++de c++[47]).length=B.length+(de c).length+1:=by simp only[List.length_append,List.length_cons,List.length_nil]
    by_cases hjl:j<c.buf.length
    ·have e0:∀d,(c.buf.map cr.av).getD ((j:Int)).toNat d=(c.buf.getD j default).av:=fun d=>by rw[Int.toNat_natCast];exact dh _ _ _ d hjl
     have hle2:=kM storeT hjl default
     have hnx2:=fm storeT hjl default
     have hsw:=hc.buf _ (gX default hjl)
     have a1:(c.buf.map cr.av).length=c.buf.length:=List.length_map _
     generalize c.buf.getD j default=x at *
     have hxl:(storeT x).length=(ct x.pc).length+((ct x.addr).length+(ct x.word).length):=by simp only[storeT,List.length_append]
     refine cm ?_
     refine aP (eG (hB4.skip (by omega) ?_) (by omega) (by rw[List.length_append];omega) hsw.1) ?_
     ·exact fun y hy=>cD
     rintro r H5 n5 ⟨rfl,hn5,hB5,ho5⟩
     have r9:=ho5.row (y:=n4+3) (e:=125) (sz:=3) (d:=_) (es:=_) cN (by omega) bo (by decide)
     refine cm ?_
     refine aP (eG (hB5.skip (by omega) ?_) (by omega) (by simp only[List.length_append] at *;omega) hsw.2.1) ?_
     ·exact fun y hy=>cD
     rintro r H6 n6 ⟨rfl,hn6,hB6,ho6⟩
     have r9':=ho6.row (y:=n4+3) (e:=125) (sz:=3) (d:=_) (es:=_) cN (by omega) bo (by decide)
     refine cm ?_
     refine aP (eG (hB6.skip (by omega) ?_) (by omega) (by simp only[List.length_append] at *;omega) hsw.2.2) ?_
     ·exact fun y hy=>cD
     rintro r H7 n7 ⟨rfl,hn7,hB7,ho7⟩
     refine cm ?_
     exact⟨j+1,by omega,_,_,_,Rt.refl _ _ _,cL,by omega,cN,by rw[hnx2];simp only[storeT,←List.append_assoc] at hB7 ⊢;exact hB7.skip (by omega) fun y hy=>cD⟩
    ·obtain rfl:j=c.buf.length:=by omega
     rw[List.take_length] at hB4
     obtain⟨q4,hq4,⟨⟨g1,p1⟩,⟨g2,p2⟩,hne4⟩⟩:=hB4
     have a0:(dG (B++de c++[47]++c.buf.flatMap storeT)).length=(B++de c++[47]++c.buf.flatMap storeT).length:=List.length_map _
     have hBb:(B++de c++[47]++c.buf.flatMap storeT).length=B.length+(de c).length+1+(c.buf.flatMap storeT).length:=by rw[List.length_append,hBr]
     have hend:(s.bd.take (i+1)).flatMap dS=(B++de c++[47]++c.buf.flatMap storeT)++[124]:=by rw[hnx,hBe];simp[dS]
     refine cm ?_
     refine⟨i+1,by omega,_,_,_,Rt.refl _ _ _,cL,by omega,cN,(by rw[hend];exact rE.app (q:=q4) bo bo hne4 cN)⟩
 ·obtain rfl:i=s.bd.length:=by omega
  rw[List.take_length] at hB
  generalize hCC:s.bd.flatMap dS=C at *
  have hml:=hlk.mem
  refine cm ?_
  simp only[List.length_map]
  refine aR (fun j:Nat=>[(0,s.frozen o),(3, .pt 1 1 0 0),(4, .fn (.func 88) [] [.pt 1 1 0 0]),(74, .im 1 .any (s.mem.map i64)),(75,i64 s.mem.length),(76,i64 j)])
   (fun j H' n'=>j≤s.mem.length∧2≤n'∧rE 1 (C++(s.mem.take j).flatMap ct) H' n') (fun j=>s.mem.length - j) 0
   ⟨_,_,_,Rt.refl _ _ _,cL,Nat.zero_le _,cN,by rw[List.take_zero,List.flatMap_nil,List.append_nil];exact hB.skip (by omega) fun y hy=>cD⟩ ?_
  clear hB hn
  rintro j H n ⟨hj,hn,hB⟩
  simp only[bj.frozen]
  by_cases hjl:j<s.mem.length
  ·have e0:∀d,(s.mem.map i64).getD ((j:Int)).toNat d=i64 (s.mem.getD j 0):=fun d=>ints_at hjl d
   have hle2:=kM ct hjl 0
   have hnx2:=fm ct hjl 0
   have a1:(s.mem.map i64).length=s.mem.length:=List.length_map _
   refine cm ?_
   refine aP (eG (hB.skip (by omega) ?_) (by omega) (by rw[List.length_append];omega) (hw.mem _ (gX 0 hjl))) ?_
   ·exact fun y hy=>cD
   rintro r H5 n5 ⟨rfl,hn5,hB5,ho5⟩
   refine cm ?_
   exact⟨j+1,by omega,_,_,_,Rt.refl _ _ _,cL,by omega,cN,by rw[hnx2,←List.append_assoc];exact hB5.skip (by omega) fun y hy=>cD⟩
  ·obtain rfl:j=s.mem.length:=by omega
   rw[List.take_length] at hB
   obtain⟨q4,hq4,⟨⟨g1,p1⟩,⟨g2,p2⟩,hne4⟩⟩:=hB
   have a0:(dG (C++s.mem.flatMap ct)).length=(C++s.mem.flatMap ct).length:=List.length_map _
   have hCl:(C++s.mem.flatMap ct).length=C.length+(s.mem.flatMap ct).length:=List.length_append
   have hCl2:(C++s.mem.flatMap ct++[124]).length=C.length+(s.mem.flatMap ct).length+1:=by rw[List.length_append,hCl];rfl
   have hpl:=hlk.bh
   refine cm ?_
   simp only[List.length_map]
   refine aR (fun j:Nat=>[(0,s.frozen o),(3, .pt 1 1 0 0),(4, .fn (.func 88) [] [.pt 1 1 0 0]),(88, .im 2 .any (s.bh.map cF.av)),(89,i64 s.bh.length),(90,i64 j)])
    (fun j H' n'=>j≤s.bh.length∧2≤n'∧rE 1 (C++s.mem.flatMap ct++[124]++(s.bh.take j).flatMap fP) H' n') (fun j=>s.bh.length - j) 0
    ⟨_,_,_,Rt.refl _ _ _,cL,Nat.zero_le _,cN,by rw[List.take_zero,List.flatMap_nil,List.append_nil];exact rE.app (q:=q4) bo bo hne4 cN⟩ ?_
   clear p1 p2 hn a0
   rintro j H n ⟨hj,hn,hB⟩
   simp only[bj.frozen]
   by_cases hjl:j<s.bh.length
   ·have e0:∀d,(s.bh.map cF.av).getD ((j:Int)).toNat d=(s.bh.getD j default).av:=fun d=>by rw[Int.toNat_natCast];exact dh _ _ _ d hjl
    have hle2:=kM fP hjl default
    have hnx2:=fm fP hjl default
    have hpw:=hw.bh _ (gX default hjl)
    have a1:(s.bh.map cF.av).length=s.bh.length:=List.length_map _
    generalize s.bh.getD j default=x at *
    have hxl:(fP x).length=(ct x.eF).length+(ct x.word).length:=by simp only[fP,List.length_append]
    refine cm ?_
    refine aP (eG (hB.skip (by omega) ?_) (by omega) (by rw[List.length_append];omega) hpw.1) ?_
    ·exact fun y hy=>cD
    rintro r H5 n5 ⟨rfl,hn5,hB5,ho5⟩
    have r9:=ho5.row (y:=n+3) (e:=68) (sz:=2) (d:=_) (es:=_) cN (by omega) bo (by decide)
    refine cm ?_
    refine aP (eG (hB5.skip (by omega) ?_) (by omega) (by simp only[List.length_append] at *;omega) hpw.2) ?_
    ·exact fun y hy=>cD
    rintro r H6 n6 ⟨rfl,hn6,hB6,ho6⟩
    refine cm ?_
    exact⟨j+1,by omega,_,_,_,Rt.refl _ _ _,cL,by omega,cN,by rw[hnx2];simp only[fP,←List.append_assoc] at hB6 ⊢;exact hB6.skip (by omega) fun y hy=>cD⟩
   ·obtain rfl:j=s.bh.length:=by omega
    rw[List.take_length] at hB
    have hend:C++s.mem.flatMap ct++[124]++s.bh.flatMap fP=dn s:=by rw[←hCC];simp[dn]
    rw[hend] at hB
    obtain⟨q4,hq4,⟨⟨g1,p1⟩,⟨g2,p2⟩,hne4⟩⟩:=hB
    have a0:(dG (dn s)).length=(dn s).length:=List.length_map _
    have g0:hC (dG (dn s))=some ((dn s).map fun b=>(b.toNat:Int)):=u0 _
    refine cm ?_
    exact⟨by rw[M6];rfl⟩
end Go.Proofs.YtlonbgdonffcbaaGreatDoor
end
section
/- Keys are short; a machine in rows told by value, within a list of what was found; what has been seen, as a map. -/
namespace Go.Proofs.YtlonbgdonffcbaaGreatDoor
open Go Go.cW Go.Proofs
set_option linter.unusedSimpArgs false
set_option linter.unusedVariables false
set_option maxRecDepth 8000
theorem lU {α:Type} (f:α→List UInt8) (k:Nat):∀l:List α,(∀a∈l,(f a).length≤k)→(l.flatMap f).length≤l.length * k
 |[],_=>by simp
 |a::l,h=>by
  have h1:=lU f k l fun b hb=>h b (by simp[hb])
  have h2:=h a (by simp)
  rw[List.flatMap_cons,List.length_append,List.length_cons,Nat.add_mul]
  omega
theorem jK (x:Int):(ct x).length≤16:=by
 have:=ta x
 simp only[ct,List.length_append,List.length_cons,List.length_nil];omega
theorem DD {c:bw} (h:c.buf.length<1000):(dS c).length≤100000:=by
 have h0:=jK c.pc
 have h1:(eX c).length≤1:=by unfold eX;split<;>simp
 have h2:=lU (fun j=>ct (c.dX j)) 16 (List.range 16) fun j _=>jK _
 have h3:=lU storeT 48 c.buf fun x _=>by
  have:=jK x.pc
  have:=jK x.addr
  have:=jK x.word
  simp only[storeT,List.length_append];omega
 rw[List.length_range] at h2
 have e:(dS c).length=(ct c.pc).length+((eX c).length+(((List.range 16).flatMap fun j=>ct (c.dX j)).length+(1+((c.buf.flatMap storeT).length+1)))):=by
  simp only[dS,de,List.length_append,List.length_cons,List.length_nil];omega
 rw[e];omega
theorem eH.MH {s:bj} (h:eH s) (hp:s.bh.length≤1048576):(dn s).length≤140737488340000:=by
 have h1:=lU dS 100000 s.bd fun c hc=>by
  obtain⟨q,hq,rfl⟩:=List.mem_iff_getElem.1 hc
  refine DD ?_
  rw[←qB hq]
  exact h.buf q hq
 have h2:=lU ct 16 s.mem fun w _=>jK w
 have h3:=lU fP 32 s.bh fun p _=>by
  have:=jK p.eF
  have:=jK p.word
  simp only[fP,List.length_append];omega
 have hc:=h.bd
 have hm:=h.mem
 have e:(dn s).length=(s.bd.flatMap dS).length+((s.mem.flatMap ct).length+(1+(s.bh.flatMap fP).length)):=by
  simp only[dn,List.length_append,List.length_cons];omega
 rw[e];omega
theorem oi.look {o:Obj} {s:bj} (h:oi o s) (ok:ch o) (hp:s.bh.length≤1048576):eH s:=h.gC.GC ok (by omega)
theorem EJ {o:Obj} {s:bj} (h:oi o s) (ok:ch o) (hp:s.bh.length≤1048576):Pure Tryz.prog 62 [s.frozen o] (fun r=>r= .sc (.string (rZ (dn s)))):=
 EK o s h.w (h.look ok hp) ((h.look ok hp).MH hp)
def jk (S:List Nat) (H:Hp):Hp:=S.map fun y=>(y,bf H y)
theorem w7 {S:List Nat} {H:Hp} {y:Nat} (h:y∈S):bf (jk S H) y=bf H y:=by
 induction S with
 |nil=>cases h
 |cons x S ih=>
  rw[jk,List.map_cons]
  by_cases e:y=x
  ·subst e;exact cJ _ _ _
  ·rw[bg e]
   exact ih (by simpa[e] using h)
theorem sk {S:List Nat} {H:Hp} {y:Nat} {q:dz} (h:bf (jk S H) y=some q):bf H y=some q:=by
 have:y∈S:=by
  have:=pM h
  simpa[jk] using this
 rw[w7 this] at h;exact h
theorem gB {S:List Nat} {H H2:Hp} {y:Nat} (h:y∉S):bf (oY (jk S H) H2) y=bf H2 y:=iP (by simpa[jk] using h)
theorem fq.rN {o:Obj} {s:bj} {L:Lay} {H:Hp} {nx:Nat} (h:fq o s L H nx) (k:Nat):Go.cW.gY (jk L.ids H) (k+5) (.pt L.m 1 0 0)=s.frozen o:=by
 have h:=h.fF (H':=jk L.ids H) (fun y hy=>w7 hy) (Nat.le_refl _)
 generalize jk L.ids H=G at *
 obtain⟨d1,h1⟩:=h.m
 obtain⟨d2,h2⟩:=h.c
 obtain⟨d3,h3⟩:=h.mem
 obtain⟨d4,h4⟩:=h.pr
 have hcores:(rows s L).map (Go.cW.gY G (k+2))=s.bd.map bw.frozen:=by
  apply List.ext_getElem
  ·simp[rows,h.lens]
  ·intro i p1 p2
   have hi:i<s.bd.length:=by simpa using p2
   have hib:i<L.cY.length:=by rw[h.lens];exact hi
   obtain⟨d5,h5⟩:=h.cY i hi
   have e1:L.cY.getD i 0=L.cY[i]:=by simp[List.getD,hib]
   have e2:s.bd.getD i default=s.bd[i]:=by simp[List.getD,hi]
   rw[e1,e2] at h5
   simp only[List.getElem_map,rows,List.getElem_zipWith,bw.av]
   rw[qQ]
   unfold bw.frozen
   congr 1
   simp only[bw.cells,List.map_cons,List.map_nil]
   rw[pO h5 (by simp),gZ _ (show cG 0 (s.bd[i].buf.map cr.av) by simp[cE,cC,cG])]
   repeat rw[fZ (k+1) (by simp[cC])]
 rw[show Go.cW.gY G (k+5) (.pt L.m 1 0 0)= .ip 8 .any ([kG o s L].map (Go.cW.gY G (k+4))) 0 0 from IX h1 rfl]
 simp only[List.map_cons,List.map_nil,kG]
 rw[qQ]
 simp only[List.map_cons,List.map_nil]
 rw[pO h2 (dH h),pO h3 (by simp),pO h4 (by simp),hcores]
 rw[gZ _ (show cG 0 (s.mem.map i64) by simp[cE,cC]),gZ _ (show cG 0 (s.bh.map cF.av) by simp[cE,cC,cG]),fZ _ (show cC 0 (.im 2 .any (o.bd.map Core.av)) by simp[cE,cC,cG]),fZ _ (show cC 0 (.sc (.slice none 0 0)) by simp[cC]),fZ _ (show cC 0 (i64 o.shared) by simp[cC]),fZ _ (show cC 0 (i64 o.iA) by simp[cC]),fZ _ (show cC 0 (i64 o.buffer) by simp[cC])]
 rfl
def mX:List cQ→AV
 |[]=> .sc (.slice none 0 0)
 |x::l=>jB (x::l)
theorem DR (n:Nat):∀l,cC n (mX l)
 |[]=>by simp[mX,cC]
 |x::l=>by simp[mX,cC,cG,cE]
theorem C4 {l:List cQ} (h:l≠[]):mX l=jB l:=by
 cases l with
 |nil=>exact absurd rfl h
 |cons x l=>rfl
def bu.cells (o:Obj) (f:bu):List AV:=[f.m.frozen o,i64 f.from_,mX f.C5]
abbrev bu.av (o:Obj) (f:bu):AV:= .agg (f.cells o)
abbrev gv (o:Obj) (l:List bu):AV:= .im 3 .any (l.map (bu.av o))
theorem iW (o:Obj) (l:List bu):cG 0 (l.map (bu.av o)):=(cE _ _).2 fun f _=>by
 have h1:=iX o f.m
 have h2:=DR 0 f.C5
 simp[bu.av,bu.cells,cC,cG,h1,h2]
theorem sP {o:Obj} {s:bj} {L:Lay} {H:Hp} {n lb nx:Nat} {d:AV} {l:List bu} {fr:Int} {mv:List cQ} {a:AV} (hM:fq o s L H n) (ha:Go.cW.gY (jk L.ids H) 5 a=mX mv) (hl:bf H lb=some (.row 85 3 d (l.map (bu.av o)++[.agg [.pt L.m 1 0 0,i64 fr,a]]))) (hlb:lb∉L.ids):
 Wk .any H nx .any (oY (jk L.ids H) ((lb,some (.row 85 3 .any ((l++[(⟨s,fr,mv⟩:bu)]).map (bu.av o))))::H)) nx:=by
 have:=Wk.gY (nx:=nx) (jk L.ids H) 6 .any hl (fun b q hq=>sk hq)
 rw[List.map_append,gZ _ (iW o l),List.map_cons,List.map_nil,qQ,List.map_cons,List.map_cons,List.map_cons,List.map_nil,hM.rN 0,fZ _ (show cC 0 (i64 fr) by simp[cC]),ha] at this
 rw[List.map_append]
 exact this
theorem KC {a b:List UInt8} (h:rZ a=rZ b):a=b:=by
 have:=congrArg (fun x:ByteArray=>x.data.toList) h
 simpa[rZ] using this
abbrev ic (l:List bu):List (ByteArray×Int):=l.map fun f=>(rZ (dn f.m),1)
abbrev lA (l:List bu):List AV:=qc (fun s:ByteArray=>Value.string s) i64 (ic l)
theorem qY (l:List bu) (k:List UInt8):ij (ic l) (rZ k)=if k∈dU l then some 1 else none:=by
 split
 ·rename_i h
  cases hl:ij (ic l) (rZ k) with
  |none=>
   exfalso
   refine(nz _ _).1 hl ?_
   rw[List.map_map]
   obtain⟨f,h1,h2⟩:=List.mem_map.1 h
   exact List.mem_map.2 ⟨f,h1,by simp only[Function.comp];rw[h2]⟩
  |some v=>
   have hv:∀(l:List bu),ij (ic l) (rZ k)=some v→v=1:=by
    intro l
    induction l with
    |nil=>intro h;cases h
    |cons f l ih=>
     intro h
     rw[ic,List.map_cons,ij] at h
     split at h
     ·cases h;rfl
     ·exact ih h
   rw[hv l hl]
 ·rename_i h
  refine(nz _ _).2 fun hm=>h ?_
  rw[List.map_map] at hm
  obtain⟨f,h1,h2⟩:=List.mem_map.1 hm
  simp only[Function.comp] at h2
  exact List.mem_map.2 ⟨f,h1,KC h2⟩
theorem AZ {l:List bu} {m:bj} {a:Int} {b:List cQ} (h:dn m∉dU l):wN (ic l) (rZ (dn m)) 1=ic (l++[⟨m,a,b⟩]):=by
 have key:∀E:List (ByteArray×Int),ij E (rZ (dn m))=none→wN E (rZ (dn m)) 1=E++[(rZ (dn m),1)]:=by
  intro E
  induction E with
  |nil=>intro _;rfl
  |cons p E ih=>
   intro hn
   obtain⟨x,y⟩:=p
   rw[ij] at hn
   rw[wN]
   split at hn
   ·cases hn
   ·rename_i hx
    rw[if_neg hx,ih hn];rfl
 rw[key _ (by rw[qY,if_neg h]),ic,ic,List.map_append];rfl
end Go.Proofs.YtlonbgdonffcbaaGreatDoor
end
