import Derived.Test.YtlonbgdonffcbaaGreatDoorM26
import Derived.Test.YtlonbgdonffcbaaGreatDoorM32
import Derived.Test.YtlonbgdonffcbaaGreatDoorM29
import Derived.Test.YtlonbgdonffcbaaGreatDoorM34
import Derived.Test.YtlonbgdonffcbaaGreatDoorM35
section
/- A number in base 36 put behind bytes: the library's walk. -/
namespace Go.Proofs.YtlonbgdonffcbaaGreatDoor
open Go Go.cW Go.Proofs
set_option linter.unusedSimpArgs false
set_option linter.unusedVariables false
abbrev rT (l:List UInt8):ByteArray:=⟨l.toArray⟩
abbrev dF (l:List UInt8):List AV:=l.map fun b=> .sc (.int .u8 (b.toNat:Int))
abbrev u64 (n:Nat):AV:= .sc (.int .u64 (n:Int))
theorem BD:Pure Tryz.prog 146 [i64 36] (fun r=>r=bl false):=fi (by simp[cC]) (by kernel_rfl)
def j4 (l:List UInt8):List AV:=List.replicate (65 - l.length) (.sc (.int .u8 0))++dF l
theorem z8 {l:List UInt8} (h:l.length≤65):(j4 l).length=65:=by simp[j4];omega
theorem rX {l:List UInt8} (h:l.length≤64) (d:UInt8):(j4 l).set (64 - l.length) (.sc (.int .u8 (d.toNat:Int)))=j4 (d::l):=by
 have h1:65 - l.length=(64 - l.length)+1:=by omega
 have h2:65 - (d::l).length=64 - l.length:=by simp
 unfold j4
 rw[h1,h2,List.replicate_succ',List.append_assoc,List.set_append_right _ _ (by simp)]
 simp
theorem wc {l:List UInt8} (h:l.length≤65):(j4 l).drop (65 - l.length)=dF l:=by
 unfold j4
 rw[List.drop_append,List.length_replicate,Nat.sub_self,List.drop_zero,List.drop_of_length_le (by simp),List.nil_append]
theorem wrap_u64 {n:Int} (h0:0≤n) (h1:n<18446744073709551616):IntKind.u64.wrap n=n:=by simp[IntKind.wrap,IntKind.bits,IntKind.signed];omega
def zi:ByteArray:=⟨#[48,49,50,51,52,53,54,55,56,57,97,98,99,100,101,102,103,104,105,106,107,108,109,110,111,112,113,114,115,116,117,118,119,120,121,122]⟩
theorem yZ {n:Nat} (h:n<36):zi.data.toList.getD n 0=d36 n:=by
 have:∀n:Fin 36,zi.data.toList.getD n.val 0=d36 n.val:=by decide
 exact this ⟨n,h⟩
set_option maxHeartbeats 4000000 in
theorem ze {q:Nat} {es:List AV} {d:AV} {H:Hp} {nx u:Nat} (hq:q<nx) (hr:bd H q=some (.row 5 1 d es)) (hes:es.length≤140737488355000) (hu:u≤9223372036854775808):
 bw Tryz.prog 142 [.sl q es.length,u64 u,i64 36,bl false,bl true] H nx (fun r H' n=>r= .dD [.sl q (es.length+(dq 13 u []).length), .sc (.string ⟨#[]⟩)]∧nx≤n∧(∃d,bd H' q=some (.row 5 1 d (es++dF (dq 13 u []))))∧∀y,y<nx→y≠q→bd H' y=bd H y):=by
 have c0:=BD
 refine aO vh rfl ?_
 refine ca ?_
 have hw36:IntKind.u64.wrap 36=36:=by decide
 rw[hw36]
 refine aT (fun σ:Nat×List UInt8=>[(0, .sl q es.length),(1,u64 σ.1),(3,bl false),(4,bl true),(11, .sc (.string ⟨#[]⟩)),(12, .pt (nx+12) 65 0 0),(13,i64 ((65 - σ.2.length:Nat):Int)),(17, .sc (.int .u64 36))])
  (fun σ H' n=>nx+13≤n∧(∃f,f+σ.2.length=13∧dq 13 u []=dq f σ.1 σ.2∧σ.1<36^(f+1))∧σ.1≤u∧(∃d,bd H' (nx+12)=some (.row 208 1 d (j4 σ.2)))∧(∃d,bd H' q=some (.row 5 1 d es))∧∀y,y<nx→y≠q→bd H' y=bd H y) (fun σ=>σ.1) (u,[]) cH
  ⟨cO,⟨13,rfl,rfl,vr hu⟩,Nat.le_refl _,⟨_,bo⟩,⟨_,bo⟩,fun y h1 h2=>cE⟩ ?_
 clear hr
 rintro⟨n,l⟩ H2 nx2 ⟨hn,⟨f,hf,hd,hnf⟩,hnu,⟨d1,r1'⟩,⟨d2,r2'⟩,hk⟩
 dsimp only at hf hd hnf hnu r1' ⊢
 have hll:l.length≤13:=by omega
 have a0:=z8 (l:=l) (by omega)
 have r3:∀d,(j4 l).getD ((((65 - l.length:Nat):Int) - 1).toNat) d= .sc (.int .u8 0):=fun d=>by
  rw[show(((65 - l.length:Nat):Int) - 1).toNat=64 - l.length by omega]
  unfold j4
  rw[List.getD,List.getElem?_append_left (by simp;omega),List.getElem?_replicate,if_pos (by omega)]
  rfl
 have hidx:(((65 - l.length:Nat):Int) - 1).toNat=64 - l.length:=by omega
 by_cases h36:n<36
 ·have a1:(0:Int)≤(n:Int)∧(n:Int)<((zi.size:Nat):Int):=⟨by omega,by show(n:Int)<36;omega⟩
  have hdn:dq f n l=d36 n::l:=by
   cases f with
   |zero=>rfl
   |succ f=>rw[dq,if_pos h36]
  have key:List.take (65 - (((65 - l.length:Nat):Int) - 1).toNat) (List.drop (((65 - l.length:Nat):Int) - 1).toNat ((j4 l).set (((65 - l.length:Nat):Int) - 1).toNat (.sc (.int .u8 ((zi.data.toList.getD n 0).toNat:Int)))))=dF (d36 n::l):=by
   rw[hidx,yZ h36,rX (by omega)]
   have:=wc (l:=d36 n::l) (by simp;omega)
   rw[show 65 - (d36 n::l).length=64 - l.length by simp] at this
   rw[this,List.take_of_length_le (by simp;omega)]
  refine ca ?_
  refine⟨⟨?_,cO,⟨d2, ?_⟩,fun y h1 h2=>Eq.trans cE (hk y h1 h2)⟩⟩
  ·rw[hd,hdn,show(d36 n::l).length=(dF (d36 n::l)).length from(List.length_map _).symm,←key];rfl
  ·rw[hd,hdn,←key]
   exact bo
 ·have hq:IntKind.u64.wrap ((n:Int).tdiv 36)=((n /36:Nat):Int):=by
   rw[Int.tdiv_eq_ediv_of_nonneg (by omega),show(n:Int) /36=((n /36:Nat):Int) by omega]
   exact wrap_u64 (by omega) (by omega)
  have hm:IntKind.u64.wrap (((n /36:Nat):Int) * 36)=((n /36 * 36:Nat):Int):=by
   rw[show((n /36:Nat):Int) * 36=((n /36 * 36:Nat):Int) by omega]
   exact wrap_u64 (by omega) (by omega)
  have hs:IntKind.u64.wrap ((n:Int) - ((n /36 * 36:Nat):Int))=((n%36:Nat):Int):=by
   rw[show(n:Int) - ((n /36 * 36:Nat):Int)=((n%36:Nat):Int) by omega]
   exact wrap_u64 (by omega) (by omega)
  have r0:=hq
  have r1:=hm
  have r2:=hs
  have a1:(0:Int)≤((n%36:Nat):Int)∧((n%36:Nat):Int)<((zi.size:Nat):Int):=⟨by omega,by show((n%36:Nat):Int)<36;omega⟩
  have h36':n%36<36:=Nat.mod_lt _ (by omega)
  have key:(j4 l).set (((65 - l.length:Nat):Int) - 1).toNat (.sc (.int .u8 ((zi.data.toList.getD (n%36) 0).toNat:Int)))=j4 (d36 (n%36)::l):=by
   rw[hidx,yZ h36',rX (by omega)]
  obtain⟨f,rfl⟩:∃g,f=g+1:=⟨f - 1,by
   rcases Nat.eq_zero_or_pos f with e|e
   ·subst e;simp at hnf;omega
   ·omega⟩
  refine ca ?_
  refine⟨(n /36,d36 (n%36)::l),by dsimp only;omega, ?_,cO,⟨f,by simp;omega,by rw[hd,dq,if_neg h36],by dsimp only;rw[Nat.div_lt_iff_lt_mul (by omega)];rw[Nat.pow_succ] at hnf;exact hnf⟩,by dsimp only;omega,⟨d1,by dsimp only;rw[←key];exact bo⟩,⟨d2,bo⟩,fun y h1 h2=>Eq.trans cE (hk y h1 h2)⟩
  have:((65 - l.length:Nat):Int) - 1=((65 - (d36 (n%36)::l).length:Nat):Int):=by simp;omega
  rw[this]
  exact cH
theorem s9 {q:Nat} {es:List AV} {d:AV} {H:Hp} {nx u:Nat} (hq:q<nx) (hr:bd H q=some (.row 5 1 d es)) (hes:es.length≤140737488355000) (hu:u≤9223372036854775808):
 bw Tryz.prog 119 [.sl q es.length,u64 u,i64 36] H nx (fun r H' n=>r= .sl q (es.length+(dq 13 u []).length)∧nx≤n∧(∃d,bd H' q=some (.row 5 1 d (es++dF (dq 13 u []))))∧∀y,y<nx→y≠q→bd H' y=bd H y):=by
 refine aO vO rfl ?_
 refine ca ?_
 refine aP (ze (q:=q) (es:=es) (d:=d) (by omega) ?_ hes hu) ?_
 ·exact bo
 rintro r H2 n2 ⟨rfl,hn,⟨d2,r2⟩,hk⟩
 refine ca ?_
 exact⟨⟨rfl,cO,⟨d2,bo⟩,fun y h1 h2=>Eq.trans cE ((hk y cO h2).trans cE)⟩⟩
set_option maxHeartbeats 1000000 in
theorem D8 {q:Nat} {es:List AV} {d:AV} {H:Hp} {nx:Nat} {x:Int} (hq:q<nx) (hr:bd H q=some (.row 5 1 d es)) (hes:es.length≤140737488354000) (hx:cy x):
 bw Tryz.prog 111 [.sl q es.length,i64 x,i64 36] H nx (fun r H' n=>r= .sl q (es.length+(eS x).length)∧nx≤n∧(∃d,bd H' q=some (.row 5 1 d (es++dF (eS x))))∧∀y,y<nx→y≠q→bd H' y=bd H y):=by
 obtain⟨x1,x2⟩:=hx
 refine aO vM rfl ?_
 by_cases h0:x<0
 ·have r0:IntKind.u64.wrap x=x+18446744073709551616:=by simp[IntKind.wrap,IntKind.bits,IntKind.signed];omega
  have r1:IntKind.u64.wrap (0 - (x+18446744073709551616))=((x.natAbs:Nat):Int):=by simp[IntKind.wrap,IntKind.bits,IntKind.signed];omega
  have e:eS x=45::dq 13 x.natAbs []:=by unfold eS;rw[if_pos h0]
  refine ca ?_
  have hl:(es++[AV.sc (Value.int IntKind.u8 45)]).length=es.length+1:=by simp
  have hc:=fun(H:Hp) (nx:Nat) (h1:q<nx) h2=>s9 (H:=H) (nx:=nx) (q:=q) (es:=es++[.sc (.int .u8 45)]) (d:=d) h1 h2 (by rw[hl];omega) (show x.natAbs≤9223372036854775808 by omega)
  rw[hl] at hc
  refine aP (hc _ _ (by omega) ?_) ?_
  ·exact bo
  rintro r H2 n2 ⟨rfl,hn,⟨d2,r2⟩,hk⟩
  refine ca ?_
  refine⟨⟨by rw[e,List.length_cons,Nat.add_assoc,Nat.add_comm 1],cO,⟨d2, ?_⟩,fun y h1 h2=>Eq.trans cE ((hk y cO h2).trans cE)⟩⟩
  rw[List.append_assoc] at r2
  rw[e,show dF (45::dq 13 x.natAbs [])=[.sc (.int .u8 45)]++dF (dq 13 x.natAbs []) from rfl]
  exact bo
 ·have r0:IntKind.u64.wrap x=((x.toNat:Nat):Int):=by simp[IntKind.wrap,IntKind.bits,IntKind.signed];omega
  have e:eS x=dq 13 x.toNat []:=by unfold eS;rw[if_neg h0]
  refine ca ?_
  refine aP (s9 (q:=q) (es:=es) (d:=d) (by omega) ?_ (by omega) (by omega)) ?_
  ·exact bo
  rintro r H2 n2 ⟨rfl,hn,⟨d2,r2⟩,hk⟩
  refine ca ?_
  rw[e]
  exact⟨⟨rfl,cO,⟨d2,bo⟩,fun y h1 h2=>Eq.trans cE ((hk y cO h2).trans cE)⟩⟩
theorem BO {q:Nat} {es:List AV} {d:AV} {H:Hp} {nx:Nat} {x:Int} (hq:q<nx) (hr:bd H q=some (.row 5 1 d es)) (hes:es.length≤140737488354000) (hx:cy x):
 bw Tryz.prog 89 [.sl q es.length,i64 x,i64 36] H nx (fun r H' n=>r= .sl q (es.length+(eS x).length)∧nx≤n∧(∃d,bd H' q=some (.row 5 1 d (es++dF (eS x))))∧∀y,y<nx→y≠q→bd H' y=bd H y):=by
 refine aO F2 rfl ?_
 refine ca ?_
 refine aP (D8 (q:=q) (es:=es) (d:=d) (by omega) ?_ hes hx) ?_
 ·exact bo
 rintro r H2 n2 ⟨rfl,hn,⟨d2,r2⟩,hk⟩
 refine ca ?_
 exact⟨⟨rfl,cO,⟨d2,bo⟩,fun y h1 h2=>Eq.trans cE ((hk y cO h2).trans cE)⟩⟩
structure Kb (b q:Nat) (l:List UInt8) (H:Hp):Prop where
 rb:∃d,bd H b=some (.row 148 1 d [.sl q l.length])
 rq:∃d,bd H q=some (.row 5 1 d (dF l))
 ne:b≠q
theorem Kb.cL {b q:Nat} {l:List UInt8} {H H2:Hp} (h:Kb b q l H) (hb:bd H2 b=bd H b) (hq:bd H2 q=bd H q):Kb b q l H2:=by
 obtain⟨⟨d1,h1⟩,⟨d2,h2⟩,h3⟩:=h
 exact⟨⟨d1,hb.trans h1⟩,⟨d2,hq.trans h2⟩,h3⟩
theorem GI {b q:Nat} {l:List UInt8} {H:Hp} {nx:Nat} {x:Int} (h:Kb b q l H) (hb:b<nx) (hq:q<nx) (hl:l.length≤140737488353000) (hx:cy x):
 bw Tryz.prog 88 [i64 x, .pt b 1 0 0] H nx (fun r H' n=>r= .dD []∧nx≤n∧Kb b q (l++ct x) H'∧∀y,y<nx→y≠b→y≠q→bd H' y=bd H y):=by
 obtain⟨⟨d1,h1⟩,⟨d2,h2⟩,h3⟩:=h
 have hn:=tT x
 refine aO F1 rfl ?_
 refine ca ?_
 have hbl:(dF l).length=l.length:=List.length_map _
 rw[←hbl]
 refine aP (BO (q:=q) (es:=dF l) (d:=d2) (by omega) ?_ (by rw[hbl];omega) hx) ?_
 ·exact bo
 rintro r H2 n2 ⟨rfl,hn2,⟨d3,r3⟩,hk⟩
 have h1':=(hk b cO h3).trans ((cE:_=bd H b).trans h1)
 have a0:((dF l)++dF (eS x)).length=(dF l).length+(eS x).length:=by simp
 refine ca ?_
 refine⟨⟨rfl,cO,⟨⟨d1, ?_⟩,⟨d3, ?_⟩,h3⟩,fun y h5 h6 h7=>Eq.trans cE ((hk y cO h7).trans cE)⟩⟩
 ·have:(l++ct x).length=(dF l).length+(eS x).length+1:=by simp[ct];omega
  rw[this]
  exact bo
 ·have:dF (l++ct x)=dF l++dF (eS x)++[.sc (.int .u8 32)]:=by simp[ct]
  rw[this]
  exact bo
end Go.Proofs.YtlonbgdonffcbaaGreatDoor
end
section
/- The key of a situation: the walk. -/
namespace Go.Proofs.YtlonbgdonffcbaaGreatDoor
open Go Go.cW Go.Proofs
set_option linter.unusedSimpArgs false
set_option linter.unusedVariables false
set_option maxRecDepth 8000
theorem JR {α:Type} (f:α→List UInt8) (l:List α) (j:Nat):((l.take j).flatMap f).length≤(l.flatMap f).length:=by
 conv=>rhs;rw[←List.take_append_drop j l,List.flatMap_append,List.length_append]
 omega
theorem fj {α:Type} (f:α→List UInt8) {l:List α} {j:Nat} (h:j<l.length) (d:α):(l.take (j+1)).flatMap f=(l.take j).flatMap f++f (l.getD j d):=by
 rw[List.take_succ_eq_append_getElem h,List.flatMap_append]
 simp[List.getD,List.getElem?_eq_getElem h]
theorem kC {α:Type} (f:α→List UInt8) {l:List α} {j:Nat} (h:j<l.length) (d:α):((l.take j).flatMap f).length+(f (l.getD j d)).length≤(l.flatMap f).length:=by
 have:=JR f l (j+1)
 rw[fj f h d,List.length_append] at this
 exact this
theorem NM {te e:TypeId} {sz b nx:Nat} {H:Hp} {d:AV} (hb:b<nx) (hsz:0<sz) (h:bd H b=some (.row te 1 d [.sc (.slice none 0 0)])):∃H2,Wk .any H nx .any H2 (nx+1)∧bd H2 b=some (.row te 1 .any [.sl nx 0])∧bd H2 nx=some (.row e sz .any [])∧∀y,y<nx→y≠b→bd H2 y=bd H y:=by
 refine⟨kd te e sz b 1 nx H,Wk.born hb hsz h, ?_, ?_,fun y y1 y2=>CS y1 y2⟩
 ·rw[kd,cK,s5];rfl
 ·rw[kd,bh (by omega),fg,if_pos (by omega)]
theorem wg {te:TypeId} (e:TypeId) (sz:Nat) {b nx:Nat} {H:Hp} {d:AV} {fr:Fr} {P:Fr→Hp→Nat→Prop} (hb:b<nx) (hsz:0<sz) (h:bd H b=some (.row te 1 d [.sc (.slice none 0 0)]))
 (k:∀H2,bd H2 b=some (.row te 1 .any [.sl nx 0])→bd H2 nx=some (.row e sz .any [])→(∀y,y<nx→y≠b→bd H2 y=bd H y)→P fr H2 (nx+1)):∃fr2 H2 nx2,Rt fr H nx fr2 H2 nx2∧P fr2 H2 nx2:=by
 obtain⟨H2,hw,q1,q2,q3⟩:=NM (e:=e) (sz:=sz) hb hsz h
 exact⟨fr,H2,nx+1,Rt.wk hw,k H2 q1 q2 q3⟩
def qv (b:Nat) (l:List UInt8) (H:Hp) (n:Nat):Prop:=∃q,q<n∧Kb b q l H
theorem qv.skip {b n n2:Nat} {l:List UInt8} {H H2:Hp} (h:qv b l H n) (hn:n≤n2) (hk:∀y,y<n→bd H2 y=bd H y) (hb:b<n:=by omega):qv b l H2 n2:=by
 obtain⟨q,hq,h⟩:=h
 exact⟨q,by omega,h.cL (hk b hb) (hk q hq)⟩
theorem qv.app {b q n:Nat} {l:List UInt8} {x:UInt8} {H:Hp} {d1 d2:AV} (h1:bd H b=some (.row 148 1 d1 [.sl q (l.length+1)])) (h2:bd H q=some (.row 5 1 d2 (dF l++[.sc (.int .u8 (x.toNat:Int))]))) (h3:b≠q) (hq:q<n):qv b (l++[x]) H n:=
 ⟨q,hq,⟨d1,by rw[List.length_append];exact h1⟩,⟨d2,by rw[show dF (l++[x])=dF l++[.sc (.int .u8 (x.toNat:Int))] by simp];exact h2⟩,h3⟩
theorem uQ:∀l:List UInt8,gp (dF l)=some (l.map fun b=>(b.toNat:Int))
 |[]=>rfl
 |b::l=>by
  have:=uQ l
  simp only[List.map_cons,gp] at this ⊢
  rw[this];rfl
theorem MP (l:List UInt8):BV (l.map fun b=>(b.toNat:Int))=rT l:=by
 have:∀(l:List UInt8) (r:ByteArray),(l.map fun b=>(b.toNat:Int)).foldl (fun r n=>r.push (UInt8.ofNat n.toNat)) r=⟨r.data++l.toArray⟩:=by
  intro l
  induction l with
  |nil=>intro r;simp
  |cons b l ih=>
   intro r
   rw[List.map_cons,List.foldl_cons,ih]
   congr 1
   show(r.push _).data++_=_
   rw[ByteArray.push]
   simp
 have:=this l ByteArray.empty
 unfold BV
 rw[this]
 simp[ByteArray.empty,ByteArray.emptyWithCapacity]
 rfl
def OW (b n:Nat) (H H2:Hp):Prop:=∀y,y<n→y≠b→(∀d es,bd H y≠some (.row 5 1 d es))→bd H2 y=bd H y
theorem OW.row {b n y:Nat} {H H2:Hp} {e:TypeId} {sz:Nat} {d:AV} {es:List AV} (h:OW b n H H2) (hy:y<n) (hb:y≠b) (hr:bd H y=some (.row e sz d es)) (he:sz≠1):bd H2 y=some (.row e sz d es):=by
 rw[h y hy hb fun d2 es2 hh=> ?_]
 ·exact hr
 ·rw[hr] at hh;cases hh;exact he rfl
theorem eI {b:Nat} {l:List UInt8} {H:Hp} {nx:Nat} {x:Int} (h:qv b l H nx) (hb:b<nx) (hl:l.length≤140737488353000) (hx:cy x):
 bw Tryz.prog 88 [i64 x, .pt b 1 0 0] H nx (fun r H' n=>r= .dD []∧nx≤n∧qv b (l++ct x) H' n∧OW b nx H H'):=by
 obtain⟨q,hq,h⟩:=h
 refine(GI h hb hq hl hx).mono ?_
 rintro r H2 n ⟨h1,h2,h3,h4⟩
 refine⟨h1,h2,⟨q,by omega,h3⟩,fun y y1 y2 y3=>h4 y y1 y2 fun e=> ?_⟩
 subst e
 obtain⟨d,hd⟩:=h.rq
 exact y3 _ _ hd
set_option maxHeartbeats 4000000 in
theorem EB (o:Obj) (s:bk) (hw:MW s) (hlk:eB s) (hsz:(dx s).length≤140737488340000):Pure Tryz.prog 62 [s.frozen o] (fun r=>r= .sc (.string (rT (dx s)))):=by
 have c0:=pq o s
 have c1:=nt o s hlk.mem
 have c2:=je o s hlk.bg
 simp only[bk.frozen] at c0 c1 c2 ⊢
 refine cr ?_ (by simp[cC])
 refine aO FE rfl ?_
 refine ca ?_
 refine aR (fun i:Nat=>[(0,s.frozen o),(3, .pt 1 1 0 0),(4, .fn (.func 88) [] [.pt 1 1 0 0]),(18,i64 s.bf.length),(19,i64 i)])
  (fun i H n=>i≤s.bf.length∧2≤n∧qv 1 ((s.bf.take i).flatMap dS) H n) (fun i=>s.bf.length - i) 0
  (wg 5 1 (b:=1) (d:=gE false [.slice none 0 0]) (by omega) (by omega) bo fun H2 q1 q2 q3=>⟨cH,Nat.zero_le _,by omega,_,by omega,⟨_,q1⟩,⟨_,q2⟩,by omega⟩) ?_
 rintro i H n ⟨hi,hn,hB⟩
 simp only[bk.frozen]
 have hkl:(dx s).length=(s.bf.flatMap dS).length+((s.mem.flatMap ct).length+(1+(s.bg.flatMap fN).length)):=by simp only[dx,List.length_append,List.length_cons];omega
 have hc8:=hlk.bf
 by_cases hil:i<s.bf.length
 ·have hle:=kC dS hil default
  have hnx:=fj dS hil default
  have hc:=hw.core _ (pD hil)
  have c3:=J0 o s i hil (hlk.buf i hil)
  simp only[bk.frozen] at c3
  have hce:s.bf.getD i default=s.core i:=rfl
  rw[hce] at hle hnx
  have hbl:=hlk.buf i hil
  generalize s.core i=c at *
  have hcl:(dS c).length=(ct c.pc).length+((eY c).length+((de c).length+(1+((c.buf.flatMap storeT).length+1)))):=by simp only[dS,List.length_append,List.length_cons,List.length_nil];omega
  refine ca ?_
  refine aP (eI (hB.skip (by omega) ?_) (by omega) (by omega) hc.pc) ?_
  ·exact fun y hy=>cE
  rintro r H2 n2 ⟨rfl,hn2,hB2,ho2⟩
  have r8:=ho2.row (y:=n+8) (e:=152) (sz:=19) (d:=_) (es:=[c.frozen]) cO (by omega) bo (by decide)
  have hBl:((s.bf.take i).flatMap dS++ct c.pc++eY c).length=((s.bf.take i).flatMap dS).length+(ct c.pc).length+(eY c).length:=by simp only[List.length_append]
  have hBe:(s.bf.take i).flatMap dS++dS c=((s.bf.take i).flatMap dS++ct c.pc++eY c)++(de c++(47::(c.buf.flatMap storeT++[124]))):=by simp[dS]
  have hAl:((s.bf.take i).flatMap dS++ct c.pc).length=((s.bf.take i).flatMap dS).length+(ct c.pc).length:=List.length_append
  by_cases hh:c.halted=true
  ·have hht:eY c=[104]:=by unfold eY;rw[if_pos hh]
   obtain⟨q3,hq3,⟨⟨g1,p1⟩,⟨g2,p2⟩,hne3⟩⟩:=hB2
   have a0:(dF ((s.bf.take i).flatMap dS++ct c.pc)).length=((s.bf.take i).flatMap dS++ct c.pc).length:=List.length_map _
   have hq8:q3≠n+8:=fun e=>by rw[e,r8] at p2;cases p2
   generalize hBB:(s.bf.take i).flatMap dS++ct c.pc++eY c=B at *
   have hBa:B=((s.bf.take i).flatMap dS++ct c.pc)++[104]:=by rw[←hBB,hht]
   refine ca ?_
   refine aR (fun j:Nat=>[(0,s.frozen o),(3, .pt 1 1 0 0),(4, .fn (.func 88) [] [.pt 1 1 0 0]),(18,i64 s.bf.length),(19,i64 i),(5,i64 i),(6, .pt (n+8) 1 0 0),(38, .agg ((List.range 16).map fun j=>i64 (c.dg j))),(39,i64 j)])
    (fun j H' n'=>j≤16∧n+9≤n'∧qv 1 (B++((List.range 16).take j).flatMap (fun j=>ct (c.dg j))) H' n'∧∃d,bd H' (n+8)=some (.row 152 19 d [c.frozen])) (fun j=>16 - j) 0
    ⟨_,_,_,Rt.refl _ _ _,cH,Nat.zero_le _,cO,(by rw[show(List.range 16).take 0=[] from rfl,List.flatMap_nil,List.append_nil,hBa];exact qv.app (q:=q3) bo bo hne3 cO),⟨_,bo⟩⟩ ?_
   clear p1 p2 r8 a0
   rintro j H4 n4 ⟨hj,hn4,hB4,⟨d8,r8⟩⟩
   simp only[bk.frozen]
   by_cases hjl:j<16
   ·have e0:∀d,((List.range 16).map fun j=>i64 (c.dg j)).getD ((j:Int)).toNat d=i64 (c.dg j):=fun d=>by
     rw[Int.toNat_natCast,List.getD,List.getElem?_map,List.getElem?_range hjl];rfl
    have e1:∀d,((List.range 16).map fun j=>i64 (c.dg j)).getD (((j:Int)).toNat * 1) d=i64 (c.dg j):=fun d=>by rw[Nat.mul_one];exact e0 d
    have hle2:=kC (fun j=>ct (c.dg j)) (l:=List.range 16) (j:=j) (by simpa using hjl) 0
    have hnx2:=fj (fun j=>ct (c.dg j)) (l:=List.range 16) (j:=j) (by simpa using hjl) 0
    have hrg:(List.range 16).getD j 0=j:=by simp[List.getD,hjl]
    rw[hrg] at hle2 hnx2
    have hrl:((List.range 16).flatMap fun j=>ct (c.dg j)).length=(de c).length:=rfl
    refine ca ?_
    refine aP (eI (hB4.skip (by omega) ?_) (by omega) (by rw[List.length_append];omega) (hc.dg j hjl)) ?_
    ·exact fun y hy=>cE
    rintro r H5 n5 ⟨rfl,hn5,hB5,ho5⟩
    have r8':=ho5.row (y:=n+8) cO (by omega) bo (by decide)
    refine ca ?_
    exact⟨j+1,by omega,_,_,_,Rt.refl _ _ _,cH,by omega,cO,by rw[hnx2,←List.append_assoc];exact hB5.skip (by omega) fun y hy=>cE,⟨_,bo⟩⟩
   ·obtain rfl:j=16:=by omega
    rw[show(List.range 16).take 16=List.range 16 from rfl] at hB4
    change qv 1 (B++de c) H4 n4 at hB4
    obtain⟨q4,hq4,⟨⟨g1,p1⟩,⟨g2,p2⟩,hne4⟩⟩:=hB4
    have hq8:q4≠n+8:=fun e=>by rw[e,r8] at p2;cases p2
    have a0:(dF (B++de c)).length=(B++de c).length:=List.length_map _
    have hBr:(B++de c).length=B.length+(de c).length:=List.length_append
    refine ca ?_
    simp only[List.length_map]
    refine aR (fun j:Nat=>[(0,s.frozen o),(3, .pt 1 1 0 0),(4, .fn (.func 88) [] [.pt 1 1 0 0]),(18,i64 s.bf.length),(19,i64 i),(5,i64 i),(50, .im 3 .any (c.buf.map dC.av)),(51,i64 c.buf.length),(52,i64 j)])
     (fun j H' n'=>j≤c.buf.length∧n+9≤n'∧qv 1 (B++de c++[47]++(c.buf.take j).flatMap storeT) H' n') (fun j=>c.buf.length - j) 0
     ⟨_,_,_,Rt.refl _ _ _,cH,Nat.zero_le _,cO,(by rw[List.take_zero,List.flatMap_nil,List.append_nil];exact qv.app (q:=q4) bo bo hne4 cO)⟩ ?_
    clear p1 p2 r8 hBr
    rintro j H4 n4 ⟨hj,hn4,hB4⟩
    simp only[bk.frozen]
    have hBr:(B++de c++[47]).length=B.length+(de c).length+1:=by simp only[List.length_append,List.length_cons,List.length_nil]
    by_cases hjl:j<c.buf.length
    ·have e0:∀d,(c.buf.map dC.av).getD ((j:Int)).toNat d=(c.buf.getD j default).av:=fun d=>by rw[Int.toNat_natCast];exact dY _ _ _ d hjl
     have hle2:=kC storeT hjl default
     have hnx2:=fj storeT hjl default
     have hsw:=hc.buf _ (gS default hjl)
     have a1:(c.buf.map dC.av).length=c.buf.length:=List.length_map _
     generalize c.buf.getD j default=x at *
     have hxl:(storeT x).length=(ct x.pc).length+((ct x.addr).length+(ct x.word).length):=by simp only[storeT,List.length_append]
     refine ca ?_
     refine aP (eI (hB4.skip (by omega) ?_) (by omega) (by rw[List.length_append];omega) hsw.1) ?_
     ·exact fun y hy=>cE
     rintro r H5 n5 ⟨rfl,hn5,hB5,ho5⟩
     have r9:=ho5.row (y:=n4+3) (e:=125) (sz:=3) (d:=_) (es:=_) cO (by omega) bo (by decide)
     refine ca ?_
     refine aP (eI (hB5.skip (by omega) ?_) (by omega) (by simp only[List.length_append] at *;omega) hsw.2.1) ?_
     ·exact fun y hy=>cE
     rintro r H6 n6 ⟨rfl,hn6,hB6,ho6⟩
     have r9':=ho6.row (y:=n4+3) (e:=125) (sz:=3) (d:=_) (es:=_) cO (by omega) bo (by decide)
     refine ca ?_
     refine aP (eI (hB6.skip (by omega) ?_) (by omega) (by simp only[List.length_append] at *;omega) hsw.2.2) ?_
     ·exact fun y hy=>cE
     rintro r H7 n7 ⟨rfl,hn7,hB7,ho7⟩
     refine ca ?_
     exact⟨j+1,by omega,_,_,_,Rt.refl _ _ _,cH,by omega,cO,by rw[hnx2];simp only[storeT,←List.append_assoc] at hB7 ⊢;exact hB7.skip (by omega) fun y hy=>cE⟩
    ·obtain rfl:j=c.buf.length:=by omega
     rw[List.take_length] at hB4
     obtain⟨q4,hq4,⟨⟨g1,p1⟩,⟨g2,p2⟩,hne4⟩⟩:=hB4
     have a0:(dF (B++de c++[47]++c.buf.flatMap storeT)).length=(B++de c++[47]++c.buf.flatMap storeT).length:=List.length_map _
     have hBb:(B++de c++[47]++c.buf.flatMap storeT).length=B.length+(de c).length+1+(c.buf.flatMap storeT).length:=by rw[List.length_append,hBr]
     have hend:(s.bf.take (i+1)).flatMap dS=(B++de c++[47]++c.buf.flatMap storeT)++[124]:=by rw[hnx,hBe];simp[dS]
     refine ca ?_
     refine⟨i+1,by omega,_,_,_,Rt.refl _ _ _,cH,by omega,cO,(by rw[hend];exact qv.app (q:=q4) bo bo hne4 cO)⟩
  ·have hht:eY c=[]:=by unfold eY;rw[if_neg hh]
   have hh:c.halted=false:=by simpa using hh
   generalize hBB:(s.bf.take i).flatMap dS++ct c.pc++eY c=B at *
   have hBa:B=((s.bf.take i).flatMap dS++ct c.pc):=by rw[←hBB,hht,List.append_nil]
   rw[←hBa] at hB2
   refine ca ?_
   refine aR (fun j:Nat=>[(0,s.frozen o),(3, .pt 1 1 0 0),(4, .fn (.func 88) [] [.pt 1 1 0 0]),(18,i64 s.bf.length),(19,i64 i),(5,i64 i),(6, .pt (n+8) 1 0 0),(38, .agg ((List.range 16).map fun j=>i64 (c.dg j))),(39,i64 j)])
    (fun j H' n'=>j≤16∧n+9≤n'∧qv 1 (B++((List.range 16).take j).flatMap (fun j=>ct (c.dg j))) H' n'∧∃d,bd H' (n+8)=some (.row 152 19 d [c.frozen])) (fun j=>16 - j) 0
    ⟨_,_,_,Rt.refl _ _ _,cH,Nat.zero_le _,cO,(by rw[show(List.range 16).take 0=[] from rfl,List.flatMap_nil,List.append_nil];exact hB2.skip (by omega) fun y hy=>cE),⟨_,bo⟩⟩ ?_
   clear hB2 r8
   rintro j H4 n4 ⟨hj,hn4,hB4,⟨d8,r8⟩⟩
   simp only[bk.frozen]
   by_cases hjl:j<16
   ·have e0:∀d,((List.range 16).map fun j=>i64 (c.dg j)).getD ((j:Int)).toNat d=i64 (c.dg j):=fun d=>by
     rw[Int.toNat_natCast,List.getD,List.getElem?_map,List.getElem?_range hjl];rfl
    have e1:∀d,((List.range 16).map fun j=>i64 (c.dg j)).getD (((j:Int)).toNat * 1) d=i64 (c.dg j):=fun d=>by rw[Nat.mul_one];exact e0 d
    have hle2:=kC (fun j=>ct (c.dg j)) (l:=List.range 16) (j:=j) (by simpa using hjl) 0
    have hnx2:=fj (fun j=>ct (c.dg j)) (l:=List.range 16) (j:=j) (by simpa using hjl) 0
    have hrg:(List.range 16).getD j 0=j:=by simp[List.getD,hjl]
    rw[hrg] at hle2 hnx2
    have hrl:((List.range 16).flatMap fun j=>ct (c.dg j)).length=(de c).length:=rfl
    refine ca ?_
    refine aP (eI (hB4.skip (by omega) ?_) (by omega) (by rw[List.length_append];omega) (hc.dg j hjl)) ?_
    ·exact fun y hy=>cE
    rintro r H5 n5 ⟨rfl,hn5,hB5,ho5⟩
    have r8':=ho5.row (y:=n+8) cO (by omega) bo (by decide)
    refine ca ?_
    exact⟨j+1,by omega,_,_,_,Rt.refl _ _ _,cH,by omega,cO,by rw[hnx2,←List.append_assoc];exact hB5.skip (by omega) fun y hy=>cE,⟨_,bo⟩⟩
   ·obtain rfl:j=16:=by omega
    rw[show(List.range 16).take 16=List.range 16 from rfl] at hB4
    change qv 1 (B++de c) H4 n4 at hB4
    obtain⟨q4,hq4,⟨⟨g1,p1⟩,⟨g2,p2⟩,hne4⟩⟩:=hB4
    have hq8:q4≠n+8:=fun e=>by rw[e,r8] at p2;cases p2
    have a0:(dF (B++de c)).length=(B++de c).length:=List.length_map _
    have hBr:(B++de c).length=B.length+(de c).length:=List.length_append
    refine ca ?_
    simp only[List.length_map]
    refine aR (fun j:Nat=>[(0,s.frozen o),(3, .pt 1 1 0 0),(4, .fn (.func 88) [] [.pt 1 1 0 0]),(18,i64 s.bf.length),(19,i64 i),(5,i64 i),(50, .im 3 .any (c.buf.map dC.av)),(51,i64 c.buf.length),(52,i64 j)])
     (fun j H' n'=>j≤c.buf.length∧n+9≤n'∧qv 1 (B++de c++[47]++(c.buf.take j).flatMap storeT) H' n') (fun j=>c.buf.length - j) 0
     ⟨_,_,_,Rt.refl _ _ _,cH,Nat.zero_le _,cO,(by rw[List.take_zero,List.flatMap_nil,List.append_nil];exact qv.app (q:=q4) bo bo hne4 cO)⟩ ?_
    clear p1 p2 r8 hBr
    rintro j H4 n4 ⟨hj,hn4,hB4⟩
    simp only[bk.frozen]
    have hBr:(B++de c++[47]).length=B.length+(de c).length+1:=by simp only[List.length_append,List.length_cons,List.length_nil]
    by_cases hjl:j<c.buf.length
    ·have e0:∀d,(c.buf.map dC.av).getD ((j:Int)).toNat d=(c.buf.getD j default).av:=fun d=>by rw[Int.toNat_natCast];exact dY _ _ _ d hjl
     have hle2:=kC storeT hjl default
     have hnx2:=fj storeT hjl default
     have hsw:=hc.buf _ (gS default hjl)
     have a1:(c.buf.map dC.av).length=c.buf.length:=List.length_map _
     generalize c.buf.getD j default=x at *
     have hxl:(storeT x).length=(ct x.pc).length+((ct x.addr).length+(ct x.word).length):=by simp only[storeT,List.length_append]
     refine ca ?_
     refine aP (eI (hB4.skip (by omega) ?_) (by omega) (by rw[List.length_append];omega) hsw.1) ?_
     ·exact fun y hy=>cE
     rintro r H5 n5 ⟨rfl,hn5,hB5,ho5⟩
     have r9:=ho5.row (y:=n4+3) (e:=125) (sz:=3) (d:=_) (es:=_) cO (by omega) bo (by decide)
     refine ca ?_
     refine aP (eI (hB5.skip (by omega) ?_) (by omega) (by simp only[List.length_append] at *;omega) hsw.2.1) ?_
     ·exact fun y hy=>cE
     rintro r H6 n6 ⟨rfl,hn6,hB6,ho6⟩
     have r9':=ho6.row (y:=n4+3) (e:=125) (sz:=3) (d:=_) (es:=_) cO (by omega) bo (by decide)
     refine ca ?_
     refine aP (eI (hB6.skip (by omega) ?_) (by omega) (by simp only[List.length_append] at *;omega) hsw.2.2) ?_
     ·exact fun y hy=>cE
     rintro r H7 n7 ⟨rfl,hn7,hB7,ho7⟩
     refine ca ?_
     exact⟨j+1,by omega,_,_,_,Rt.refl _ _ _,cH,by omega,cO,by rw[hnx2];simp only[storeT,←List.append_assoc] at hB7 ⊢;exact hB7.skip (by omega) fun y hy=>cE⟩
    ·obtain rfl:j=c.buf.length:=by omega
     rw[List.take_length] at hB4
     obtain⟨q4,hq4,⟨⟨g1,p1⟩,⟨g2,p2⟩,hne4⟩⟩:=hB4
     have a0:(dF (B++de c++[47]++c.buf.flatMap storeT)).length=(B++de c++[47]++c.buf.flatMap storeT).length:=List.length_map _
     have hBb:(B++de c++[47]++c.buf.flatMap storeT).length=B.length+(de c).length+1+(c.buf.flatMap storeT).length:=by rw[List.length_append,hBr]
     have hend:(s.bf.take (i+1)).flatMap dS=(B++de c++[47]++c.buf.flatMap storeT)++[124]:=by rw[hnx,hBe];simp[dS]
     refine ca ?_
     refine⟨i+1,by omega,_,_,_,Rt.refl _ _ _,cH,by omega,cO,(by rw[hend];exact qv.app (q:=q4) bo bo hne4 cO)⟩
 ·obtain rfl:i=s.bf.length:=by omega
  rw[List.take_length] at hB
  generalize hCC:s.bf.flatMap dS=C at *
  have hml:=hlk.mem
  refine ca ?_
  simp only[List.length_map]
  refine aR (fun j:Nat=>[(0,s.frozen o),(3, .pt 1 1 0 0),(4, .fn (.func 88) [] [.pt 1 1 0 0]),(74, .im 1 .any (s.mem.map i64)),(75,i64 s.mem.length),(76,i64 j)])
   (fun j H' n'=>j≤s.mem.length∧2≤n'∧qv 1 (C++(s.mem.take j).flatMap ct) H' n') (fun j=>s.mem.length - j) 0
   ⟨_,_,_,Rt.refl _ _ _,cH,Nat.zero_le _,cO,by rw[List.take_zero,List.flatMap_nil,List.append_nil];exact hB.skip (by omega) fun y hy=>cE⟩ ?_
  clear hB hn
  rintro j H n ⟨hj,hn,hB⟩
  simp only[bk.frozen]
  by_cases hjl:j<s.mem.length
  ·have e0:∀d,(s.mem.map i64).getD ((j:Int)).toNat d=i64 (s.mem.getD j 0):=fun d=>ints_at hjl d
   have hle2:=kC ct hjl 0
   have hnx2:=fj ct hjl 0
   have a1:(s.mem.map i64).length=s.mem.length:=List.length_map _
   refine ca ?_
   refine aP (eI (hB.skip (by omega) ?_) (by omega) (by rw[List.length_append];omega) (hw.mem _ (gS 0 hjl))) ?_
   ·exact fun y hy=>cE
   rintro r H5 n5 ⟨rfl,hn5,hB5,ho5⟩
   refine ca ?_
   exact⟨j+1,by omega,_,_,_,Rt.refl _ _ _,cH,by omega,cO,by rw[hnx2,←List.append_assoc];exact hB5.skip (by omega) fun y hy=>cE⟩
  ·obtain rfl:j=s.mem.length:=by omega
   rw[List.take_length] at hB
   obtain⟨q4,hq4,⟨⟨g1,p1⟩,⟨g2,p2⟩,hne4⟩⟩:=hB
   have a0:(dF (C++s.mem.flatMap ct)).length=(C++s.mem.flatMap ct).length:=List.length_map _
   have hCl:(C++s.mem.flatMap ct).length=C.length+(s.mem.flatMap ct).length:=List.length_append
   have hCl2:(C++s.mem.flatMap ct++[124]).length=C.length+(s.mem.flatMap ct).length+1:=by rw[List.length_append,hCl];rfl
   have hpl:=hlk.bg
   refine ca ?_
   simp only[List.length_map]
   refine aR (fun j:Nat=>[(0,s.frozen o),(3, .pt 1 1 0 0),(4, .fn (.func 88) [] [.pt 1 1 0 0]),(88, .im 2 .any (s.bg.map cD.av)),(89,i64 s.bg.length),(90,i64 j)])
    (fun j H' n'=>j≤s.bg.length∧2≤n'∧qv 1 (C++s.mem.flatMap ct++[124]++(s.bg.take j).flatMap fN) H' n') (fun j=>s.bg.length - j) 0
    ⟨_,_,_,Rt.refl _ _ _,cH,Nat.zero_le _,cO,by rw[List.take_zero,List.flatMap_nil,List.append_nil];exact qv.app (q:=q4) bo bo hne4 cO⟩ ?_
   clear p1 p2 hn a0
   rintro j H n ⟨hj,hn,hB⟩
   simp only[bk.frozen]
   by_cases hjl:j<s.bg.length
   ·have e0:∀d,(s.bg.map cD.av).getD ((j:Int)).toNat d=(s.bg.getD j default).av:=fun d=>by rw[Int.toNat_natCast];exact dY _ _ _ d hjl
    have hle2:=kC fN hjl default
    have hnx2:=fj fN hjl default
    have hpw:=hw.bg _ (gS default hjl)
    have a1:(s.bg.map cD.av).length=s.bg.length:=List.length_map _
    generalize s.bg.getD j default=x at *
    have hxl:(fN x).length=(ct x.ch).length+(ct x.word).length:=by simp only[fN,List.length_append]
    refine ca ?_
    refine aP (eI (hB.skip (by omega) ?_) (by omega) (by rw[List.length_append];omega) hpw.1) ?_
    ·exact fun y hy=>cE
    rintro r H5 n5 ⟨rfl,hn5,hB5,ho5⟩
    have r9:=ho5.row (y:=n+3) (e:=68) (sz:=2) (d:=_) (es:=_) cO (by omega) bo (by decide)
    refine ca ?_
    refine aP (eI (hB5.skip (by omega) ?_) (by omega) (by simp only[List.length_append] at *;omega) hpw.2) ?_
    ·exact fun y hy=>cE
    rintro r H6 n6 ⟨rfl,hn6,hB6,ho6⟩
    refine ca ?_
    exact⟨j+1,by omega,_,_,_,Rt.refl _ _ _,cH,by omega,cO,by rw[hnx2];simp only[fN,←List.append_assoc] at hB6 ⊢;exact hB6.skip (by omega) fun y hy=>cE⟩
   ·obtain rfl:j=s.bg.length:=by omega
    rw[List.take_length] at hB
    have hend:C++s.mem.flatMap ct++[124]++s.bg.flatMap fN=dx s:=by rw[←hCC];simp[dx]
    rw[hend] at hB
    obtain⟨q4,hq4,⟨⟨g1,p1⟩,⟨g2,p2⟩,hne4⟩⟩:=hB
    have a0:(dF (dx s)).length=(dx s).length:=List.length_map _
    have g0:gp (dF (dx s))=some ((dx s).map fun b=>(b.toNat:Int)):=uQ _
    refine ca ?_
    exact⟨by rw[MP];rfl⟩
end Go.Proofs.YtlonbgdonffcbaaGreatDoor
end
section
/- Keys are short; a machine in rows told by value, within a list of what was found; what has been seen, as a map. -/
namespace Go.Proofs.YtlonbgdonffcbaaGreatDoor
open Go Go.cW Go.Proofs
set_option linter.unusedSimpArgs false
set_option linter.unusedVariables false
set_option maxRecDepth 8000
theorem lP {α:Type} (f:α→List UInt8) (k:Nat):∀l:List α,(∀a∈l,(f a).length≤k)→(l.flatMap f).length≤l.length * k
 |[],_=>by simp
 |a::l,h=>by
  have h1:=lP f k l fun b hb=>h b (by simp[hb])
  have h2:=h a (by simp)
  rw[List.flatMap_cons,List.length_append,List.length_cons,Nat.add_mul]
  omega
theorem jF (x:Int):(ct x).length≤16:=by
 have:=tT x
 simp only[ct,List.length_append,List.length_cons,List.length_nil];omega
theorem C3 {c:bx} (h:c.buf.length<1000):(dS c).length≤100000:=by
 have h0:=jF c.pc
 have h1:(eY c).length≤1:=by unfold eY;split<;>simp
 have h2:=lP (fun j=>ct (c.dg j)) 16 (List.range 16) fun j _=>jF _
 have h3:=lP storeT 48 c.buf fun x _=>by
  have:=jF x.pc
  have:=jF x.addr
  have:=jF x.word
  simp only[storeT,List.length_append];omega
 rw[List.length_range] at h2
 have e:(dS c).length=(ct c.pc).length+((eY c).length+(((List.range 16).flatMap fun j=>ct (c.dg j)).length+(1+((c.buf.flatMap storeT).length+1)))):=by
  simp only[dS,de,List.length_append,List.length_cons,List.length_nil];omega
 rw[e];omega
theorem eB.L5 {s:bk} (h:eB s) (hp:s.bg.length≤1048576):(dx s).length≤140737488340000:=by
 have h1:=lP dS 100000 s.bf fun c hc=>by
  obtain⟨q,hq,rfl⟩:=List.mem_iff_getElem.1 hc
  refine C3 ?_
  rw[←po hq]
  exact h.buf q hq
 have h2:=lP ct 16 s.mem fun w _=>jF w
 have h3:=lP fN 32 s.bg fun p _=>by
  have:=jF p.ch
  have:=jF p.word
  simp only[fN,List.length_append];omega
 have hc:=h.bf
 have hm:=h.mem
 have e:(dx s).length=(s.bf.flatMap dS).length+((s.mem.flatMap ct).length+(1+(s.bg.flatMap fN).length)):=by
  simp only[dx,List.length_append,List.length_cons];omega
 rw[e];omega
theorem ot.look {o:Obj} {s:bk} (h:ot o s) (ok:cw o) (hp:s.bg.length≤1048576):eB s:=h.jQ.vl ok (by omega)
theorem EA {o:Obj} {s:bk} (h:ot o s) (ok:cw o) (hp:s.bg.length≤1048576):Pure Tryz.prog 62 [s.frozen o] (fun r=>r= .sc (.string (rT (dx s)))):=
 EB o s h.w (h.look ok hp) ((h.look ok hp).L5 hp)
def ig (S:List Nat) (H:Hp):Hp:=S.map fun y=>(y,bd H y)
theorem wV {S:List Nat} {H:Hp} {y:Nat} (h:y∈S):bd (ig S H) y=bd H y:=by
 induction S with
 |nil=>cases h
 |cons x S ih=>
  rw[ig,List.map_cons]
  by_cases e:y=x
  ·subst e;exact cK _ _ _
  ·rw[bh e]
   exact ih (by simpa[e] using h)
theorem oB {S:List Nat} {H:Hp} {y:Nat} {q:du} (h:bd (ig S H) y=some q):bd H y=some q:=by
 have:y∈S:=by
  have:=mf h
  simpa[ig] using this
 rw[wV this] at h;exact h
theorem fL {S:List Nat} {H H2:Hp} {y:Nat} (h:y∉S):bd (l8 (ig S H) H2) y=bd H2 y:=fh (by simpa[ig] using h)
theorem fe.qw {o:Obj} {s:bk} {L:Lay} {H:Hp} {nx:Nat} (h:fe o s L H nx) (k:Nat):Go.cW.fx (ig L.ids H) (k+5) (.pt L.m 1 0 0)=s.frozen o:=by
 have h:=h.eE (H':=ig L.ids H) (fun y hy=>wV hy) (Nat.le_refl _)
 generalize ig L.ids H=G at *
 obtain⟨d1,h1⟩:=h.m
 obtain⟨d2,h2⟩:=h.c
 obtain⟨d3,h3⟩:=h.mem
 obtain⟨d4,h4⟩:=h.pr
 have hcores:(rows s L).map (Go.cW.fx G (k+2))=s.bf.map bx.frozen:=by
  apply List.ext_getElem
  ·simp[rows,h.lens]
  ·intro i p1 p2
   have hi:i<s.bf.length:=by simpa using p2
   have hib:i<L.cY.length:=by rw[h.lens];exact hi
   obtain⟨d5,h5⟩:=h.cY i hi
   have e1:L.cY.getD i 0=L.cY[i]:=by simp[List.getD,hib]
   have e2:s.bf.getD i default=s.bf[i]:=by simp[List.getD,hi]
   rw[e1,e2] at h5
   simp only[List.getElem_map,rows,List.getElem_zipWith,bx.av]
   rw[qK]
   unfold bx.frozen
   congr 1
   simp only[bx.cells,List.map_cons,List.map_nil]
   rw[pH h5 (by simp),gT _ (show cG 0 (s.bf[i].buf.map dC.av) by simp[cF,cC,cG])]
   repeat rw[fZ (k+1) (by simp[cC])]
 rw[show Go.cW.fx G (k+5) (.pt L.m 1 0 0)= .ip 8 .any ([jx o s L].map (Go.cW.fx G (k+4))) 0 0 from IQ h1 rfl]
 simp only[List.map_cons,List.map_nil,jx]
 rw[qK]
 simp only[List.map_cons,List.map_nil]
 rw[pH h2 (dG h),pH h3 (by simp),pH h4 (by simp),hcores]
 rw[gT _ (show cG 0 (s.mem.map i64) by simp[cF,cC]),gT _ (show cG 0 (s.bg.map cD.av) by simp[cF,cC,cG]),fZ _ (show cC 0 (.im 2 .any (o.bf.map Core.av)) by simp[cF,cC,cG]),fZ _ (show cC 0 (.sc (.slice none 0 0)) by simp[cC]),fZ _ (show cC 0 (i64 o.shared) by simp[cC]),fZ _ (show cC 0 (i64 o.gu) by simp[cC]),fZ _ (show cC 0 (i64 o.buffer) by simp[cC])]
 rfl
def mP:List cM→AV
 |[]=> .sc (.slice none 0 0)
 |x::l=>iq (x::l)
theorem DH (n:Nat):∀l,cC n (mP l)
 |[]=>by simp[mP,cC]
 |x::l=>by simp[mP,cC,cG,cF]
theorem CV {l:List cM} (h:l≠[]):mP l=iq l:=by
 cases l with
 |nil=>exact absurd rfl h
 |cons x l=>rfl
def bu.cells (o:Obj) (f:bu):List AV:=[f.m.frozen o,i64 f.from_,mP f.CW]
abbrev bu.av (o:Obj) (f:bu):AV:= .agg (f.cells o)
abbrev gk (o:Obj) (l:List bu):AV:= .im 3 .any (l.map (bu.av o))
theorem iO (o:Obj) (l:List bu):cG 0 (l.map (bu.av o)):=(cF _ _).2 fun f _=>by
 have h1:=iP o f.m
 have h2:=DH 0 f.CW
 simp[bu.av,bu.cells,cC,cG,h1,h2]
theorem sJ {o:Obj} {s:bk} {L:Lay} {H:Hp} {n lb nx:Nat} {d:AV} {l:List bu} {fr:Int} {mv:List cM} {a:AV} (hM:fe o s L H n) (ha:Go.cW.fx (ig L.ids H) 5 a=mP mv) (hl:bd H lb=some (.row 85 3 d (l.map (bu.av o)++[.agg [.pt L.m 1 0 0,i64 fr,a]]))) (hlb:lb∉L.ids):
 Wk .any H nx .any (l8 (ig L.ids H) ((lb,some (.row 85 3 .any ((l++[(⟨s,fr,mv⟩:bu)]).map (bu.av o))))::H)) nx:=by
 have:=Wk.fx (nx:=nx) (ig L.ids H) 6 .any hl (fun b q hq=>oB hq)
 rw[List.map_append,gT _ (iO o l),List.map_cons,List.map_nil,qK,List.map_cons,List.map_cons,List.map_cons,List.map_nil,hM.qw 0,fZ _ (show cC 0 (i64 fr) by simp[cC]),ha] at this
 rw[List.map_append]
 exact this
theorem JZ {a b:List UInt8} (h:rT a=rT b):a=b:=by
 have:=congrArg (fun x:ByteArray=>x.data.toList) h
 simpa[rT] using this
abbrev iS (l:List bu):List (ByteArray×Int):=l.map fun f=>(rT (dx f.m),1)
abbrev ku (l:List bu):List AV:=q7 (fun s:ByteArray=>Value.string s) i64 (iS l)
theorem qT (l:List bu) (k:List UInt8):iU (iS l) (rT k)=if k∈eZ l then some 1 else none:=by
 split
 ·rename_i h
  cases hl:iU (iS l) (rT k) with
  |none=>
   exfalso
   refine(nn _ _).1 hl ?_
   rw[List.map_map]
   obtain⟨f,h1,h2⟩:=List.mem_map.1 h
   exact List.mem_map.2 ⟨f,h1,by simp only[Function.comp];rw[h2]⟩
  |some v=>
   have hv:∀(l:List bu),iU (iS l) (rT k)=some v→v=1:=by
    intro l
    induction l with
    |nil=>intro h;cases h
    |cons f l ih=>
     intro h
     rw[iS,List.map_cons,iU] at h
     split at h
     ·cases h;rfl
     ·exact ih h
   rw[hv l hl]
 ·rename_i h
  refine(nn _ _).2 fun hm=>h ?_
  rw[List.map_map] at hm
  obtain⟨f,h1,h2⟩:=List.mem_map.1 hm
  simp only[Function.comp] at h2
  exact List.mem_map.2 ⟨f,h1,JZ h2⟩
theorem AO {l:List bu} {m:bk} {a:Int} {b:List cM} (h:dx m∉eZ l):wE (iS l) (rT (dx m)) 1=iS (l++[⟨m,a,b⟩]):=by
 have key:∀E:List (ByteArray×Int),iU E (rT (dx m))=none→wE E (rT (dx m)) 1=E++[(rT (dx m),1)]:=by
  intro E
  induction E with
  |nil=>intro _;rfl
  |cons p E ih=>
   intro hn
   obtain⟨x,y⟩:=p
   rw[iU] at hn
   rw[wE]
   split at hn
   ·cases hn
   ·rename_i hx
    rw[if_neg hx,ih hn];rfl
 rw[key _ (by rw[qT,if_neg h]),iS,iS,List.map_append];rfl
end Go.Proofs.YtlonbgdonffcbaaGreatDoor
end
