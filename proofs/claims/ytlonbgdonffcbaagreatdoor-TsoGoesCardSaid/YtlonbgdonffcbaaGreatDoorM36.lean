import Derived.Test.YtlonbgdonffcbaaGreatDoorM26
import Derived.Test.YtlonbgdonffcbaaGreatDoorM32
import Derived.Test.YtlonbgdonffcbaaGreatDoorM29
import Derived.Test.YtlonbgdonffcbaaGreatDoorM34
import Derived.Test.YtlonbgdonffcbaaGreatDoorM35
section
/- A number in base 36 put behind bytes: the library's walk. -/
namespace Go.Proofs.YtlonbgdonffcbaaGreatDoor
open Go Go.cY Go.Proofs
set_option linter.unusedSimpArgs false
set_option linter.unusedVariables false
abbrev sH (l:List UInt8):ByteArray:=⟨l.toArray⟩
abbrev dJ (l:List UInt8):List AV:=l.map fun b=> .sc (.int .u8 (b.toNat:Int))
abbrev u64 (n:Nat):AV:= .sc (.int .u64 (n:Int))
theorem B7:Pure Tryz.prog 146 [i64 36] (fun r=>r=bl false):=fq (by simp[cB]) (by kernel_rfl)
def ja (l:List UInt8):List AV:=List.replicate (65 - l.length) (.sc (.int .u8 0))++dJ l
theorem AI {l:List UInt8} (h:l.length≤65):(ja l).length=65:=by simp[ja];omega
theorem sL {l:List UInt8} (h:l.length≤64) (d:UInt8):(ja l).set (64 - l.length) (.sc (.int .u8 (d.toNat:Int)))=ja (d::l):=by
 have h1:65 - l.length=(64 - l.length)+1:=by omega
 have h2:65 - (d::l).length=64 - l.length:=by simp
 unfold ja
 rw[h1,h2,List.replicate_succ',List.append_assoc,List.set_append_right _ _ (by simp)]
 simp
theorem xM {l:List UInt8} (h:l.length≤65):(ja l).drop (65 - l.length)=dJ l:=by
 unfold ja
 rw[List.drop_append,List.length_replicate,Nat.sub_self,List.drop_zero,List.drop_of_length_le (by simp),List.nil_append]
theorem wrap_u64 {n:Int} (h0:0≤n) (h1:n<18446744073709551616):IntKind.u64.wrap n=n:=by simp[IntKind.wrap,IntKind.bits,IntKind.signed];omega
def AR:ByteArray:=⟨#[48,49,50,51,52,53,54,55,56,57,97,98,99,100,101,102,103,104,105,106,107,108,109,110,111,112,113,114,115,116,117,118,119,120,121,122]⟩
theorem zB {n:Nat} (h:n<36):AR.data.toList.getD n 0=d36 n:=by
 have:∀n:Fin 36,AR.data.toList.getD n.val 0=d36 n.val:=by decide
 exact this ⟨n,h⟩
set_option maxHeartbeats 4000000 in
theorem AM {q:Nat} {es:List AV} {d:AV} {H:Hp} {nx u:Nat} (hq:q<nx) (hr:bf H q=some (.row 5 1 d es)) (hes:es.length≤140737488355000) (hu:u≤9223372036854775808):
 bz Tryz.prog 142 [.sl q es.length,u64 u,i64 36,bl false,bl true] H nx (fun r H' n=>r= .dB [.sl q (es.length+(dz 13 u []).length), .sc (.string ⟨#[]⟩)]∧nx≤n∧(∃d,bf H' q=some (.row 5 1 d (es++dJ (dz 13 u []))))∧∀y,y<nx→y≠q→bf H' y=bf H y):=by
 have c0:=B7
 refine aO wI rfl ?_
 refine ca ?_
 have hw36:IntKind.u64.wrap 36=36:=by decide
 rw[hw36]
 refine aT (fun σ:Nat×List UInt8=>[(0, .sl q es.length),(1,u64 σ.1),(3,bl false),(4,bl true),(11, .sc (.string ⟨#[]⟩)),(12, .pt (nx+12) 65 0 0),(13,i64 ((65 - σ.2.length:Nat):Int)),(17, .sc (.int .u64 36))])
  (fun σ H' n=>nx+13≤n∧(∃f,f+σ.2.length=13∧dz 13 u []=dz f σ.1 σ.2∧σ.1<36^(f+1))∧σ.1≤u∧(∃d,bf H' (nx+12)=some (.row 208 1 d (ja σ.2)))∧(∃d,bf H' q=some (.row 5 1 d es))∧∀y,y<nx→y≠q→bf H' y=bf H y) (fun σ=>σ.1) (u,[]) cG
  ⟨cO,⟨13,rfl,rfl,wR hu⟩,Nat.le_refl _,⟨_,bo⟩,⟨_,bo⟩,fun y h1 h2=>cA⟩ ?_
 clear hr
 rintro⟨n,l⟩ H2 nx2 ⟨hn,⟨f,hf,hd,hnf⟩,hnu,⟨d1,r1'⟩,⟨d2,r2'⟩,hk⟩
 dsimp only at hf hd hnf hnu r1' ⊢
 have hll:l.length≤13:=by omega
 have a0:=AI (l:=l) (by omega)
 have r3:∀d,(ja l).getD ((((65 - l.length:Nat):Int) - 1).toNat) d= .sc (.int .u8 0):=fun d=>by
  rw[show(((65 - l.length:Nat):Int) - 1).toNat=64 - l.length by omega]
  unfold ja
  rw[List.getD,List.getElem?_append_left (by simp;omega),List.getElem?_replicate,if_pos (by omega)]
  rfl
 have hidx:(((65 - l.length:Nat):Int) - 1).toNat=64 - l.length:=by omega
 by_cases h36:n<36
 ·have a1:(0:Int)≤(n:Int)∧(n:Int)<((AR.size:Nat):Int):=⟨by omega,by show(n:Int)<36;omega⟩
  have hdn:dz f n l=d36 n::l:=by
   cases f with
   |zero=>rfl
   |succ f=>rw[dz,if_pos h36]
  have key:List.take (65 - (((65 - l.length:Nat):Int) - 1).toNat) (List.drop (((65 - l.length:Nat):Int) - 1).toNat ((ja l).set (((65 - l.length:Nat):Int) - 1).toNat (.sc (.int .u8 ((AR.data.toList.getD n 0).toNat:Int)))))=dJ (d36 n::l):=by
   rw[hidx,zB h36,sL (by omega)]
   have:=xM (l:=d36 n::l) (by simp;omega)
   rw[show 65 - (d36 n::l).length=64 - l.length by simp] at this
   rw[this,List.take_of_length_le (by simp;omega)]
  refine ca ?_
  refine⟨⟨?_,cO,⟨d2, ?_⟩,fun y h1 h2=>Eq.trans cA (hk y h1 h2)⟩⟩
  ·rw[hd,hdn,show(d36 n::l).length=(dJ (d36 n::l)).length from(List.length_map _).symm,←key];rfl
  ·rw[hd,hdn,←key]
   exact bo
 ·have hq:IntKind.u64.wrap ((n:Int).tdiv 36)=((n /36:Nat):Int):=by
   rw[Int.tdiv_eq_ediv_of_nonneg (by omega),show(n:Int) /36=((n /36:Nat):Int) by omega]
   exact wrap_u64 (by omega) (by omega)
  have hm:IntKind.u64.wrap (((n /36:Nat):Int) * 36)=((n /36 * 36:Nat):Int):=by
   rw[show((n /36:Nat):Int) * 36=((n /36 * 36:Nat):Int) by omega]
   exact wrap_u64 (by omega) (by omega)
  have hs:IntKind.u64.wrap ((n:Int) - ((n /36 * 36:Nat):Int))=((n%36:Nat):Int):=by
   rw[show(n:Int) - ((n /36 * 36:Nat):Int)=((n%36:Nat):Int) by omega]
   exact wrap_u64 (by omega) (by omega)
  have r0:=hq
  have r1:=hm
  have r2:=hs
  have a1:(0:Int)≤((n%36:Nat):Int)∧((n%36:Nat):Int)<((AR.size:Nat):Int):=⟨by omega,by show((n%36:Nat):Int)<36;omega⟩
  have h36':n%36<36:=Nat.mod_lt _ (by omega)
  have key:(ja l).set (((65 - l.length:Nat):Int) - 1).toNat (.sc (.int .u8 ((AR.data.toList.getD (n%36) 0).toNat:Int)))=ja (d36 (n%36)::l):=by
   rw[hidx,zB h36',sL (by omega)]
  obtain⟨f,rfl⟩:∃g,f=g+1:=⟨f - 1,by
   rcases Nat.eq_zero_or_pos f with e|e
   ·subst e;simp at hnf;omega
   ·omega⟩
  refine ca ?_
  refine⟨(n /36,d36 (n%36)::l),by dsimp only;omega, ?_,cO,⟨f,by simp;omega,by rw[hd,dz,if_neg h36],by dsimp only;rw[Nat.div_lt_iff_lt_mul (by omega)];rw[Nat.pow_succ] at hnf;exact hnf⟩,by dsimp only;omega,⟨d1,by dsimp only;rw[←key];exact bo⟩,⟨d2,bo⟩,fun y h1 h2=>Eq.trans cA (hk y h1 h2)⟩
  have:((65 - l.length:Nat):Int) - 1=((65 - (d36 (n%36)::l).length:Nat):Int):=by simp;omega
  rw[this]
  exact cG
theorem tN {q:Nat} {es:List AV} {d:AV} {H:Hp} {nx u:Nat} (hq:q<nx) (hr:bf H q=some (.row 5 1 d es)) (hes:es.length≤140737488355000) (hu:u≤9223372036854775808):
 bz Tryz.prog 119 [.sl q es.length,u64 u,i64 36] H nx (fun r H' n=>r= .sl q (es.length+(dz 13 u []).length)∧nx≤n∧(∃d,bf H' q=some (.row 5 1 d (es++dJ (dz 13 u []))))∧∀y,y<nx→y≠q→bf H' y=bf H y):=by
 refine aO vo rfl ?_
 refine ca ?_
 refine aP (AM (q:=q) (es:=es) (d:=d) (by omega) ?_ hes hu) ?_
 ·exact bo
 rintro r H2 n2 ⟨rfl,hn,⟨d2,r2⟩,hk⟩
 refine ca ?_
 exact⟨⟨rfl,cO,⟨d2,bo⟩,fun y h1 h2=>Eq.trans cA ((hk y cO h2).trans cA)⟩⟩
set_option maxHeartbeats 1000000 in
theorem E2 {q:Nat} {es:List AV} {d:AV} {H:Hp} {nx:Nat} {x:Int} (hq:q<nx) (hr:bf H q=some (.row 5 1 d es)) (hes:es.length≤140737488354000) (hx:dE x):
 bz Tryz.prog 111 [.sl q es.length,i64 x,i64 36] H nx (fun r H' n=>r= .sl q (es.length+(eV x).length)∧nx≤n∧(∃d,bf H' q=some (.row 5 1 d (es++dJ (eV x))))∧∀y,y<nx→y≠q→bf H' y=bf H y):=by
 obtain⟨x1,x2⟩:=hx
 refine aO vm rfl ?_
 by_cases h0:x<0
 ·have r0:IntKind.u64.wrap x=x+18446744073709551616:=by simp[IntKind.wrap,IntKind.bits,IntKind.signed];omega
  have r1:IntKind.u64.wrap (0 - (x+18446744073709551616))=((x.natAbs:Nat):Int):=by simp[IntKind.wrap,IntKind.bits,IntKind.signed];omega
  have e:eV x=45::dz 13 x.natAbs []:=by unfold eV;rw[if_pos h0]
  refine ca ?_
  have hl:(es++[AV.sc (Value.int IntKind.u8 45)]).length=es.length+1:=by simp
  have hc:=fun(H:Hp) (nx:Nat) (h1:q<nx) h2=>tN (H:=H) (nx:=nx) (q:=q) (es:=es++[.sc (.int .u8 45)]) (d:=d) h1 h2 (by rw[hl];omega) (show x.natAbs≤9223372036854775808 by omega)
  rw[hl] at hc
  refine aP (hc _ _ (by omega) ?_) ?_
  ·exact bo
  rintro r H2 n2 ⟨rfl,hn,⟨d2,r2⟩,hk⟩
  refine ca ?_
  refine⟨⟨by rw[e,List.length_cons,Nat.add_assoc,Nat.add_comm 1],cO,⟨d2, ?_⟩,fun y h1 h2=>Eq.trans cA ((hk y cO h2).trans cA)⟩⟩
  rw[List.append_assoc] at r2
  rw[e,show dJ (45::dz 13 x.natAbs [])=[.sc (.int .u8 45)]++dJ (dz 13 x.natAbs []) from rfl]
  exact bo
 ·have r0:IntKind.u64.wrap x=((x.toNat:Nat):Int):=by simp[IntKind.wrap,IntKind.bits,IntKind.signed];omega
  have e:eV x=dz 13 x.toNat []:=by unfold eV;rw[if_neg h0]
  refine ca ?_
  refine aP (tN (q:=q) (es:=es) (d:=d) (by omega) ?_ (by omega) (by omega)) ?_
  ·exact bo
  rintro r H2 n2 ⟨rfl,hn,⟨d2,r2⟩,hk⟩
  refine ca ?_
  rw[e]
  exact⟨⟨rfl,cO,⟨d2,bo⟩,fun y h1 h2=>Eq.trans cA ((hk y cO h2).trans cA)⟩⟩
theorem CK {q:Nat} {es:List AV} {d:AV} {H:Hp} {nx:Nat} {x:Int} (hq:q<nx) (hr:bf H q=some (.row 5 1 d es)) (hes:es.length≤140737488354000) (hx:dE x):
 bz Tryz.prog 89 [.sl q es.length,i64 x,i64 36] H nx (fun r H' n=>r= .sl q (es.length+(eV x).length)∧nx≤n∧(∃d,bf H' q=some (.row 5 1 d (es++dJ (eV x))))∧∀y,y<nx→y≠q→bf H' y=bf H y):=by
 refine aO GX rfl ?_
 refine ca ?_
 refine aP (E2 (q:=q) (es:=es) (d:=d) (by omega) ?_ hes hx) ?_
 ·exact bo
 rintro r H2 n2 ⟨rfl,hn,⟨d2,r2⟩,hk⟩
 refine ca ?_
 exact⟨⟨rfl,cO,⟨d2,bo⟩,fun y h1 h2=>Eq.trans cA ((hk y cO h2).trans cA)⟩⟩
structure Kb (b q:Nat) (l:List UInt8) (H:Hp):Prop where
 rb:∃d,bf H b=some (.row 148 1 d [.sl q l.length])
 rq:∃d,bf H q=some (.row 5 1 d (dJ l))
 ne:b≠q
theorem Kb.cP {b q:Nat} {l:List UInt8} {H H2:Hp} (h:Kb b q l H) (hb:bf H2 b=bf H b) (hq:bf H2 q=bf H q):Kb b q l H2:=by
 obtain⟨⟨d1,h1⟩,⟨d2,h2⟩,h3⟩:=h
 exact⟨⟨d1,hb.trans h1⟩,⟨d2,hq.trans h2⟩,h3⟩
theorem HD {b q:Nat} {l:List UInt8} {H:Hp} {nx:Nat} {x:Int} (h:Kb b q l H) (hb:b<nx) (hq:q<nx) (hl:l.length≤140737488353000) (hx:dE x):
 bz Tryz.prog 88 [i64 x, .pt b 1 0 0] H nx (fun r H' n=>r= .dB []∧nx≤n∧Kb b q (l++cy x) H'∧∀y,y<nx→y≠b→y≠q→bf H' y=bf H y):=by
 obtain⟨⟨d1,h1⟩,⟨d2,h2⟩,h3⟩:=h
 have hn:=uJ x
 refine aO GW rfl ?_
 refine ca ?_
 have hbl:(dJ l).length=l.length:=List.length_map _
 rw[←hbl]
 refine aP (CK (q:=q) (es:=dJ l) (d:=d2) (by omega) ?_ (by rw[hbl];omega) hx) ?_
 ·exact bo
 rintro r H2 n2 ⟨rfl,hn2,⟨d3,r3⟩,hk⟩
 have h1':=(hk b cO h3).trans ((cA:_=bf H b).trans h1)
 have a0:((dJ l)++dJ (eV x)).length=(dJ l).length+(eV x).length:=by simp
 refine ca ?_
 refine⟨⟨rfl,cO,⟨⟨d1, ?_⟩,⟨d3, ?_⟩,h3⟩,fun y h5 h6 h7=>Eq.trans cA ((hk y cO h7).trans cA)⟩⟩
 ·have:(l++cy x).length=(dJ l).length+(eV x).length+1:=by simp[cy];omega
  rw[this]
  exact bo
 ·have:dJ (l++cy x)=dJ l++dJ (eV x)++[.sc (.int .u8 32)]:=by simp[cy]
  rw[this]
  exact bo
end Go.Proofs.YtlonbgdonffcbaaGreatDoor
end
section
/- The key of a situation: the walk. -/
namespace Go.Proofs.YtlonbgdonffcbaaGreatDoor
open Go Go.cY Go.Proofs
set_option linter.unusedSimpArgs false
set_option linter.unusedVariables false
set_option maxRecDepth 8000
theorem KO {α:Type} (f:α→List UInt8) (l:List α) (j:Nat):((l.take j).flatMap f).length≤(l.flatMap f).length:=by
 conv=>rhs;rw[←List.take_append_drop j l,List.flatMap_append,List.length_append]
 omega
theorem ft {α:Type} (f:α→List UInt8) {l:List α} {j:Nat} (h:j<l.length) (d:α):(l.take (j+1)).flatMap f=(l.take j).flatMap f++f (l.getD j d):=by
 rw[List.take_succ_eq_append_getElem h,List.flatMap_append]
 simp[List.getD,List.getElem?_eq_getElem h]
theorem kL {α:Type} (f:α→List UInt8) {l:List α} {j:Nat} (h:j<l.length) (d:α):((l.take j).flatMap f).length+(f (l.getD j d)).length≤(l.flatMap f).length:=by
 have:=KO f l (j+1)
 rw[ft f h d,List.length_append] at this
 exact this
theorem OL {te e:TypeId} {sz b nx:Nat} {H:Hp} {d:AV} (hb:b<nx) (hsz:0<sz) (h:bf H b=some (.row te 1 d [.sc (.slice none 0 0)])):∃H2,Wk .any H nx .any H2 (nx+1)∧bf H2 b=some (.row te 1 .any [.sl nx 0])∧bf H2 nx=some (.row e sz .any [])∧∀y,y<nx→y≠b→bf H2 y=bf H y:=by
 refine⟨ki te e sz b 1 nx H,Wk.born hb hsz h, ?_, ?_,fun y y1 y2=>DN y1 y2⟩
 ·rw[ki,cN,tI];rfl
 ·rw[ki,bj (by omega),fm,if_pos (by omega)]
theorem xO {te:TypeId} (e:TypeId) (sz:Nat) {b nx:Nat} {H:Hp} {d:AV} {fr:Fr} {P:Fr→Hp→Nat→Prop} (hb:b<nx) (hsz:0<sz) (h:bf H b=some (.row te 1 d [.sc (.slice none 0 0)]))
 (k:∀H2,bf H2 b=some (.row te 1 .any [.sl nx 0])→bf H2 nx=some (.row e sz .any [])→(∀y,y<nx→y≠b→bf H2 y=bf H y)→P fr H2 (nx+1)):∃fr2 H2 nx2,Rt fr H nx fr2 H2 nx2∧P fr2 H2 nx2:=by
 obtain⟨H2,hw,q1,q2,q3⟩:=OL (e:=e) (sz:=sz) hb hsz h
 exact⟨fr,H2,nx+1,Rt.wk hw,k H2 q1 q2 q3⟩
def rV (b:Nat) (l:List UInt8) (H:Hp) (n:Nat):Prop:=∃q,q<n∧Kb b q l H
theorem rV.skip {b n n2:Nat} {l:List UInt8} {H H2:Hp} (h:rV b l H n) (hn:n≤n2) (hk:∀y,y<n→bf H2 y=bf H y) (hb:b<n:=by omega):rV b l H2 n2:=by
 obtain⟨q,hq,h⟩:=h
 exact⟨q,by omega,h.cP (hk b hb) (hk q hq)⟩
theorem rV.app {b q n:Nat} {l:List UInt8} {x:UInt8} {H:Hp} {d1 d2:AV} (h1:bf H b=some (.row 148 1 d1 [.sl q (l.length+1)])) (h2:bf H q=some (.row 5 1 d2 (dJ l++[.sc (.int .u8 (x.toNat:Int))]))) (h3:b≠q) (hq:q<n):rV b (l++[x]) H n:=
 ⟨q,hq,⟨d1,by rw[List.length_append];exact h1⟩,⟨d2,by rw[show dJ (l++[x])=dJ l++[.sc (.int .u8 (x.toNat:Int))] by simp];exact h2⟩,h3⟩
theorem uu:∀l:List UInt8,iD (dJ l)=some (l.map fun b=>(b.toNat:Int))
 |[]=>rfl
 |b::l=>by
  have:=uu l
  simp only[List.map_cons,iD] at this ⊢
  rw[this];rfl
theorem NR (l:List UInt8):CQ (l.map fun b=>(b.toNat:Int))=sH l:=by
 have:∀(l:List UInt8) (r:ByteArray),(l.map fun b=>(b.toNat:Int)).foldl (fun r n=>r.push (UInt8.ofNat n.toNat)) r=⟨r.data++l.toArray⟩:=by
  intro l
  induction l with
  |nil=>intro r;simp
  |cons b l ih=>
   intro r
   rw[List.map_cons,List.foldl_cons,ih]
   congr 1
   show(r.push _).data++_=_
   rw[ByteArray.push]
   simp
 have:=this l ByteArray.empty
 unfold CQ
 rw[this]
 simp[ByteArray.empty,ByteArray.emptyWithCapacity]
 rfl
def P0 (b n:Nat) (H H2:Hp):Prop:=∀y,y<n→y≠b→(∀d es,bf H y≠some (.row 5 1 d es))→bf H2 y=bf H y
theorem P0.row {b n y:Nat} {H H2:Hp} {e:TypeId} {sz:Nat} {d:AV} {es:List AV} (h:P0 b n H H2) (hy:y<n) (hb:y≠b) (hr:bf H y=some (.row e sz d es)) (he:sz≠1):bf H2 y=some (.row e sz d es):=by
 rw[h y hy hb fun d2 es2 hh=> ?_]
 ·exact hr
 ·rw[hr] at hh;cases hh;exact he rfl
theorem eN {b:Nat} {l:List UInt8} {H:Hp} {nx:Nat} {x:Int} (h:rV b l H nx) (hb:b<nx) (hl:l.length≤140737488353000) (hx:dE x):
 bz Tryz.prog 88 [i64 x, .pt b 1 0 0] H nx (fun r H' n=>r= .dB []∧nx≤n∧rV b (l++cy x) H' n∧P0 b nx H H'):=by
 obtain⟨q,hq,h⟩:=h
 refine(HD h hb hq hl hx).mono ?_
 rintro r H2 n ⟨h1,h2,h3,h4⟩
 refine⟨h1,h2,⟨q,by omega,h3⟩,fun y y1 y2 y3=>h4 y y1 y2 fun e=> ?_⟩
 subst e
 obtain⟨d,hd⟩:=h.rq
 exact y3 _ _ hd
set_option maxHeartbeats 4000000 in
theorem E5 (o:Obj) (s:bk) (hw:MW s) (hlk:eH s) (hsz:(eD s).length≤140737488340000):Pure Tryz.prog 62 [s.frozen o] (fun r=>r= .sc (.string (sH (eD s)))):=by
 have c0:=qT o s
 have c1:=oR o s hlk.mem
 have c2:=la o s hlk.bh
 simp only[bk.frozen] at c0 c1 c2 ⊢
 refine cq ?_ (by simp[cB])
 refine aO F9 rfl ?_
 refine ca ?_
 refine aQ (fun i:Nat=>[(0,s.frozen o),(3, .pt 1 1 0 0),(4, .fn (.func 88) [] [.pt 1 1 0 0]),(18,i64 s.bg.length),(19,i64 i)])
  (fun i H n=>i≤s.bg.length∧2≤n∧rV 1 ((s.bg.take i).flatMap dY) H n) (fun i=>s.bg.length - i) 0
  (xO 5 1 (b:=1) (d:=gO false [.slice none 0 0]) (by omega) (by omega) bo fun H2 q1 q2 q3=>⟨cG,Nat.zero_le _,by omega,_,by omega,⟨_,q1⟩,⟨_,q2⟩,by omega⟩) ?_
 rintro i H n ⟨hi,hn,hB⟩
 simp only[bk.frozen]
 have hkl:(eD s).length=(s.bg.flatMap dY).length+((s.mem.flatMap cy).length+(1+(s.bh.flatMap fQ).length)):=by simp only[eD,List.length_append,List.length_cons];omega
 have hc8:=hlk.bg
 by_cases hil:i<s.bg.length
 ·have hle:=kL dY hil default
  have hnx:=ft dY hil default
  have hc:=hw.core _ (tn hil)
  have c3:=KX o s i hil (hlk.buf i hil)
  simp only[bk.frozen] at c3
  have hce:s.bg.getD i default=s.core i:=rfl
  rw[hce] at hle hnx
  have hbl:=hlk.buf i hil
  generalize s.core i=c at *
  have hcl:(dY c).length=(cy c.pc).length+((ec c).length+((dh c).length+(1+((c.buf.flatMap storeT).length+1)))):=by simp only[dY,List.length_append,List.length_cons,List.length_nil];omega
  refine ca ?_
  refine aP (eN (hB.skip (by omega) ?_) (by omega) (by omega) hc.pc) ?_
  ·exact fun y hy=>cA
  rintro r H2 n2 ⟨rfl,hn2,hB2,ho2⟩
  have r8:=ho2.row (y:=n+8) (e:=152) (sz:=19) (d:=_) (es:=[c.frozen]) cO (by omega) bo (by decide)
  have hBl:((s.bg.take i).flatMap dY++cy c.pc++ec c).length=((s.bg.take i).flatMap dY).length+(cy c.pc).length+(ec c).length:=by simp only[List.length_append]
  have hBe:(s.bg.take i).flatMap dY++dY c=((s.bg.take i).flatMap dY++cy c.pc++ec c)++(dh c++(47::(c.buf.flatMap storeT++[124]))):=by simp[dY]
  have hAl:((s.bg.take i).flatMap dY++cy c.pc).length=((s.bg.take i).flatMap dY).length+(cy c.pc).length:=List.length_append
  by_cases hh:c.halted=true
  ·have hht:ec c=[104]:=by unfold ec;rw[if_pos hh]
   obtain⟨q3,hq3,⟨⟨g1,p1⟩,⟨g2,p2⟩,hne3⟩⟩:=hB2
   have a0:(dJ ((s.bg.take i).flatMap dY++cy c.pc)).length=((s.bg.take i).flatMap dY++cy c.pc).length:=List.length_map _
   have hq8:q3≠n+8:=fun e=>by rw[e,r8] at p2;cases p2
   generalize hBB:(s.bg.take i).flatMap dY++cy c.pc++ec c=B at *
   have hBa:B=((s.bg.take i).flatMap dY++cy c.pc)++[104]:=by rw[←hBB,hht]
   refine ca ?_
   refine aQ (fun j:Nat=>[(0,s.frozen o),(3, .pt 1 1 0 0),(4, .fn (.func 88) [] [.pt 1 1 0 0]),(18,i64 s.bg.length),(19,i64 i),(5,i64 i),(6, .pt (n+8) 1 0 0),(38, .agg ((List.range 16).map fun j=>i64 (c.di j))),(39,i64 j)])
    (fun j H' n'=>j≤16∧n+9≤n'∧rV 1 (B++((List.range 16).take j).flatMap (fun j=>cy (c.di j))) H' n'∧∃d,bf H' (n+8)=some (.row 152 19 d [c.frozen])) (fun j=>16 - j) 0
    ⟨_,_,_,Rt.refl _ _ _,cG,Nat.zero_le _,cO,(by rw[show(List.range 16).take 0=[] from rfl,List.flatMap_nil,List.append_nil,hBa];exact rV.app (q:=q3) bo bo hne3 cO),⟨_,bo⟩⟩ ?_
   clear p1 p2 r8 a0
   rintro j H4 n4 ⟨hj,hn4,hB4,⟨d8,r8⟩⟩
   simp only[bk.frozen]
   by_cases hjl:j<16
   ·have e0:∀d,((List.range 16).map fun j=>i64 (c.di j)).getD ((j:Int)).toNat d=i64 (c.di j):=fun d=>by
     rw[Int.toNat_natCast,List.getD,List.getElem?_map,List.getElem?_range hjl];rfl
    have e1:∀d,((List.range 16).map fun j=>i64 (c.di j)).getD (((j:Int)).toNat * 1) d=i64 (c.di j):=fun d=>by rw[Nat.mul_one];exact e0 d
    have hle2:=kL (fun j=>cy (c.di j)) (l:=List.range 16) (j:=j) (by simpa using hjl) 0
    have hnx2:=ft (fun j=>cy (c.di j)) (l:=List.range 16) (j:=j) (by simpa using hjl) 0
    have hrg:(List.range 16).getD j 0=j:=by simp[List.getD,hjl]
    rw[hrg] at hle2 hnx2
    have hrl:((List.range 16).flatMap fun j=>cy (c.di j)).length=(dh c).length:=rfl
    refine ca ?_
    refine aP (eN (hB4.skip (by omega) ?_) (by omega) (by rw[List.length_append];omega) (hc.di j hjl)) ?_
    ·exact fun y hy=>cA
    rintro r H5 n5 ⟨rfl,hn5,hB5,ho5⟩
    have r8':=ho5.row (y:=n+8) cO (by omega) bo (by decide)
    refine ca ?_
    exact⟨j+1,by omega,_,_,_,Rt.refl _ _ _,cG,by omega,cO,by rw[hnx2,←List.append_assoc];exact hB5.skip (by omega) fun y hy=>cA,⟨_,bo⟩⟩
   ·obtain rfl:j=16:=by omega
    rw[show(List.range 16).take 16=List.range 16 from rfl] at hB4
    change rV 1 (B++dh c) H4 n4 at hB4
    obtain⟨q4,hq4,⟨⟨g1,p1⟩,⟨g2,p2⟩,hne4⟩⟩:=hB4
    have hq8:q4≠n+8:=fun e=>by rw[e,r8] at p2;cases p2
    have a0:(dJ (B++dh c)).length=(B++dh c).length:=List.length_map _
    have hBr:(B++dh c).length=B.length+(dh c).length:=List.length_append
    refine ca ?_
    simp only[List.length_map]
    refine aQ (fun j:Nat=>[(0,s.frozen o),(3, .pt 1 1 0 0),(4, .fn (.func 88) [] [.pt 1 1 0 0]),(18,i64 s.bg.length),(19,i64 i),(5,i64 i),(50, .im 3 .any (c.buf.map cx.av)),(51,i64 c.buf.length),(52,i64 j)])
     (fun j H' n'=>j≤c.buf.length∧n+9≤n'∧rV 1 (B++dh c++[47]++(c.buf.take j).flatMap storeT) H' n') (fun j=>c.buf.length - j) 0
     ⟨_,_,_,Rt.refl _ _ _,cG,Nat.zero_le _,cO,(by rw[List.take_zero,List.flatMap_nil,List.append_nil];exact rV.app (q:=q4) bo bo hne4 cO)⟩ ?_
    clear p1 p2 r8 hBr
    rintro j H4 n4 ⟨hj,hn4,hB4⟩
    simp only[bk.frozen]
    have hBr:(B++dh c++[47]).length=B.length+(dh c).length+1:=by simp only[List.length_append,List.length_cons,List.length_nil]
    by_cases hjl:j<c.buf.length
    ·have e0:∀d,(c.buf.map cx.av).getD ((j:Int)).toNat d=(c.buf.getD j default).av:=fun d=>by rw[Int.toNat_natCast];exact dR _ _ _ d hjl
     have hle2:=kL storeT hjl default
     have hnx2:=ft storeT hjl default
     have hsw:=hc.buf _ (gk default hjl)
     have a1:(c.buf.map cx.av).length=c.buf.length:=List.length_map _
     generalize c.buf.getD j default=x at *
     have hxl:(storeT x).length=(cy x.pc).length+((cy x.addr).length+(cy x.word).length):=by simp only[storeT,List.length_append]
     refine ca ?_
     refine aP (eN (hB4.skip (by omega) ?_) (by omega) (by rw[List.length_append];omega) hsw.1) ?_
     ·exact fun y hy=>cA
     rintro r H5 n5 ⟨rfl,hn5,hB5,ho5⟩
     have r9:=ho5.row (y:=n4+3) (e:=125) (sz:=3) (d:=_) (es:=_) cO (by omega) bo (by decide)
     refine ca ?_
     refine aP (eN (hB5.skip (by omega) ?_) (by omega) (by simp only[List.length_append] at *;omega) hsw.2.1) ?_
     ·exact fun y hy=>cA
     rintro r H6 n6 ⟨rfl,hn6,hB6,ho6⟩
     have r9':=ho6.row (y:=n4+3) (e:=125) (sz:=3) (d:=_) (es:=_) cO (by omega) bo (by decide)
     refine ca ?_
     refine aP (eN (hB6.skip (by omega) ?_) (by omega) (by simp only[List.length_append] at *;omega) hsw.2.2) ?_
     ·exact fun y hy=>cA
     rintro r H7 n7 ⟨rfl,hn7,hB7,ho7⟩
     refine ca ?_
     exact⟨j+1,by omega,_,_,_,Rt.refl _ _ _,cG,by omega,cO,by rw[hnx2];simp only[storeT,←List.append_assoc] at hB7 ⊢;exact hB7.skip (by omega) fun y hy=>cA⟩
    ·obtain rfl:j=c.buf.length:=by omega
     rw[List.take_length] at hB4
     obtain⟨q4,hq4,⟨⟨g1,p1⟩,⟨g2,p2⟩,hne4⟩⟩:=hB4
     have a0:(dJ (B++dh c++[47]++c.buf.flatMap storeT)).length=(B++dh c++[47]++c.buf.flatMap storeT).length:=List.length_map _
     have hBb:(B++dh c++[47]++c.buf.flatMap storeT).length=B.length+(dh c).length+1+(c.buf.flatMap storeT).length:=by rw[List.length_append,hBr]
     have hend:(s.bg.take (i+1)).flatMap dY=(B++dh c++[47]++c.buf.flatMap storeT)++[124]:=by rw[hnx,hBe];simp[dY]
     refine ca ?_
     refine⟨i+1,by omega,_,_,_,Rt.refl _ _ _,cG,by omega,cO,(by rw[hend];exact rV.app (q:=q4) bo bo hne4 cO)⟩
  ·have hht:ec c=[]:=by unfold ec;rw[if_neg hh]
   have hh:c.halted=false:=by simpa using hh
   generalize hBB:(s.bg.take i).flatMap dY++cy c.pc++ec c=B at *
   have hBa:B=((s.bg.take i).flatMap dY++cy c.pc):=by rw[←hBB,hht,List.append_nil]
   rw[←hBa] at hB2
   refine ca ?_
   refine aQ (fun j:Nat=>[(0,s.frozen o),(3, .pt 1 1 0 0),(4, .fn (.func 88) [] [.pt 1 1 0 0]),(18,i64 s.bg.length),(19,i64 i),(5,i64 i),(6, .pt (n+8) 1 0 0),(38, .agg ((List.range 16).map fun j=>i64 (c.di j))),(39,i64 j)])
    (fun j H' n'=>j≤16∧n+9≤n'∧rV 1 (B++((List.range 16).take j).flatMap (fun j=>cy (c.di j))) H' n'∧∃d,bf H' (n+8)=some (.row 152 19 d [c.frozen])) (fun j=>16 - j) 0
    ⟨_,_,_,Rt.refl _ _ _,cG,Nat.zero_le _,cO,(by rw[show(List.range 16).take 0=[] from rfl,List.flatMap_nil,List.append_nil];exact hB2.skip (by omega) fun y hy=>cA),⟨_,bo⟩⟩ ?_
   clear hB2 r8
   rintro j H4 n4 ⟨hj,hn4,hB4,⟨d8,r8⟩⟩
   simp only[bk.frozen]
   by_cases hjl:j<16
   ·have e0:∀d,((List.range 16).map fun j=>i64 (c.di j)).getD ((j:Int)).toNat d=i64 (c.di j):=fun d=>by
     rw[Int.toNat_natCast,List.getD,List.getElem?_map,List.getElem?_range hjl];rfl
    have e1:∀d,((List.range 16).map fun j=>i64 (c.di j)).getD (((j:Int)).toNat * 1) d=i64 (c.di j):=fun d=>by rw[Nat.mul_one];exact e0 d
    have hle2:=kL (fun j=>cy (c.di j)) (l:=List.range 16) (j:=j) (by simpa using hjl) 0
    have hnx2:=ft (fun j=>cy (c.di j)) (l:=List.range 16) (j:=j) (by simpa using hjl) 0
    have hrg:(List.range 16).getD j 0=j:=by simp[List.getD,hjl]
    rw[hrg] at hle2 hnx2
    have hrl:((List.range 16).flatMap fun j=>cy (c.di j)).length=(dh c).length:=rfl
    refine ca ?_
    refine aP (eN (hB4.skip (by omega) ?_) (by omega) (by rw[List.length_append];omega) (hc.di j hjl)) ?_
    ·exact fun y hy=>cA
    rintro r H5 n5 ⟨rfl,hn5,hB5,ho5⟩
    have r8':=ho5.row (y:=n+8) cO (by omega) bo (by decide)
    refine ca ?_
    exact⟨j+1,by omega,_,_,_,Rt.refl _ _ _,cG,by omega,cO,by rw[hnx2,←List.append_assoc];exact hB5.skip (by omega) fun y hy=>cA,⟨_,bo⟩⟩
   ·obtain rfl:j=16:=by omega
    rw[show(List.range 16).take 16=List.range 16 from rfl] at hB4
    change rV 1 (B++dh c) H4 n4 at hB4
    obtain⟨q4,hq4,⟨⟨g1,p1⟩,⟨g2,p2⟩,hne4⟩⟩:=hB4
    have hq8:q4≠n+8:=fun e=>by rw[e,r8] at p2;cases p2
    have a0:(dJ (B++dh c)).length=(B++dh c).length:=List.length_map _
    have hBr:(B++dh c).length=B.length+(dh c).length:=List.length_append
    refine ca ?_
    simp only[List.length_map]
    refine aQ (fun j:Nat=>[(0,s.frozen o),(3, .pt 1 1 0 0),(4, .fn (.func 88) [] [.pt 1 1 0 0]),(18,i64 s.bg.length),(19,i64 i),(5,i64 i),(50, .im 3 .any (c.buf.map cx.av)),(51,i64 c.buf.length),(52,i64 j)])
     (fun j H' n'=>j≤c.buf.length∧n+9≤n'∧rV 1 (B++dh c++[47]++(c.buf.take j).flatMap storeT) H' n') (fun j=>c.buf.length - j) 0
     ⟨_,_,_,Rt.refl _ _ _,cG,Nat.zero_le _,cO,(by rw[List.take_zero,List.flatMap_nil,List.append_nil];exact rV.app (q:=q4) bo bo hne4 cO)⟩ ?_
    clear p1 p2 r8 hBr
    rintro j H4 n4 ⟨hj,hn4,hB4⟩
    simp only[bk.frozen]
    have hBr:(B++dh c++[47]).length=B.length+(dh c).length+1:=by simp only[List.length_append,List.length_cons,List.length_nil]
    by_cases hjl:j<c.buf.length
    ·have e0:∀d,(c.buf.map cx.av).getD ((j:Int)).toNat d=(c.buf.getD j default).av:=fun d=>by rw[Int.toNat_natCast];exact dR _ _ _ d hjl
     have hle2:=kL storeT hjl default
     have hnx2:=ft storeT hjl default
     have hsw:=hc.buf _ (gk default hjl)
     have a1:(c.buf.map cx.av).length=c.buf.length:=List.length_map _
     generalize c.buf.getD j default=x at *
     have hxl:(storeT x).length=(cy x.pc).length+((cy x.addr).length+(cy x.word).length):=by simp only[storeT,List.length_append]
     refine ca ?_
     refine aP (eN (hB4.skip (by omega) ?_) (by omega) (by rw[List.length_append];omega) hsw.1) ?_
     ·exact fun y hy=>cA
     rintro r H5 n5 ⟨rfl,hn5,hB5,ho5⟩
     have r9:=ho5.row (y:=n4+3) (e:=125) (sz:=3) (d:=_) (es:=_) cO (by omega) bo (by decide)
     refine ca ?_
     refine aP (eN (hB5.skip (by omega) ?_) (by omega) (by simp only[List.length_append] at *;omega) hsw.2.1) ?_
     ·exact fun y hy=>cA
     rintro r H6 n6 ⟨rfl,hn6,hB6,ho6⟩
     have r9':=ho6.row (y:=n4+3) (e:=125) (sz:=3) (d:=_) (es:=_) cO (by omega) bo (by decide)
     refine ca ?_
     refine aP (eN (hB6.skip (by omega) ?_) (by omega) (by simp only[List.length_append] at *;omega) hsw.2.2) ?_
     ·exact fun y hy=>cA
     rintro r H7 n7 ⟨rfl,hn7,hB7,ho7⟩
     refine ca ?_
     exact⟨j+1,by omega,_,_,_,Rt.refl _ _ _,cG,by omega,cO,by rw[hnx2];simp only[storeT,←List.append_assoc] at hB7 ⊢;exact hB7.skip (by omega) fun y hy=>cA⟩
    ·obtain rfl:j=c.buf.length:=by omega
     rw[List.take_length] at hB4
     obtain⟨q4,hq4,⟨⟨g1,p1⟩,⟨g2,p2⟩,hne4⟩⟩:=hB4
     have a0:(dJ (B++dh c++[47]++c.buf.flatMap storeT)).length=(B++dh c++[47]++c.buf.flatMap storeT).length:=List.length_map _
     have hBb:(B++dh c++[47]++c.buf.flatMap storeT).length=B.length+(dh c).length+1+(c.buf.flatMap storeT).length:=by rw[List.length_append,hBr]
     have hend:(s.bg.take (i+1)).flatMap dY=(B++dh c++[47]++c.buf.flatMap storeT)++[124]:=by rw[hnx,hBe];simp[dY]
     refine ca ?_
     refine⟨i+1,by omega,_,_,_,Rt.refl _ _ _,cG,by omega,cO,(by rw[hend];exact rV.app (q:=q4) bo bo hne4 cO)⟩
 ·obtain rfl:i=s.bg.length:=by omega
  rw[List.take_length] at hB
  generalize hCC:s.bg.flatMap dY=C at *
  have hml:=hlk.mem
  refine ca ?_
  simp only[List.length_map]
  refine aQ (fun j:Nat=>[(0,s.frozen o),(3, .pt 1 1 0 0),(4, .fn (.func 88) [] [.pt 1 1 0 0]),(74, .im 1 .any (s.mem.map i64)),(75,i64 s.mem.length),(76,i64 j)])
   (fun j H' n'=>j≤s.mem.length∧2≤n'∧rV 1 (C++(s.mem.take j).flatMap cy) H' n') (fun j=>s.mem.length - j) 0
   ⟨_,_,_,Rt.refl _ _ _,cG,Nat.zero_le _,cO,by rw[List.take_zero,List.flatMap_nil,List.append_nil];exact hB.skip (by omega) fun y hy=>cA⟩ ?_
  clear hB hn
  rintro j H n ⟨hj,hn,hB⟩
  simp only[bk.frozen]
  by_cases hjl:j<s.mem.length
  ·have e0:∀d,(s.mem.map i64).getD ((j:Int)).toNat d=i64 (s.mem.getD j 0):=fun d=>ints_at hjl d
   have hle2:=kL cy hjl 0
   have hnx2:=ft cy hjl 0
   have a1:(s.mem.map i64).length=s.mem.length:=List.length_map _
   refine ca ?_
   refine aP (eN (hB.skip (by omega) ?_) (by omega) (by rw[List.length_append];omega) (hw.mem _ (gk 0 hjl))) ?_
   ·exact fun y hy=>cA
   rintro r H5 n5 ⟨rfl,hn5,hB5,ho5⟩
   refine ca ?_
   exact⟨j+1,by omega,_,_,_,Rt.refl _ _ _,cG,by omega,cO,by rw[hnx2,←List.append_assoc];exact hB5.skip (by omega) fun y hy=>cA⟩
  ·obtain rfl:j=s.mem.length:=by omega
   rw[List.take_length] at hB
   obtain⟨q4,hq4,⟨⟨g1,p1⟩,⟨g2,p2⟩,hne4⟩⟩:=hB
   have a0:(dJ (C++s.mem.flatMap cy)).length=(C++s.mem.flatMap cy).length:=List.length_map _
   have hCl:(C++s.mem.flatMap cy).length=C.length+(s.mem.flatMap cy).length:=List.length_append
   have hCl2:(C++s.mem.flatMap cy++[124]).length=C.length+(s.mem.flatMap cy).length+1:=by rw[List.length_append,hCl];rfl
   have hpl:=hlk.bh
   refine ca ?_
   simp only[List.length_map]
   refine aQ (fun j:Nat=>[(0,s.frozen o),(3, .pt 1 1 0 0),(4, .fn (.func 88) [] [.pt 1 1 0 0]),(88, .im 2 .any (s.bh.map cH.av)),(89,i64 s.bh.length),(90,i64 j)])
    (fun j H' n'=>j≤s.bh.length∧2≤n'∧rV 1 (C++s.mem.flatMap cy++[124]++(s.bh.take j).flatMap fQ) H' n') (fun j=>s.bh.length - j) 0
    ⟨_,_,_,Rt.refl _ _ _,cG,Nat.zero_le _,cO,by rw[List.take_zero,List.flatMap_nil,List.append_nil];exact rV.app (q:=q4) bo bo hne4 cO⟩ ?_
   clear p1 p2 hn a0
   rintro j H n ⟨hj,hn,hB⟩
   simp only[bk.frozen]
   by_cases hjl:j<s.bh.length
   ·have e0:∀d,(s.bh.map cH.av).getD ((j:Int)).toNat d=(s.bh.getD j default).av:=fun d=>by rw[Int.toNat_natCast];exact dR _ _ _ d hjl
    have hle2:=kL fQ hjl default
    have hnx2:=ft fQ hjl default
    have hpw:=hw.bh _ (gk default hjl)
    have a1:(s.bh.map cH.av).length=s.bh.length:=List.length_map _
    generalize s.bh.getD j default=x at *
    have hxl:(fQ x).length=(cy x.cn).length+(cy x.word).length:=by simp only[fQ,List.length_append]
    refine ca ?_
    refine aP (eN (hB.skip (by omega) ?_) (by omega) (by rw[List.length_append];omega) hpw.1) ?_
    ·exact fun y hy=>cA
    rintro r H5 n5 ⟨rfl,hn5,hB5,ho5⟩
    have r9:=ho5.row (y:=n+3) (e:=68) (sz:=2) (d:=_) (es:=_) cO (by omega) bo (by decide)
    refine ca ?_
    refine aP (eN (hB5.skip (by omega) ?_) (by omega) (by simp only[List.length_append] at *;omega) hpw.2) ?_
    ·exact fun y hy=>cA
    rintro r H6 n6 ⟨rfl,hn6,hB6,ho6⟩
    refine ca ?_
    exact⟨j+1,by omega,_,_,_,Rt.refl _ _ _,cG,by omega,cO,by rw[hnx2];simp only[fQ,←List.append_assoc] at hB6 ⊢;exact hB6.skip (by omega) fun y hy=>cA⟩
   ·obtain rfl:j=s.bh.length:=by omega
    rw[List.take_length] at hB
    have hend:C++s.mem.flatMap cy++[124]++s.bh.flatMap fQ=eD s:=by rw[←hCC];simp[eD]
    rw[hend] at hB
    obtain⟨q4,hq4,⟨⟨g1,p1⟩,⟨g2,p2⟩,hne4⟩⟩:=hB
    have a0:(dJ (eD s)).length=(eD s).length:=List.length_map _
    have g0:iD (dJ (eD s))=some ((eD s).map fun b=>(b.toNat:Int)):=uu _
    refine ca ?_
    exact⟨by rw[NR];rfl⟩
end Go.Proofs.YtlonbgdonffcbaaGreatDoor
end
section
/- Keys are short; a machine in rows told by value, within a list of what was found; what has been seen, as a map. -/
namespace Go.Proofs.YtlonbgdonffcbaaGreatDoor
open Go Go.cY Go.Proofs
set_option linter.unusedSimpArgs false
set_option linter.unusedVariables false
set_option maxRecDepth 8000
theorem lW {α:Type} (f:α→List UInt8) (k:Nat):∀l:List α,(∀a∈l,(f a).length≤k)→(l.flatMap f).length≤l.length * k
 |[],_=>by simp
 |a::l,h=>by
  have h1:=lW f k l fun b hb=>h b (by simp[hb])
  have h2:=h a (by simp)
  rw[List.flatMap_cons,List.length_append,List.length_cons,Nat.add_mul]
  omega
theorem jP (x:Int):(cy x).length≤16:=by
 have:=uJ x
 simp only[cy,List.length_append,List.length_cons,List.length_nil];omega
theorem DX {c:bx} (h:c.buf.length<1000):(dY c).length≤100000:=by
 have h0:=jP c.pc
 have h1:(ec c).length≤1:=by unfold ec;split<;>simp
 have h2:=lW (fun j=>cy (c.di j)) 16 (List.range 16) fun j _=>jP _
 have h3:=lW storeT 48 c.buf fun x _=>by
  have:=jP x.pc
  have:=jP x.addr
  have:=jP x.word
  simp only[storeT,List.length_append];omega
 rw[List.length_range] at h2
 have e:(dY c).length=(cy c.pc).length+((ec c).length+(((List.range 16).flatMap fun j=>cy (c.di j)).length+(1+((c.buf.flatMap storeT).length+1)))):=by
  simp only[dY,dh,List.length_append,List.length_cons,List.length_nil];omega
 rw[e];omega
theorem eH.M5 {s:bk} (h:eH s) (hp:s.bh.length≤1048576):(eD s).length≤140737488340000:=by
 have h1:=lW dY 100000 s.bg fun c hc=>by
  obtain⟨q,hq,rfl⟩:=List.mem_iff_getElem.1 hc
  refine DX ?_
  rw[←uy hq]
  exact h.buf q hq
 have h2:=lW cy 16 s.mem fun w _=>jP w
 have h3:=lW fQ 32 s.bh fun p _=>by
  have:=jP p.cn
  have:=jP p.word
  simp only[fQ,List.length_append];omega
 have hc:=h.bg
 have hm:=h.mem
 have e:(eD s).length=(s.bg.flatMap dY).length+((s.mem.flatMap cy).length+(1+(s.bh.flatMap fQ).length)):=by
  simp only[eD,List.length_append,List.length_cons];omega
 rw[e];omega
theorem pP.look {o:Obj} {s:bk} (h:pP o s) (ok:cz o) (hp:s.bh.length≤1048576):eH s:=h.iE.G2 ok (by omega)
theorem E4 {o:Obj} {s:bk} (h:pP o s) (ok:cz o) (hp:s.bh.length≤1048576):Pure Tryz.prog 62 [s.frozen o] (fun r=>r= .sc (.string (sH (eD s)))):=
 E5 o s h.w (h.look ok hp) ((h.look ok hp).M5 hp)
def jA (S:List Nat) (H:Hp):Hp:=S.map fun y=>(y,bf H y)
theorem wx {S:List Nat} {H:Hp} {y:Nat} (h:y∈S):bf (jA S H) y=bf H y:=by
 induction S with
 |nil=>cases h
 |cons x S ih=>
  rw[jA,List.map_cons]
  by_cases e:y=x
  ·subst e;exact cN _ _ _
  ·rw[bj e]
   exact ih (by simpa[e] using h)
theorem oX {S:List Nat} {H:Hp} {y:Nat} {q:eB} (h:bf (jA S H) y=some q):bf H y=some q:=by
 have:y∈S:=by
  have:=nG h
  simpa[jA] using this
 rw[wx this] at h;exact h
theorem dn {S:List Nat} {H H2:Hp} {y:Nat} (h:y∉S):bf (lu (jA S H) H2) y=bf H2 y:=fp (by simpa[jA] using h)
theorem fS.rW {o:Obj} {s:bk} {L:Lay} {H:Hp} {nx:Nat} (h:fS o s L H nx) (k:Nat):Go.cY.gF (jA L.ids H) (k+5) (.pt L.m 1 0 0)=s.frozen o:=by
 have h:=h.dS (H':=jA L.ids H) (fun y hy=>wx hy) (Nat.le_refl _)
 generalize jA L.ids H=G at *
 obtain⟨d1,h1⟩:=h.m
 obtain⟨d2,h2⟩:=h.c
 obtain⟨d3,h3⟩:=h.mem
 obtain⟨d4,h4⟩:=h.pr
 have hcores:(rows s L).map (Go.cY.gF G (k+2))=s.bg.map bx.frozen:=by
  apply List.ext_getElem
  ·simp[rows,h.lens]
  ·intro i p1 p2
   have hi:i<s.bg.length:=by simpa using p2
   have hib:i<L.c9.length:=by rw[h.lens];exact hi
   obtain⟨d5,h5⟩:=h.c9 i hi
   have e1:L.c9.getD i 0=L.c9[i]:=by simp[List.getD,hib]
   have e2:s.bg.getD i default=s.bg[i]:=by simp[List.getD,hi]
   rw[e1,e2] at h5
   simp only[List.getElem_map,rows,List.getElem_zipWith,bx.av]
   rw[qd]
   unfold bx.frozen
   congr 1
   simp only[bx.cells,List.map_cons,List.map_nil]
   rw[p0 h5 (by simp),gm _ (show cJ 0 (s.bg[i].buf.map cx.av) by simp[cI,cB,cJ])]
   repeat rw[ff (k+1) (by simp[cB])]
 rw[show Go.cY.gF G (k+5) (.pt L.m 1 0 0)= .ip 8 .any ([kG o s L].map (Go.cY.gF G (k+4))) 0 0 from JQ h1 rfl]
 simp only[List.map_cons,List.map_nil,kG]
 rw[qd]
 simp only[List.map_cons,List.map_nil]
 rw[p0 h2 (dK h),p0 h3 (by simp),p0 h4 (by simp),hcores]
 rw[gm _ (show cJ 0 (s.mem.map i64) by simp[cI,cB]),gm _ (show cJ 0 (s.bh.map cH.av) by simp[cI,cB,cJ]),ff _ (show cB 0 (.im 2 .any (o.bg.map Core.av)) by simp[cI,cB,cJ]),ff _ (show cB 0 (.sc (.slice none 0 0)) by simp[cB]),ff _ (show cB 0 (i64 o.shared) by simp[cB]),ff _ (show cB 0 (i64 o.iG) by simp[cB]),ff _ (show cB 0 (i64 o.buffer) by simp[cB])]
 rfl
def kj:List cC→AV
 |[]=> .sc (.slice none 0 0)
 |x::l=>jC (x::l)
theorem EA (n:Nat):∀l,cB n (kj l)
 |[]=>by simp[kj,cB]
 |x::l=>by simp[kj,cB,cJ,cI]
theorem DQ {l:List cC} (h:l≠[]):kj l=jC l:=by
 cases l with
 |nil=>exact absurd rfl h
 |cons x l=>rfl
def bw.cells (o:Obj) (f:bw):List AV:=[f.m.frozen o,i64 f.from_,kj f.xE]
abbrev bw.av (o:Obj) (f:bw):AV:= .agg (f.cells o)
abbrev fN (o:Obj) (l:List bw):AV:= .im 3 .any (l.map (bw.av o))
theorem gh (o:Obj) (l:List bw):cJ 0 (l.map (bw.av o)):=(cI _ _).2 fun f _=>by
 have h1:=ic o f.m
 have h2:=EA 0 f.xE
 simp[bw.av,bw.cells,cB,cJ,h1,h2]
theorem sk {o:Obj} {s:bk} {L:Lay} {H:Hp} {n lb nx:Nat} {d:AV} {l:List bw} {fr:Int} {mv:List cC} {a:AV} (hM:fS o s L H n) (ha:Go.cY.gF (jA L.ids H) 5 a=kj mv) (hl:bf H lb=some (.row 85 3 d (l.map (bw.av o)++[.agg [.pt L.m 1 0 0,i64 fr,a]]))) (hlb:lb∉L.ids):
 Wk .any H nx .any (lu (jA L.ids H) ((lb,some (.row 85 3 .any ((l++[(⟨s,fr,mv⟩:bw)]).map (bw.av o))))::H)) nx:=by
 have:=Wk.gF (nx:=nx) (jA L.ids H) 6 .any hl (fun b q hq=>oX hq)
 rw[List.map_append,gm _ (gh o l),List.map_cons,List.map_nil,qd,List.map_cons,List.map_cons,List.map_cons,List.map_nil,hM.rW 0,ff _ (show cB 0 (i64 fr) by simp[cB]),ha] at this
 rw[List.map_append]
 exact this
theorem KW {a b:List UInt8} (h:sH a=sH b):a=b:=by
 have:=congrArg (fun x:ByteArray=>x.data.toList) h
 simpa[sH] using this
abbrev ij (l:List bw):List (ByteArray×Int):=l.map fun f=>(sH (eD f.m),1)
abbrev lB (l:List bw):List AV:=qw (fun s:ByteArray=>Value.string s) i64 (ij l)
theorem ql (l:List bw) (k:List UInt8):ir (ij l) (sH k)=if k∈ed l then some 1 else none:=by
 split
 ·rename_i h
  cases hl:ir (ij l) (sH k) with
  |none=>
   exfalso
   refine(oM _ _).1 hl ?_
   rw[List.map_map]
   obtain⟨f,h1,h2⟩:=List.mem_map.1 h
   exact List.mem_map.2 ⟨f,h1,by simp only[Function.comp];rw[h2]⟩
  |some v=>
   have hv:∀(l:List bw),ir (ij l) (sH k)=some v→v=1:=by
    intro l
    induction l with
    |nil=>intro h;cases h
    |cons f l ih=>
     intro h
     rw[ij,List.map_cons,ir] at h
     split at h
     ·cases h;rfl
     ·exact ih h
   rw[hv l hl]
 ·rename_i h
  refine(oM _ _).2 fun hm=>h ?_
  rw[List.map_map] at hm
  obtain⟨f,h1,h2⟩:=List.mem_map.1 hm
  simp only[Function.comp] at h2
  exact List.mem_map.2 ⟨f,h1,KW h2⟩
theorem BJ {l:List bw} {m:bk} {a:Int} {b:List cC} (h:eD m∉ed l):w4 (ij l) (sH (eD m)) 1=ij (l++[⟨m,a,b⟩]):=by
 have key:∀E:List (ByteArray×Int),ir E (sH (eD m))=none→w4 E (sH (eD m)) 1=E++[(sH (eD m),1)]:=by
  intro E
  induction E with
  |nil=>intro _;rfl
  |cons p E ih=>
   intro hn
   obtain⟨x,y⟩:=p
   rw[ir] at hn
   rw[w4]
   split at hn
   ·cases hn
   ·rename_i hx
    rw[if_neg hx,ih hn];rfl
 rw[key _ (by rw[ql,if_neg h]),ij,ij,List.map_append];rfl
end Go.Proofs.YtlonbgdonffcbaaGreatDoor
end
