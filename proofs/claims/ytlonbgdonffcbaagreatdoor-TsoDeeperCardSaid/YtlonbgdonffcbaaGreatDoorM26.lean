import Derived.Test.YtlonbgdonffcbaaGreatDoorM25
section
/- A situation's text: which situations it tells apart. -/
namespace Go.Proofs.YtlonbgdonffcbaaGreatDoor
open Go Go.cU Go.Proofs
set_option linter.unusedSimpArgs false
set_option linter.unusedVariables false
def d36 (n:Nat):UInt8:=if n<10 then UInt8.ofNat (48+n) else UInt8.ofNat (87+n)
def du:Nat→Nat→List UInt8→List UInt8
 |0,n,acc=>d36 n::acc
 |f+1,n,acc=>if n<36 then d36 n::acc else du f (n /36) (d36 (n%36)::acc)
def eT (x:Int):List UInt8:=if x<0 then 45::du 13 x.natAbs [] else du 13 x.toNat []
def ct (x:Int):List UInt8:=eT x++[32]
def dZ (c:bx):List UInt8:=(List.range 16).flatMap fun j=>ct (c.de j)
def storeT (x:dA):List UInt8:=ct x.pc++(ct x.addr++ct x.word)
def eY (c:bx):List UInt8:=if c.halted then[104] else[]
def dR (c:bx):List UInt8:=ct c.pc++(eY c++(dZ c++(47::(c.buf.flatMap storeT++[124]))))
def fL (p:cF):List UInt8:=ct p.cj++ct p.word
def dz (s:bk):List UInt8:=s.bd.flatMap dR++(s.mem.flatMap ct++(124::s.bg.flatMap fL))
def dv (c:UInt8):Nat:=if c.toNat<58 then c.toNat - 48 else c.toNat - 87
def sd (l:List UInt8):Nat:=l.foldl (fun v c=>v * 36+dv c) 0
theorem yW {n:Nat} (h:n<36):(d36 n).toNat=if n<10 then 48+n else 87+n:=by
 unfold d36
 split<;>simp<;>omega
theorem wu {n:Nat} (h:n<36):dv (d36 n)=n:=by
 unfold dv
 rw[yW h]
 split<;>split<;>omega
def pI (c:UInt8):Prop:=48≤c.toNat∧c.toNat≤57∨97≤c.toNat∧c.toNat≤122
theorem nh {n:Nat} (h:n<36):pI (d36 n):=by
 unfold pI
 rw[yW h]
 split<;>omega
theorem iI:∀(f n:Nat) (acc:List UInt8),du f n acc=du f n []++acc
 |0,n,acc=>rfl
 |f+1,n,acc=>by
  rw[du,du]
  split
  ·rfl
  ·rw[iI f _ (d36 (n%36)::acc),iI f _ [d36 (n%36)],List.append_assoc];rfl
theorem B1 (l:List UInt8) (c:UInt8):sd (l++[c])=sd l * 36+dv c:=by simp[sd]
theorem zP:∀(f n:Nat),n<36^(f+1)→sd (du f n [])=n
 |0,n,h=>by
  rw[du]
  have:n<36:=by simpa using h
  simp[sd,wu this]
 |f+1,n,h=>by
  rw[du]
  split
  ·rename_i h1;simp[sd,wu h1]
  ·rw[iI,B1,zP f _ (by rw[Nat.div_lt_iff_lt_mul (by omega)];rw[Nat.pow_succ] at h;exact h),wu (Nat.mod_lt _ (by omega))]
   omega
theorem mR:∀(f n:Nat),n<36^(f+1)→∀c∈du f n [],pI c
 |0,n,h=>by
  rw[du]
  intro c hc
  simp only[List.mem_cons,List.not_mem_nil,or_false] at hc
  subst hc
  exact nh (by simpa using h)
 |f+1,n,h=>by
  rw[du]
  split
  ·rename_i h1
   intro c hc
   simp only[List.mem_cons,List.not_mem_nil,or_false] at hc
   subst hc
   exact nh h1
  ·rw[iI]
   intro c hc
   rcases List.mem_append.1 hc with hc|hc
   ·exact mR f _ (by rw[Nat.div_lt_iff_lt_mul (by omega)];rw[Nat.pow_succ] at h;exact h) c hc
   ·simp only[List.mem_cons,List.not_mem_nil,or_false] at hc
    subst hc
    exact nh (Nat.mod_lt _ (by omega))
theorem LI:∀(f n:Nat),du f n []≠[]
 |0,n=>by simp[du]
 |f+1,n=>by
  rw[du]
  split
  ·simp
  ·rw[iI];simp
theorem tE:∀(f n:Nat),(du f n []).length≤f+1
 |0,n=>by simp[du]
 |f+1,n=>by
  rw[du]
  split
  ·simp
  ·rw[iI,List.length_append]
   have:=tE f (n /36)
   simp;omega
theorem vo {n:Nat} (h:n≤9223372036854775808):n<36^(13+1):=Nat.lt_of_le_of_lt h (by decide)
def CC (c:UInt8):Prop:=pI c∨c.toNat=45
theorem sZ {x:Int} (h:cu x):∀c∈eT x,CC c:=by
 intro c hc
 obtain⟨h1,h2⟩:=h
 unfold eT at hc
 split at hc
 ·rcases List.mem_cons.1 hc with rfl|hc
  ·exact .inr rfl
  ·exact .inl (mR _ _ (vo (by omega)) c hc)
 ·exact .inl (mR _ _ (vo (by omega)) c hc)
theorem MG (x:Int):eT x≠[]:=by
 unfold eT
 split
 ·simp
 ·exact LI _ _
theorem tS (x:Int):(eT x).length≤15:=by
 unfold eT
 split
 ·have:=tE 13 x.natAbs;simp;omega
 ·have:=tE 13 x.toNat;omega
theorem zB {x y:Int} (hx:cu x) (hy:cu y) (h:eT x=eT y):x=y:=by
 obtain⟨x1,x2⟩:=hx
 obtain⟨y1,y2⟩:=hy
 have d:=fun(n:Nat) (hn:n≤9223372036854775808)=>zP 13 n (vo hn)
 have hd:=fun(n:Nat) (hn:n≤9223372036854775808) (l:List UInt8) (e:45::l=du 13 n [])=>show False by
  have:=mR 13 n (vo hn) 45 (by rw[←e];simp)
  exact absurd this (by unfold pI;decide)
 unfold eT at h
 split at h<;>split at h
 ·have h:=List.cons.inj h
  have e1:=d x.natAbs (by omega)
  have e2:=d y.natAbs (by omega)
  rw[h.2,e2] at e1
  omega
 ·exact(hd _ (by omega) _ h).elim
 ·exact(hd _ (by omega) _ h.symm).elim
 ·have e1:=d x.toNat (by omega)
  have e2:=d y.toNat (by omega)
  rw[h,e2] at e1
  omega
theorem qk {c:UInt8}:∀{a b r r':List UInt8},c∉a→c∉b→a++c::r=b++c::r'→a=b∧r=r'
 |[],[],r,r',_,_,h=>⟨rfl,(List.cons.inj h).2⟩
 |[],y::b,r,r',_,hb,h=>by
  have:=(List.cons.inj h).1
  exact absurd (by simp[this]) hb
 |x::a,[],r,r',ha,_,h=>by
  have:=(List.cons.inj h).1
  exact absurd (by simp[this]) ha
 |x::a,y::b,r,r',ha,hb,h=>by
  obtain⟨h1,h2⟩:=List.cons.inj h
  obtain⟨h3,h4⟩:=qk (fun q=>ha (List.mem_cons_of_mem _ q)) (fun q=>hb (List.mem_cons_of_mem _ q)) h2
  exact⟨by rw[h1,h3],h4⟩
theorem mr {x:Int} (h:cu x):(32:UInt8)∉eT x:=fun hc=>by
 have:=sZ h _ hc
 unfold CC pI at this
 revert this;decide
theorem jJ {x y:Int} {r r':List UInt8} (hx:cu x) (hy:cu y) (h:ct x++r=ct y++r'):x=y∧r=r':=by
 unfold ct at h
 rw[List.append_assoc,List.append_assoc] at h
 obtain⟨h1,h2⟩:=qk (mr hx) (mr hy) h
 exact⟨zB hx hy h1,h2⟩
def la (c:UInt8):Prop:=c.toNat=47∨c.toNat=124
theorem qm {x:Int} (hx:cu x) {c:UInt8} {r r':List UInt8} (hc:la c):ct x++r≠c::r':=fun h=>by
 unfold ct at h
 rw[List.append_assoc] at h
 cases hn:eT x with
 |nil=>exact MG x hn
 |cons a l=>
  rw[hn] at h
  have h1:=(List.cons.inj h).1
  have h2:=sZ hx a (by rw[hn];simp)
  rw[h1] at h2
  unfold CC pI at h2
  unfold la at hc
  omega
section
variable {α:Type} {f:α→List UInt8} {P:α→Prop}
theorem mX (hi:∀x y r r',P x→P y→f x++r=f y++r'→x=y∧r=r') (hs:∀x c r r',P x→la c→f x++r≠c::r'):∀{l l':List α} {c c':UInt8} {r r':List UInt8},(∀x∈l,P x)→(∀x∈l',P x)→la c→la c'→l.flatMap f++c::r=l'.flatMap f++c'::r'→l=l'∧c::r=c'::r'
 |[],[],c,c',r,r',_,_,_,_,h=>⟨rfl,h⟩
 |[],y::l',c,c',r,r',_,h2,h3,_,h=>by
  rw[List.flatMap_cons,List.append_assoc] at h
  exact(hs y c _ _ (h2 y (by simp)) h3 h.symm).elim
 |x::l,[],c,c',r,r',h1,_,_,h4,h=>by
  rw[List.flatMap_cons,List.append_assoc] at h
  exact(hs x c' _ _ (h1 x (by simp)) h4 h).elim
 |x::l,y::l',c,c',r,r',h1,h2,h3,h4,h=>by
  rw[List.flatMap_cons,List.flatMap_cons,List.append_assoc,List.append_assoc] at h
  obtain⟨rfl,h5⟩:=hi x y _ _ (h1 x (by simp)) (h2 y (by simp)) h
  obtain⟨rfl,h6⟩:=mX hi hs (fun z hz=>h1 z (by simp[hz])) (fun z hz=>h2 z (by simp[hz])) h3 h4 h5
  exact⟨rfl,h6⟩
end
def pN (x:dA):Prop:=cu x.pc∧cu x.addr∧cu x.word
def kX (p:cF):Prop:=cu p.cj∧cu p.word
theorem BU (x y:dA) (r r':List UInt8) (hx:pN x) (hy:pN y) (h:storeT x++r=storeT y++r'):x=y∧r=r':=by
 obtain⟨xp,xa,xw⟩:=x
 obtain⟨yp,ya,yw⟩:=y
 obtain⟨x1,x2,x3⟩:=hx
 obtain⟨y1,y2,y3⟩:=hy
 unfold storeT at h
 dsimp only at *
 simp only[List.append_assoc] at h
 obtain⟨e1,h1⟩:=jJ x1 y1 h
 obtain⟨e2,h2⟩:=jJ x2 y2 h1
 obtain⟨e3,h3⟩:=jJ x3 y3 h2
 exact⟨by rw[e1,e2,e3],h3⟩
theorem yH (x:dA) (c:UInt8) (r r':List UInt8) (hx:pN x) (hc:la c):storeT x++r≠c::r':=by
 unfold storeT
 rw[List.append_assoc]
 exact qm hx.1 hc
theorem BD (x y:cF) (r r':List UInt8) (hx:kX x) (hy:kX y) (h:fL x++r=fL y++r'):x=y∧r=r':=by
 obtain⟨xp,xa⟩:=x
 obtain⟨yp,ya⟩:=y
 obtain⟨x1,x2⟩:=hx
 obtain⟨y1,y2⟩:=hy
 unfold fL at h
 dsimp only at *
 simp only[List.append_assoc] at h
 obtain⟨e1,h1⟩:=jJ x1 y1 h
 obtain⟨e2,h2⟩:=jJ x2 y2 h1
 exact⟨by rw[e1,e2],h2⟩
theorem xh (x:cF) (c:UInt8) (r r':List UInt8) (hx:kX x) (hc:la c):fL x++r≠c::r':=by
 unfold fL
 rw[List.append_assoc]
 exact qm hx.1 hc
structure kH (c:bx):Prop where
 pc:cu c.pc
 de:∀j,j<16→cu (c.de j)
 buf:∀x∈c.buf,pN x
def bx.tl (c:bx):Nat:=(eY c).length+(eT (c.de 0)).length
theorem OI (c:bx):c.tl≤16:=by
 unfold bx.tl eY
 have:=tS (c.de 0)
 split<;>simp<;>omega
structure CB (c c':bx):Prop where
 pc:c.pc=c'.pc
 buf:c.buf=c'.buf
 tl:c.tl=c'.tl
 de:c.halted=c'.halted→∀j,j<16→c.de j=c'.de j
theorem sO {c:bx}:(32:UInt8)∉eY c:=by
 unfold eY
 split<;>decide
theorem wE (c:bx):dZ c=eT (c.de 0)++32::([1,2,3,4,5,6,7,8,9,10,11,12,13,14,15].flatMap fun j=>ct (c.de j)):=by
 unfold dZ
 rw[show List.range 16=0::[1,2,3,4,5,6,7,8,9,10,11,12,13,14,15] from rfl,List.flatMap_cons,ct,List.append_assoc]
 rfl
theorem wF {g g':Nat→Int} {r r':List UInt8}:∀{js:List Nat},(∀j∈js,cu (g j))→(∀j∈js,cu (g' j))→(js.flatMap fun j=>ct (g j))++r=(js.flatMap fun j=>ct (g' j))++r'→(∀j∈js,g j=g' j)∧r=r'
 |[],_,_,h=>⟨by simp,h⟩
 |j::js,h1,h2,h=>by
  rw[List.flatMap_cons,List.flatMap_cons,List.append_assoc,List.append_assoc] at h
  obtain⟨h3,h4⟩:=jJ (h1 j (by simp)) (h2 j (by simp)) h
  obtain⟨h5,h6⟩:=wF (fun q hq=>h1 q (by simp[hq])) (fun q hq=>h2 q (by simp[hq])) h4
  refine⟨fun q hq=> ?_,h6⟩
  rcases List.mem_cons.1 hq with rfl|hq
  ·exact h3
  ·exact h5 q hq
theorem JP {j:Nat} (h:j<16):j=0∨j∈[1,2,3,4,5,6,7,8,9,10,11,12,13,14,15]:=by
 simp only[List.mem_cons,List.not_mem_nil,or_false];omega
theorem sU {j:Nat} (h:j∈[1,2,3,4,5,6,7,8,9,10,11,12,13,14,15]):j<16:=by
 simp only[List.mem_cons,List.not_mem_nil,or_false] at h;omega
theorem C4 {c c':bx} {r r':List UInt8} (hc:kH c) (hc':kH c') (h:dR c++r=dR c'++r'):CB c c'∧r=r':=by
 unfold dR at h
 simp only[List.append_assoc,List.cons_append,List.nil_append] at h
 obtain⟨h1,h⟩:=jJ hc.pc hc'.pc h
 rw[wE,wE] at h
 simp only[List.append_assoc,List.cons_append] at h
 rw[←List.append_assoc,←List.append_assoc (eY c')] at h
 have n1:(32:UInt8)∉eY c++eT (c.de 0):=fun hm=>(List.mem_append.1 hm).elim sO (mr (hc.de 0 (by omega)))
 have n2:(32:UInt8)∉eY c'++eT (c'.de 0):=fun hm=>(List.mem_append.1 hm).elim sO (mr (hc'.de 0 (by omega)))
 obtain⟨h2,h⟩:=qk n1 n2 h
 obtain⟨h3,h⟩:=wF (fun j hj=>hc.de j (sU hj)) (fun j hj=>hc'.de j (sU hj)) h
 obtain⟨h4,h⟩:=mX (P:=pN) BU yH hc.buf hc'.buf (.inr rfl) (.inr rfl) (List.cons.inj h).2
 refine⟨⟨h1,h4, ?_,fun he j hj=> ?_⟩,(List.cons.inj h).2⟩
 ·have:=congrArg List.length h2
  simpa[bx.tl] using this
 ·rcases JP hj with rfl|hj
  ·refine zB (hc.de 0 (by omega)) (hc'.de 0 (by omega)) ?_
   have:eY c=eY c':=by unfold eY;rw[he]
   rw[this] at h2
   exact List.append_cancel_left h2
  ·exact h3 j hj
theorem rZ:∀{l l':List bx} {r r':List UInt8},l.length=l'.length→(∀c∈l,kH c)→(∀c∈l',kH c)→l.flatMap dR++r=l'.flatMap dR++r'→(∀q,q<l.length→CB (l.getD q default) (l'.getD q default))∧r=r'
 |[],[],r,r',_,_,_,h=>⟨fun q hq=>by simp at hq,h⟩
 |[],_::_,_,_,h,_,_,_=>by simp at h
 |_::_,[],_,_,h,_,_,_=>by simp at h
 |c::l,c'::l',r,r',hl,h1,h2,h=>by
  rw[List.flatMap_cons,List.flatMap_cons,List.append_assoc,List.append_assoc] at h
  obtain⟨h3,h4⟩:=C4 (h1 c (by simp)) (h2 c' (by simp)) h
  obtain⟨h5,h6⟩:=rZ (by simpa using hl) (fun z hz=>h1 z (by simp[hz])) (fun z hz=>h2 z (by simp[hz])) h4
  refine⟨fun q hq=> ?_,h6⟩
  cases q with
  |zero=>exact h3
  |succ q=>exact h5 q (by simpa using hq)
structure MW (s:bk):Prop where
 core:∀c∈s.bd,kH c
 mem:∀w∈s.mem,cu w
 bg:∀p∈s.bg,kX p
structure rQ (s d:bk):Prop where
 n:s.bd.length=d.bd.length
 core:∀q,q<s.bd.length→CB (s.core q) (d.core q)
 mem:s.mem=d.mem
 bg:s.bg=d.bg
theorem key_inj {s d:bk} (hs:MW s) (hd:MW d) (hn:s.bd.length=d.bd.length) (h:dz s=dz d):rQ s d:=by
 unfold dz at h
 obtain⟨h1,h⟩:=rZ hn hs.core hd.core h
 obtain⟨h2,h⟩:=mX (P:=cu) (f:=ct) (fun x y r r' hx hy=>jJ hx hy) (fun x c r r' hx hc=>qm hx hc) hs.mem hd.mem (.inr rfl) (.inr rfl) h
 have h:=(List.cons.inj h).2
 have h:=congrArg (·++[(124:UInt8)]) h
 obtain⟨h3,_⟩:=mX (P:=kX) BD xh hs.bg hd.bg (.inr rfl) (.inr rfl) h
 exact⟨hn,h1,h2,h3⟩
end Go.Proofs.YtlonbgdonffcbaaGreatDoor
end
section
/- A step of the machine, told by the core that does it; what is so of each situation. -/
namespace Go.Proofs.YtlonbgdonffcbaaGreatDoor
open Go Go.cU Go.Proofs
set_option linter.unusedSimpArgs false
set_option linter.unusedVariables false
def bx.inc (c:bx):bx:={ c with pc:=c.pc+1 }
def fH (q:Nat) (c:bx) (i:Instr) (mem:List Int) (pr:List cF):(bx×List Int×List cF)×Int:=
 if i.kind=1 then((c.inc.put i.d i.word,mem,pr),1)
 else if i.kind=2 then((c.inc.put i.d (KN i.op (c.de i.a.toNat) (c.de i.b.toNat)),mem,pr),1)
 else if i.kind=3 then((c.inc.put i.d (kR i.addr c.buf (mem.getD i.addr.toNat 0,false)).1,mem,pr),2)
 else if i.kind=4 then(({ c.inc with buf:=c.buf++[⟨c.pc,i.addr,c.de i.a.toNat⟩] },mem,pr),3)
 else if i.kind=5 then((c.inc.put i.d (mem.getD i.addr.toNat 0),mem.set i.addr.toNat (c.de i.d.toNat),pr),4)
 else if i.kind=6 then((c.inc,mem,pr),5)
 else if i.kind=7 then((c.inc,mem,pr++[⟨q,c.de i.a.toNat⟩]),6)
 else if i.kind=8 then(({ c.inc with pc:=i.to },mem,pr),1)
 else if i.kind=9 then((if c.de i.a.toNat=0 then { c.inc with pc:=i.to } else c.inc,mem,pr),1)
 else(({ c with halted:=true },mem,pr),7)
def bk.ta (s:bk) (q:Nat) (r:bx×List Int×List cF):bk:=⟨s.bd.set q r.1,r.2.1,r.2.2⟩
def eH (b:Int) (c:bx) (i:Instr):Bool:=if i.kind=4 then decide (b≤c.buf.length) else if i.kind=5∨i.kind=6∨i.kind=7 then decide ((0:Int)<c.buf.length) else false
theorem yD (o:Obj) (s:bk) (q:Nat) (i:Instr):ep o s q i=eH o.buffer (s.core q) i:=rfl
theorem K3 {s:bk} {q:Nat} (hq:q<s.bd.length) (i:Instr):
 (act (s.inc q) q i { lW with core:=q,pc:=(s.core q).pc }).1=s.ta q (fH q (s.core q) i s.mem s.bg).1∧(act (s.inc q) q i { lW with core:=q,pc:=(s.core q).pc }).2.kind=(fH q (s.core q) i s.mem s.bg).2:=by
 have hc:=qK hq
 have hm:(s.inc q).mem=s.mem:=rfl
 have hpr:(s.inc q).bg=s.bg:=rfl
 have hin:∀c:bx,(s.inc q).cn q c=s.cn q c:=fw
 by_cases k1:i.kind=1
 ·simp only[act,fH,if_pos k1,rf,hin,hc];exact⟨rfl,trivial⟩
 by_cases k2:i.kind=2
 ·simp only[act,fH,if_neg k1,if_pos k2,uV,hin,hc];exact⟨rfl,trivial⟩
 by_cases k3:i.kind=3
 ·simp only[act,fH,if_neg k1,if_neg k2,if_pos k3,ll,hin,hc,hm];exact⟨rfl,trivial⟩
 by_cases k4:i.kind=4
 ·simp only[act,fH,if_neg k1,if_neg k2,if_neg k3,if_pos k4,lL,hin,hc];exact⟨rfl,trivial⟩
 by_cases k5:i.kind=5
 ·simp only[act,fH,if_neg k1,if_neg k2,if_neg k3,if_neg k4,if_pos k5,nX,hin,hc,hm];exact⟨rfl,trivial⟩
 by_cases k6:i.kind=6
 ·simp only[act,fH,if_neg k1,if_neg k2,if_neg k3,if_neg k4,if_neg k5,if_pos k6,lK,hin,hc];exact⟨rfl,trivial⟩
 by_cases k7:i.kind=7
 ·simp only[act,fH,if_neg k1,if_neg k2,if_neg k3,if_neg k4,if_neg k5,if_neg k6,if_pos k7,doPrint,hin,hc,hpr];exact⟨rfl,trivial⟩
 by_cases k8:i.kind=8
 ·simp only[act,fH,if_neg k1,if_neg k2,if_neg k3,if_neg k4,if_neg k5,if_neg k6,if_neg k7,if_pos k8,nW,hin,hc];exact⟨rfl,trivial⟩
 by_cases k9:i.kind=9
 ·simp only[act,fH,if_neg k1,if_neg k2,if_neg k3,if_neg k4,if_neg k5,if_neg k6,if_neg k7,if_neg k8,if_pos k9,nY,hin,hc];exact⟨rfl,trivial⟩
 simp only[act,fH,if_neg k1,if_neg k2,if_neg k3,if_neg k4,if_neg k5,if_neg k6,if_neg k7,if_neg k8,if_neg k9,nV,hin,hc]
 exact⟨rfl,trivial⟩
def hC (o:Obj) (q:Nat) (c:bx):Instr:=(o.core q).code.getD c.pc.toNat default
theorem gq {o:Obj} {s:bk} {q:Nat} (h:¬q<s.bd.length∨(s.core q).halted=true∨eH o.buffer (s.core q) (hC o q (s.core q))=true):(fE o s q).1=s∧(fE o s q).2.1.kind=0:=by
 unfold fE
 rw[Int.toNat_natCast]
 split
 ·exact⟨rfl,rfl⟩
 ·rename_i h1
  split
  ·exact⟨rfl,rfl⟩
  ·rename_i h2
   split
   ·exact⟨rfl,rfl⟩
   ·rename_i h3
    exfalso
    rcases h with h|h|h
    ·unfold out at h1;omega
    ·exact h2 h
    ·exact h3 h
theorem gA {o:Obj} {s:bk} {q:Nat} (hq:q<s.bd.length) (h1:(s.core q).halted=false) (h2:eH o.buffer (s.core q) (hC o q (s.core q))=false):
 (fE o s q).1=s.ta q (fH q (s.core q) (hC o q (s.core q)) s.mem s.bg).1∧(fE o s q).2.1.kind=(fH q (s.core q) (hC o q (s.core q)) s.mem s.bg).2∧(fE o s q).2.2=0:=by
 unfold fE
 rw[Int.toNat_natCast,if_neg (by unfold out;omega),if_neg (by rw[h1];simp),if_neg (by rw[yD];show ¬eH o.buffer (s.core q) (hC o q (s.core q))=true;rw[h2];simp)]
 obtain⟨e1,e2⟩:=K3 (s:=s) hq (cX o s q)
 exact⟨e1,e2,rfl⟩
theorem eP {o:Obj} {s:bk} {q:Nat} (h:¬q<s.bd.length∨(s.core q).buf=[]):(dP o s q).1=s∧(dP o s q).2.1.kind=0:=by
 unfold dP
 rw[Int.toNat_natCast]
 split
 ·exact⟨rfl,rfl⟩
 ·rename_i h1
  rcases h with h|h
  ·unfold out at h1;omega
  ·rw[h];exact⟨rfl,rfl⟩
theorem gP {o:Obj} {s:bk} {q:Nat} (hq:q<s.bd.length) {x:dA} {t:List dA} (h:(s.core q).buf=x::t):
 (dP o s q).1=s.ta q ({ s.core q with buf:=t },s.mem.set x.addr.toNat x.word,s.bg)∧(dP o s q).2.1.kind=8∧(dP o s q).2.2=0:=by
 unfold dP
 rw[Int.toNat_natCast,if_neg (by unfold out;omega),h]
 exact⟨rfl,rfl,rfl⟩
theorem dq (s:bk) (q:Nat) (r:bx×List Int×List cF):(s.ta q r).bd.length=s.bd.length:=by simp[bk.ta]
theorem eJ {s:bk} {q:Nat} (hq:q<s.bd.length) (r:bx×List Int×List cF) (j:Nat):(s.ta q r).core j=if j=q then r.1 else s.core j:=by
 unfold bk.ta bk.core
 by_cases h:j=q
 ·subst h;simp[List.getD,hq]
 ·rw[if_neg h];simp[List.getD,List.getElem?_set_ne (Ne.symm h)]
theorem gV (o:Obj) (s:bk) (kind k:Int):(∃q:Nat,(k=q)∧(kind=1∨kind=2))∨(ck o s kind k).1=s:=by
 by_cases hk:0≤k
 ·by_cases h1:kind=1∨kind=2
  ·exact .inl ⟨k.toNat,by omega,h1⟩
  ·right;unfold ck;rw[if_neg (by omega),if_neg (by omega)]
 ·right
  unfold ck
  have hout:out s k:= .inl (by omega)
  split
  ·unfold fE;rw[if_pos hout]
  ·split
   ·unfold dP;rw[if_pos hout]
   ·rfl
def Hz (o:Obj) (s:bk):Prop:=∀q,q<s.bd.length→(s.core q).halted=true→9<(hC o q (s.core q)).kind
structure kW (o:Obj):Prop where
 mem:∀w∈o.mem,cu w
 word:∀q,q<o.bd.length→∀k,k<(o.core q).code.length→cu ((o.core q).code.getD k default).word
theorem Obj.Wf.words {o:Obj} (h:o.Wf):kW o where
 mem:=h.mem
 word:=fun q hq k hk=>by
  have h1:(o.core q)∈o.bd:=by
   have:o.core q=o.bd[q]:=by simp[Obj.core,List.getD,hq]
   rw[this];exact List.getElem_mem hq
  have h2:(o.core q).code.getD k default∈(o.core q).code:=by
   rw[show(o.core q).code.getD k default=(o.core q).code[k] by rw[List.getD,List.getElem?_eq_getElem hk];rfl];exact List.getElem_mem hk
  exact((h.bd _ h1).code _ h2).word
theorem nH (n:Int):cu (tq n):=by unfold cu tq;rw[IntKind.wrap_i64];omega
theorem JW {p:Prop} [Decidable p] {a b:Int} (h1:cu a) (h2:cu b):cu (if p then a else b):=by
 split
 ·exact h1
 ·exact h2
theorem HA (t:Bool):cu (tr t):=by unfold tr cu;split<;>omega
theorem JZ {a:Int} (h:cu a) (b:Int):cu (JN a b):=by
 unfold JN
 have hd:(1:Int)≤2^(min (C2 b).toNat 64):=Int.le_of_lt_add_one (by have:(0:Int)<2^(min (C2 b).toNat 64):=Int.pow_pos (by omega);omega)
 generalize (2:Int)^(min (C2 b).toNat 64)=d at *
 rw[Int.fdiv_eq_ediv_of_nonneg _ (by omega)]
 have h1:=Int.mul_ediv_add_emod a d
 have h2:=Int.emod_nonneg a (b:=d) (by omega)
 have h3:=Int.emod_lt_of_pos a (b:=d) (by omega)
 obtain⟨h4,h5⟩:=h
 generalize a /d=q at *
 generalize a%d=r at *
 constructor
 ·apply Int.not_lt.1
  intro hq
  have:d * (q+1)≤1 * (q+1):=Int.mul_le_mul_of_nonpos_right hd (by omega)
  rw[Int.mul_add] at this
  omega
 ·apply Int.not_le.1
  intro hq
  have:1 * q≤d * q:=Int.mul_le_mul_of_nonneg_right hd (by omega)
  omega
theorem J0 {a b:Int} (ha:cu a) (op:Int):cu (J1 op a b):=by
 have hq:cu (BE a b):=by
  unfold BE
  split
  ·exact⟨by omega,by omega⟩
  ·split
   ·exact nH _
   ·exact nH _
 have hm:cu (GU a b):=by
  unfold GU
  split
  ·exact ha
  ·exact nH _
 unfold J1
 repeat' (with_reducible refine JW ?_ ?_)
 all_goals first
  |exact HA _
  |exact JZ ha _
  |exact hq
  |exact hm
  |exact nH _
theorem JX (op a:Int):cu (JD op a):=by
 unfold JD
 split
 ·exact nH _
 ·exact HA _
theorem OB {op a b:Int} (h:cu a):cu (KN op a b):=by
 unfold KN
 split
 ·exact J0 h _
 ·exact JX _ _
theorem zL (a:Int):∀(l:List dA) (r:Int×Bool),(∀x∈l,cu x.word)→cu r.1→cu (kR a l r).1
 |[],r,_,h=>h
 |x::l,r,h,hr=>by
  rw[kR]
  refine zL a l _ (fun y hy=>h y (by simp[hy])) ?_
  split
  ·exact h x (by simp)
  ·exact hr
theorem y9 {l:List Int} (h:∀w∈l,cu w) (k:Nat):cu (l.getD k 0):=by
 by_cases hk:k<l.length
 ·have:l.getD k 0=l[k]:=by simp[List.getD,hk]
  rw[this];exact h _ (List.getElem_mem hk)
 ·simp only[List.getD,List.getElem?_eq_none (Nat.le_of_not_lt hk),Option.getD_none];exact⟨by omega,by omega⟩
theorem kH.put {c:bx} (h:kH c) {k w:Int} (hw:cu w):kH (c.put k w):=
 ⟨h.pc,fun j hj=>by
  show cu (lx c.de k w j)
  unfold lx
  split
  ·exact hw
  ·exact h.de j hj,h.buf⟩
theorem K4 {q:Nat} {c:bx} {i:Instr} {mem:List Int} {pr:List cF} {code m:Int} (hq:q<8) (hcl:code≤16384) (hml:m≤4096) (hc:kH c) (hp:0≤c.pc∧c.pc<code) (iok:oB i code m) (hw:cu i.word) (hm:∀w∈mem,cu w) (hpr:∀p∈pr,kX p):
 kH (fH q c i mem pr).1.1∧(∀w∈(fH q c i mem pr).1.2.1,cu w)∧(∀p∈(fH q c i mem pr).1.2.2,kX p):=by
 have hci:kH c.inc:=⟨by show cu (c.pc+1);exact⟨by omega,by omega⟩,hc.de,hc.buf⟩
 have hr:∀k:Int,0≤k∧k<16→cu (c.de k.toNat):=fun k hk=>hc.de _ (by omega)
 have ha:=hr _ iok.a
 have hb:=hr _ iok.b
 have hd:=hr _ iok.d
 unfold fH
 by_cases k1:i.kind=1
 ·rw[if_pos k1];exact⟨hci.put hw,hm,hpr⟩
 rw[if_neg k1]
 by_cases k2:i.kind=2
 ·rw[if_pos k2];exact⟨hci.put (OB ha),hm,hpr⟩
 rw[if_neg k2]
 by_cases k3:i.kind=3
 ·rw[if_pos k3];exact⟨hci.put (zL _ _ _ (fun x hx=>(hc.buf x hx).2.2) (y9 hm _)),hm,hpr⟩
 rw[if_neg k3]
 by_cases k4:i.kind=4
 ·rw[if_pos k4]
  refine⟨⟨hci.pc,hc.de,fun x hx=> ?_⟩,hm,hpr⟩
  rcases List.mem_append.1 hx with hx|hx
  ·exact hc.buf x hx
  ·simp only[List.mem_singleton] at hx
   subst hx
   have:=iok.addr (by omega)
   exact⟨hc.pc,⟨by show -9223372036854775808≤i.addr;omega,by show i.addr<_;omega⟩,ha⟩
 rw[if_neg k4]
 by_cases k5:i.kind=5
 ·rw[if_pos k5]
  refine⟨hci.put (y9 hm _),fun w hx=> ?_,hpr⟩
  rcases List.mem_or_eq_of_mem_set hx with hx|rfl
  ·exact hm w hx
  ·exact hd
 rw[if_neg k5]
 by_cases k6:i.kind=6
 ·rw[if_pos k6];exact⟨hci,hm,hpr⟩
 rw[if_neg k6]
 by_cases k7:i.kind=7
 ·rw[if_pos k7]
  refine⟨hci,hm,fun p hp2=> ?_⟩
  rcases List.mem_append.1 hp2 with hx|hx
  ·exact hpr p hx
  ·simp only[List.mem_singleton] at hx
   subst hx
   exact⟨⟨by show _≤(q:Int);omega,by show(q:Int)<_;omega⟩,ha⟩
 rw[if_neg k7]
 by_cases k8:i.kind=8
 ·rw[if_pos k8]
  have:=iok.to (by omega)
  exact⟨⟨⟨by show _≤i.to;omega,by show i.to<_;omega⟩,hc.de,hc.buf⟩,hm,hpr⟩
 rw[if_neg k8]
 by_cases k9:i.kind=9
 ·rw[if_pos k9]
  have:=iok.to (by omega)
  refine⟨?_,hm,hpr⟩
  dsimp only
  split
  ·exact⟨⟨by show _≤i.to;omega,by show i.to<_;omega⟩,hc.de,hc.buf⟩
  ·exact hci
 rw[if_neg k9]
 exact⟨⟨hc.pc,hc.de,hc.buf⟩,hm,hpr⟩
theorem ox {s:bk} {q:Nat} (hq:q<s.bd.length):s.core q∈s.bd:=by
 have:s.core q=s.bd[q]:=by simp[bk.core,List.getD,hq]
 rw[this];exact List.getElem_mem hq
theorem MW.put {s:bk} (h:MW s) {q:Nat} {r:bx×List Int×List cF} (h1:kH r.1) (h2:∀w∈r.2.1,cu w) (h3:∀p∈r.2.2,kX p):MW (s.ta q r) where
 core:=fun c hc=>by
  rcases List.mem_or_eq_of_mem_set hc with hc|rfl
  ·exact h.core c hc
  ·exact h1
 mem:=h2
 bg:=h3
theorem qL {o:Obj} {s:bk} (g:Good o s) (ok:cx o) {q:Nat} (hq:q<s.bd.length):oB (hC o q (s.core q)) (o.core q).code.length o.mem.length∧(s.core q).pc.toNat<(o.core q).code.length:=by
 have hp:=g.pc q hq
 exact⟨kr (ok.ok q (by rw[←g.n];exact hq) _ (by omega)),by omega⟩
structure oi (o:Obj) (s:bk):Prop where
 kT:Good o s
 w:MW s
 hz:Hz o s
theorem AH {q:Nat} {c:bx} {i:Instr} {mem:List Int} {pr:List cF} (h0:c.halted=false) (h:(fH q c i mem pr).1.1.halted=true):9<i.kind∨i.kind<1:=by
 have hi:c.inc.halted=false:=h0
 unfold fH at h
 repeat' split at h
 all_goals first
  |omega
  |(exfalso;simp[bx.put,bx.inc,h0] at h;done)
theorem tK {q:Nat} {c:bx} {i:Instr} {mem:List Int} {pr:List cF} (h:9<i.kind):fH q c i mem pr=(({ c with halted:=true },mem,pr),7):=by
 unfold fH
 rw[if_neg (by omega),if_neg (by omega),if_neg (by omega),if_neg (by omega),if_neg (by omega),if_neg (by omega),if_neg (by omega),if_neg (by omega),if_neg (by omega)]
theorem oi.step {o:Obj} {s:bk} (h:oi o s) (ok:cx o) (hw:kW o) (kind k:Int):oi o (ck o s kind k).1:=by
 refine⟨h.kT.step ok kind k, ?_, ?_⟩
 ·rcases gV o s kind k with⟨q,rfl,hk⟩|h1
  ·rcases hk with rfl|rfl
   ·show MW (fE o s q).1
    by_cases hc:¬q<s.bd.length∨(s.core q).halted=true∨eH o.buffer (s.core q) (hC o q (s.core q))=true
    ·rw[(gq hc).1];exact h.w
    ·simp only[not_or,Decidable.not_not,Bool.not_eq_true] at hc
     obtain⟨hq,h1,h2⟩:=hc
     rw[(gA hq h1 h2).1]
     obtain⟨iok,hpc⟩:=qL h.kT ok hq
     have hqo:q<o.bd.length:=by rw[←h.kT.n];exact hq
     have:=ok.bd
     have:=ok.mem
     have:=ok.code q hqo
     obtain⟨e1,e2,e3⟩:=K4 (q:=q) (mem:=s.mem) (pr:=s.bg) (by omega) (by omega) (by omega) (h.w.core _ (ox hq)) (h.kT.pc q hq) iok (hw.word q hqo _ hpc) h.w.mem h.w.bg
     exact h.w.put e1 e2 e3
   ·show MW (dP o s q).1
    by_cases hq:q<s.bd.length
    ·cases hb:(s.core q).buf with
     |nil=>rw[(eP (.inr hb)).1];exact h.w
     |cons x t=>
      rw[(gP hq hb).1]
      have hc:=h.w.core _ (ox hq)
      refine h.w.put ⟨hc.pc,hc.de,fun y hy=>hc.buf y (by rw[hb];simp[show y∈t from hy])⟩ (fun w hx=> ?_) h.w.bg
      rcases List.mem_or_eq_of_mem_set hx with hx|rfl
      ·exact h.w.mem w hx
      ·exact(hc.buf x (by rw[hb];simp)).2.2
    ·rw[(eP (.inl hq)).1];exact h.w
  ·rw[h1];exact h.w
 ·rcases gV o s kind k with⟨q,rfl,hk⟩|h1
  ·rcases hk with rfl|rfl
   ·show Hz o (fE o s q).1
    by_cases hc:¬q<s.bd.length∨(s.core q).halted=true∨eH o.buffer (s.core q) (hC o q (s.core q))=true
    ·rw[(gq hc).1];exact h.hz
    ·simp only[not_or,Decidable.not_not,Bool.not_eq_true] at hc
     obtain⟨hq,h1,h2⟩:=hc
     rw[(gA hq h1 h2).1]
     intro j hj hh
     rw[dq] at hj
     rw[eJ hq] at hh ⊢
     by_cases e:j=q
     ·subst e
      rw[if_pos rfl] at hh ⊢
      obtain⟨iok,hpc⟩:=qL h.kT ok hq
      have hk:=AH h1 hh
      have:=iok.kind
      rw[tK (by omega)]
      show 9<(hC o j (s.core j)).kind
      omega
     ·rw[if_neg e] at hh ⊢
      exact h.hz j hj hh
   ·show Hz o (dP o s q).1
    by_cases hq:q<s.bd.length
    ·cases hb:(s.core q).buf with
     |nil=>rw[(eP (.inr hb)).1];exact h.hz
     |cons x t=>
      rw[(gP hq hb).1]
      intro j hj hh
      rw[dq] at hj
      rw[eJ hq] at hh ⊢
      by_cases e:j=q
      ·subst e
       rw[if_pos rfl] at hh ⊢
       exact h.hz j hj hh
      ·rw[if_neg e] at hh ⊢
       exact h.hz j hj hh
    ·rw[(eP (.inl hq)).1];exact h.hz
  ·rw[h1];exact h.hz
theorem oi.init {o:Obj} (ok:cx o) (hw:kW o):oi o (dY o) where
 kT:=AF ok
 w:=⟨fun c hc=>by
  have:c=core0:=List.eq_of_mem_replicate hc
  subst this
  exact⟨⟨by show(-9223372036854775808:Int)≤0;omega,by show(0:Int)<_;omega⟩,fun j _=>⟨by show(-9223372036854775808:Int)≤0;omega,by show(0:Int)<_;omega⟩,fun x hx=>by cases hx⟩,hw.mem,fun p hp=>by cases hp⟩
 hz:=fun q hq hh=>by
  have:(dY o).core q=core0:=by simp[dY,bk.core,List.getD,List.getElem?_replicate];split<;>rfl
  rw[this] at hh;cases hh
end Go.Proofs.YtlonbgdonffcbaaGreatDoor
end
