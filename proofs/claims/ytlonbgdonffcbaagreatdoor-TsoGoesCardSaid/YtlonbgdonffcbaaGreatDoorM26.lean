import Derived.Test.YtlonbgdonffcbaaGreatDoorM25
section
/- A situation's text: which situations it tells apart. -/
namespace Go.Proofs.YtlonbgdonffcbaaGreatDoor
open Go Go.cY Go.Proofs
set_option linter.unusedSimpArgs false
set_option linter.unusedVariables false
def d36 (n:Nat):UInt8:=if n<10 then UInt8.ofNat (48+n) else UInt8.ofNat (87+n)
def dz:Nat→Nat→List UInt8→List UInt8
 |0,n,acc=>d36 n::acc
 |f+1,n,acc=>if n<36 then d36 n::acc else dz f (n /36) (d36 (n%36)::acc)
def eV (x:Int):List UInt8:=if x<0 then 45::dz 13 x.natAbs [] else dz 13 x.toNat []
def cy (x:Int):List UInt8:=eV x++[32]
def dh (c:bx):List UInt8:=(List.range 16).flatMap fun j=>cy (c.di j)
def storeT (x:cx):List UInt8:=cy x.pc++(cy x.addr++cy x.word)
def ec (c:bx):List UInt8:=if c.halted then[104] else[]
def dY (c:bx):List UInt8:=cy c.pc++(ec c++(dh c++(47::(c.buf.flatMap storeT++[124]))))
def fQ (p:cH):List UInt8:=cy p.cn++cy p.word
def eD (s:bk):List UInt8:=s.bg.flatMap dY++(s.mem.flatMap cy++(124::s.bh.flatMap fQ))
def dv (c:UInt8):Nat:=if c.toNat<58 then c.toNat - 48 else c.toNat - 87
def tO (l:List UInt8):Nat:=l.foldl (fun v c=>v * 36+dv c) 0
theorem yz {n:Nat} (h:n<36):(d36 n).toNat=if n<10 then 48+n else 87+n:=by
 unfold d36
 split<;>simp<;>omega
theorem xZ {n:Nat} (h:n<36):dv (d36 n)=n:=by
 unfold dv
 rw[yz h]
 split<;>split<;>omega
def pj (c:UInt8):Prop:=48≤c.toNat∧c.toNat≤57∨97≤c.toNat∧c.toNat≤122
theorem oK {n:Nat} (h:n<36):pj (d36 n):=by
 unfold pj
 rw[yz h]
 split<;>omega
theorem iR:∀(f n:Nat) (acc:List UInt8),dz f n acc=dz f n []++acc
 |0,n,acc=>rfl
 |f+1,n,acc=>by
  rw[dz,dz]
  split
  ·rfl
  ·rw[iR f _ (d36 (n%36)::acc),iR f _ [d36 (n%36)],List.append_assoc];rfl
theorem CW (l:List UInt8) (c:UInt8):tO (l++[c])=tO l * 36+dv c:=by simp[tO]
theorem zx:∀(f n:Nat),n<36^(f+1)→tO (dz f n [])=n
 |0,n,h=>by
  rw[dz]
  have:n<36:=by simpa using h
  simp[tO,xZ this]
 |f+1,n,h=>by
  rw[dz]
  split
  ·rename_i h1;simp[tO,xZ h1]
  ·rw[iR,CW,zx f _ (by rw[Nat.div_lt_iff_lt_mul (by omega)];rw[Nat.pow_succ] at h;exact h),xZ (Nat.mod_lt _ (by omega))]
   omega
theorem mw:∀(f n:Nat),n<36^(f+1)→∀c∈dz f n [],pj c
 |0,n,h=>by
  rw[dz]
  intro c hc
  simp only[List.mem_cons,List.not_mem_nil,or_false] at hc
  subst hc
  exact oK (by simpa using h)
 |f+1,n,h=>by
  rw[dz]
  split
  ·rename_i h1
   intro c hc
   simp only[List.mem_cons,List.not_mem_nil,or_false] at hc
   subst hc
   exact oK h1
  ·rw[iR]
   intro c hc
   rcases List.mem_append.1 hc with hc|hc
   ·exact mw f _ (by rw[Nat.div_lt_iff_lt_mul (by omega)];rw[Nat.pow_succ] at h;exact h) c hc
   ·simp only[List.mem_cons,List.not_mem_nil,or_false] at hc
    subst hc
    exact oK (Nat.mod_lt _ (by omega))
theorem MH:∀(f n:Nat),dz f n []≠[]
 |0,n=>by simp[dz]
 |f+1,n=>by
  rw[dz]
  split
  ·simp
  ·rw[iR];simp
theorem tu:∀(f n:Nat),(dz f n []).length≤f+1
 |0,n=>by simp[dz]
 |f+1,n=>by
  rw[dz]
  split
  ·simp
  ·rw[iR,List.length_append]
   have:=tu f (n /36)
   simp;omega
theorem wR {n:Nat} (h:n≤9223372036854775808):n<36^(13+1):=Nat.lt_of_le_of_lt h (by decide)
def C8 (c:UInt8):Prop:=pj c∨c.toNat=45
theorem tG {x:Int} (h:dE x):∀c∈eV x,C8 c:=by
 intro c hc
 obtain⟨h1,h2⟩:=h
 unfold eV at hc
 split at hc
 ·rcases List.mem_cons.1 hc with rfl|hc
  ·exact .inr rfl
  ·exact .inl (mw _ _ (wR (by omega)) c hc)
 ·exact .inl (mw _ _ (wR (by omega)) c hc)
theorem NC (x:Int):eV x≠[]:=by
 unfold eV
 split
 ·simp
 ·exact MH _ _
theorem uJ (x:Int):(eV x).length≤15:=by
 unfold eV
 split
 ·have:=tu 13 x.natAbs;simp;omega
 ·have:=tu 13 x.toNat;omega
theorem zh {x y:Int} (hx:dE x) (hy:dE y) (h:eV x=eV y):x=y:=by
 obtain⟨x1,x2⟩:=hx
 obtain⟨y1,y2⟩:=hy
 have d:=fun(n:Nat) (hn:n≤9223372036854775808)=>zx 13 n (wR hn)
 have hd:=fun(n:Nat) (hn:n≤9223372036854775808) (l:List UInt8) (e:45::l=dz 13 n [])=>show False by
  have:=mw 13 n (wR hn) 45 (by rw[←e];simp)
  exact absurd this (by unfold pj;decide)
 unfold eV at h
 split at h<;>split at h
 ·have h:=List.cons.inj h
  have e1:=d x.natAbs (by omega)
  have e2:=d y.natAbs (by omega)
  rw[h.2,e2] at e1
  omega
 ·exact(hd _ (by omega) _ h).elim
 ·exact(hd _ (by omega) _ h.symm).elim
 ·have e1:=d x.toNat (by omega)
  have e2:=d y.toNat (by omega)
  rw[h,e2] at e1
  omega
theorem rN {c:UInt8}:∀{a b r r':List UInt8},c∉a→c∉b→a++c::r=b++c::r'→a=b∧r=r'
 |[],[],r,r',_,_,h=>⟨rfl,(List.cons.inj h).2⟩
 |[],y::b,r,r',_,hb,h=>by
  have:=(List.cons.inj h).1
  exact absurd (by simp[this]) hb
 |x::a,[],r,r',ha,_,h=>by
  have:=(List.cons.inj h).1
  exact absurd (by simp[this]) ha
 |x::a,y::b,r,r',ha,hb,h=>by
  obtain⟨h1,h2⟩:=List.cons.inj h
  obtain⟨h3,h4⟩:=rN (fun q=>ha (List.mem_cons_of_mem _ q)) (fun q=>hb (List.mem_cons_of_mem _ q)) h2
  exact⟨by rw[h1,h3],h4⟩
theorem nS {x:Int} (h:dE x):(32:UInt8)∉eV x:=fun hc=>by
 have:=tG h _ hc
 unfold C8 pj at this
 revert this;decide
theorem jV {x y:Int} {r r':List UInt8} (hx:dE x) (hy:dE y) (h:cy x++r=cy y++r'):x=y∧r=r':=by
 unfold cy at h
 rw[List.append_assoc,List.append_assoc] at h
 obtain⟨h1,h2⟩:=rN (nS hx) (nS hy) h
 exact⟨zh hx hy h1,h2⟩
def mD (c:UInt8):Prop:=c.toNat=47∨c.toNat=124
theorem rP {x:Int} (hx:dE x) {c:UInt8} {r r':List UInt8} (hc:mD c):cy x++r≠c::r':=fun h=>by
 unfold cy at h
 rw[List.append_assoc] at h
 cases hn:eV x with
 |nil=>exact NC x hn
 |cons a l=>
  rw[hn] at h
  have h1:=(List.cons.inj h).1
  have h2:=tG hx a (by rw[hn];simp)
  rw[h1] at h2
  unfold C8 pj at h2
  unfold mD at hc
  omega
section
variable {α:Type} {f:α→List UInt8} {P:α→Prop}
theorem nE (hi:∀x y r r',P x→P y→f x++r=f y++r'→x=y∧r=r') (hs:∀x c r r',P x→mD c→f x++r≠c::r'):∀{l l':List α} {c c':UInt8} {r r':List UInt8},(∀x∈l,P x)→(∀x∈l',P x)→mD c→mD c'→l.flatMap f++c::r=l'.flatMap f++c'::r'→l=l'∧c::r=c'::r'
 |[],[],c,c',r,r',_,_,_,_,h=>⟨rfl,h⟩
 |[],y::l',c,c',r,r',_,h2,h3,_,h=>by
  rw[List.flatMap_cons,List.append_assoc] at h
  exact(hs y c _ _ (h2 y (by simp)) h3 h.symm).elim
 |x::l,[],c,c',r,r',h1,_,_,h4,h=>by
  rw[List.flatMap_cons,List.append_assoc] at h
  exact(hs x c' _ _ (h1 x (by simp)) h4 h).elim
 |x::l,y::l',c,c',r,r',h1,h2,h3,h4,h=>by
  rw[List.flatMap_cons,List.flatMap_cons,List.append_assoc,List.append_assoc] at h
  obtain⟨rfl,h5⟩:=hi x y _ _ (h1 x (by simp)) (h2 y (by simp)) h
  obtain⟨rfl,h6⟩:=nE hi hs (fun z hz=>h1 z (by simp[hz])) (fun z hz=>h2 z (by simp[hz])) h3 h4 h5
  exact⟨rfl,h6⟩
end
def pw (x:cx):Prop:=dE x.pc∧dE x.addr∧dE x.word
def ke (p:cH):Prop:=dE p.cn∧dE p.word
theorem CP (x y:cx) (r r':List UInt8) (hx:pw x) (hy:pw y) (h:storeT x++r=storeT y++r'):x=y∧r=r':=by
 obtain⟨xp,xa,xw⟩:=x
 obtain⟨yp,ya,yw⟩:=y
 obtain⟨x1,x2,x3⟩:=hx
 obtain⟨y1,y2,y3⟩:=hy
 unfold storeT at h
 dsimp only at *
 simp only[List.append_assoc] at h
 obtain⟨e1,h1⟩:=jV x1 y1 h
 obtain⟨e2,h2⟩:=jV x2 y2 h1
 obtain⟨e3,h3⟩:=jV x3 y3 h2
 exact⟨by rw[e1,e2,e3],h3⟩
theorem yg (x:cx) (c:UInt8) (r r':List UInt8) (hx:pw x) (hc:mD c):storeT x++r≠c::r':=by
 unfold storeT
 rw[List.append_assoc]
 exact rP hx.1 hc
theorem B8 (x y:cH) (r r':List UInt8) (hx:ke x) (hy:ke y) (h:fQ x++r=fQ y++r'):x=y∧r=r':=by
 obtain⟨xp,xa⟩:=x
 obtain⟨yp,ya⟩:=y
 obtain⟨x1,x2⟩:=hx
 obtain⟨y1,y2⟩:=hy
 unfold fQ at h
 dsimp only at *
 simp only[List.append_assoc] at h
 obtain⟨e1,h1⟩:=jV x1 y1 h
 obtain⟨e2,h2⟩:=jV x2 y2 h1
 exact⟨by rw[e1,e2],h2⟩
theorem yS (x:cH) (c:UInt8) (r r':List UInt8) (hx:ke x) (hc:mD c):fQ x++r≠c::r':=by
 unfold fQ
 rw[List.append_assoc]
 exact rP hx.1 hc
structure kQ (c:bx):Prop where
 pc:dE c.pc
 di:∀j,j<16→dE (c.di j)
 buf:∀x∈c.buf,pw x
def bx.tl (c:bx):Nat:=(ec c).length+(eV (c.di 0)).length
theorem PI (c:bx):c.tl≤16:=by
 unfold bx.tl ec
 have:=uJ (c.di 0)
 split<;>simp<;>omega
structure C6 (c c':bx):Prop where
 pc:c.pc=c'.pc
 buf:c.buf=c'.buf
 tl:c.tl=c'.tl
 di:c.halted=c'.halted→∀j,j<16→c.di j=c'.di j
theorem sw {c:bx}:(32:UInt8)∉ec c:=by
 unfold ec
 split<;>decide
theorem wa (c:bx):dh c=eV (c.di 0)++32::([1,2,3,4,5,6,7,8,9,10,11,12,13,14,15].flatMap fun j=>cy (c.di j)):=by
 unfold dh
 rw[show List.range 16=0::[1,2,3,4,5,6,7,8,9,10,11,12,13,14,15] from rfl,List.flatMap_cons,cy,List.append_assoc]
 rfl
theorem wc {g g':Nat→Int} {r r':List UInt8}:∀{js:List Nat},(∀j∈js,dE (g j))→(∀j∈js,dE (g' j))→(js.flatMap fun j=>cy (g j))++r=(js.flatMap fun j=>cy (g' j))++r'→(∀j∈js,g j=g' j)∧r=r'
 |[],_,_,h=>⟨by simp,h⟩
 |j::js,h1,h2,h=>by
  rw[List.flatMap_cons,List.flatMap_cons,List.append_assoc,List.append_assoc] at h
  obtain⟨h3,h4⟩:=jV (h1 j (by simp)) (h2 j (by simp)) h
  obtain⟨h5,h6⟩:=wc (fun q hq=>h1 q (by simp[hq])) (fun q hq=>h2 q (by simp[hq])) h4
  refine⟨fun q hq=> ?_,h6⟩
  rcases List.mem_cons.1 hq with rfl|hq
  ·exact h3
  ·exact h5 q hq
theorem KJ {j:Nat} (h:j<16):j=0∨j∈[1,2,3,4,5,6,7,8,9,10,11,12,13,14,15]:=by
 simp only[List.mem_cons,List.not_mem_nil,or_false];omega
theorem tC {j:Nat} (h:j∈[1,2,3,4,5,6,7,8,9,10,11,12,13,14,15]):j<16:=by
 simp only[List.mem_cons,List.not_mem_nil,or_false] at h;omega
theorem DY {c c':bx} {r r':List UInt8} (hc:kQ c) (hc':kQ c') (h:dY c++r=dY c'++r'):C6 c c'∧r=r':=by
 unfold dY at h
 simp only[List.append_assoc,List.cons_append,List.nil_append] at h
 obtain⟨h1,h⟩:=jV hc.pc hc'.pc h
 rw[wa,wa] at h
 simp only[List.append_assoc,List.cons_append] at h
 rw[←List.append_assoc,←List.append_assoc (ec c')] at h
 have n1:(32:UInt8)∉ec c++eV (c.di 0):=fun hm=>(List.mem_append.1 hm).elim sw (nS (hc.di 0 (by omega)))
 have n2:(32:UInt8)∉ec c'++eV (c'.di 0):=fun hm=>(List.mem_append.1 hm).elim sw (nS (hc'.di 0 (by omega)))
 obtain⟨h2,h⟩:=rN n1 n2 h
 obtain⟨h3,h⟩:=wc (fun j hj=>hc.di j (tC hj)) (fun j hj=>hc'.di j (tC hj)) h
 obtain⟨h4,h⟩:=nE (P:=pw) CP yg hc.buf hc'.buf (.inr rfl) (.inr rfl) (List.cons.inj h).2
 refine⟨⟨h1,h4, ?_,fun he j hj=> ?_⟩,(List.cons.inj h).2⟩
 ·have:=congrArg List.length h2
  simpa[bx.tl] using this
 ·rcases KJ hj with rfl|hj
  ·refine zh (hc.di 0 (by omega)) (hc'.di 0 (by omega)) ?_
   have:ec c=ec c':=by unfold ec;rw[he]
   rw[this] at h2
   exact List.append_cancel_left h2
  ·exact h3 j hj
theorem sP:∀{l l':List bx} {r r':List UInt8},l.length=l'.length→(∀c∈l,kQ c)→(∀c∈l',kQ c)→l.flatMap dY++r=l'.flatMap dY++r'→(∀q,q<l.length→C6 (l.getD q default) (l'.getD q default))∧r=r'
 |[],[],r,r',_,_,_,h=>⟨fun q hq=>by simp at hq,h⟩
 |[],_::_,_,_,h,_,_,_=>by simp at h
 |_::_,[],_,_,h,_,_,_=>by simp at h
 |c::l,c'::l',r,r',hl,h1,h2,h=>by
  rw[List.flatMap_cons,List.flatMap_cons,List.append_assoc,List.append_assoc] at h
  obtain⟨h3,h4⟩:=DY (h1 c (by simp)) (h2 c' (by simp)) h
  obtain⟨h5,h6⟩:=sP (by simpa using hl) (fun z hz=>h1 z (by simp[hz])) (fun z hz=>h2 z (by simp[hz])) h4
  refine⟨fun q hq=> ?_,h6⟩
  cases q with
  |zero=>exact h3
  |succ q=>exact h5 q (by simpa using hq)
structure MW (s:bk):Prop where
 core:∀c∈s.bg,kQ c
 mem:∀w∈s.mem,dE w
 bh:∀p∈s.bh,ke p
structure sF (s d:bk):Prop where
 n:s.bg.length=d.bg.length
 core:∀q,q<s.bg.length→C6 (s.core q) (d.core q)
 mem:s.mem=d.mem
 bh:s.bh=d.bh
theorem key_inj {s d:bk} (hs:MW s) (hd:MW d) (hn:s.bg.length=d.bg.length) (h:eD s=eD d):sF s d:=by
 unfold eD at h
 obtain⟨h1,h⟩:=sP hn hs.core hd.core h
 obtain⟨h2,h⟩:=nE (P:=dE) (f:=cy) (fun x y r r' hx hy=>jV hx hy) (fun x c r r' hx hc=>rP hx hc) hs.mem hd.mem (.inr rfl) (.inr rfl) h
 have h:=(List.cons.inj h).2
 have h:=congrArg (·++[(124:UInt8)]) h
 obtain⟨h3,_⟩:=nE (P:=ke) B8 yS hs.bh hd.bh (.inr rfl) (.inr rfl) h
 exact⟨hn,h1,h2,h3⟩
end Go.Proofs.YtlonbgdonffcbaaGreatDoor
end
section
/- A step of the machine, told by the core that does it; what is so of each situation. -/
namespace Go.Proofs.YtlonbgdonffcbaaGreatDoor
open Go Go.cY Go.Proofs
set_option linter.unusedSimpArgs false
set_option linter.unusedVariables false
def bx.inc (c:bx):bx:={ c with pc:=c.pc+1 }
def eo (q:Nat) (c:bx) (i:Instr) (mem:List Int) (pr:List cH):(bx×List Int×List cH)×Int:=
 if i.kind=1 then((c.inc.put i.d i.word,mem,pr),1)
 else if i.kind=2 then((c.inc.put i.d (LM i.op (c.di i.a.toNat) (c.di i.b.toNat)),mem,pr),1)
 else if i.kind=3 then((c.inc.put i.d (jR i.addr c.buf (mem.getD i.addr.toNat 0,false)).1,mem,pr),2)
 else if i.kind=4 then(({ c.inc with buf:=c.buf++[⟨c.pc,i.addr,c.di i.a.toNat⟩] },mem,pr),3)
 else if i.kind=5 then((c.inc.put i.d (mem.getD i.addr.toNat 0),mem.set i.addr.toNat (c.di i.d.toNat),pr),4)
 else if i.kind=6 then((c.inc,mem,pr),5)
 else if i.kind=7 then((c.inc,mem,pr++[⟨q,c.di i.a.toNat⟩]),6)
 else if i.kind=8 then(({ c.inc with pc:=i.to },mem,pr),1)
 else if i.kind=9 then((if c.di i.a.toNat=0 then { c.inc with pc:=i.to } else c.inc,mem,pr),1)
 else(({ c with halted:=true },mem,pr),7)
def bk.pL (s:bk) (q:Nat) (r:bx×List Int×List cH):bk:=⟨s.bg.set q r.1,r.2.1,r.2.2⟩
def eE (b:Int) (c:bx) (i:Instr):Bool:=if i.kind=4 then decide (b≤c.buf.length) else if i.kind=5∨i.kind=6∨i.kind=7 then decide ((0:Int)<c.buf.length) else false
theorem yc (o:Obj) (s:bk) (q:Nat) (i:Instr):fA o s q i=eE o.buffer (s.core q) i:=rfl
theorem L5 {s:bk} {q:Nat} (hq:q<s.bg.length) (i:Instr):
 (act (s.inc q) q i { ll with core:=q,pc:=(s.core q).pc }).1=s.pL q (eo q (s.core q) i s.mem s.bh).1∧(act (s.inc q) q i { ll with core:=q,pc:=(s.core q).pc }).2.kind=(eo q (s.core q) i s.mem s.bh).2:=by
 have hc:=qh hq
 have hm:(s.inc q).mem=s.mem:=rfl
 have hpr:(s.inc q).bh=s.bh:=rfl
 have hin:∀c:bx,(s.inc q).cr q c=s.cr q c:=gH
 by_cases k1:i.kind=1
 ·simp only[act,eo,if_pos k1,sQ,hin,hc];exact⟨rfl,trivial⟩
 by_cases k2:i.kind=2
 ·simp only[act,eo,if_neg k1,if_pos k2,vB,hin,hc];exact⟨rfl,trivial⟩
 by_cases k3:i.kind=3
 ·simp only[act,eo,if_neg k1,if_neg k2,if_pos k3,mJ,hin,hc,hm];exact⟨rfl,trivial⟩
 by_cases k4:i.kind=4
 ·simp only[act,eo,if_neg k1,if_neg k2,if_neg k3,if_pos k4,lR,hin,hc];exact⟨rfl,trivial⟩
 by_cases k5:i.kind=5
 ·simp only[act,eo,if_neg k1,if_neg k2,if_neg k3,if_neg k4,if_pos k5,oB,hin,hc,hm];exact⟨rfl,trivial⟩
 by_cases k6:i.kind=6
 ·simp only[act,eo,if_neg k1,if_neg k2,if_neg k3,if_neg k4,if_neg k5,if_pos k6,lQ,hin,hc];exact⟨rfl,trivial⟩
 by_cases k7:i.kind=7
 ·simp only[act,eo,if_neg k1,if_neg k2,if_neg k3,if_neg k4,if_neg k5,if_neg k6,if_pos k7,doPrint,hin,hc,hpr];exact⟨rfl,trivial⟩
 by_cases k8:i.kind=8
 ·simp only[act,eo,if_neg k1,if_neg k2,if_neg k3,if_neg k4,if_neg k5,if_neg k6,if_neg k7,if_pos k8,oA,hin,hc];exact⟨rfl,trivial⟩
 by_cases k9:i.kind=9
 ·simp only[act,eo,if_neg k1,if_neg k2,if_neg k3,if_neg k4,if_neg k5,if_neg k6,if_neg k7,if_neg k8,if_pos k9,oC,hin,hc];exact⟨rfl,trivial⟩
 simp only[act,eo,if_neg k1,if_neg k2,if_neg k3,if_neg k4,if_neg k5,if_neg k6,if_neg k7,if_neg k8,if_neg k9,nz,hin,hc]
 exact⟨rfl,trivial⟩
def iA (o:Obj) (q:Nat) (c:bx):Instr:=(o.core q).code.getD c.pc.toNat default
theorem gL {o:Obj} {s:bk} {q:Nat} (h:¬q<s.bg.length∨(s.core q).halted=true∨eE o.buffer (s.core q) (iA o q (s.core q))=true):(fD o s q).1=s∧(fD o s q).2.1.kind=0:=by
 unfold fD
 rw[Int.toNat_natCast]
 split
 ·exact⟨rfl,rfl⟩
 ·rename_i h1
  split
  ·exact⟨rfl,rfl⟩
  ·rename_i h2
   split
   ·exact⟨rfl,rfl⟩
   ·rename_i h3
    exfalso
    rcases h with h|h|h
    ·unfold out at h1;omega
    ·exact h2 h
    ·exact h3 h
theorem fg {o:Obj} {s:bk} {q:Nat} (hq:q<s.bg.length) (h1:(s.core q).halted=false) (h2:eE o.buffer (s.core q) (iA o q (s.core q))=false):
 (fD o s q).1=s.pL q (eo q (s.core q) (iA o q (s.core q)) s.mem s.bh).1∧(fD o s q).2.1.kind=(eo q (s.core q) (iA o q (s.core q)) s.mem s.bh).2∧(fD o s q).2.2=0:=by
 unfold fD
 rw[Int.toNat_natCast,if_neg (by unfold out;omega),if_neg (by rw[h1];simp),if_neg (by rw[yc];show ¬eE o.buffer (s.core q) (iA o q (s.core q))=true;rw[h2];simp)]
 obtain⟨e1,e2⟩:=L5 (s:=s) hq (c8 o s q)
 exact⟨e1,e2,rfl⟩
theorem dw {o:Obj} {s:bk} {q:Nat} (h:¬q<s.bg.length∨(s.core q).buf=[]):(dD o s q).1=s∧(dD o s q).2.1.kind=0:=by
 unfold dD
 rw[Int.toNat_natCast]
 split
 ·exact⟨rfl,rfl⟩
 ·rename_i h1
  rcases h with h|h
  ·unfold out at h1;omega
  ·rw[h];exact⟨rfl,rfl⟩
theorem fL {o:Obj} {s:bk} {q:Nat} (hq:q<s.bg.length) {x:cx} {t:List cx} (h:(s.core q).buf=x::t):
 (dD o s q).1=s.pL q ({ s.core q with buf:=t },s.mem.set x.addr.toNat x.word,s.bh)∧(dD o s q).2.1.kind=8∧(dD o s q).2.2=0:=by
 unfold dD
 rw[Int.toNat_natCast,if_neg (by unfold out;omega),h]
 exact⟨rfl,rfl,rfl⟩
theorem dt (s:bk) (q:Nat) (r:bx×List Int×List cH):(s.pL q r).bg.length=s.bg.length:=by simp[bk.pL]
theorem eO {s:bk} {q:Nat} (hq:q<s.bg.length) (r:bx×List Int×List cH) (j:Nat):(s.pL q r).core j=if j=q then r.1 else s.core j:=by
 unfold bk.pL bk.core
 by_cases h:j=q
 ·subst h;simp[List.getD,hq]
 ·rw[if_neg h];simp[List.getD,List.getElem?_set_ne (Ne.symm h)]
theorem gp (o:Obj) (s:bk) (kind k:Int):(∃q:Nat,(k=q)∧(kind=1∨kind=2))∨(cj o s kind k).1=s:=by
 by_cases hk:0≤k
 ·by_cases h1:kind=1∨kind=2
  ·exact .inl ⟨k.toNat,by omega,h1⟩
  ·right;unfold cj;rw[if_neg (by omega),if_neg (by omega)]
 ·right
  unfold cj
  have hout:out s k:= .inl (by omega)
  split
  ·unfold fD;rw[if_pos hout]
  ·split
   ·unfold dD;rw[if_pos hout]
   ·rfl
def Hz (o:Obj) (s:bk):Prop:=∀q,q<s.bg.length→(s.core q).halted=true→9<(iA o q (s.core q)).kind
structure lk (o:Obj):Prop where
 mem:∀w∈o.mem,dE w
 word:∀q,q<o.bg.length→∀k,k<(o.core q).code.length→dE ((o.core q).code.getD k default).word
theorem Obj.Wf.words {o:Obj} (h:o.Wf):lk o where
 mem:=h.mem
 word:=fun q hq k hk=>by
  have h1:(o.core q)∈o.bg:=by
   have:o.core q=o.bg[q]:=by simp[Obj.core,List.getD,hq]
   rw[this];exact List.getElem_mem hq
  have h2:(o.core q).code.getD k default∈(o.core q).code:=by
   rw[show(o.core q).code.getD k default=(o.core q).code[k] by rw[List.getD,List.getElem?_eq_getElem hk];rfl];exact List.getElem_mem hk
  exact((h.bg _ h1).code _ h2).word
theorem nh (n:Int):dE (u5 n):=by unfold dE u5;rw[IntKind.wrap_i64];omega
theorem KQ {p:Prop} [Decidable p] {a b:Int} (h1:dE a) (h2:dE b):dE (if p then a else b):=by
 split
 ·exact h1
 ·exact h2
theorem IF (t:Bool):dE (tr t):=by unfold tr dE;split<;>omega
theorem KT {a:Int} (h:dE a) (b:Int):dE (KH a b):=by
 unfold KH
 have hd:(1:Int)≤2^(min (DW b).toNat 64):=Int.le_of_lt_add_one (by have:(0:Int)<2^(min (DW b).toNat 64):=Int.pow_pos (by omega);omega)
 generalize (2:Int)^(min (DW b).toNat 64)=d at *
 rw[Int.fdiv_eq_ediv_of_nonneg _ (by omega)]
 have h1:=Int.mul_ediv_add_emod a d
 have h2:=Int.emod_nonneg a (b:=d) (by omega)
 have h3:=Int.emod_lt_of_pos a (b:=d) (by omega)
 obtain⟨h4,h5⟩:=h
 generalize a /d=q at *
 generalize a%d=r at *
 constructor
 ·apply Int.not_lt.1
  intro hq
  have:d * (q+1)≤1 * (q+1):=Int.mul_le_mul_of_nonpos_right hd (by omega)
  rw[Int.mul_add] at this
  omega
 ·apply Int.not_le.1
  intro hq
  have:1 * q≤d * q:=Int.mul_le_mul_of_nonneg_right hd (by omega)
  omega
theorem KU {a b:Int} (ha:dE a) (op:Int):dE (KV op a b):=by
 have hq:dE (B9 a b):=by
  unfold B9
  split
  ·exact⟨by omega,by omega⟩
  ·split
   ·exact nh _
   ·exact nh _
 have hm:dE (HQ a b):=by
  unfold HQ
  split
  ·exact ha
  ·exact nh _
 unfold KV
 repeat' (with_reducible refine KQ ?_ ?_)
 all_goals first
  |exact IF _
  |exact KT ha _
  |exact hq
  |exact hm
  |exact nh _
theorem KR (op a:Int):dE (J7 op a):=by
 unfold J7
 split
 ·exact nh _
 ·exact IF _
theorem O9 {op a b:Int} (h:dE a):dE (LM op a b):=by
 unfold LM
 split
 ·exact KU h _
 ·exact KR _ _
theorem zr (a:Int):∀(l:List cx) (r:Int×Bool),(∀x∈l,dE x.word)→dE r.1→dE (jR a l r).1
 |[],r,_,h=>h
 |x::l,r,h,hr=>by
  rw[jR]
  refine zr a l _ (fun y hy=>h y (by simp[hy])) ?_
  split
  ·exact h x (by simp)
  ·exact hr
theorem zK {l:List Int} (h:∀w∈l,dE w) (k:Nat):dE (l.getD k 0):=by
 by_cases hk:k<l.length
 ·have:l.getD k 0=l[k]:=by simp[List.getD,hk]
  rw[this];exact h _ (List.getElem_mem hk)
 ·simp only[List.getD,List.getElem?_eq_none (Nat.le_of_not_lt hk),Option.getD_none];exact⟨by omega,by omega⟩
theorem kQ.put {c:bx} (h:kQ c) {k w:Int} (hw:dE w):kQ (c.put k w):=
 ⟨h.pc,fun j hj=>by
  show dE (mR c.di k w j)
  unfold mR
  split
  ·exact hw
  ·exact h.di j hj,h.buf⟩
theorem L6 {q:Nat} {c:bx} {i:Instr} {mem:List Int} {pr:List cH} {code m:Int} (hq:q<8) (hcl:code≤16384) (hml:m≤4096) (hc:kQ c) (hp:0≤c.pc∧c.pc<code) (iok:mW i code m) (hw:dE i.word) (hm:∀w∈mem,dE w) (hpr:∀p∈pr,ke p):
 kQ (eo q c i mem pr).1.1∧(∀w∈(eo q c i mem pr).1.2.1,dE w)∧(∀p∈(eo q c i mem pr).1.2.2,ke p):=by
 have hci:kQ c.inc:=⟨by show dE (c.pc+1);exact⟨by omega,by omega⟩,hc.di,hc.buf⟩
 have hr:∀k:Int,0≤k∧k<16→dE (c.di k.toNat):=fun k hk=>hc.di _ (by omega)
 have ha:=hr _ iok.a
 have hb:=hr _ iok.b
 have hd:=hr _ iok.d
 unfold eo
 by_cases k1:i.kind=1
 ·rw[if_pos k1];exact⟨hci.put hw,hm,hpr⟩
 rw[if_neg k1]
 by_cases k2:i.kind=2
 ·rw[if_pos k2];exact⟨hci.put (O9 ha),hm,hpr⟩
 rw[if_neg k2]
 by_cases k3:i.kind=3
 ·rw[if_pos k3];exact⟨hci.put (zr _ _ _ (fun x hx=>(hc.buf x hx).2.2) (zK hm _)),hm,hpr⟩
 rw[if_neg k3]
 by_cases k4:i.kind=4
 ·rw[if_pos k4]
  refine⟨⟨hci.pc,hc.di,fun x hx=> ?_⟩,hm,hpr⟩
  rcases List.mem_append.1 hx with hx|hx
  ·exact hc.buf x hx
  ·simp only[List.mem_singleton] at hx
   subst hx
   have:=iok.addr (by omega)
   exact⟨hc.pc,⟨by show -9223372036854775808≤i.addr;omega,by show i.addr<_;omega⟩,ha⟩
 rw[if_neg k4]
 by_cases k5:i.kind=5
 ·rw[if_pos k5]
  refine⟨hci.put (zK hm _),fun w hx=> ?_,hpr⟩
  rcases List.mem_or_eq_of_mem_set hx with hx|rfl
  ·exact hm w hx
  ·exact hd
 rw[if_neg k5]
 by_cases k6:i.kind=6
 ·rw[if_pos k6];exact⟨hci,hm,hpr⟩
 rw[if_neg k6]
 by_cases k7:i.kind=7
 ·rw[if_pos k7]
  refine⟨hci,hm,fun p hp2=> ?_⟩
  rcases List.mem_append.1 hp2 with hx|hx
  ·exact hpr p hx
  ·simp only[List.mem_singleton] at hx
   subst hx
   exact⟨⟨by show _≤(q:Int);omega,by show(q:Int)<_;omega⟩,ha⟩
 rw[if_neg k7]
 by_cases k8:i.kind=8
 ·rw[if_pos k8]
  have:=iok.to (by omega)
  exact⟨⟨⟨by show _≤i.to;omega,by show i.to<_;omega⟩,hc.di,hc.buf⟩,hm,hpr⟩
 rw[if_neg k8]
 by_cases k9:i.kind=9
 ·rw[if_pos k9]
  have:=iok.to (by omega)
  refine⟨?_,hm,hpr⟩
  dsimp only
  split
  ·exact⟨⟨by show _≤i.to;omega,by show i.to<_;omega⟩,hc.di,hc.buf⟩
  ·exact hci
 rw[if_neg k9]
 exact⟨⟨hc.pc,hc.di,hc.buf⟩,hm,hpr⟩
theorem tn {s:bk} {q:Nat} (hq:q<s.bg.length):s.core q∈s.bg:=by
 have:s.core q=s.bg[q]:=by simp[bk.core,List.getD,hq]
 rw[this];exact List.getElem_mem hq
theorem MW.put {s:bk} (h:MW s) {q:Nat} {r:bx×List Int×List cH} (h1:kQ r.1) (h2:∀w∈r.2.1,dE w) (h3:∀p∈r.2.2,ke p):MW (s.pL q r) where
 core:=fun c hc=>by
  rcases List.mem_or_eq_of_mem_set hc with hc|rfl
  ·exact h.core c hc
  ·exact h1
 mem:=h2
 bh:=h3
theorem oJ {o:Obj} {s:bk} (g:Good o s) (ok:cz o) {q:Nat} (hq:q<s.bg.length):mW (iA o q (s.core q)) (o.core q).code.length o.mem.length∧(s.core q).pc.toNat<(o.core q).code.length:=by
 have hp:=g.pc q hq
 exact⟨lA (ok.ok q (by rw[←g.n];exact hq) _ (by omega)),by omega⟩
structure pP (o:Obj) (s:bk):Prop where
 iE:Good o s
 w:MW s
 hz:Hz o s
theorem BD {q:Nat} {c:bx} {i:Instr} {mem:List Int} {pr:List cH} (h0:c.halted=false) (h:(eo q c i mem pr).1.1.halted=true):9<i.kind∨i.kind<1:=by
 have hi:c.inc.halted=false:=h0
 unfold eo at h
 repeat' split at h
 all_goals first
  |omega
  |(exfalso;simp[bx.put,bx.inc,h0] at h;done)
theorem uC {q:Nat} {c:bx} {i:Instr} {mem:List Int} {pr:List cH} (h:9<i.kind):eo q c i mem pr=(({ c with halted:=true },mem,pr),7):=by
 unfold eo
 rw[if_neg (by omega),if_neg (by omega),if_neg (by omega),if_neg (by omega),if_neg (by omega),if_neg (by omega),if_neg (by omega),if_neg (by omega),if_neg (by omega)]
theorem pP.step {o:Obj} {s:bk} (h:pP o s) (ok:cz o) (hw:lk o) (kind k:Int):pP o (cj o s kind k).1:=by
 refine⟨h.iE.step ok kind k, ?_, ?_⟩
 ·rcases gp o s kind k with⟨q,rfl,hk⟩|h1
  ·rcases hk with rfl|rfl
   ·show MW (fD o s q).1
    by_cases hc:¬q<s.bg.length∨(s.core q).halted=true∨eE o.buffer (s.core q) (iA o q (s.core q))=true
    ·rw[(gL hc).1];exact h.w
    ·simp only[not_or,Decidable.not_not,Bool.not_eq_true] at hc
     obtain⟨hq,h1,h2⟩:=hc
     rw[(fg hq h1 h2).1]
     obtain⟨iok,hpc⟩:=oJ h.iE ok hq
     have hqo:q<o.bg.length:=by rw[←h.iE.n];exact hq
     have:=ok.bg
     have:=ok.mem
     have:=ok.code q hqo
     obtain⟨e1,e2,e3⟩:=L6 (q:=q) (mem:=s.mem) (pr:=s.bh) (by omega) (by omega) (by omega) (h.w.core _ (tn hq)) (h.iE.pc q hq) iok (hw.word q hqo _ hpc) h.w.mem h.w.bh
     exact h.w.put e1 e2 e3
   ·show MW (dD o s q).1
    by_cases hq:q<s.bg.length
    ·cases hb:(s.core q).buf with
     |nil=>rw[(dw (.inr hb)).1];exact h.w
     |cons x t=>
      rw[(fL hq hb).1]
      have hc:=h.w.core _ (tn hq)
      refine h.w.put ⟨hc.pc,hc.di,fun y hy=>hc.buf y (by rw[hb];simp[show y∈t from hy])⟩ (fun w hx=> ?_) h.w.bh
      rcases List.mem_or_eq_of_mem_set hx with hx|rfl
      ·exact h.w.mem w hx
      ·exact(hc.buf x (by rw[hb];simp)).2.2
    ·rw[(dw (.inl hq)).1];exact h.w
  ·rw[h1];exact h.w
 ·rcases gp o s kind k with⟨q,rfl,hk⟩|h1
  ·rcases hk with rfl|rfl
   ·show Hz o (fD o s q).1
    by_cases hc:¬q<s.bg.length∨(s.core q).halted=true∨eE o.buffer (s.core q) (iA o q (s.core q))=true
    ·rw[(gL hc).1];exact h.hz
    ·simp only[not_or,Decidable.not_not,Bool.not_eq_true] at hc
     obtain⟨hq,h1,h2⟩:=hc
     rw[(fg hq h1 h2).1]
     intro j hj hh
     rw[dt] at hj
     rw[eO hq] at hh ⊢
     by_cases e:j=q
     ·subst e
      rw[if_pos rfl] at hh ⊢
      obtain⟨iok,hpc⟩:=oJ h.iE ok hq
      have hk:=BD h1 hh
      have:=iok.kind
      rw[uC (by omega)]
      show 9<(iA o j (s.core j)).kind
      omega
     ·rw[if_neg e] at hh ⊢
      exact h.hz j hj hh
   ·show Hz o (dD o s q).1
    by_cases hq:q<s.bg.length
    ·cases hb:(s.core q).buf with
     |nil=>rw[(dw (.inr hb)).1];exact h.hz
     |cons x t=>
      rw[(fL hq hb).1]
      intro j hj hh
      rw[dt] at hj
      rw[eO hq] at hh ⊢
      by_cases e:j=q
      ·subst e
       rw[if_pos rfl] at hh ⊢
       exact h.hz j hj hh
      ·rw[if_neg e] at hh ⊢
       exact h.hz j hj hh
    ·rw[(dw (.inl hq)).1];exact h.hz
  ·rw[h1];exact h.hz
theorem pP.init {o:Obj} (ok:cz o) (hw:lk o):pP o (cZ o) where
 iE:=BB ok
 w:=⟨fun c hc=>by
  have:c=core0:=List.eq_of_mem_replicate hc
  subst this
  exact⟨⟨by show(-9223372036854775808:Int)≤0;omega,by show(0:Int)<_;omega⟩,fun j _=>⟨by show(-9223372036854775808:Int)≤0;omega,by show(0:Int)<_;omega⟩,fun x hx=>by cases hx⟩,hw.mem,fun p hp=>by cases hp⟩
 hz:=fun q hq hh=>by
  have:(cZ o).core q=core0:=by simp[cZ,bk.core,List.getD,List.getElem?_replicate];split<;>rfl
  rw[this] at hh;cases hh
end Go.Proofs.YtlonbgdonffcbaaGreatDoor
end
