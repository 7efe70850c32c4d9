import Derived.Test.YtlonbgdonffcbaaGreatDoorM25
section
/- A situation's text: which situations it tells apart. -/
namespace Go.Proofs.YtlonbgdonffcbaaGreatDoor
open Go Go.cW Go.Proofs
set_option linter.unusedSimpArgs false
set_option linter.unusedVariables false
def d36 (n:Nat):UInt8:=if n<10 then UInt8.ofNat (48+n) else UInt8.ofNat (87+n)
def dq:Nat→Nat→List UInt8→List UInt8
 |0,n,acc=>d36 n::acc
 |f+1,n,acc=>if n<36 then d36 n::acc else dq f (n /36) (d36 (n%36)::acc)
def eS (x:Int):List UInt8:=if x<0 then 45::dq 13 x.natAbs [] else dq 13 x.toNat []
def ct (x:Int):List UInt8:=eS x++[32]
def de (c:bx):List UInt8:=(List.range 16).flatMap fun j=>ct (c.dg j)
def storeT (x:dC):List UInt8:=ct x.pc++(ct x.addr++ct x.word)
def eY (c:bx):List UInt8:=if c.halted then[104] else[]
def dS (c:bx):List UInt8:=ct c.pc++(eY c++(de c++(47::(c.buf.flatMap storeT++[124]))))
def fN (p:cD):List UInt8:=ct p.ch++ct p.word
def dx (s:bk):List UInt8:=s.bf.flatMap dS++(s.mem.flatMap ct++(124::s.bg.flatMap fN))
def dv (c:UInt8):Nat:=if c.toNat<58 then c.toNat - 48 else c.toNat - 87
def sa (l:List UInt8):Nat:=l.foldl (fun v c=>v * 36+dv c) 0
theorem yX {n:Nat} (h:n<36):(d36 n).toNat=if n<10 then 48+n else 87+n:=by
 unfold d36
 split<;>simp<;>omega
theorem wx {n:Nat} (h:n<36):dv (d36 n)=n:=by
 unfold dv
 rw[yX h]
 split<;>split<;>omega
def pM (c:UInt8):Prop:=48≤c.toNat∧c.toNat≤57∨97≤c.toNat∧c.toNat≤122
theorem nj {n:Nat} (h:n<36):pM (d36 n):=by
 unfold pM
 rw[yX h]
 split<;>omega
theorem iF:∀(f n:Nat) (acc:List UInt8),dq f n acc=dq f n []++acc
 |0,n,acc=>rfl
 |f+1,n,acc=>by
  rw[dq,dq]
  split
  ·rfl
  ·rw[iF f _ (d36 (n%36)::acc),iF f _ [d36 (n%36)],List.append_assoc];rfl
theorem B1 (l:List UInt8) (c:UInt8):sa (l++[c])=sa l * 36+dv c:=by simp[sa]
theorem zP:∀(f n:Nat),n<36^(f+1)→sa (dq f n [])=n
 |0,n,h=>by
  rw[dq]
  have:n<36:=by simpa using h
  simp[sa,wx this]
 |f+1,n,h=>by
  rw[dq]
  split
  ·rename_i h1;simp[sa,wx h1]
  ·rw[iF,B1,zP f _ (by rw[Nat.div_lt_iff_lt_mul (by omega)];rw[Nat.pow_succ] at h;exact h),wx (Nat.mod_lt _ (by omega))]
   omega
theorem mV:∀(f n:Nat),n<36^(f+1)→∀c∈dq f n [],pM c
 |0,n,h=>by
  rw[dq]
  intro c hc
  simp only[List.mem_cons,List.not_mem_nil,or_false] at hc
  subst hc
  exact nj (by simpa using h)
 |f+1,n,h=>by
  rw[dq]
  split
  ·rename_i h1
   intro c hc
   simp only[List.mem_cons,List.not_mem_nil,or_false] at hc
   subst hc
   exact nj h1
  ·rw[iF]
   intro c hc
   rcases List.mem_append.1 hc with hc|hc
   ·exact mV f _ (by rw[Nat.div_lt_iff_lt_mul (by omega)];rw[Nat.pow_succ] at h;exact h) c hc
   ·simp only[List.mem_cons,List.not_mem_nil,or_false] at hc
    subst hc
    exact nj (Nat.mod_lt _ (by omega))
theorem LD:∀(f n:Nat),dq f n []≠[]
 |0,n=>by simp[dq]
 |f+1,n=>by
  rw[dq]
  split
  ·simp
  ·rw[iF];simp
theorem tF:∀(f n:Nat),(dq f n []).length≤f+1
 |0,n=>by simp[dq]
 |f+1,n=>by
  rw[dq]
  split
  ·simp
  ·rw[iF,List.length_append]
   have:=tF f (n /36)
   simp;omega
theorem vr {n:Nat} (h:n≤9223372036854775808):n<36^(13+1):=Nat.lt_of_le_of_lt h (by decide)
def CC (c:UInt8):Prop:=pM c∨c.toNat=45
theorem sZ {x:Int} (h:cy x):∀c∈eS x,CC c:=by
 intro c hc
 obtain⟨h1,h2⟩:=h
 unfold eS at hc
 split at hc
 ·rcases List.mem_cons.1 hc with rfl|hc
  ·exact .inr rfl
  ·exact .inl (mV _ _ (vr (by omega)) c hc)
 ·exact .inl (mV _ _ (vr (by omega)) c hc)
theorem MC (x:Int):eS x≠[]:=by
 unfold eS
 split
 ·simp
 ·exact LD _ _
theorem tT (x:Int):(eS x).length≤15:=by
 unfold eS
 split
 ·have:=tF 13 x.natAbs;simp;omega
 ·have:=tF 13 x.toNat;omega
theorem zB {x y:Int} (hx:cy x) (hy:cy y) (h:eS x=eS y):x=y:=by
 obtain⟨x1,x2⟩:=hx
 obtain⟨y1,y2⟩:=hy
 have d:=fun(n:Nat) (hn:n≤9223372036854775808)=>zP 13 n (vr hn)
 have hd:=fun(n:Nat) (hn:n≤9223372036854775808) (l:List UInt8) (e:45::l=dq 13 n [])=>show False by
  have:=mV 13 n (vr hn) 45 (by rw[←e];simp)
  exact absurd this (by unfold pM;decide)
 unfold eS at h
 split at h<;>split at h
 ·have h:=List.cons.inj h
  have e1:=d x.natAbs (by omega)
  have e2:=d y.natAbs (by omega)
  rw[h.2,e2] at e1
  omega
 ·exact(hd _ (by omega) _ h).elim
 ·exact(hd _ (by omega) _ h.symm).elim
 ·have e1:=d x.toNat (by omega)
  have e2:=d y.toNat (by omega)
  rw[h,e2] at e1
  omega
theorem qm {c:UInt8}:∀{a b r r':List UInt8},c∉a→c∉b→a++c::r=b++c::r'→a=b∧r=r'
 |[],[],r,r',_,_,h=>⟨rfl,(List.cons.inj h).2⟩
 |[],y::b,r,r',_,hb,h=>by
  have:=(List.cons.inj h).1
  exact absurd (by simp[this]) hb
 |x::a,[],r,r',ha,_,h=>by
  have:=(List.cons.inj h).1
  exact absurd (by simp[this]) ha
 |x::a,y::b,r,r',ha,hb,h=>by
  obtain⟨h1,h2⟩:=List.cons.inj h
  obtain⟨h3,h4⟩:=qm (fun q=>ha (List.mem_cons_of_mem _ q)) (fun q=>hb (List.mem_cons_of_mem _ q)) h2
  exact⟨by rw[h1,h3],h4⟩
theorem my {x:Int} (h:cy x):(32:UInt8)∉eS x:=fun hc=>by
 have:=sZ h _ hc
 unfold CC pM at this
 revert this;decide
theorem jM {x y:Int} {r r':List UInt8} (hx:cy x) (hy:cy y) (h:ct x++r=ct y++r'):x=y∧r=r':=by
 unfold ct at h
 rw[List.append_assoc,List.append_assoc] at h
 obtain⟨h1,h2⟩:=qm (my hx) (my hy) h
 exact⟨zB hx hy h1,h2⟩
def lk (c:UInt8):Prop:=c.toNat=47∨c.toNat=124
theorem qo {x:Int} (hx:cy x) {c:UInt8} {r r':List UInt8} (hc:lk c):ct x++r≠c::r':=fun h=>by
 unfold ct at h
 rw[List.append_assoc] at h
 cases hn:eS x with
 |nil=>exact MC x hn
 |cons a l=>
  rw[hn] at h
  have h1:=(List.cons.inj h).1
  have h2:=sZ hx a (by rw[hn];simp)
  rw[h1] at h2
  unfold CC pM at h2
  unfold lk at hc
  omega
section
variable {α:Type} {f:α→List UInt8} {P:α→Prop}
theorem ma (hi:∀x y r r',P x→P y→f x++r=f y++r'→x=y∧r=r') (hs:∀x c r r',P x→lk c→f x++r≠c::r'):∀{l l':List α} {c c':UInt8} {r r':List UInt8},(∀x∈l,P x)→(∀x∈l',P x)→lk c→lk c'→l.flatMap f++c::r=l'.flatMap f++c'::r'→l=l'∧c::r=c'::r'
 |[],[],c,c',r,r',_,_,_,_,h=>⟨rfl,h⟩
 |[],y::l',c,c',r,r',_,h2,h3,_,h=>by
  rw[List.flatMap_cons,List.append_assoc] at h
  exact(hs y c _ _ (h2 y (by simp)) h3 h.symm).elim
 |x::l,[],c,c',r,r',h1,_,_,h4,h=>by
  rw[List.flatMap_cons,List.append_assoc] at h
  exact(hs x c' _ _ (h1 x (by simp)) h4 h).elim
 |x::l,y::l',c,c',r,r',h1,h2,h3,h4,h=>by
  rw[List.flatMap_cons,List.flatMap_cons,List.append_assoc,List.append_assoc] at h
  obtain⟨rfl,h5⟩:=hi x y _ _ (h1 x (by simp)) (h2 y (by simp)) h
  obtain⟨rfl,h6⟩:=ma hi hs (fun z hz=>h1 z (by simp[hz])) (fun z hz=>h2 z (by simp[hz])) h3 h4 h5
  exact⟨rfl,h6⟩
end
def pQ (x:dC):Prop:=cy x.pc∧cy x.addr∧cy x.word
def kZ (p:cD):Prop:=cy p.ch∧cy p.word
theorem BU (x y:dC) (r r':List UInt8) (hx:pQ x) (hy:pQ y) (h:storeT x++r=storeT y++r'):x=y∧r=r':=by
 obtain⟨xp,xa,xw⟩:=x
 obtain⟨yp,ya,yw⟩:=y
 obtain⟨x1,x2,x3⟩:=hx
 obtain⟨y1,y2,y3⟩:=hy
 unfold storeT at h
 dsimp only at *
 simp only[List.append_assoc] at h
 obtain⟨e1,h1⟩:=jM x1 y1 h
 obtain⟨e2,h2⟩:=jM x2 y2 h1
 obtain⟨e3,h3⟩:=jM x3 y3 h2
 exact⟨by rw[e1,e2,e3],h3⟩
theorem yJ (x:dC) (c:UInt8) (r r':List UInt8) (hx:pQ x) (hc:lk c):storeT x++r≠c::r':=by
 unfold storeT
 rw[List.append_assoc]
 exact qo hx.1 hc
theorem BE (x y:cD) (r r':List UInt8) (hx:kZ x) (hy:kZ y) (h:fN x++r=fN y++r'):x=y∧r=r':=by
 obtain⟨xp,xa⟩:=x
 obtain⟨yp,ya⟩:=y
 obtain⟨x1,x2⟩:=hx
 obtain⟨y1,y2⟩:=hy
 unfold fN at h
 dsimp only at *
 simp only[List.append_assoc] at h
 obtain⟨e1,h1⟩:=jM x1 y1 h
 obtain⟨e2,h2⟩:=jM x2 y2 h1
 exact⟨by rw[e1,e2],h2⟩
theorem xj (x:cD) (c:UInt8) (r r':List UInt8) (hx:kZ x) (hc:lk c):fN x++r≠c::r':=by
 unfold fN
 rw[List.append_assoc]
 exact qo hx.1 hc
structure kI (c:bx):Prop where
 pc:cy c.pc
 dg:∀j,j<16→cy (c.dg j)
 buf:∀x∈c.buf,pQ x
def bx.tl (c:bx):Nat:=(eY c).length+(eS (c.dg 0)).length
theorem OG (c:bx):c.tl≤16:=by
 unfold bx.tl eY
 have:=tT (c.dg 0)
 split<;>simp<;>omega
structure CB (c c':bx):Prop where
 pc:c.pc=c'.pc
 buf:c.buf=c'.buf
 tl:c.tl=c'.tl
 dg:c.halted=c'.halted→∀j,j<16→c.dg j=c'.dg j
theorem sQ {c:bx}:(32:UInt8)∉eY c:=by
 unfold eY
 split<;>decide
theorem wJ (c:bx):de c=eS (c.dg 0)++32::([1,2,3,4,5,6,7,8,9,10,11,12,13,14,15].flatMap fun j=>ct (c.dg j)):=by
 unfold de
 rw[show List.range 16=0::[1,2,3,4,5,6,7,8,9,10,11,12,13,14,15] from rfl,List.flatMap_cons,ct,List.append_assoc]
 rfl
theorem wK {g g':Nat→Int} {r r':List UInt8}:∀{js:List Nat},(∀j∈js,cy (g j))→(∀j∈js,cy (g' j))→(js.flatMap fun j=>ct (g j))++r=(js.flatMap fun j=>ct (g' j))++r'→(∀j∈js,g j=g' j)∧r=r'
 |[],_,_,h=>⟨by simp,h⟩
 |j::js,h1,h2,h=>by
  rw[List.flatMap_cons,List.flatMap_cons,List.append_assoc,List.append_assoc] at h
  obtain⟨h3,h4⟩:=jM (h1 j (by simp)) (h2 j (by simp)) h
  obtain⟨h5,h6⟩:=wK (fun q hq=>h1 q (by simp[hq])) (fun q hq=>h2 q (by simp[hq])) h4
  refine⟨fun q hq=> ?_,h6⟩
  rcases List.mem_cons.1 hq with rfl|hq
  ·exact h3
  ·exact h5 q hq
theorem JM {j:Nat} (h:j<16):j=0∨j∈[1,2,3,4,5,6,7,8,9,10,11,12,13,14,15]:=by
 simp only[List.mem_cons,List.not_mem_nil,or_false];omega
theorem sW {j:Nat} (h:j∈[1,2,3,4,5,6,7,8,9,10,11,12,13,14,15]):j<16:=by
 simp only[List.mem_cons,List.not_mem_nil,or_false] at h;omega
theorem C4 {c c':bx} {r r':List UInt8} (hc:kI c) (hc':kI c') (h:dS c++r=dS c'++r'):CB c c'∧r=r':=by
 unfold dS at h
 simp only[List.append_assoc,List.cons_append,List.nil_append] at h
 obtain⟨h1,h⟩:=jM hc.pc hc'.pc h
 rw[wJ,wJ] at h
 simp only[List.append_assoc,List.cons_append] at h
 rw[←List.append_assoc,←List.append_assoc (eY c')] at h
 have n1:(32:UInt8)∉eY c++eS (c.dg 0):=fun hm=>(List.mem_append.1 hm).elim sQ (my (hc.dg 0 (by omega)))
 have n2:(32:UInt8)∉eY c'++eS (c'.dg 0):=fun hm=>(List.mem_append.1 hm).elim sQ (my (hc'.dg 0 (by omega)))
 obtain⟨h2,h⟩:=qm n1 n2 h
 obtain⟨h3,h⟩:=wK (fun j hj=>hc.dg j (sW hj)) (fun j hj=>hc'.dg j (sW hj)) h
 obtain⟨h4,h⟩:=ma (P:=pQ) BU yJ hc.buf hc'.buf (.inr rfl) (.inr rfl) (List.cons.inj h).2
 refine⟨⟨h1,h4, ?_,fun he j hj=> ?_⟩,(List.cons.inj h).2⟩
 ·have:=congrArg List.length h2
  simpa[bx.tl] using this
 ·rcases JM hj with rfl|hj
  ·refine zB (hc.dg 0 (by omega)) (hc'.dg 0 (by omega)) ?_
   have:eY c=eY c':=by unfold eY;rw[he]
   rw[this] at h2
   exact List.append_cancel_left h2
  ·exact h3 j hj
theorem rf:∀{l l':List bx} {r r':List UInt8},l.length=l'.length→(∀c∈l,kI c)→(∀c∈l',kI c)→l.flatMap dS++r=l'.flatMap dS++r'→(∀q,q<l.length→CB (l.getD q default) (l'.getD q default))∧r=r'
 |[],[],r,r',_,_,_,h=>⟨fun q hq=>by simp at hq,h⟩
 |[],_::_,_,_,h,_,_,_=>by simp at h
 |_::_,[],_,_,h,_,_,_=>by simp at h
 |c::l,c'::l',r,r',hl,h1,h2,h=>by
  rw[List.flatMap_cons,List.flatMap_cons,List.append_assoc,List.append_assoc] at h
  obtain⟨h3,h4⟩:=C4 (h1 c (by simp)) (h2 c' (by simp)) h
  obtain⟨h5,h6⟩:=rf (by simpa using hl) (fun z hz=>h1 z (by simp[hz])) (fun z hz=>h2 z (by simp[hz])) h4
  refine⟨fun q hq=> ?_,h6⟩
  cases q with
  |zero=>exact h3
  |succ q=>exact h5 q (by simpa using hq)
structure MW (s:bk):Prop where
 core:∀c∈s.bf,kI c
 mem:∀w∈s.mem,cy w
 bg:∀p∈s.bg,kZ p
structure rR (s d:bk):Prop where
 n:s.bf.length=d.bf.length
 core:∀q,q<s.bf.length→CB (s.core q) (d.core q)
 mem:s.mem=d.mem
 bg:s.bg=d.bg
theorem key_inj {s d:bk} (hs:MW s) (hd:MW d) (hn:s.bf.length=d.bf.length) (h:dx s=dx d):rR s d:=by
 unfold dx at h
 obtain⟨h1,h⟩:=rf hn hs.core hd.core h
 obtain⟨h2,h⟩:=ma (P:=cy) (f:=ct) (fun x y r r' hx hy=>jM hx hy) (fun x c r r' hx hc=>qo hx hc) hs.mem hd.mem (.inr rfl) (.inr rfl) h
 have h:=(List.cons.inj h).2
 have h:=congrArg (·++[(124:UInt8)]) h
 obtain⟨h3,_⟩:=ma (P:=kZ) BE xj hs.bg hd.bg (.inr rfl) (.inr rfl) h
 exact⟨hn,h1,h2,h3⟩
end Go.Proofs.YtlonbgdonffcbaaGreatDoor
end
section
/- A step of the machine, told by the core that does it; what is so of each situation. -/
namespace Go.Proofs.YtlonbgdonffcbaaGreatDoor
open Go Go.cW Go.Proofs
set_option linter.unusedSimpArgs false
set_option linter.unusedVariables false
def bx.inc (c:bx):bx:={ c with pc:=c.pc+1 }
def fG (q:Nat) (c:bx) (i:Instr) (mem:List Int) (pr:List cD):(bx×List Int×List cD)×Int:=
 if i.kind=1 then((c.inc.put i.d i.word,mem,pr),1)
 else if i.kind=2 then((c.inc.put i.d (KI i.op (c.dg i.a.toNat) (c.dg i.b.toNat)),mem,pr),1)
 else if i.kind=3 then((c.inc.put i.d (kT i.addr c.buf (mem.getD i.addr.toNat 0,false)).1,mem,pr),2)
 else if i.kind=4 then(({ c.inc with buf:=c.buf++[⟨c.pc,i.addr,c.dg i.a.toNat⟩] },mem,pr),3)
 else if i.kind=5 then((c.inc.put i.d (mem.getD i.addr.toNat 0),mem.set i.addr.toNat (c.dg i.d.toNat),pr),4)
 else if i.kind=6 then((c.inc,mem,pr),5)
 else if i.kind=7 then((c.inc,mem,pr++[⟨q,c.dg i.a.toNat⟩]),6)
 else if i.kind=8 then(({ c.inc with pc:=i.to },mem,pr),1)
 else if i.kind=9 then((if c.dg i.a.toNat=0 then { c.inc with pc:=i.to } else c.inc,mem,pr),1)
 else(({ c with halted:=true },mem,pr),7)
def bk.td (s:bk) (q:Nat) (r:bx×List Int×List cD):bk:=⟨s.bf.set q r.1,r.2.1,r.2.2⟩
def ez (b:Int) (c:bx) (i:Instr):Bool:=if i.kind=4 then decide (b≤c.buf.length) else if i.kind=5∨i.kind=6∨i.kind=7 then decide ((0:Int)<c.buf.length) else false
theorem yF (o:Obj) (s:bk) (q:Nat) (i:Instr):eo o s q i=ez o.buffer (s.core q) i:=rfl
theorem KY {s:bk} {q:Nat} (hq:q<s.bf.length) (i:Instr):
 (act (s.inc q) q i { lY with core:=q,pc:=(s.core q).pc }).1=s.td q (fG q (s.core q) i s.mem s.bg).1∧(act (s.inc q) q i { lY with core:=q,pc:=(s.core q).pc }).2.kind=(fG q (s.core q) i s.mem s.bg).2:=by
 have hc:=qO hq
 have hm:(s.inc q).mem=s.mem:=rfl
 have hpr:(s.inc q).bg=s.bg:=rfl
 have hin:∀c:bx,(s.inc q).cp q c=s.cp q c:=gA
 by_cases k1:i.kind=1
 ·simp only[act,fG,if_pos k1,rh,hin,hc];exact⟨rfl,trivial⟩
 by_cases k2:i.kind=2
 ·simp only[act,fG,if_neg k1,if_pos k2,uX,hin,hc];exact⟨rfl,trivial⟩
 by_cases k3:i.kind=3
 ·simp only[act,fG,if_neg k1,if_neg k2,if_pos k3,lr,hin,hc,hm];exact⟨rfl,trivial⟩
 by_cases k4:i.kind=4
 ·simp only[act,fG,if_neg k1,if_neg k2,if_neg k3,if_pos k4,lK,hin,hc];exact⟨rfl,trivial⟩
 by_cases k5:i.kind=5
 ·simp only[act,fG,if_neg k1,if_neg k2,if_neg k3,if_neg k4,if_pos k5,nZ,hin,hc,hm];exact⟨rfl,trivial⟩
 by_cases k6:i.kind=6
 ·simp only[act,fG,if_neg k1,if_neg k2,if_neg k3,if_neg k4,if_neg k5,if_pos k6,lJ,hin,hc];exact⟨rfl,trivial⟩
 by_cases k7:i.kind=7
 ·simp only[act,fG,if_neg k1,if_neg k2,if_neg k3,if_neg k4,if_neg k5,if_neg k6,if_pos k7,doPrint,hin,hc,hpr];exact⟨rfl,trivial⟩
 by_cases k8:i.kind=8
 ·simp only[act,fG,if_neg k1,if_neg k2,if_neg k3,if_neg k4,if_neg k5,if_neg k6,if_neg k7,if_pos k8,nY,hin,hc];exact⟨rfl,trivial⟩
 by_cases k9:i.kind=9
 ·simp only[act,fG,if_neg k1,if_neg k2,if_neg k3,if_neg k4,if_neg k5,if_neg k6,if_neg k7,if_neg k8,if_pos k9,n0,hin,hc];exact⟨rfl,trivial⟩
 simp only[act,fG,if_neg k1,if_neg k2,if_neg k3,if_neg k4,if_neg k5,if_neg k6,if_neg k7,if_neg k8,if_neg k9,nX,hin,hc]
 exact⟨rfl,trivial⟩
def iR (o:Obj) (q:Nat) (c:bx):Instr:=(o.core q).code.getD c.pc.toNat default
theorem iZ {o:Obj} {s:bk} {q:Nat} (h:¬q<s.bf.length∨(s.core q).halted=true∨ez o.buffer (s.core q) (iR o q (s.core q))=true):(fV o s q).1=s∧(fV o s q).2.1.kind=0:=by
 unfold fV
 rw[Int.toNat_natCast]
 split
 ·exact⟨rfl,rfl⟩
 ·rename_i h1
  split
  ·exact⟨rfl,rfl⟩
  ·rename_i h2
   split
   ·exact⟨rfl,rfl⟩
   ·rename_i h3
    exfalso
    rcases h with h|h|h
    ·unfold out at h1;omega
    ·exact h2 h
    ·exact h3 h
theorem iY {o:Obj} {s:bk} {q:Nat} (hq:q<s.bf.length) (h1:(s.core q).halted=false) (h2:ez o.buffer (s.core q) (iR o q (s.core q))=false):
 (fV o s q).1=s.td q (fG q (s.core q) (iR o q (s.core q)) s.mem s.bg).1∧(fV o s q).2.1.kind=(fG q (s.core q) (iR o q (s.core q)) s.mem s.bg).2∧(fV o s q).2.2=0:=by
 unfold fV
 rw[Int.toNat_natCast,if_neg (by unfold out;omega),if_neg (by rw[h1];simp),if_neg (by rw[yF];show ¬ez o.buffer (s.core q) (iR o q (s.core q))=true;rw[h2];simp)]
 obtain⟨e1,e2⟩:=KY (s:=s) hq (cX o s q)
 exact⟨e1,e2,rfl⟩
theorem eO {o:Obj} {s:bk} {q:Nat} (h:¬q<s.bf.length∨(s.core q).buf=[]):(dO o s q).1=s∧(dO o s q).2.1.kind=0:=by
 unfold dO
 rw[Int.toNat_natCast]
 split
 ·exact⟨rfl,rfl⟩
 ·rename_i h1
  rcases h with h|h
  ·unfold out at h1;omega
  ·rw[h];exact⟨rfl,rfl⟩
theorem gQ {o:Obj} {s:bk} {q:Nat} (hq:q<s.bf.length) {x:dC} {t:List dC} (h:(s.core q).buf=x::t):
 (dO o s q).1=s.td q ({ s.core q with buf:=t },s.mem.set x.addr.toNat x.word,s.bg)∧(dO o s q).2.1.kind=8∧(dO o s q).2.2=0:=by
 unfold dO
 rw[Int.toNat_natCast,if_neg (by unfold out;omega),h]
 exact⟨rfl,rfl,rfl⟩
theorem dj (s:bk) (q:Nat) (r:bx×List Int×List cD):(s.td q r).bf.length=s.bf.length:=by simp[bk.td]
theorem eJ {s:bk} {q:Nat} (hq:q<s.bf.length) (r:bx×List Int×List cD) (j:Nat):(s.td q r).core j=if j=q then r.1 else s.core j:=by
 unfold bk.td bk.core
 by_cases h:j=q
 ·subst h;simp[List.getD,hq]
 ·rw[if_neg h];simp[List.getD,List.getElem?_set_ne (Ne.symm h)]
theorem ic (o:Obj) (s:bk) (kind k:Int):(∃q:Nat,(k=q)∧(kind=1∨kind=2))∨(cn o s kind k).1=s:=by
 by_cases hk:0≤k
 ·by_cases h1:kind=1∨kind=2
  ·exact .inl ⟨k.toNat,by omega,h1⟩
  ·right;unfold cn;rw[if_neg (by omega),if_neg (by omega)]
 ·right
  unfold cn
  have hout:out s k:= .inl (by omega)
  split
  ·unfold fV;rw[if_pos hout]
  ·split
   ·unfold dO;rw[if_pos hout]
   ·rfl
def Hz (o:Obj) (s:bk):Prop:=∀q,q<s.bf.length→(s.core q).halted=true→9<(iR o q (s.core q)).kind
structure kY (o:Obj):Prop where
 mem:∀w∈o.mem,cy w
 word:∀q,q<o.bf.length→∀k,k<(o.core q).code.length→cy ((o.core q).code.getD k default).word
theorem Obj.Wf.words {o:Obj} (h:o.Wf):kY o where
 mem:=h.mem
 word:=fun q hq k hk=>by
  have h1:(o.core q)∈o.bf:=by
   have:o.core q=o.bf[q]:=by simp[Obj.core,List.getD,hq]
   rw[this];exact List.getElem_mem hq
  have h2:(o.core q).code.getD k default∈(o.core q).code:=by
   rw[show(o.core q).code.getD k default=(o.core q).code[k] by rw[List.getD,List.getElem?_eq_getElem hk];rfl];exact List.getElem_mem hk
  exact((h.bf _ h1).code _ h2).word
theorem nJ (n:Int):cy (tv n):=by unfold cy tv;rw[IntKind.wrap_i64];omega
theorem JT {p:Prop} [Decidable p] {a b:Int} (h1:cy a) (h2:cy b):cy (if p then a else b):=by
 split
 ·exact h1
 ·exact h2
theorem HB (t:Bool):cy (tr t):=by unfold tr cy;split<;>omega
theorem JW {a:Int} (h:cy a) (b:Int):cy (JK a b):=by
 unfold JK
 have hd:(1:Int)≤2^(min (C2 b).toNat 64):=Int.le_of_lt_add_one (by have:(0:Int)<2^(min (C2 b).toNat 64):=Int.pow_pos (by omega);omega)
 generalize (2:Int)^(min (C2 b).toNat 64)=d at *
 rw[Int.fdiv_eq_ediv_of_nonneg _ (by omega)]
 have h1:=Int.mul_ediv_add_emod a d
 have h2:=Int.emod_nonneg a (b:=d) (by omega)
 have h3:=Int.emod_lt_of_pos a (b:=d) (by omega)
 obtain⟨h4,h5⟩:=h
 generalize a /d=q at *
 generalize a%d=r at *
 constructor
 ·apply Int.not_lt.1
  intro hq
  have:d * (q+1)≤1 * (q+1):=Int.mul_le_mul_of_nonpos_right hd (by omega)
  rw[Int.mul_add] at this
  omega
 ·apply Int.not_le.1
  intro hq
  have:1 * q≤d * q:=Int.mul_le_mul_of_nonneg_right hd (by omega)
  omega
theorem JX {a b:Int} (ha:cy a) (op:Int):cy (JY op a b):=by
 have hq:cy (BF a b):=by
  unfold BF
  split
  ·exact⟨by omega,by omega⟩
  ·split
   ·exact nJ _
   ·exact nJ _
 have hm:cy (GS a b):=by
  unfold GS
  split
  ·exact ha
  ·exact nJ _
 unfold JY
 repeat' (with_reducible refine JT ?_ ?_)
 all_goals first
  |exact HB _
  |exact JW ha _
  |exact hq
  |exact hm
  |exact nJ _
theorem JU (op a:Int):cy (JA op a):=by
 unfold JA
 split
 ·exact nJ _
 ·exact HB _
theorem N9 {op a b:Int} (h:cy a):cy (KI op a b):=by
 unfold KI
 split
 ·exact JX h _
 ·exact JU _ _
theorem zL (a:Int):∀(l:List dC) (r:Int×Bool),(∀x∈l,cy x.word)→cy r.1→cy (kT a l r).1
 |[],r,_,h=>h
 |x::l,r,h,hr=>by
  rw[kT]
  refine zL a l _ (fun y hy=>h y (by simp[hy])) ?_
  split
  ·exact h x (by simp)
  ·exact hr
theorem yb {l:List Int} (h:∀w∈l,cy w) (k:Nat):cy (l.getD k 0):=by
 by_cases hk:k<l.length
 ·have:l.getD k 0=l[k]:=by simp[List.getD,hk]
  rw[this];exact h _ (List.getElem_mem hk)
 ·simp only[List.getD,List.getElem?_eq_none (Nat.le_of_not_lt hk),Option.getD_none];exact⟨by omega,by omega⟩
theorem kI.put {c:bx} (h:kI c) {k w:Int} (hw:cy w):kI (c.put k w):=
 ⟨h.pc,fun j hj=>by
  show cy (mA c.dg k w j)
  unfold mA
  split
  ·exact hw
  ·exact h.dg j hj,h.buf⟩
theorem KZ {q:Nat} {c:bx} {i:Instr} {mem:List Int} {pr:List cD} {code m:Int} (hq:q<8) (hcl:code≤16384) (hml:m≤4096) (hc:kI c) (hp:0≤c.pc∧c.pc<code) (iok:oF i code m) (hw:cy i.word) (hm:∀w∈mem,cy w) (hpr:∀p∈pr,kZ p):
 kI (fG q c i mem pr).1.1∧(∀w∈(fG q c i mem pr).1.2.1,cy w)∧(∀p∈(fG q c i mem pr).1.2.2,kZ p):=by
 have hci:kI c.inc:=⟨by show cy (c.pc+1);exact⟨by omega,by omega⟩,hc.dg,hc.buf⟩
 have hr:∀k:Int,0≤k∧k<16→cy (c.dg k.toNat):=fun k hk=>hc.dg _ (by omega)
 have ha:=hr _ iok.a
 have hb:=hr _ iok.b
 have hd:=hr _ iok.d
 unfold fG
 by_cases k1:i.kind=1
 ·rw[if_pos k1];exact⟨hci.put hw,hm,hpr⟩
 rw[if_neg k1]
 by_cases k2:i.kind=2
 ·rw[if_pos k2];exact⟨hci.put (N9 ha),hm,hpr⟩
 rw[if_neg k2]
 by_cases k3:i.kind=3
 ·rw[if_pos k3];exact⟨hci.put (zL _ _ _ (fun x hx=>(hc.buf x hx).2.2) (yb hm _)),hm,hpr⟩
 rw[if_neg k3]
 by_cases k4:i.kind=4
 ·rw[if_pos k4]
  refine⟨⟨hci.pc,hc.dg,fun x hx=> ?_⟩,hm,hpr⟩
  rcases List.mem_append.1 hx with hx|hx
  ·exact hc.buf x hx
  ·simp only[List.mem_singleton] at hx
   subst hx
   have:=iok.addr (by omega)
   exact⟨hc.pc,⟨by show -9223372036854775808≤i.addr;omega,by show i.addr<_;omega⟩,ha⟩
 rw[if_neg k4]
 by_cases k5:i.kind=5
 ·rw[if_pos k5]
  refine⟨hci.put (yb hm _),fun w hx=> ?_,hpr⟩
  rcases List.mem_or_eq_of_mem_set hx with hx|rfl
  ·exact hm w hx
  ·exact hd
 rw[if_neg k5]
 by_cases k6:i.kind=6
 ·rw[if_pos k6];exact⟨hci,hm,hpr⟩
 rw[if_neg k6]
 by_cases k7:i.kind=7
 ·rw[if_pos k7]
  refine⟨hci,hm,fun p hp2=> ?_⟩
  rcases List.mem_append.1 hp2 with hx|hx
  ·exact hpr p hx
  ·simp only[List.mem_singleton] at hx
   subst hx
   exact⟨⟨by show _≤(q:Int);omega,by show(q:Int)<_;omega⟩,ha⟩
 rw[if_neg k7]
 by_cases k8:i.kind=8
 ·rw[if_pos k8]
  have:=iok.to (by omega)
  exact⟨⟨⟨by show _≤i.to;omega,by show i.to<_;omega⟩,hc.dg,hc.buf⟩,hm,hpr⟩
 rw[if_neg k8]
 by_cases k9:i.kind=9
 ·rw[if_pos k9]
  have:=iok.to (by omega)
  refine⟨?_,hm,hpr⟩
  dsimp only
  split
  ·exact⟨⟨by show _≤i.to;omega,by show i.to<_;omega⟩,hc.dg,hc.buf⟩
  ·exact hci
 rw[if_neg k9]
 exact⟨⟨hc.pc,hc.dg,hc.buf⟩,hm,hpr⟩
theorem pD {s:bk} {q:Nat} (hq:q<s.bf.length):s.core q∈s.bf:=by
 have:s.core q=s.bf[q]:=by simp[bk.core,List.getD,hq]
 rw[this];exact List.getElem_mem hq
theorem MW.put {s:bk} (h:MW s) {q:Nat} {r:bx×List Int×List cD} (h1:kI r.1) (h2:∀w∈r.2.1,cy w) (h3:∀p∈r.2.2,kZ p):MW (s.td q r) where
 core:=fun c hc=>by
  rcases List.mem_or_eq_of_mem_set hc with hc|rfl
  ·exact h.core c hc
  ·exact h1
 mem:=h2
 bg:=h3
theorem qP {o:Obj} {s:bk} (g:Good o s) (ok:cw o) {q:Nat} (hq:q<s.bf.length):oF (iR o q (s.core q)) (o.core q).code.length o.mem.length∧(s.core q).pc.toNat<(o.core q).code.length:=by
 have hp:=g.pc q hq
 exact⟨kr (ok.ok q (by rw[←g.n];exact hq) _ (by omega)),by omega⟩
structure ot (o:Obj) (s:bk):Prop where
 jQ:Good o s
 w:MW s
 hz:Hz o s
theorem AI {q:Nat} {c:bx} {i:Instr} {mem:List Int} {pr:List cD} (h0:c.halted=false) (h:(fG q c i mem pr).1.1.halted=true):9<i.kind∨i.kind<1:=by
 have hi:c.inc.halted=false:=h0
 unfold fG at h
 repeat' split at h
 all_goals first
  |omega
  |(exfalso;simp[bx.put,bx.inc,h0] at h;done)
theorem tL {q:Nat} {c:bx} {i:Instr} {mem:List Int} {pr:List cD} (h:9<i.kind):fG q c i mem pr=(({ c with halted:=true },mem,pr),7):=by
 unfold fG
 rw[if_neg (by omega),if_neg (by omega),if_neg (by omega),if_neg (by omega),if_neg (by omega),if_neg (by omega),if_neg (by omega),if_neg (by omega),if_neg (by omega)]
theorem ot.step {o:Obj} {s:bk} (h:ot o s) (ok:cw o) (hw:kY o) (kind k:Int):ot o (cn o s kind k).1:=by
 refine⟨h.jQ.step ok kind k, ?_, ?_⟩
 ·rcases ic o s kind k with⟨q,rfl,hk⟩|h1
  ·rcases hk with rfl|rfl
   ·show MW (fV o s q).1
    by_cases hc:¬q<s.bf.length∨(s.core q).halted=true∨ez o.buffer (s.core q) (iR o q (s.core q))=true
    ·rw[(iZ hc).1];exact h.w
    ·simp only[not_or,Decidable.not_not,Bool.not_eq_true] at hc
     obtain⟨hq,h1,h2⟩:=hc
     rw[(iY hq h1 h2).1]
     obtain⟨iok,hpc⟩:=qP h.jQ ok hq
     have hqo:q<o.bf.length:=by rw[←h.jQ.n];exact hq
     have:=ok.bf
     have:=ok.mem
     have:=ok.code q hqo
     obtain⟨e1,e2,e3⟩:=KZ (q:=q) (mem:=s.mem) (pr:=s.bg) (by omega) (by omega) (by omega) (h.w.core _ (pD hq)) (h.jQ.pc q hq) iok (hw.word q hqo _ hpc) h.w.mem h.w.bg
     exact h.w.put e1 e2 e3
   ·show MW (dO o s q).1
    by_cases hq:q<s.bf.length
    ·cases hb:(s.core q).buf with
     |nil=>rw[(eO (.inr hb)).1];exact h.w
     |cons x t=>
      rw[(gQ hq hb).1]
      have hc:=h.w.core _ (pD hq)
      refine h.w.put ⟨hc.pc,hc.dg,fun y hy=>hc.buf y (by rw[hb];simp[show y∈t from hy])⟩ (fun w hx=> ?_) h.w.bg
      rcases List.mem_or_eq_of_mem_set hx with hx|rfl
      ·exact h.w.mem w hx
      ·exact(hc.buf x (by rw[hb];simp)).2.2
    ·rw[(eO (.inl hq)).1];exact h.w
  ·rw[h1];exact h.w
 ·rcases ic o s kind k with⟨q,rfl,hk⟩|h1
  ·rcases hk with rfl|rfl
   ·show Hz o (fV o s q).1
    by_cases hc:¬q<s.bf.length∨(s.core q).halted=true∨ez o.buffer (s.core q) (iR o q (s.core q))=true
    ·rw[(iZ hc).1];exact h.hz
    ·simp only[not_or,Decidable.not_not,Bool.not_eq_true] at hc
     obtain⟨hq,h1,h2⟩:=hc
     rw[(iY hq h1 h2).1]
     intro j hj hh
     rw[dj] at hj
     rw[eJ hq] at hh ⊢
     by_cases e:j=q
     ·subst e
      rw[if_pos rfl] at hh ⊢
      obtain⟨iok,hpc⟩:=qP h.jQ ok hq
      have hk:=AI h1 hh
      have:=iok.kind
      rw[tL (by omega)]
      show 9<(iR o j (s.core j)).kind
      omega
     ·rw[if_neg e] at hh ⊢
      exact h.hz j hj hh
   ·show Hz o (dO o s q).1
    by_cases hq:q<s.bf.length
    ·cases hb:(s.core q).buf with
     |nil=>rw[(eO (.inr hb)).1];exact h.hz
     |cons x t=>
      rw[(gQ hq hb).1]
      intro j hj hh
      rw[dj] at hj
      rw[eJ hq] at hh ⊢
      by_cases e:j=q
      ·subst e
       rw[if_pos rfl] at hh ⊢
       exact h.hz j hj hh
      ·rw[if_neg e] at hh ⊢
       exact h.hz j hj hh
    ·rw[(eO (.inl hq)).1];exact h.hz
  ·rw[h1];exact h.hz
theorem ot.init {o:Obj} (ok:cw o) (hw:kY o):ot o (da o) where
 jQ:=AG ok
 w:=⟨fun c hc=>by
  have:c=core0:=List.eq_of_mem_replicate hc
  subst this
  exact⟨⟨by show(-9223372036854775808:Int)≤0;omega,by show(0:Int)<_;omega⟩,fun j _=>⟨by show(-9223372036854775808:Int)≤0;omega,by show(0:Int)<_;omega⟩,fun x hx=>by cases hx⟩,hw.mem,fun p hp=>by cases hp⟩
 hz:=fun q hq hh=>by
  have:(da o).core q=core0:=by simp[da,bk.core,List.getD,List.getElem?_replicate];split<;>rfl
  rw[this] at hh;cases hh
end Go.Proofs.YtlonbgdonffcbaaGreatDoor
end
