import Derived.Test.YtlonbgdonffcbaaGreatDoorM25
section
/- A situation's text: which situations it tells apart. -/
namespace Go.Proofs.YtlonbgdonffcbaaGreatDoor
open Go Go.cW Go.Proofs
set_option linter.unusedSimpArgs false
set_option linter.unusedVariables false
def d36 (n:Nat):UInt8:=if n<10 then UInt8.ofNat (48+n) else UInt8.ofNat (87+n)
def dx:Nat→Nat→List UInt8→List UInt8
 |0,n,acc=>d36 n::acc
 |f+1,n,acc=>if n<36 then d36 n::acc else dx f (n /36) (d36 (n%36)::acc)
def eS (x:Int):List UInt8:=if x<0 then 45::dx 13 x.natAbs [] else dx 13 x.toNat []
def ct (x:Int):List UInt8:=eS x++[32]
def de (c:bw):List UInt8:=(List.range 16).flatMap fun j=>ct (c.dX j)
def storeT (x:cr):List UInt8:=ct x.pc++(ct x.addr++ct x.word)
def eX (c:bw):List UInt8:=if c.halted then[104] else[]
def dS (c:bw):List UInt8:=ct c.pc++(eX c++(de c++(47::(c.buf.flatMap storeT++[124]))))
def fP (p:cF):List UInt8:=ct p.eF++ct p.word
def dn (s:bj):List UInt8:=s.bd.flatMap dS++(s.mem.flatMap ct++(124::s.bh.flatMap fP))
def dv (c:UInt8):Nat:=if c.toNat<58 then c.toNat - 48 else c.toNat - 87
def sn (l:List UInt8):Nat:=l.foldl (fun v c=>v * 36+dv c) 0
theorem y8 {n:Nat} (h:n<36):(d36 n).toNat=if n<10 then 48+n else 87+n:=by
 unfold d36
 split<;>simp<;>omega
theorem xF {n:Nat} (h:n<36):dv (d36 n)=n:=by
 unfold dv
 rw[y8 h]
 split<;>split<;>omega
def pT (c:UInt8):Prop:=48≤c.toNat∧c.toNat≤57∨97≤c.toNat∧c.toNat≤122
theorem nw {n:Nat} (h:n<36):pT (d36 n):=by
 unfold pT
 rw[y8 h]
 split<;>omega
theorem iM:∀(f n:Nat) (acc:List UInt8),dx f n acc=dx f n []++acc
 |0,n,acc=>rfl
 |f+1,n,acc=>by
  rw[dx,dx]
  split
  ·rfl
  ·rw[iM f _ (d36 (n%36)::acc),iM f _ [d36 (n%36)],List.append_assoc];rfl
theorem CB (l:List UInt8) (c:UInt8):sn (l++[c])=sn l * 36+dv c:=by simp[sn]
theorem za:∀(f n:Nat),n<36^(f+1)→sn (dx f n [])=n
 |0,n,h=>by
  rw[dx]
  have:n<36:=by simpa using h
  simp[sn,xF this]
 |f+1,n,h=>by
  rw[dx]
  split
  ·rename_i h1;simp[sn,xF h1]
  ·rw[iM,CB,za f _ (by rw[Nat.div_lt_iff_lt_mul (by omega)];rw[Nat.pow_succ] at h;exact h),xF (Nat.mod_lt _ (by omega))]
   omega
theorem me:∀(f n:Nat),n<36^(f+1)→∀c∈dx f n [],pT c
 |0,n,h=>by
  rw[dx]
  intro c hc
  simp only[List.mem_cons,List.not_mem_nil,or_false] at hc
  subst hc
  exact nw (by simpa using h)
 |f+1,n,h=>by
  rw[dx]
  split
  ·rename_i h1
   intro c hc
   simp only[List.mem_cons,List.not_mem_nil,or_false] at hc
   subst hc
   exact nw h1
  ·rw[iM]
   intro c hc
   rcases List.mem_append.1 hc with hc|hc
   ·exact me f _ (by rw[Nat.div_lt_iff_lt_mul (by omega)];rw[Nat.pow_succ] at h;exact h) c hc
   ·simp only[List.mem_cons,List.not_mem_nil,or_false] at hc
    subst hc
    exact nw (Nat.mod_lt _ (by omega))
theorem LU:∀(f n:Nat),dx f n []≠[]
 |0,n=>by simp[dx]
 |f+1,n=>by
  rw[dx]
  split
  ·simp
  ·rw[iM];simp
theorem tO:∀(f n:Nat),(dx f n []).length≤f+1
 |0,n=>by simp[dx]
 |f+1,n=>by
  rw[dx]
  split
  ·simp
  ·rw[iM,List.length_append]
   have:=tO f (n /36)
   simp;omega
theorem wB {n:Nat} (h:n≤9223372036854775808):n<36^(13+1):=Nat.lt_of_le_of_lt h (by decide)
def CL (c:UInt8):Prop:=pT c∨c.toNat=45
theorem sa {x:Int} (h:dA x):∀c∈eS x,CL c:=by
 intro c hc
 obtain⟨h1,h2⟩:=h
 unfold eS at hc
 split at hc
 ·rcases List.mem_cons.1 hc with rfl|hc
  ·exact .inr rfl
  ·exact .inl (me _ _ (wB (by omega)) c hc)
 ·exact .inl (me _ _ (wB (by omega)) c hc)
theorem MP (x:Int):eS x≠[]:=by
 unfold eS
 split
 ·simp
 ·exact LU _ _
theorem ta (x:Int):(eS x).length≤15:=by
 unfold eS
 split
 ·have:=tO 13 x.natAbs;simp;omega
 ·have:=tO 13 x.toNat;omega
theorem zN {x y:Int} (hx:dA x) (hy:dA y) (h:eS x=eS y):x=y:=by
 obtain⟨x1,x2⟩:=hx
 obtain⟨y1,y2⟩:=hy
 have d:=fun(n:Nat) (hn:n≤9223372036854775808)=>za 13 n (wB hn)
 have hd:=fun(n:Nat) (hn:n≤9223372036854775808) (l:List UInt8) (e:45::l=dx 13 n [])=>show False by
  have:=me 13 n (wB hn) 45 (by rw[←e];simp)
  exact absurd this (by unfold pT;decide)
 unfold eS at h
 split at h<;>split at h
 ·have h:=List.cons.inj h
  have e1:=d x.natAbs (by omega)
  have e2:=d y.natAbs (by omega)
  rw[h.2,e2] at e1
  omega
 ·exact(hd _ (by omega) _ h).elim
 ·exact(hd _ (by omega) _ h.symm).elim
 ·have e1:=d x.toNat (by omega)
  have e2:=d y.toNat (by omega)
  rw[h,e2] at e1
  omega
theorem qx {c:UInt8}:∀{a b r r':List UInt8},c∉a→c∉b→a++c::r=b++c::r'→a=b∧r=r'
 |[],[],r,r',_,_,h=>⟨rfl,(List.cons.inj h).2⟩
 |[],y::b,r,r',_,hb,h=>by
  have:=(List.cons.inj h).1
  exact absurd (by simp[this]) hb
 |x::a,[],r,r',ha,_,h=>by
  have:=(List.cons.inj h).1
  exact absurd (by simp[this]) ha
 |x::a,y::b,r,r',ha,hb,h=>by
  obtain⟨h1,h2⟩:=List.cons.inj h
  obtain⟨h3,h4⟩:=qx (fun q=>ha (List.mem_cons_of_mem _ q)) (fun q=>hb (List.mem_cons_of_mem _ q)) h2
  exact⟨by rw[h1,h3],h4⟩
theorem nF {x:Int} (h:dA x):(32:UInt8)∉eS x:=fun hc=>by
 have:=sa h _ hc
 unfold CL pT at this
 revert this;decide
theorem jQ {x y:Int} {r r':List UInt8} (hx:dA x) (hy:dA y) (h:ct x++r=ct y++r'):x=y∧r=r':=by
 unfold ct at h
 rw[List.append_assoc,List.append_assoc] at h
 obtain⟨h1,h2⟩:=qx (nF hx) (nF hy) h
 exact⟨zN hx hy h1,h2⟩
def lx (c:UInt8):Prop:=c.toNat=47∨c.toNat=124
theorem qz {x:Int} (hx:dA x) {c:UInt8} {r r':List UInt8} (hc:lx c):ct x++r≠c::r':=fun h=>by
 unfold ct at h
 rw[List.append_assoc] at h
 cases hn:eS x with
 |nil=>exact MP x hn
 |cons a l=>
  rw[hn] at h
  have h1:=(List.cons.inj h).1
  have h2:=sa hx a (by rw[hn];simp)
  rw[h1] at h2
  unfold CL pT at h2
  unfold lx at hc
  omega
section
variable {α:Type} {f:α→List UInt8} {P:α→Prop}
theorem ml (hi:∀x y r r',P x→P y→f x++r=f y++r'→x=y∧r=r') (hs:∀x c r r',P x→lx c→f x++r≠c::r'):∀{l l':List α} {c c':UInt8} {r r':List UInt8},(∀x∈l,P x)→(∀x∈l',P x)→lx c→lx c'→l.flatMap f++c::r=l'.flatMap f++c'::r'→l=l'∧c::r=c'::r'
 |[],[],c,c',r,r',_,_,_,_,h=>⟨rfl,h⟩
 |[],y::l',c,c',r,r',_,h2,h3,_,h=>by
  rw[List.flatMap_cons,List.append_assoc] at h
  exact(hs y c _ _ (h2 y (by simp)) h3 h.symm).elim
 |x::l,[],c,c',r,r',h1,_,_,h4,h=>by
  rw[List.flatMap_cons,List.append_assoc] at h
  exact(hs x c' _ _ (h1 x (by simp)) h4 h).elim
 |x::l,y::l',c,c',r,r',h1,h2,h3,h4,h=>by
  rw[List.flatMap_cons,List.flatMap_cons,List.append_assoc,List.append_assoc] at h
  obtain⟨rfl,h5⟩:=hi x y _ _ (h1 x (by simp)) (h2 y (by simp)) h
  obtain⟨rfl,h6⟩:=ml hi hs (fun z hz=>h1 z (by simp[hz])) (fun z hz=>h2 z (by simp[hz])) h3 h4 h5
  exact⟨rfl,h6⟩
end
def pY (x:cr):Prop:=dA x.pc∧dA x.addr∧dA x.word
def ke (p:cF):Prop:=dA p.eF∧dA p.word
theorem B5 (x y:cr) (r r':List UInt8) (hx:pY x) (hy:pY y) (h:storeT x++r=storeT y++r'):x=y∧r=r':=by
 obtain⟨xp,xa,xw⟩:=x
 obtain⟨yp,ya,yw⟩:=y
 obtain⟨x1,x2,x3⟩:=hx
 obtain⟨y1,y2,y3⟩:=hy
 unfold storeT at h
 dsimp only at *
 simp only[List.append_assoc] at h
 obtain⟨e1,h1⟩:=jQ x1 y1 h
 obtain⟨e2,h2⟩:=jQ x2 y2 h1
 obtain⟨e3,h3⟩:=jQ x3 y3 h2
 exact⟨by rw[e1,e2,e3],h3⟩
theorem yO (x:cr) (c:UInt8) (r r':List UInt8) (hx:pY x) (hc:lx c):storeT x++r≠c::r':=by
 unfold storeT
 rw[List.append_assoc]
 exact qz hx.1 hc
theorem BP (x y:cF) (r r':List UInt8) (hx:ke x) (hy:ke y) (h:fP x++r=fP y++r'):x=y∧r=r':=by
 obtain⟨xp,xa⟩:=x
 obtain⟨yp,ya⟩:=y
 obtain⟨x1,x2⟩:=hx
 obtain⟨y1,y2⟩:=hy
 unfold fP at h
 dsimp only at *
 simp only[List.append_assoc] at h
 obtain⟨e1,h1⟩:=jQ x1 y1 h
 obtain⟨e2,h2⟩:=jQ x2 y2 h1
 exact⟨by rw[e1,e2],h2⟩
theorem xq (x:cF) (c:UInt8) (r r':List UInt8) (hx:ke x) (hc:lx c):fP x++r≠c::r':=by
 unfold fP
 rw[List.append_assoc]
 exact qz hx.1 hc
structure kQ (c:bw):Prop where
 pc:dA c.pc
 dX:∀j,j<16→dA (c.dX j)
 buf:∀x∈c.buf,pY x
def bw.tl (c:bw):Nat:=(eX c).length+(eS (c.dX 0)).length
theorem OT (c:bw):c.tl≤16:=by
 unfold bw.tl eX
 have:=ta (c.dX 0)
 split<;>simp<;>omega
structure yU (c c':bw):Prop where
 pc:c.pc=c'.pc
 buf:c.buf=c'.buf
 tl:c.tl=c'.tl
 dX:c.halted=c'.halted→∀j,j<16→c.dX j=c'.dX j
theorem sX {c:bw}:(32:UInt8)∉eX c:=by
 unfold eX
 split<;>decide
theorem wS (c:bw):de c=eS (c.dX 0)++32::([1,2,3,4,5,6,7,8,9,10,11,12,13,14,15].flatMap fun j=>ct (c.dX j)):=by
 unfold de
 rw[show List.range 16=0::[1,2,3,4,5,6,7,8,9,10,11,12,13,14,15] from rfl,List.flatMap_cons,ct,List.append_assoc]
 rfl
theorem wT {g g':Nat→Int} {r r':List UInt8}:∀{js:List Nat},(∀j∈js,dA (g j))→(∀j∈js,dA (g' j))→(js.flatMap fun j=>ct (g j))++r=(js.flatMap fun j=>ct (g' j))++r'→(∀j∈js,g j=g' j)∧r=r'
 |[],_,_,h=>⟨by simp,h⟩
 |j::js,h1,h2,h=>by
  rw[List.flatMap_cons,List.flatMap_cons,List.append_assoc,List.append_assoc] at h
  obtain⟨h3,h4⟩:=jQ (h1 j (by simp)) (h2 j (by simp)) h
  obtain⟨h5,h6⟩:=wT (fun q hq=>h1 q (by simp[hq])) (fun q hq=>h2 q (by simp[hq])) h4
  refine⟨fun q hq=> ?_,h6⟩
  rcases List.mem_cons.1 hq with rfl|hq
  ·exact h3
  ·exact h5 q hq
theorem JY {j:Nat} (h:j<16):j=0∨j∈[1,2,3,4,5,6,7,8,9,10,11,12,13,14,15]:=by
 simp only[List.mem_cons,List.not_mem_nil,or_false];omega
theorem s6 {j:Nat} (h:j∈[1,2,3,4,5,6,7,8,9,10,11,12,13,14,15]):j<16:=by
 simp only[List.mem_cons,List.not_mem_nil,or_false] at h;omega
theorem DE {c c':bw} {r r':List UInt8} (hc:kQ c) (hc':kQ c') (h:dS c++r=dS c'++r'):yU c c'∧r=r':=by
 unfold dS at h
 simp only[List.append_assoc,List.cons_append,List.nil_append] at h
 obtain⟨h1,h⟩:=jQ hc.pc hc'.pc h
 rw[wS,wS] at h
 simp only[List.append_assoc,List.cons_append] at h
 rw[←List.append_assoc,←List.append_assoc (eX c')] at h
 have n1:(32:UInt8)∉eX c++eS (c.dX 0):=fun hm=>(List.mem_append.1 hm).elim sX (nF (hc.dX 0 (by omega)))
 have n2:(32:UInt8)∉eX c'++eS (c'.dX 0):=fun hm=>(List.mem_append.1 hm).elim sX (nF (hc'.dX 0 (by omega)))
 obtain⟨h2,h⟩:=qx n1 n2 h
 obtain⟨h3,h⟩:=wT (fun j hj=>hc.dX j (s6 hj)) (fun j hj=>hc'.dX j (s6 hj)) h
 obtain⟨h4,h⟩:=ml (P:=pY) B5 yO hc.buf hc'.buf (.inr rfl) (.inr rfl) (List.cons.inj h).2
 refine⟨⟨h1,h4, ?_,fun he j hj=> ?_⟩,(List.cons.inj h).2⟩
 ·have:=congrArg List.length h2
  simpa[bw.tl] using this
 ·rcases JY hj with rfl|hj
  ·refine zN (hc.dX 0 (by omega)) (hc'.dX 0 (by omega)) ?_
   have:eX c=eX c':=by unfold eX;rw[he]
   rw[this] at h2
   exact List.append_cancel_left h2
  ·exact h3 j hj
theorem rl:∀{l l':List bw} {r r':List UInt8},l.length=l'.length→(∀c∈l,kQ c)→(∀c∈l',kQ c)→l.flatMap dS++r=l'.flatMap dS++r'→(∀q,q<l.length→yU (l.getD q default) (l'.getD q default))∧r=r'
 |[],[],r,r',_,_,_,h=>⟨fun q hq=>by simp at hq,h⟩
 |[],_::_,_,_,h,_,_,_=>by simp at h
 |_::_,[],_,_,h,_,_,_=>by simp at h
 |c::l,c'::l',r,r',hl,h1,h2,h=>by
  rw[List.flatMap_cons,List.flatMap_cons,List.append_assoc,List.append_assoc] at h
  obtain⟨h3,h4⟩:=DE (h1 c (by simp)) (h2 c' (by simp)) h
  obtain⟨h5,h6⟩:=rl (by simpa using hl) (fun z hz=>h1 z (by simp[hz])) (fun z hz=>h2 z (by simp[hz])) h4
  refine⟨fun q hq=> ?_,h6⟩
  cases q with
  |zero=>exact h3
  |succ q=>exact h5 q (by simpa using hq)
structure MW (s:bj):Prop where
 core:∀c∈s.bd,kQ c
 mem:∀w∈s.mem,dA w
 bh:∀p∈s.bh,ke p
structure oM (s d:bj):Prop where
 n:s.bd.length=d.bd.length
 core:∀q,q<s.bd.length→yU (s.core q) (d.core q)
 mem:s.mem=d.mem
 bh:s.bh=d.bh
theorem key_inj {s d:bj} (hs:MW s) (hd:MW d) (hn:s.bd.length=d.bd.length) (h:dn s=dn d):oM s d:=by
 unfold dn at h
 obtain⟨h1,h⟩:=rl hn hs.core hd.core h
 obtain⟨h2,h⟩:=ml (P:=dA) (f:=ct) (fun x y r r' hx hy=>jQ hx hy) (fun x c r r' hx hc=>qz hx hc) hs.mem hd.mem (.inr rfl) (.inr rfl) h
 have h:=(List.cons.inj h).2
 have h:=congrArg (·++[(124:UInt8)]) h
 obtain⟨h3,_⟩:=ml (P:=ke) BP xq hs.bh hd.bh (.inr rfl) (.inr rfl) h
 exact⟨hn,h1,h2,h3⟩
end Go.Proofs.YtlonbgdonffcbaaGreatDoor
end
section
/- A step of the machine, told by the core that does it; what is so of each situation. -/
namespace Go.Proofs.YtlonbgdonffcbaaGreatDoor
open Go Go.cW Go.Proofs
set_option linter.unusedSimpArgs false
set_option linter.unusedVariables false
def bw.inc (c:bw):bw:={ c with pc:=c.pc+1 }
def eE (q:Nat) (c:bw) (i:Instr) (mem:List Int) (pr:List cF):(bw×List Int×List cF)×Int:=
 if i.kind=1 then((c.inc.put i.d i.word,mem,pr),1)
 else if i.kind=2 then((c.inc.put i.d (KW i.op (c.dX i.a.toNat) (c.dX i.b.toNat)),mem,pr),1)
 else if i.kind=3 then((c.inc.put i.d (jM i.addr c.buf (mem.getD i.addr.toNat 0,false)).1,mem,pr),2)
 else if i.kind=4 then(({ c.inc with buf:=c.buf++[⟨c.pc,i.addr,c.dX i.a.toNat⟩] },mem,pr),3)
 else if i.kind=5 then((c.inc.put i.d (mem.getD i.addr.toNat 0),mem.set i.addr.toNat (c.dX i.d.toNat),pr),4)
 else if i.kind=6 then((c.inc,mem,pr),5)
 else if i.kind=7 then((c.inc,mem,pr++[⟨q,c.dX i.a.toNat⟩]),6)
 else if i.kind=8 then(({ c.inc with pc:=i.to },mem,pr),1)
 else if i.kind=9 then((if c.dX i.a.toNat=0 then { c.inc with pc:=i.to } else c.inc,mem,pr),1)
 else(({ c with halted:=true },mem,pr),7)
def bj.oG (s:bj) (q:Nat) (r:bw×List Int×List cF):bj:=⟨s.bd.set q r.1,r.2.1,r.2.2⟩
def dZ (b:Int) (c:bw) (i:Instr):Bool:=if i.kind=4 then decide (b≤c.buf.length) else if i.kind=5∨i.kind=6∨i.kind=7 then decide ((0:Int)<c.buf.length) else false
theorem yK (o:Obj) (s:bj) (q:Nat) (i:Instr):fA o s q i=dZ o.buffer (s.core q) i:=rfl
theorem LD {s:bj} {q:Nat} (hq:q<s.bd.length) (i:Instr):
 (act (s.inc q) q i { l8 with core:=q,pc:=(s.core q).pc }).1=s.oG q (eE q (s.core q) i s.mem s.bh).1∧(act (s.inc q) q i { l8 with core:=q,pc:=(s.core q).pc }).2.kind=(eE q (s.core q) i s.mem s.bh).2:=by
 have hc:=qU hq
 have hm:(s.inc q).mem=s.mem:=rfl
 have hpr:(s.inc q).bh=s.bh:=rfl
 have hin:∀c:bw,(s.inc q).cn q c=s.cn q c:=gE
 by_cases k1:i.kind=1
 ·simp only[act,eE,if_pos k1,rn,hin,hc];exact⟨rfl,trivial⟩
 by_cases k2:i.kind=2
 ·simp only[act,eE,if_neg k1,if_pos k2,uc,hin,hc];exact⟨rfl,trivial⟩
 by_cases k3:i.kind=3
 ·simp only[act,eE,if_neg k1,if_neg k2,if_pos k3,mC,hin,hc,hm];exact⟨rfl,trivial⟩
 by_cases k4:i.kind=4
 ·simp only[act,eE,if_neg k1,if_neg k2,if_neg k3,if_pos k4,lP,hin,hc];exact⟨rfl,trivial⟩
 by_cases k5:i.kind=5
 ·simp only[act,eE,if_neg k1,if_neg k2,if_neg k3,if_neg k4,if_pos k5,ni,hin,hc,hm];exact⟨rfl,trivial⟩
 by_cases k6:i.kind=6
 ·simp only[act,eE,if_neg k1,if_neg k2,if_neg k3,if_neg k4,if_neg k5,if_pos k6,lO,hin,hc];exact⟨rfl,trivial⟩
 by_cases k7:i.kind=7
 ·simp only[act,eE,if_neg k1,if_neg k2,if_neg k3,if_neg k4,if_neg k5,if_neg k6,if_pos k7,doPrint,hin,hc,hpr];exact⟨rfl,trivial⟩
 by_cases k8:i.kind=8
 ·simp only[act,eE,if_neg k1,if_neg k2,if_neg k3,if_neg k4,if_neg k5,if_neg k6,if_neg k7,if_pos k8,nh,hin,hc];exact⟨rfl,trivial⟩
 by_cases k9:i.kind=9
 ·simp only[act,eE,if_neg k1,if_neg k2,if_neg k3,if_neg k4,if_neg k5,if_neg k6,if_neg k7,if_neg k8,if_pos k9,nj,hin,hc];exact⟨rfl,trivial⟩
 simp only[act,eE,if_neg k1,if_neg k2,if_neg k3,if_neg k4,if_neg k5,if_neg k6,if_neg k7,if_neg k8,if_neg k9,ng,hin,hc]
 exact⟨rfl,trivial⟩
def fI (o:Obj) (q:Nat) (c:bw):Instr:=(o.core q).code.getD c.pc.toNat default
theorem fb {o:Obj} {s:bj} {q:Nat} (h:¬q<s.bd.length∨(s.core q).halted=true∨dZ o.buffer (s.core q) (fI o q (s.core q))=true):(eN o s q).1=s∧(eN o s q).2.1.kind=0:=by
 unfold eN
 rw[Int.toNat_natCast]
 split
 ·exact⟨rfl,rfl⟩
 ·rename_i h1
  split
  ·exact⟨rfl,rfl⟩
  ·rename_i h2
   split
   ·exact⟨rfl,rfl⟩
   ·rename_i h3
    exfalso
    rcases h with h|h|h
    ·unfold out at h1;omega
    ·exact h2 h
    ·exact h3 h
theorem fQ {o:Obj} {s:bj} {q:Nat} (hq:q<s.bd.length) (h1:(s.core q).halted=false) (h2:dZ o.buffer (s.core q) (fI o q (s.core q))=false):
 (eN o s q).1=s.oG q (eE q (s.core q) (fI o q (s.core q)) s.mem s.bh).1∧(eN o s q).2.1.kind=(eE q (s.core q) (fI o q (s.core q)) s.mem s.bh).2∧(eN o s q).2.2=0:=by
 unfold eN
 rw[Int.toNat_natCast,if_neg (by unfold out;omega),if_neg (by rw[h1];simp),if_neg (by rw[yK];show ¬dZ o.buffer (s.core q) (fI o q (s.core q))=true;rw[h2];simp)]
 obtain⟨e1,e2⟩:=LD (s:=s) hq (cX o s q)
 exact⟨e1,e2,rfl⟩
theorem dg {o:Obj} {s:bj} {q:Nat} (h:¬q<s.bd.length∨(s.core q).buf=[]):(cx o s q).1=s∧(cx o s q).2.1.kind=0:=by
 unfold cx
 rw[Int.toNat_natCast]
 split
 ·exact⟨rfl,rfl⟩
 ·rename_i h1
  rcases h with h|h
  ·unfold out at h1;omega
  ·rw[h];exact⟨rfl,rfl⟩
theorem eu {o:Obj} {s:bj} {q:Nat} (hq:q<s.bd.length) {x:cr} {t:List cr} (h:(s.core q).buf=x::t):
 (cx o s q).1=s.oG q ({ s.core q with buf:=t },s.mem.set x.addr.toNat x.word,s.bh)∧(cx o s q).2.1.kind=8∧(cx o s q).2.2=0:=by
 unfold cx
 rw[Int.toNat_natCast,if_neg (by unfold out;omega),h]
 exact⟨rfl,rfl,rfl⟩
theorem dV (s:bj) (q:Nat) (r:bw×List Int×List cF):(s.oG q r).bd.length=s.bd.length:=by simp[bj.oG]
theorem du {s:bj} {q:Nat} (hq:q<s.bd.length) (r:bw×List Int×List cF) (j:Nat):(s.oG q r).core j=if j=q then r.1 else s.core j:=by
 unfold bj.oG bj.core
 by_cases h:j=q
 ·subst h;simp[List.getD,hq]
 ·rw[if_neg h];simp[List.getD,List.getElem?_set_ne (Ne.symm h)]
theorem fg (o:Obj) (s:bj) (kind k:Int):(∃q:Nat,(k=q)∧(kind=1∨kind=2))∨(ck o s kind k).1=s:=by
 by_cases hk:0≤k
 ·by_cases h1:kind=1∨kind=2
  ·exact .inl ⟨k.toNat,by omega,h1⟩
  ·right;unfold ck;rw[if_neg (by omega),if_neg (by omega)]
 ·right
  unfold ck
  have hout:out s k:= .inl (by omega)
  split
  ·unfold eN;rw[if_pos hout]
  ·split
   ·unfold cx;rw[if_pos hout]
   ·rfl
def Hz (o:Obj) (s:bj):Prop:=∀q,q<s.bd.length→(s.core q).halted=true→9<(fI o q (s.core q)).kind
structure gy (o:Obj):Prop where
 mem:∀w∈o.mem,dA w
 word:∀q,q<o.bd.length→∀k,k<(o.core q).code.length→dA ((o.core q).code.getD k default).word
theorem Obj.Wf.words {o:Obj} (h:o.Wf):gy o where
 mem:=h.mem
 word:=fun q hq k hk=>by
  have h1:(o.core q)∈o.bd:=by
   have:o.core q=o.bd[q]:=by simp[Obj.core,List.getD,hq]
   rw[this];exact List.getElem_mem hq
  have h2:(o.core q).code.getD k default∈(o.core q).code:=by
   rw[show(o.core q).code.getD k default=(o.core q).code[k] by rw[List.getD,List.getElem?_eq_getElem hk];rfl];exact List.getElem_mem hk
  exact((h.bd _ h1).code _ h2).word
theorem nS (n:Int):dA (uC n):=by unfold dA uC;rw[IntKind.wrap_i64];omega
theorem J5 {p:Prop} [Decidable p] {a b:Int} (h1:dA a) (h2:dA b):dA (if p then a else b):=by
 split
 ·exact h1
 ·exact h2
theorem HK (t:Bool):dA (tr t):=by unfold tr dA;split<;>omega
theorem J8 {a:Int} (h:dA a) (b:Int):dA (JW a b):=by
 unfold JW
 have hd:(1:Int)≤2^(min (DC b).toNat 64):=Int.le_of_lt_add_one (by have:(0:Int)<2^(min (DC b).toNat 64):=Int.pow_pos (by omega);omega)
 generalize (2:Int)^(min (DC b).toNat 64)=d at *
 rw[Int.fdiv_eq_ediv_of_nonneg _ (by omega)]
 have h1:=Int.mul_ediv_add_emod a d
 have h2:=Int.emod_nonneg a (b:=d) (by omega)
 have h3:=Int.emod_lt_of_pos a (b:=d) (by omega)
 obtain⟨h4,h5⟩:=h
 generalize a /d=q at *
 generalize a%d=r at *
 constructor
 ·apply Int.not_lt.1
  intro hq
  have:d * (q+1)≤1 * (q+1):=Int.mul_le_mul_of_nonpos_right hd (by omega)
  rw[Int.mul_add] at this
  omega
 ·apply Int.not_le.1
  intro hq
  have:1 * q≤d * q:=Int.mul_le_mul_of_nonneg_right hd (by omega)
  omega
theorem KA {a b:Int} (ha:dA a) (op:Int):dA (KB op a b):=by
 have hq:dA (BQ a b):=by
  unfold BQ
  split
  ·exact⟨by omega,by omega⟩
  ·split
   ·exact nS _
   ·exact nS _
 have hm:dA (G3 a b):=by
  unfold G3
  split
  ·exact ha
  ·exact nS _
 unfold KB
 repeat' (with_reducible refine J5 ?_ ?_)
 all_goals first
  |exact HK _
  |exact J8 ha _
  |exact hq
  |exact hm
  |exact nS _
theorem J6 (op a:Int):dA (JJ op a):=by
 unfold JJ
 split
 ·exact nS _
 ·exact HK _
theorem OM {op a b:Int} (h:dA a):dA (KW op a b):=by
 unfold KW
 split
 ·exact KA h _
 ·exact J6 _ _
theorem zZ (a:Int):∀(l:List cr) (r:Int×Bool),(∀x∈l,dA x.word)→dA r.1→dA (jM a l r).1
 |[],r,_,h=>h
 |x::l,r,h,hr=>by
  rw[jM]
  refine zZ a l _ (fun y hy=>h y (by simp[hy])) ?_
  split
  ·exact h x (by simp)
  ·exact hr
theorem yj {l:List Int} (h:∀w∈l,dA w) (k:Nat):dA (l.getD k 0):=by
 by_cases hk:k<l.length
 ·have:l.getD k 0=l[k]:=by simp[List.getD,hk]
  rw[this];exact h _ (List.getElem_mem hk)
 ·simp only[List.getD,List.getElem?_eq_none (Nat.le_of_not_lt hk),Option.getD_none];exact⟨by omega,by omega⟩
theorem kQ.put {c:bw} (h:kQ c) {k w:Int} (hw:dA w):kQ (c.put k w):=
 ⟨h.pc,fun j hj=>by
  show dA (mI c.dX k w j)
  unfold mI
  split
  ·exact hw
  ·exact h.dX j hj,h.buf⟩
theorem LG {q:Nat} {c:bw} {i:Instr} {mem:List Int} {pr:List cF} {code m:Int} (hq:q<8) (hcl:code≤16384) (hml:m≤4096) (hc:kQ c) (hp:0≤c.pc∧c.pc<code) (iok:mN i code m) (hw:dA i.word) (hm:∀w∈mem,dA w) (hpr:∀p∈pr,ke p):
 kQ (eE q c i mem pr).1.1∧(∀w∈(eE q c i mem pr).1.2.1,dA w)∧(∀p∈(eE q c i mem pr).1.2.2,ke p):=by
 have hci:kQ c.inc:=⟨by show dA (c.pc+1);exact⟨by omega,by omega⟩,hc.dX,hc.buf⟩
 have hr:∀k:Int,0≤k∧k<16→dA (c.dX k.toNat):=fun k hk=>hc.dX _ (by omega)
 have ha:=hr _ iok.a
 have hb:=hr _ iok.b
 have hd:=hr _ iok.d
 unfold eE
 by_cases k1:i.kind=1
 ·rw[if_pos k1];exact⟨hci.put hw,hm,hpr⟩
 rw[if_neg k1]
 by_cases k2:i.kind=2
 ·rw[if_pos k2];exact⟨hci.put (OM ha),hm,hpr⟩
 rw[if_neg k2]
 by_cases k3:i.kind=3
 ·rw[if_pos k3];exact⟨hci.put (zZ _ _ _ (fun x hx=>(hc.buf x hx).2.2) (yj hm _)),hm,hpr⟩
 rw[if_neg k3]
 by_cases k4:i.kind=4
 ·rw[if_pos k4]
  refine⟨⟨hci.pc,hc.dX,fun x hx=> ?_⟩,hm,hpr⟩
  rcases List.mem_append.1 hx with hx|hx
  ·exact hc.buf x hx
  ·simp only[List.mem_singleton] at hx
   subst hx
   have:=iok.addr (by omega)
   exact⟨hc.pc,⟨by show -9223372036854775808≤i.addr;omega,by show i.addr<_;omega⟩,ha⟩
 rw[if_neg k4]
 by_cases k5:i.kind=5
 ·rw[if_pos k5]
  refine⟨hci.put (yj hm _),fun w hx=> ?_,hpr⟩
  rcases List.mem_or_eq_of_mem_set hx with hx|rfl
  ·exact hm w hx
  ·exact hd
 rw[if_neg k5]
 by_cases k6:i.kind=6
 ·rw[if_pos k6];exact⟨hci,hm,hpr⟩
 rw[if_neg k6]
 by_cases k7:i.kind=7
 ·rw[if_pos k7]
  refine⟨hci,hm,fun p hp2=> ?_⟩
  rcases List.mem_append.1 hp2 with hx|hx
  ·exact hpr p hx
  ·simp only[List.mem_singleton] at hx
   subst hx
   exact⟨⟨by show _≤(q:Int);omega,by show(q:Int)<_;omega⟩,ha⟩
 rw[if_neg k7]
 by_cases k8:i.kind=8
 ·rw[if_pos k8]
  have:=iok.to (by omega)
  exact⟨⟨⟨by show _≤i.to;omega,by show i.to<_;omega⟩,hc.dX,hc.buf⟩,hm,hpr⟩
 rw[if_neg k8]
 by_cases k9:i.kind=9
 ·rw[if_pos k9]
  have:=iok.to (by omega)
  refine⟨?_,hm,hpr⟩
  dsimp only
  split
  ·exact⟨⟨by show _≤i.to;omega,by show i.to<_;omega⟩,hc.dX,hc.buf⟩
  ·exact hci
 rw[if_neg k9]
 exact⟨⟨hc.pc,hc.dX,hc.buf⟩,hm,hpr⟩
theorem pI {s:bj} {q:Nat} (hq:q<s.bd.length):s.core q∈s.bd:=by
 have:s.core q=s.bd[q]:=by simp[bj.core,List.getD,hq]
 rw[this];exact List.getElem_mem hq
theorem MW.put {s:bj} (h:MW s) {q:Nat} {r:bw×List Int×List cF} (h1:kQ r.1) (h2:∀w∈r.2.1,dA w) (h3:∀p∈r.2.2,ke p):MW (s.oG q r) where
 core:=fun c hc=>by
  rcases List.mem_or_eq_of_mem_set hc with hc|rfl
  ·exact h.core c hc
  ·exact h1
 mem:=h2
 bh:=h3
theorem nv {o:Obj} {s:bj} (g:Good o s) (ok:ch o) {q:Nat} (hq:q<s.bd.length):mN (fI o q (s.core q)) (o.core q).code.length o.mem.length∧(s.core q).pc.toNat<(o.core q).code.length:=by
 have hp:=g.pc q hq
 exact⟨kz (ok.ok q (by rw[←g.n];exact hq) _ (by omega)),by omega⟩
structure oi (o:Obj) (s:bj):Prop where
 gC:Good o s
 w:MW s
 hz:Hz o s
theorem AS {q:Nat} {c:bw} {i:Instr} {mem:List Int} {pr:List cF} (h0:c.halted=false) (h:(eE q c i mem pr).1.1.halted=true):9<i.kind∨i.kind<1:=by
 have hi:c.inc.halted=false:=h0
 unfold eE at h
 repeat' split at h
 all_goals first
  |omega
  |(exfalso;simp[bw.put,bw.inc,h0] at h;done)
theorem pN {q:Nat} {c:bw} {i:Instr} {mem:List Int} {pr:List cF} (h:9<i.kind):eE q c i mem pr=(({ c with halted:=true },mem,pr),7):=by
 unfold eE
 rw[if_neg (by omega),if_neg (by omega),if_neg (by omega),if_neg (by omega),if_neg (by omega),if_neg (by omega),if_neg (by omega),if_neg (by omega),if_neg (by omega)]
theorem oi.step {o:Obj} {s:bj} (h:oi o s) (ok:ch o) (hw:gy o) (kind k:Int):oi o (ck o s kind k).1:=by
 refine⟨h.gC.step ok kind k, ?_, ?_⟩
 ·rcases fg o s kind k with⟨q,rfl,hk⟩|h1
  ·rcases hk with rfl|rfl
   ·show MW (eN o s q).1
    by_cases hc:¬q<s.bd.length∨(s.core q).halted=true∨dZ o.buffer (s.core q) (fI o q (s.core q))=true
    ·rw[(fb hc).1];exact h.w
    ·simp only[not_or,Decidable.not_not,Bool.not_eq_true] at hc
     obtain⟨hq,h1,h2⟩:=hc
     rw[(fQ hq h1 h2).1]
     obtain⟨iok,hpc⟩:=nv h.gC ok hq
     have hqo:q<o.bd.length:=by rw[←h.gC.n];exact hq
     have:=ok.bd
     have:=ok.mem
     have:=ok.code q hqo
     obtain⟨e1,e2,e3⟩:=LG (q:=q) (mem:=s.mem) (pr:=s.bh) (by omega) (by omega) (by omega) (h.w.core _ (pI hq)) (h.gC.pc q hq) iok (hw.word q hqo _ hpc) h.w.mem h.w.bh
     exact h.w.put e1 e2 e3
   ·show MW (cx o s q).1
    by_cases hq:q<s.bd.length
    ·cases hb:(s.core q).buf with
     |nil=>rw[(dg (.inr hb)).1];exact h.w
     |cons x t=>
      rw[(eu hq hb).1]
      have hc:=h.w.core _ (pI hq)
      refine h.w.put ⟨hc.pc,hc.dX,fun y hy=>hc.buf y (by rw[hb];simp[show y∈t from hy])⟩ (fun w hx=> ?_) h.w.bh
      rcases List.mem_or_eq_of_mem_set hx with hx|rfl
      ·exact h.w.mem w hx
      ·exact(hc.buf x (by rw[hb];simp)).2.2
    ·rw[(dg (.inl hq)).1];exact h.w
  ·rw[h1];exact h.w
 ·rcases fg o s kind k with⟨q,rfl,hk⟩|h1
  ·rcases hk with rfl|rfl
   ·show Hz o (eN o s q).1
    by_cases hc:¬q<s.bd.length∨(s.core q).halted=true∨dZ o.buffer (s.core q) (fI o q (s.core q))=true
    ·rw[(fb hc).1];exact h.hz
    ·simp only[not_or,Decidable.not_not,Bool.not_eq_true] at hc
     obtain⟨hq,h1,h2⟩:=hc
     rw[(fQ hq h1 h2).1]
     intro j hj hh
     rw[dV] at hj
     rw[du hq] at hh ⊢
     by_cases e:j=q
     ·subst e
      rw[if_pos rfl] at hh ⊢
      obtain⟨iok,hpc⟩:=nv h.gC ok hq
      have hk:=AS h1 hh
      have:=iok.kind
      rw[pN (by omega)]
      show 9<(fI o j (s.core j)).kind
      omega
     ·rw[if_neg e] at hh ⊢
      exact h.hz j hj hh
   ·show Hz o (cx o s q).1
    by_cases hq:q<s.bd.length
    ·cases hb:(s.core q).buf with
     |nil=>rw[(dg (.inr hb)).1];exact h.hz
     |cons x t=>
      rw[(eu hq hb).1]
      intro j hj hh
      rw[dV] at hj
      rw[du hq] at hh ⊢
      by_cases e:j=q
      ·subst e
       rw[if_pos rfl] at hh ⊢
       exact h.hz j hj hh
      ·rw[if_neg e] at hh ⊢
       exact h.hz j hj hh
    ·rw[(dg (.inl hq)).1];exact h.hz
  ·rw[h1];exact h.hz
theorem oi.init {o:Obj} (ok:ch o) (hw:gy o):oi o (dM o) where
 gC:=AQ ok
 w:=⟨fun c hc=>by
  have:c=core0:=List.eq_of_mem_replicate hc
  subst this
  exact⟨⟨by show(-9223372036854775808:Int)≤0;omega,by show(0:Int)<_;omega⟩,fun j _=>⟨by show(-9223372036854775808:Int)≤0;omega,by show(0:Int)<_;omega⟩,fun x hx=>by cases hx⟩,hw.mem,fun p hp=>by cases hp⟩
 hz:=fun q hq hh=>by
  have:(dM o).core q=core0:=by simp[dM,bj.core,List.getD,List.getElem?_replicate];split<;>rfl
  rw[this] at hh;cases hh
end Go.Proofs.YtlonbgdonffcbaaGreatDoor
end
