import Derived.Test.YtjopoheligmmoaaGreatDoorM15
import Derived.Test.YtjopoheligmmoaaGreatDoorM20
import Derived.Test.YtjopoheligmmoaaGreatDoorM21
import Derived.Test.YtjopoheligmmoaaGreatDoorM22
namespace Go.Proofs.YtjopoheligmmoaaGreatDoor
open Go Go.cw Go.Proofs
set_option linter.unusedSimpArgs false
set_option linter.unusedVariables false
abbrev i64 (n:Int):AV:= .sc (.int .i64 n)
abbrev u8 (n:Int):AV:= .sc (.int .u8 n)
abbrev bl (b:Bool):AV:= .sc (.bool b)
abbrev st (s:ByteArray):AV:= .sc (.string s)
def ee (n:Int):Prop:=-9223372036854775808<=n/\n<9223372036854775808
structure jz where
 ir:Bool
 slot:Int
 word:Int
 deriving Inhabited,DecidableEq
def jz.cells (v:jz):List AV:=[bl v.ir,i64 v.slot,i64 v.word]
abbrev jz.av (v:jz):AV:= .agg v.cells
structure jz.Wf (v:jz):Prop where
 slot:ee v.slot
 word:ee v.word
structure Node where
 kind:Int
 op:Int
 slot:Int
 cI:Int
 a:jz
 b:jz
 next:Int
 rN:Int
 origin:Int
 deriving Inhabited,DecidableEq
def Node.cells (n:Node):List AV:=[u8 n.kind,u8 n.op,i64 n.slot,i64 n.cI,bl n.a.ir,i64 n.a.slot,i64 n.a.word,bl n.b.ir,i64 n.b.slot,i64 n.b.word,i64 n.next,i64 n.rN,i64 n.origin]
abbrev Node.av (n:Node):AV:= .agg n.cells
structure Node.Wf (n:Node):Prop where
 kind:0<=n.kind/\n.kind<256
 op:0<=n.op/\n.op<256
 slot:ee n.slot
 cI:ee n.cI
 a:n.a.Wf
 b:n.b.Wf
 next:ee n.next
 rN:ee n.rN
 origin:ee n.origin
structure Decl where
 name:ByteArray
 word:Int
 at_:Int
 deriving Inhabited,DecidableEq
def Decl.cells (d:Decl):List AV:=[st d.name,i64 d.word,i64 d.at_]
abbrev Decl.av (d:Decl):AV:= .agg d.cells
structure Decl.Wf (d:Decl):Prop where
 name:d.name.size<=140737488351232
 word:ee d.word
 at_:ee d.at_
structure cG where
 name:ByteArray
 locals:Int
 bz:Int
 nodes:List Node
 deriving Inhabited,DecidableEq
abbrev jh (l:List Node):AV:= .im 13 .any (l.map Node.av)
def cG.cells (g:cG):List AV:=[st g.name,i64 g.locals,i64 g.bz,jh g.nodes]
abbrev cG.av (g:cG):AV:= .agg g.cells
structure cG.Wf (g:cG):Prop where
 name:g.name.size<=140737488351232
 locals:ee g.locals
 bz:ee g.bz
 nodes:∀n∈g.nodes,n.Wf
 len:g.nodes.length * 88<=140737488351232
structure bx where
 shared:List Decl
 cB:List Decl
 bw:List cG
 deriving Inhabited,DecidableEq
abbrev cF (l:List Decl):AV:= .im 3 .any (l.map Decl.av)
abbrev cZ (l:List cG):AV:= .im 4 .any (l.map cG.av)
def bx.cells (u:bx):List AV:=[cF u.shared,cF u.cB,cZ u.bw]
abbrev bx.av (u:bx):AV:= .agg u.cells
structure bx.Wf (u:bx):Prop where
 shared:∀d∈u.shared,d.Wf
 rn:u.shared.length * 32<=140737488351232
 cB:∀d∈u.cB,d.Wf
 ud:u.cB.length * 32<=140737488351232
 bw:∀g∈u.bw,g.Wf
 wj:u.bw.length * 56<=140737488351232
@[simp] theorem Z0 (n:Nat) (v:jz):c8 n v.cells:=by simp[jz.cells,c8,cH]
@[simp] theorem V5 (n:Nat) (v:Node):c8 n v.cells:=by simp[Node.cells,c8,cH]
@[simp] theorem V4 (n:Nat) (v:Decl):c8 n v.cells:=by simp[Decl.cells,c8,cH]
@[simp] theorem VC (n:Nat) (v:cG):c8 n v.cells:=by simp[cG.cells,c8,cH,cD]
@[simp] theorem V6 (n:Nat) (v:bx):c8 n v.cells:=by simp[bx.cells,c8,cH,cD]
abbrev cG.nd (g:cG) (i:Nat):Node:=g.nodes.getD i default
abbrev bx.gr (u:bx) (t:Nat):cG:=u.bw.getD t default
theorem wc {α β:Type} (f:α->β) (l:List α) (i:Nat) (a:α):(l.map f).getD i (f a)=f (l.getD i a):=by
 simp only[List.getD,List.getElem?_map]
 cases l[i]?<;>rfl
theorem TU {l:List cG} {i:Nat}:(l.map cG.av).getD i (cG.av default)=(l.getD i default).av:=wc _ _ _ _
theorem LU {l:List Decl} {i:Nat}:(l.map Decl.av).getD i (Decl.av default)=(l.getD i default).av:=wc _ _ _ _
theorem eD {a b:Bool} (h:a=b):AV.sc (.bool a)=bl b:=by rw[h]
theorem cO {α:Type} {l:List α} {j:Nat} (d:α) (h:j<l.length):l.getD j d∈l:=by
 simp only[List.getD,List.getElem?_eq_getElem h,Option.getD_some];exact List.getElem_mem h
def Node.gh (n:Node):List Int:=if n.kind=9 then[] else if n.kind=8 then[n.next,n.rN] else[n.next]
def Node.fold (n:Node):List Int:=if n.kind=9 then[] else if n.kind=8/\n.rN≠n.next then[n.next,n.rN] else[n.next]
def gH {α:Type} (p:α->Bool):List α->Nat->Option Nat
 |[],_=>none
 |x::r,i=>if p x=true then gH p r (i+1) else some i
theorem zb {α:Type} (p:α->Bool) (l:List α) (d:α) {i:Nat} (h:i<l.length):gH p (l.drop i) i=if p (l.getD i d)=true then gH p (l.drop (i+1)) (i+1) else some i:=by
 rw[List.drop_eq_getElem_cons h,gH]
 simp[List.getD,h]
theorem uQ {α:Type} (p:α->Bool) (l:List α) {i:Nat} (h:l.length<=i):gH p (l.drop i) i=none:=by
 rw[List.drop_eq_nil_of_le h,gH]
def dv (op:Int):Bool:=decide (1<=op)&&decide (op<=16)
def j0 (k:Int):Bool:=decide (k=1\/k=2\/k=4)
def ej (k:Int):Bool:=decide (k=2\/k=3\/k=4\/k=5\/k=6)
def nt (k:Int):Bool:=decide (k=1\/k=3\/k=4\/k=7\/k=8)
def jA (k:Int):Bool:=decide (1<=k/\k<=8)
def pe (v:jz) (used:Bool) (bz:Int):Bool:=if used=true then(if v.ir=true then decide (0<=v.slot)&&decide (v.slot<bz)&&decide (v.word=0) else decide (v.slot=0)) else decide (v=default)
def p6 (n:Int) (used:Bool) (most:Int):Bool:=if used=true then decide (0<=n)&&decide (n<most) else decide (n=0)
def jF (u:bx) (g:cG) (n:Node):Bool:=
 decide (1<=n.kind/\n.kind<10/\0<=n.origin/\n.origin<4096)&&(if n.kind=1 then decide (n.op<19) else decide (n.op=0))&&
 p6 n.slot (j0 n.kind) g.bz&&p6 n.cI (ej n.kind) (if n.kind=5\/n.kind=6 then u.cB.length else u.shared.length)&&pe n.a (nt n.kind) g.bz&&pe n.b (decide (n.kind=1)&&dv n.op) g.bz&&p6 n.next (jA n.kind) g.nodes.length&&p6 n.rN (decide (n.kind=8)) g.nodes.length
def vM (m:Nat) (n:Node):Bool:=decide (1<=n.kind)&&decide (n.kind<10)&&n.gh.all fun k=>decide (0<=k)&&decide (k<m)
def mf (g:cG):Bool:=decide (1<=g.nodes.length)&&decide (g.nodes.length<=4096)&&g.nodes.all (vM g.nodes.length)
structure HS where
 cB:List (List Int)
 found:List Bool
 todo:List Int
def HS.l (s:HS) (k:Int):List Int:=s.cB.getD k.toNat []
def HS.f (s:HS) (k:Int):Bool:=s.found.getD k.toNat false
def dM (n:Node) (l:List Int):Option (List Int):=
 if n.kind=5 then some (l++[n.cI]) else if n.kind=6 then(if l≠[]/\l.getLast?=some n.cI then some l.dropLast else none) else if n.kind=9 then(if l=[] then some l else none) else some l
def dQ (now:List Int):List Int->HS->HS ⊕ Int
 |[],s=> .inl s
 |k::r,s=>if s.f k=false then dQ now r ⟨s.cB.set k.toNat now,s.found.set k.toNat true,s.todo++[k]⟩ else if s.l k=now then dQ now r s else .inr k
def fq (g:cG):Nat->HS->Nat->List (List Int)×Int
 |0,s,_=>(s.cB,-1)
 |f+1,s,k=>if k<s.todo.length then(match dM (g.nd (s.todo.getD k 0).toNat) (s.l (s.todo.getD k 0)) with
  |none=>([],s.todo.getD k 0)
  |some now=>match dQ now (g.nd (s.todo.getD k 0).toNat).gh s with
   | .inl s'=>fq g f s' (k+1)
   | .inr at_=>([],at_)) else(s.cB,-1)
def sS (g:cG):HS:=⟨List.replicate g.nodes.length [],(List.replicate g.nodes.length false).set 0 true,[0]⟩
def eK (g:cG):List (List Int)×Int:=fq g (g.nodes.length+1) (sS g) 0
def nW (u:bx) (g:cG):Option Int:=
 if g.locals<0\/g.locals>64\/g.bz<g.locals\/g.bz>4160\/g.nodes.length<1\/g.nodes.length>4096 then some 0 else
 match gH (jF u g) g.nodes 0 with
 |some i=>some (i:Int)
 |none=>if 0<=(eK g).2 then some (eK g).2 else none
def fJ (u:bx):List cG->Nat->Int×Int×Int
 |[],_=>(0,0,0)
 |g::r,t=>match nW u g with
  |some k=>(60,t,k)
  |none=>fJ u r (t+1)
section
theorem H8 {α:Type} (F:List Int->α) (n:Node) (h:∀a,F [a,a]=F [a]):F n.fold=F n.gh:=by
 unfold Node.fold Node.gh
 by_cases h9:n.kind=9
 ·rw[if_pos h9,if_pos h9]
 ·rw[if_neg h9,if_neg h9]
  by_cases h8:n.kind=8
  ·rw[if_pos h8]
   by_cases he:n.rN=n.next
   ·rw[if_neg (fun h=>h.2 he),he,h]
   ·rw[if_pos ⟨h8,he⟩]
  ·rw[if_neg h8,if_neg (fun h=>h8 h.1)]
abbrev lN (out:List Bool) (k:Int):Bool:=out.getD k.toNat false
def lK:List Int->List Bool×List Int->List Bool×List Int
 |[],s=>s
 |k::r,s=>if lN s.1 k=false then lK r (s.1.set k.toNat true,s.2++[k]) else lK r s
theorem E7 (a:Int) (s:List Bool×List Int) (h:a.toNat<s.1.length):lK [a,a] s=lK [a] s:=by
 simp only[lK]
 by_cases h1:lN s.1 a=false
 ·rw[if_pos h1,if_pos h1,if_neg (by simp[lN,List.getD,h])]
 ·simp only[if_neg h1]
structure S0 (l:List Int) (s s':List Bool×List Int):Prop where
 len:s'.1.length=s.1.length
 iB:∀k,lN s.1 k=true->lN s'.1 k=true
 new:∀k,0<=k->lN s'.1 k=true->lN s.1 k=true\/k∈l
 all:∀k∈l,lN s'.1 k=true
 more:∃t,s'.2=s.2++t/\(∀k∈t,k∈l/\lN s'.1 k=true)/\(∀k,0<=k->lN s'.1 k=true->lN s.1 k=true\/k∈t)/\s'.1.count false+t.length=s.1.count false
theorem count_set {l:List Bool} {i:Nat} (h:i<l.length) (hf:l.getD i false=false):(l.set i true).count false+1=l.count false:=by
 have h1:l[i]=false:=by simpa[List.getD,h] using hf
 rw[List.count_set h,h1]
 have:0<l.count false:=List.count_pos_iff.2 (h1▸List.getElem_mem h)
 simp
 omega
theorem mM {l:List Bool} {i:Nat} (h:i<l.length) (k:Int):lN (l.set i true) k=if k.toNat=i then true else lN l k:=by
 unfold lN
 simp only[List.getD,List.getElem?_set]
 by_cases hk:k.toNat=i
 ·rw[if_pos hk.symm,if_pos hk];simp[h]
 ·rw[if_neg (fun e=>hk e.symm),if_neg hk]
theorem kj:∀(l:List Int) (s:List Bool×List Int),(∀k∈l,0<=k/\k.toNat<s.1.length)->S0 l s (lK l s)
 |[],s,_=>⟨rfl,fun _ h=>h,fun _ _ h=> .inl h,fun _ h=>by simp at h,[],by simp[lK],fun _ h=>by simp at h,fun _ _ h=> .inl h,by simp[lK]⟩
 |k::r,s,h=>by
  obtain⟨hk0,hk⟩:=h k (by simp)
  have hr:=fun x hx=>h x (List.mem_cons_of_mem _ hx)
  rw[lK]
  by_cases h1:lN s.1 k=false
  ·rw[if_pos h1]
   have ih:=kj r (s.1.set k.toNat true,s.2++[k]) (fun x hx=>by simpa using hr x hx)
   have hset:=mM (l:=s.1) hk
   obtain⟨t,t1,t2,t3,t4⟩:=ih.more
   have hkk:lN (lK r (s.1.set k.toNat true,s.2++[k])).1 k=true:=ih.iB k (by rw[hset,if_pos rfl])
   refine⟨ih.len.trans (by simp),fun x hx=>ih.iB x (by rw[hset];split<;>first|rfl|exact hx),fun x hx0 hx=> ?_,fun x hx=> ?_,k::t,by rw[t1];simp,fun x hx=> ?_,fun x hx0 hx=> ?_, ?_⟩
   ·rcases ih.new x hx0 hx with h2|h2
    ·rw[hset] at h2
     split at h2
     ·rename_i e;exact .inr (by rw[show x=k by omega];simp)
     ·exact .inl h2
    ·exact .inr (List.mem_cons_of_mem _ h2)
   ·rcases List.mem_cons.1 hx with rfl|hx
    ·exact hkk
    ·exact ih.all x hx
   ·rcases List.mem_cons.1 hx with rfl|hx
    ·exact⟨by simp,hkk⟩
    ·exact⟨List.mem_cons_of_mem _ (t2 x hx).1,(t2 x hx).2⟩
   ·rcases t3 x hx0 hx with h2|h2
    ·rw[hset] at h2
     split at h2
     ·rename_i e;exact .inr (by rw[show x=k by omega];simp)
     ·exact .inl h2
    ·exact .inr (List.mem_cons_of_mem _ h2)
   ·have:=count_set hk h1
    rw[List.length_cons]
    dsimp only at t4
    omega
  ·rw[if_neg h1]
   have hkt:lN s.1 k=true:=by simpa using h1
   have ih:=kj r s hr
   obtain⟨t,t1,t2,t3,t4⟩:=ih.more
   refine⟨ih.len,ih.iB,fun x hx0 hx=>(ih.new x hx0 hx).imp id (List.mem_cons_of_mem _),fun x hx=> ?_,t,t1,fun x hx=>⟨List.mem_cons_of_mem _ (t2 x hx).1,(t2 x hx).2⟩,t3,t4⟩
   rcases List.mem_cons.1 hx with rfl|hx
   ·exact ih.iB _ hkt
   ·exact ih.all x hx
inductive nB (g:cG) (cut:Int):Int->Prop where
 |zero:nB g cut 0
 |step {i k:Int}:nB g cut i->i≠cut->k∈(g.nd i.toNat).gh->nB g cut k
structure mg (g:cG) (cut:Int) (out:List Bool) (pend:List Int):Prop where
 len:out.length=g.nodes.length
 zero:lN out 0=true
 qD:∀k,0<=k->lN out k=true->nB g cut k
 inr:∀k∈pend,0<=k/\k.toNat<out.length/\lN out k=true
 done:∀k,0<=k->k.toNat<out.length->lN out k=true->k∉pend->k≠cut->∀j∈(g.nd k.toNat).gh,lN out j=true
open Classical in
noncomputable def gS (g:cG) (cut:Int):List Bool:=(List.range g.nodes.length).map fun(i:Nat)=>decide (nB g cut (i:Int))
theorem EF (g:cG) (cut:Int):(gS g cut).length=g.nodes.length:=by simp[gS]
theorem EE (g:cG) (cut:Int) {i:Nat} (h:i<g.nodes.length):(gS g cut).getD i false=true↔nB g cut i:=by simp[gS,List.getD,h]
def Whole (g:cG):Prop:=1<=g.nodes.length/\g.nodes.length<=4096/\∀i,i<g.nodes.length->1<=(g.nd i).kind/\(g.nd i).kind<10/\∀k∈(g.nd i).gh,0<=k/\k.toNat<g.nodes.length
theorem KO {g:cG}:mf g=true↔Whole g:=by
 unfold mf Whole vM
 simp only[Bool.and_eq_true,decide_eq_true_eq,List.all_eq_true,and_assoc]
 refine and_congr Iff.rfl (and_congr Iff.rfl ⟨fun h i hi=> ?_,fun h n hn=> ?_⟩)
 ·have:=h (g.nd i) (cO _ hi)
  exact⟨this.1,this.2.1,fun k hk=>by have:=this.2.2 k hk;omega⟩
 ·obtain⟨i,hi,rfl⟩:=List.getElem_of_mem hn
  have:=h i hi
  rw[show g.nd i=g.nodes[i] by simp[List.getD,hi]] at this
  exact⟨this.1,this.2.1,fun k hk=>by have:=this.2.2 k hk;omega⟩
theorem mg.start {g:cG} {cut:Int} (h:Whole g):mg g cut ((List.replicate g.nodes.length false).set 0 true) [0]:=by
 have hl:=h.1
 have hz:∀k,lN ((List.replicate g.nodes.length false).set 0 true) k=true->k.toNat=0:=fun k hk=>by
  rw[mM (by simp;omega)] at hk
  split at hk
  ·assumption
  ·simp only[lN,List.getD,List.getElem?_replicate] at hk
   split at hk<;>simp at hk
 refine⟨by simp,by rw[mM (by simp;omega)];simp,fun k h0 hk=> ?_,fun k hk=> ?_,fun k h0 h1 hk hn=> ?_⟩
 ·rw[show k=0 by have:=hz k hk;omega];exact .zero
 ·simp only[List.mem_cons,List.not_mem_nil,or_false] at hk
  subst hk
  exact⟨by omega,by simp;omega,by rw[mM (by simp;omega)];simp⟩
 ·exact absurd (by rw[show k=0 by have:=hz k hk;omega];simp) hn
theorem mg.on {g:cG} {cut:Int} (h:Whole g) {out:List Bool} {pend:List Int} {at_:Int} {a b:List Int} (hp:pend=a++at_::b) (hg:mg g cut out pend) (hc:at_≠cut) {t:List Int} {s:List Bool×List Int} (hs:lK (g.nd at_.toNat).gh (out,t)=s) {t2:List Int} (ht2:s.2=t++t2):mg g cut s.1 (a++b++t2):=by
 obtain⟨i1,i2,i3⟩:=hg.inr at_ (by rw[hp];simp)
 have hfol:=(h.2.2 at_.toNat (by rw[<-hg.len];exact i2)).2.2
 have sp:=kj (g.nd at_.toNat).gh (out,t) (fun k hk=>by have:=hfol k hk;rw[<-hg.len] at this;exact this)
 rw[hs] at sp
 obtain⟨t3,e1,e2,e3,e4⟩:=sp.more
 have:t2=t3:=by rw[ht2] at e1;exact List.append_cancel_left e1
 subst this
 have hl:s.1.length=out.length:=sp.len
 refine⟨hl.trans hg.len,sp.iB _ hg.zero,fun k h0 hk=> ?_,fun k hk=> ?_,fun k h0 h1 hk hn hkc j hj=> ?_⟩
 ·rcases sp.new k h0 hk with h1|h1
  ·exact hg.qD k h0 h1
  ·exact .step (hg.qD at_ i1 i3) hc h1
 ·rcases List.mem_append.1 hk with hk|hk
  ·have h1:=hg.inr k (by rw[hp];rcases List.mem_append.1 hk with h|h<;>simp[h])
   exact⟨h1.1,by rw[hl];exact h1.2.1,sp.iB _ h1.2.2⟩
  ·have h1:=hfol k (e2 k hk).1
   exact⟨h1.1,by rw[hl,hg.len];exact h1.2,(e2 k hk).2⟩
 ·by_cases hka:k=at_
  ·subst hka;exact sp.all j hj
  ·rcases e3 k h0 hk with h2|h2
   ·refine sp.iB _ (hg.done k h0 (by rw[<-hl];exact h1) h2 (fun hm=> ?_) hkc j hj)
    rw[hp] at hm
    simp only[List.mem_append,List.mem_cons] at hm
    rcases hm with hm|hm|hm
    ·exact hn (by simp[hm])
    ·exact hka hm
    ·exact hn (by simp[hm])
   ·exact absurd (List.mem_append_right _ h2) hn
theorem mg.cut {g:cG} {cut:Int} {out:List Bool} {pend a b:List Int} (hp:pend=a++cut::b) (hg:mg g cut out pend):mg g cut out (a++b):=by
 refine⟨hg.len,hg.zero,hg.qD,fun k hk=>hg.inr k (by rw[hp];rcases List.mem_append.1 hk with h|h<;>simp[h]),fun k h0 h1 hk hn hkc=>hg.done k h0 h1 hk (fun hm=> ?_) hkc⟩
 rw[hp] at hm
 simp only[List.mem_append,List.mem_cons] at hm
 rcases hm with hm|hm|hm
 ·exact hn (by simp[hm])
 ·exact hkc hm
 ·exact hn (by simp[hm])
theorem mg.fin {g:cG} {cut:Int} (h:Whole g) {out:List Bool} (hg:mg g cut out []):out=gS g cut:=by
 have hall:∀k,nB g cut k->0<=k/\k.toNat<g.nodes.length/\lN out k=true:=fun k hk=>by
  induction hk with
  |zero=>exact⟨by omega,by have:=h.1;simp;omega,hg.zero⟩
  |@step i k hi hc hk ih=>
   obtain⟨i1,i2,i3⟩:=ih
   have h1:=(h.2.2 i.toNat i2).2.2 k hk
   exact⟨h1.1,h1.2,hg.done i i1 (by rw[hg.len];exact i2) i3 (by simp) hc k hk⟩
 apply List.ext_getElem
 ·rw[hg.len,EF]
 ·intro i h1 h2
  have hi:i<g.nodes.length:=by rw[<-hg.len];exact h1
  have e1:out[i]=lN out (i:Int):=by simp[lN,List.getD,h1]
  have e2:(gS g cut)[i]=(gS g cut).getD i false:=by simp[List.getD,h2]
  rw[e1,e2,Bool.eq_iff_iff,EE g cut hi]
  exact⟨fun hf=>hg.qD _ (by omega) hf,fun hf=>(hall _ hf).2.2⟩
end
end Go.Proofs.YtjopoheligmmoaaGreatDoor
namespace Go.cw
open Go.RowKit
theorem aO {α:Type} {g:Option Bool} {x:Option α} {K:α->Prop} {a:α} (h:Gd g->x=some a) (k:Go (K a)):jy g x K:=jy.of h k
theorem dW.refl (c:Cx):∀bs:List AV,dW c c bs bs
 |[]=> .nil
 |_::bs=> .cons (fun _ hv=>hv) (dW.refl c bs)
theorem dW.map {α:Type} {c:Cx} {f g:α->AV} (h:∀a,db c c (f a) (g a)):∀l:List α,dW c c (l.map f) (l.map g)
 |[]=> .nil
 |a::l=> .cons (h a) (dW.map h l)
theorem Pure.args {P:Program} {f:FuncId} {bs bs2:List AV} {R:AV->Prop} (h:Pure P f bs2 R) (hle:∀c,dW c c bs bs2):Pure P f bs R:=
 ⟨h.1,fun M w vs hM hv=>h.2 M w vs hM ((hle _).Z2 hv)⟩
theorem cU.args {P:Program} {f:FuncId} {bs bs2:List AV} {H:Hp} {nx:Nat} {R:AV->Hp->Nat->Prop} (h:cU P f bs2 H nx R) (hle:∀c,dW c c bs bs2):cU P f bs H nx R:=
 ⟨h.1,fun w0 c vs h1 h2 h3 hv=>h.2 w0 c vs h1 h2 h3 ((hle _).Z2 hv)⟩
theorem jw {P:Program} {f:FuncId} {args:List AV} {a b:AV} (h:Pure P f args (fun r=>r=a)) (hf:cH 0 b) (hle:∀c,db c c a b):Pure P f args (fun r=>r=b):=
 ⟨h.1,fun M w vs hM hv=>(h.2 M w vs hM hv).mono fun _ _ ⟨v,r,he,hR,hf0,hvr,hb⟩=>⟨v,b,he,rfl,hf,hle _ v (by rw[<-hR];exact hvr),hb⟩⟩
theorem db.jE (c c2:Cx) (sz:Nat) (d:AV):db c c2 (.sc (.slice none 0 0)) (.im sz d []):=by
 intro v hv
 rw[VR] at hv
 subst hv
 rw[VR]
 exact⟨none,0,rfl,by simp, .inl rfl⟩
def tN (H:Hp) (nx:Nat) (e:TypeId) (sz:Nat) (es:List AV):AV->Hp->Nat->Prop:=fun r H' n=>∃b' d',r= .sl b' es.length/\nx<=b'/\b'<n/\nx<=n/\bt H' b'=some (.row e sz d' es)/\∀b,b<nx->bt H' b=bt H b
theorem tN.of {P:Program} {f:FuncId} {args:List AV} {H:Hp} {nx:Nat} {e:TypeId} {sz:Nat} {es:List AV} (hsz:0<sz) (h:cU P f args H nx (fun r H' n=>(r= .sc (.slice none 0 0)/\es=[]/\nx<=n/\∀b,b<nx->bt H' b=bt H b)\/tN H nx e sz es r H' n)):cU P f args H nx (tN H nx e sz es):=by
 refine h.wk ?_
 rintro r H' n (⟨rfl,rfl,h1,h2⟩|h1)
 ·refine⟨_,_,_,Wk.nil (nx:=n) e sz .any hsz,n, .any,rfl,h1,Nat.lt_succ_self _,by omega,ca _ _ _,fun b hb=> ?_⟩
  rw[cN (by omega)];exact h2 b hb
 ·exact⟨r,H',n,Wk.refl _ _ _,h1⟩
end Go.cw
namespace Go.Proofs.YtjopoheligmmoaaGreatDoor
open Go Go.cw Go.Proofs
set_option linter.unusedSimpArgs false
set_option linter.unusedVariables false
def fE (l:List Int):AV:= .im 1 .any (l.map i64)
def F9 (l:List Bool):AV:= .im 1 .any (l.map bl)
theorem cp {P:Program} {f:FuncId} {args:List AV} {u:AV} (h:cU P f args [] 0 (fun r H _=>cw.dY H 6 r=u)) (hf:cH 0 u):Pure P f args (fun r=>r=u):=by
 refine⟨h.1,fun M w vs hM hv=> ?_⟩
 have hS:dy w ⟨fun _=>none,bt [],fun _=>False,w,M⟩:=⟨⟨rfl,rfl,rfl,Nat.le_refl _,fun _ _=>rfl⟩,hM,fun b e sz d es he=>by simp[bt] at he,fun b b' k k' blk o z o' z' hk=>by simp[bt] at hk⟩
 refine(h.2 w _ vs hS rfl (fun _ h=>h.elim) hv).mono ?_
 rintro en w' ⟨v1,r1,H1,nx',ρ,U,he,hz,hU,hS',_,g2⟩
 have h3:=l3 hS' rfl 6 (a:=r1) (v:=v1) (by rw[hz];exact hf) g2
 rw[hz] at h3
 exact⟨v1,_,he,rfl,hf,h3,hS'.below⟩
theorem pure_or {P:Program} {f:FuncId} {args:List AV} {u v:AV} (h:cU P f args [] 0 (fun r H _=>cw.dY H 6 r=u\/cw.dY H 6 r=v)) (hu:cH 0 u) (hv:cH 0 v):Pure P f args (fun r=>r=u\/r=v):=by
 refine⟨h.1,fun M w vs hM hv'=> ?_⟩
 have hS:dy w ⟨fun _=>none,bt [],fun _=>False,w,M⟩:=⟨⟨rfl,rfl,rfl,Nat.le_refl _,fun _ _=>rfl⟩,hM,fun b e sz d es he=>by simp[bt] at he,fun b b' k k' blk o z o' z' hk=>by simp[bt] at hk⟩
 refine(h.2 w _ vs hS rfl (fun _ h=>h.elim) hv').mono ?_
 rintro en w' ⟨v1,r1,H1,nx',ρ,U,he,hz,hU,hS',_,g2⟩
 rcases hz with hz|hz
 ·have h3:=l3 hS' rfl 6 (a:=r1) (v:=v1) (by rw[hz];exact hu) g2
  rw[hz] at h3
  exact⟨v1,_,he, .inl rfl,hu,h3,hS'.below⟩
 ·have h3:=l3 hS' rfl 6 (a:=r1) (v:=v1) (by rw[hz];exact hv) g2
  rw[hz] at h3
  exact⟨v1,_,he, .inr rfl,hv,h3,hS'.below⟩
theorem yK {P:Program} {f:FuncId} {args:List AV} {u v:AV} (h:Pure P f args (fun r=>r=u\/r=v)) (hv:cH 0 v) (hle:∀c,db c c u v):Pure P f args (fun r=>r=v):=
 ⟨h.1,fun M w vs hM hv'=>(h.2 M w vs hM hv').mono fun en w' ⟨x,r,h2,h3,h4,h5,h6⟩=>by
  rcases h3 with rfl|rfl
  ·exact⟨x,_,h2,rfl,hv,hle _ _ h5,h6⟩
  ·exact⟨x,_,h2,rfl,hv,h5,h6⟩⟩
theorem mV {P:Program} {f:FuncId} {args:List AV} {sz:Nat} {es:List AV} (hf:cH 0 (.im sz .any es)) (h:cU P f args [] 0 (fun r H _=>cw.dY H 6 r= .sc (.slice none 0 0)/\es=[]\/cw.dY H 6 r= .im sz .any es)):Pure P f args (fun r=>r= .im sz .any es):=by
 by_cases hl:es=[]
 ·subst hl
  exact yK (pure_or (h.mono fun r H n h=>h.imp (·.1) id) (by simp[cH,c8]) hf) hf (fun c=>cw.db.jE c c _ _)
 ·exact cp (h.mono fun r H n h=>h.elim (fun h=>absurd h.2 hl) id) hf
theorem gl (op:Int):Pure Tryz.prog 196 [u8 op] (fun r=>r=bl (decide (0<op/\op<19))):=by
 refine aD X8 rfl ?_
 repeat' (first|refine aQ ?_|exact aC|with_reducible refine aB ?_ ?_|(apply aA;(·exact cL))|refine aH ?_|((with_reducible refine aE ?_ ?_)<;>intro hc<;>try(exfalso;omega)))
 simp only[decide_eq_true_eq]
 exact eD (by by_cases h:0<op<;>simp[h])
theorem gw (op:Int):Pure Tryz.prog 126 [u8 op] (fun r=>r=bl (dv op)):=by
 refine aD W9 rfl ?_
 repeat' (first|refine aQ ?_|exact aC|with_reducible refine aB ?_ ?_|(apply aA;(·exact cL))|refine aH ?_|((with_reducible refine aE ?_ ?_)<;>intro hc<;>try(exfalso;omega)))
 all_goals simp_all[dv,qq]
theorem fD (c:Int):Pure Tryz.prog 163 [u8 c] (fun r=>r=bl (decide (48<=c)&&decide (c<=57))):=by
 refine aD XV rfl ?_
 repeat' (first|refine aQ ?_|exact aC|with_reducible refine aB ?_ ?_|(apply aA;(·exact cL))|refine aH ?_|((with_reducible refine aE ?_ ?_)<;>intro hc<;>try(exfalso;omega)))
 all_goals simp_all[qq]
set_option maxHeartbeats 1000000 in
theorem mN (n:Node):Pure Tryz.prog 120 [n.av] (fun r=>r=fE n.fold):=by
 refine mV (by simp[cH,cD]) ?_
 refine aJ W4 rfl ?_
 repeat' (first|refine aQ ?_|exact eh|with_reducible refine aB ?_ ?_|((with_reducible refine Ask.mk ?_);first|exact dJ|exact cj|(intro h;simp_all[Node.cells]<;>fail)|(simp_all[Node.cells]<;>fail))|(apply aA;(·exact cL))|refine aH ?_|((with_reducible refine aE ?_ ?_)<;>intro hc<;>try(exfalso;omega)))
 all_goals refine⟨?_⟩
 all_goals first|exact .inl ⟨rfl,by simp_all[Node.fold]⟩|(refine .inr ((dH bu (by simp)).trans ?_);rw[cn _ (by simp[c8,cH])];first|(simp_all[fE,Node.fold];done)|(unfold Node.fold;rw[if_neg (by assumption),if_neg (fun h=>hc.elim (fun a=>a h.1) (fun a=>h.2 a))];rfl))
set_option maxHeartbeats 1000000 in
theorem vt (n:Node):Pure Tryz.prog 129 [n.av] (fun r=>r=fE n.gh):=by
 refine mV (by simp[cH,cD]) ?_
 refine aJ XC rfl ?_
 repeat' (first|refine aQ ?_|exact eh|with_reducible refine aB ?_ ?_|((with_reducible refine Ask.mk ?_);first|exact dJ|exact cj|(intro h;simp_all[Node.cells]<;>fail)|(simp_all[Node.cells]<;>fail))|(apply aA;(·exact cL))|refine aH ?_|((with_reducible refine aE ?_ ?_)<;>intro hc<;>try(exfalso;omega)))
 all_goals refine⟨?_⟩
 all_goals first|exact .inl ⟨rfl,by simp_all[Node.gh]⟩|(refine .inr ((dH bu (by simp)).trans ?_);rw[cn _ (by simp[c8,cH])];simp_all[fE,Node.gh])
end Go.Proofs.YtjopoheligmmoaaGreatDoor
