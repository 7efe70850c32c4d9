import Derived.Test.YtjopoheligmmoaaGreatDoorM15
import Derived.Test.YtjopoheligmmoaaGreatDoorM20
import Derived.Test.YtjopoheligmmoaaGreatDoorM21
import Derived.Test.YtjopoheligmmoaaGreatDoorM22
section
/- Units as plain data. -/
namespace Go.Proofs.YtjopoheligmmoaaGreatDoor
open Go Go.cZ Go.Proofs
set_option linter.unusedSimpArgs false
set_option linter.unusedVariables false
abbrev i64 (n:Int):AV:= .sc (.int .i64 n)
abbrev u8 (n:Int):AV:= .sc (.int .u8 n)
abbrev bl (b:Bool):AV:= .sc (.bool b)
abbrev st (s:ByteArray):AV:= .sc (.string s)
def eQ (n:Int):Prop:=-9223372036854775808≤n∧n<9223372036854775808
structure l8 where
 jR:Bool
 slot:Int
 word:Int
 deriving Inhabited,DecidableEq
def l8.cells (v:l8):List AV:=[bl v.jR,i64 v.slot,i64 v.word]
abbrev l8.av (v:l8):AV:= .agg v.cells
structure l8.Wf (v:l8):Prop where
 slot:eQ v.slot
 word:eQ v.word
structure Node where
 kind:Int
 op:Int
 slot:Int
 cQ:Int
 a:l8
 b:l8
 next:Int
 sO:Int
 origin:Int
 deriving Inhabited,DecidableEq
def Node.cells (n:Node):List AV:=[u8 n.kind,u8 n.op,i64 n.slot,i64 n.cQ,bl n.a.jR,i64 n.a.slot,i64 n.a.word,bl n.b.jR,i64 n.b.slot,i64 n.b.word,i64 n.next,i64 n.sO,i64 n.origin]
abbrev Node.av (n:Node):AV:= .agg n.cells
structure Node.Wf (n:Node):Prop where
 kind:0≤n.kind∧n.kind<256
 op:0≤n.op∧n.op<256
 slot:eQ n.slot
 cQ:eQ n.cQ
 a:n.a.Wf
 b:n.b.Wf
 next:eQ n.next
 sO:eQ n.sO
 origin:eQ n.origin
structure Decl where
 name:ByteArray
 word:Int
 at_:Int
 deriving Inhabited,DecidableEq
def Decl.cells (d:Decl):List AV:=[st d.name,i64 d.word,i64 d.at_]
abbrev Decl.av (d:Decl):AV:= .agg d.cells
structure Decl.Wf (d:Decl):Prop where
 name:d.name.size≤140737488351232
 word:eQ d.word
 at_:eQ d.at_
structure cF where
 name:ByteArray
 locals:Int
 cA:Int
 nodes:List Node
 deriving Inhabited,DecidableEq
abbrev iz (l:List Node):AV:= .im 13 .any (l.map Node.av)
def cF.cells (g:cF):List AV:=[st g.name,i64 g.locals,i64 g.cA,iz g.nodes]
abbrev cF.av (g:cF):AV:= .agg g.cells
structure cF.Wf (g:cF):Prop where
 name:g.name.size≤140737488351232
 locals:eQ g.locals
 cA:eQ g.cA
 nodes:∀n∈g.nodes,n.Wf
 len:g.nodes.length * 88≤140737488351232
structure bx where
 shared:List Decl
 cE:List Decl
 bz:List cF
 deriving Inhabited,DecidableEq
abbrev ct (l:List Decl):AV:= .im 3 .any (l.map Decl.av)
abbrev di (l:List cF):AV:= .im 4 .any (l.map cF.av)
def bx.cells (u:bx):List AV:=[ct u.shared,ct u.cE,di u.bz]
abbrev bx.av (u:bx):AV:= .agg u.cells
structure bx.Wf (u:bx):Prop where
 shared:∀d∈u.shared,d.Wf
 vO:u.shared.length * 32≤140737488351232
 cE:∀d∈u.cE,d.Wf
 zm:u.cE.length * 32≤140737488351232
 bz:∀g∈u.bz,g.Wf
 I8:u.bz.length * 56≤140737488351232
@[simp] theorem ZN (n:Nat) (v:l8):cX n v.cells:=by simp[l8.cells,cX,cI]
@[simp] theorem YC (n:Nat) (v:Node):cX n v.cells:=by simp[Node.cells,cX,cI]
@[simp] theorem YB (n:Nat) (v:Decl):cX n v.cells:=by simp[Decl.cells,cX,cI]
@[simp] theorem XK (n:Nat) (v:cF):cX n v.cells:=by simp[cF.cells,cX,cI,cB]
@[simp] theorem YD (n:Nat) (v:bx):cX n v.cells:=by simp[bx.cells,cX,cI,cB]
abbrev cF.nd (g:cF) (i:Nat):Node:=g.nodes.getD i default
abbrev bx.gr (u:bx) (t:Nat):cF:=u.bz.getD t default
theorem uo {α β:Type} (f:α→β) (l:List α) (i:Nat) (a:α):(l.map f).getD i (f a)=f (l.getD i a):=by
 simp only[List.getD,List.getElem?_map]
 cases l[i]?<;>rfl
theorem V6 {l:List cF} {i:Nat}:(l.map cF.av).getD i (cF.av default)=(l.getD i default).av:=uo _ _ _ _
theorem MK {l:List Decl} {i:Nat}:(l.map Decl.av).getD i (Decl.av default)=(l.getD i default).av:=uo _ _ _ _
theorem fA {a b:Bool} (h:a=b):AV.sc (.bool a)=bl b:=by rw[h]
theorem cR {α:Type} {l:List α} {j:Nat} (d:α) (h:j<l.length):l.getD j d∈l:=by
 simp only[List.getD,List.getElem?_eq_getElem h,Option.getD_some];exact List.getElem_mem h
end Go.Proofs.YtjopoheligmmoaaGreatDoor
end
section
/- What a unit must be, in plain data. -/
namespace Go.Proofs.YtjopoheligmmoaaGreatDoor
open Go Go.cZ Go.Proofs
set_option linter.unusedSimpArgs false
set_option linter.unusedVariables false
def Node.oO (n:Node):List Int:=if n.kind=9 then[] else if n.kind=8 then[n.next,n.sO] else[n.next]
def Node.fold (n:Node):List Int:=if n.kind=9 then[] else if n.kind=8∧n.sO≠n.next then[n.next,n.sO] else[n.next]
def fm {α:Type} (p:α→Bool):List α→Nat→Option Nat
 |[],_=>none
 |x::r,i=>if p x=true then fm p r (i+1) else some i
theorem yD {α:Type} (p:α→Bool) (l:List α) (d:α) {i:Nat} (h:i<l.length):fm p (l.drop i) i=if p (l.getD i d)=true then fm p (l.drop (i+1)) (i+1) else some i:=by
 rw[List.drop_eq_getElem_cons h,fm]
 simp[List.getD,h]
theorem CG {α:Type} (p:α→Bool) (l:List α) {i:Nat} (h:l.length≤i):fm p (l.drop i) i=none:=by
 rw[List.drop_eq_nil_of_le h,fm]
def eB (op:Int):Bool:=decide (1≤op)&&decide (op≤16)
def kr (k:Int):Bool:=decide (k=1∨k=2∨k=4)
def gA (k:Int):Bool:=decide (k=2∨k=3∨k=4∨k=5∨k=6)
def vU (k:Int):Bool:=decide (k=1∨k=3∨k=4∨k=7∨k=8)
def j5 (k:Int):Bool:=decide (1≤k∧k≤8)
def uE (v:l8) (used:Bool) (cA:Int):Bool:=if used=true then(if v.jR=true then decide (0≤v.slot)&&decide (v.slot<cA)&&decide (v.word=0) else decide (v.slot=0)) else decide (v=default)
def qT (n:Int) (used:Bool) (most:Int):Bool:=if used=true then decide (0≤n)&&decide (n<most) else decide (n=0)
def mL (u:bx) (g:cF) (n:Node):Bool:=
 decide (1≤n.kind∧n.kind<10∧0≤n.origin∧n.origin<4096)&&(if n.kind=1 then decide (n.op<19) else decide (n.op=0))&&
 qT n.slot (kr n.kind) g.cA&&qT n.cQ (gA n.kind) (if n.kind=5∨n.kind=6 then u.cE.length else u.shared.length)&&uE n.a (vU n.kind) g.cA&&uE n.b (decide (n.kind=1)&&eB n.op) g.cA&&qT n.next (j5 n.kind) g.nodes.length&&qT n.sO (decide (n.kind=8)) g.nodes.length
def tR (m:Nat) (n:Node):Bool:=decide (1≤n.kind)&&decide (n.kind<10)&&n.oO.all fun k=>decide (0≤k)&&decide (k<m)
def lU (g:cF):Bool:=decide (1≤g.nodes.length)&&decide (g.nodes.length≤4096)&&g.nodes.all (tR g.nodes.length)
structure HS where
 cE:List (List Int)
 found:List Bool
 todo:List Int
def HS.l (s:HS) (k:Int):List Int:=s.cE.getD k.toNat []
def HS.f (s:HS) (k:Int):Bool:=s.found.getD k.toNat false
def dj (n:Node) (l:List Int):Option (List Int):=
 if n.kind=5 then some (l++[n.cQ]) else if n.kind=6 then(if l≠[]∧l.getLast?=some n.cQ then some l.dropLast else none) else if n.kind=9 then(if l=[] then some l else none) else some l
def de (now:List Int):List Int→HS→HS ⊕ Int
 |[],s=> .inl s
 |k::r,s=>if s.f k=false then de now r ⟨s.cE.set k.toNat now,s.found.set k.toNat true,s.todo++[k]⟩ else if s.l k=now then de now r s else .inr k
def fe (g:cF):Nat→HS→Nat→List (List Int)×Int
 |0,s,_=>(s.cE,-1)
 |f+1,s,k=>if k<s.todo.length then(match dj (g.nd (s.todo.getD k 0).toNat) (s.l (s.todo.getD k 0)) with
  |none=>([],s.todo.getD k 0)
  |some now=>match de now (g.nd (s.todo.getD k 0).toNat).oO s with
   | .inl s'=>fe g f s' (k+1)
   | .inr at_=>([],at_)) else(s.cE,-1)
def wR (g:cF):HS:=⟨List.replicate g.nodes.length [],(List.replicate g.nodes.length false).set 0 true,[0]⟩
def eO (g:cF):List (List Int)×Int:=fe g (g.nodes.length+1) (wR g) 0
def ny (u:bx) (g:cF):Option Int:=
 if g.locals<0∨g.locals>64∨g.cA<g.locals∨g.cA>4160∨g.nodes.length<1∨g.nodes.length>4096 then some 0 else
 match fm (mL u g) g.nodes 0 with
 |some i=>some (i:Int)
 |none=>if 0≤(eO g).2 then some (eO g).2 else none
def fT (u:bx):List cF→Nat→Int×Int×Int
 |[],_=>(0,0,0)
 |g::r,t=>match ny u g with
  |some k=>(60,t,k)
  |none=>fT u r (t+1)
end Go.Proofs.YtjopoheligmmoaaGreatDoor
end
section
/- What is reached, in plain data. -/
namespace Go.Proofs.YtjopoheligmmoaaGreatDoor
open Go Go.cZ Go.Proofs
set_option linter.unusedSimpArgs false
set_option linter.unusedVariables false
theorem IW {α:Type} (F:List Int→α) (n:Node) (h:∀a,F [a,a]=F [a]):F n.fold=F n.oO:=by
 unfold Node.fold Node.oO
 by_cases h9:n.kind=9
 ·rw[if_pos h9,if_pos h9]
 ·rw[if_neg h9,if_neg h9]
  by_cases h8:n.kind=8
  ·rw[if_pos h8]
   by_cases he:n.sO=n.next
   ·rw[if_neg (fun h=>h.2 he),he,h]
   ·rw[if_pos ⟨h8,he⟩]
  ·rw[if_neg h8,if_neg (fun h=>h8 h.1)]
abbrev mn (out:List Bool) (k:Int):Bool:=out.getD k.toNat false
def kF:List Int→List Bool×List Int→List Bool×List Int
 |[],s=>s
 |k::r,s=>if mn s.1 k=false then kF r (s.1.set k.toNat true,s.2++[k]) else kF r s
theorem EA (a:Int) (s:List Bool×List Int) (h:a.toNat<s.1.length):kF [a,a] s=kF [a] s:=by
 simp only[kF]
 by_cases h1:mn s.1 a=false
 ·rw[if_pos h1,if_pos h1,if_neg (by simp[mn,List.getD,h])]
 ·simp only[if_neg h1]
structure VC (l:List Int) (s s':List Bool×List Int):Prop where
 len:s'.1.length=s.1.length
 gR:∀k,mn s.1 k=true→mn s'.1 k=true
 new:∀k,0≤k→mn s'.1 k=true→mn s.1 k=true∨k∈l
 all:∀k∈l,mn s'.1 k=true
 more:∃t,s'.2=s.2++t∧(∀k∈t,k∈l∧mn s'.1 k=true)∧(∀k,0≤k→mn s'.1 k=true→mn s.1 k=true∨k∈t)∧s'.1.count false+t.length=s.1.count false
theorem count_set {l:List Bool} {i:Nat} (h:i<l.length) (hf:l.getD i false=false):(l.set i true).count false+1=l.count false:=by
 have h1:l[i]=false:=by simpa[List.getD,h] using hf
 rw[List.count_set h,h1]
 have:0<l.count false:=List.count_pos_iff.2 (h1▸List.getElem_mem h)
 simp
 omega
theorem lJ {l:List Bool} {i:Nat} (h:i<l.length) (k:Int):mn (l.set i true) k=if k.toNat=i then true else mn l k:=by
 unfold mn
 simp only[List.getD,List.getElem?_set]
 by_cases hk:k.toNat=i
 ·rw[if_pos hk.symm,if_pos hk];simp[h]
 ·rw[if_neg (fun e=>hk e.symm),if_neg hk]
theorem jm:∀(l:List Int) (s:List Bool×List Int),(∀k∈l,0≤k∧k.toNat<s.1.length)→VC l s (kF l s)
 |[],s,_=>⟨rfl,fun _ h=>h,fun _ _ h=> .inl h,fun _ h=>by simp at h,[],by simp[kF],fun _ h=>by simp at h,fun _ _ h=> .inl h,by simp[kF]⟩
 |k::r,s,h=>by
  obtain⟨hk0,hk⟩:=h k (by simp)
  have hr:=fun x hx=>h x (List.mem_cons_of_mem _ hx)
  rw[kF]
  by_cases h1:mn s.1 k=false
  ·rw[if_pos h1]
   have ih:=jm r (s.1.set k.toNat true,s.2++[k]) (fun x hx=>by simpa using hr x hx)
   have hset:=lJ (l:=s.1) hk
   obtain⟨t,t1,t2,t3,t4⟩:=ih.more
   have hkk:mn (kF r (s.1.set k.toNat true,s.2++[k])).1 k=true:=ih.gR k (by rw[hset,if_pos rfl])
   refine⟨ih.len.trans (by simp),fun x hx=>ih.gR x (by rw[hset];split<;>first|rfl|exact hx),fun x hx0 hx=> ?_,fun x hx=> ?_,k::t,by rw[t1];simp,fun x hx=> ?_,fun x hx0 hx=> ?_, ?_⟩
   ·rcases ih.new x hx0 hx with h2|h2
    ·rw[hset] at h2
     split at h2
     ·rename_i e;exact .inr (by rw[show x=k by omega];simp)
     ·exact .inl h2
    ·exact .inr (List.mem_cons_of_mem _ h2)
   ·rcases List.mem_cons.1 hx with rfl|hx
    ·exact hkk
    ·exact ih.all x hx
   ·rcases List.mem_cons.1 hx with rfl|hx
    ·exact⟨by simp,hkk⟩
    ·exact⟨List.mem_cons_of_mem _ (t2 x hx).1,(t2 x hx).2⟩
   ·rcases t3 x hx0 hx with h2|h2
    ·rw[hset] at h2
     split at h2
     ·rename_i e;exact .inr (by rw[show x=k by omega];simp)
     ·exact .inl h2
    ·exact .inr (List.mem_cons_of_mem _ h2)
   ·have:=count_set hk h1
    rw[List.length_cons]
    dsimp only at t4
    omega
  ·rw[if_neg h1]
   have hkt:mn s.1 k=true:=by simpa using h1
   have ih:=jm r s hr
   obtain⟨t,t1,t2,t3,t4⟩:=ih.more
   refine⟨ih.len,ih.gR,fun x hx0 hx=>(ih.new x hx0 hx).imp id (List.mem_cons_of_mem _),fun x hx=> ?_,t,t1,fun x hx=>⟨List.mem_cons_of_mem _ (t2 x hx).1,(t2 x hx).2⟩,t3,t4⟩
   rcases List.mem_cons.1 hx with rfl|hx
   ·exact ih.gR _ hkt
   ·exact ih.all x hx
inductive la (g:cF) (cut:Int):Int→Prop where
 |zero:la g cut 0
 |step {i k:Int}:la g cut i→i≠cut→k∈(g.nd i.toNat).oO→la g cut k
structure lW (g:cF) (cut:Int) (out:List Bool) (pend:List Int):Prop where
 len:out.length=g.nodes.length
 zero:mn out 0=true
 oZ:∀k,0≤k→mn out k=true→la g cut k
 inr:∀k∈pend,0≤k∧k.toNat<out.length∧mn out k=true
 done:∀k,0≤k→k.toNat<out.length→mn out k=true→k∉pend→k≠cut→∀j∈(g.nd k.toNat).oO,mn out j=true
open Classical in
noncomputable def fZ (g:cF) (cut:Int):List Bool:=(List.range g.nodes.length).map fun(i:Nat)=>decide (la g cut (i:Int))
theorem DN (g:cF) (cut:Int):(fZ g cut).length=g.nodes.length:=by simp[fZ]
theorem DM (g:cF) (cut:Int) {i:Nat} (h:i<g.nodes.length):(fZ g cut).getD i false=true↔la g cut i:=by simp[fZ,List.getD,h]
def Whole (g:cF):Prop:=1≤g.nodes.length∧g.nodes.length≤4096∧∀i,i<g.nodes.length→1≤(g.nd i).kind∧(g.nd i).kind<10∧∀k∈(g.nd i).oO,0≤k∧k.toNat<g.nodes.length
theorem K8 {g:cF}:lU g=true↔Whole g:=by
 unfold lU Whole tR
 simp only[Bool.and_eq_true,decide_eq_true_eq,List.all_eq_true,and_assoc]
 refine and_congr Iff.rfl (and_congr Iff.rfl ⟨fun h i hi=> ?_,fun h n hn=> ?_⟩)
 ·have:=h (g.nd i) (cR _ hi)
  exact⟨this.1,this.2.1,fun k hk=>by have:=this.2.2 k hk;omega⟩
 ·obtain⟨i,hi,rfl⟩:=List.getElem_of_mem hn
  have:=h i hi
  rw[show g.nd i=g.nodes[i] by simp[List.getD,hi]] at this
  exact⟨this.1,this.2.1,fun k hk=>by have:=this.2.2 k hk;omega⟩
theorem lW.start {g:cF} {cut:Int} (h:Whole g):lW g cut ((List.replicate g.nodes.length false).set 0 true) [0]:=by
 have hl:=h.1
 have hz:∀k,mn ((List.replicate g.nodes.length false).set 0 true) k=true→k.toNat=0:=fun k hk=>by
  rw[lJ (by simp;omega)] at hk
  split at hk
  ·assumption
  ·simp only[mn,List.getD,List.getElem?_replicate] at hk
   split at hk<;>simp at hk
 refine⟨by simp,by rw[lJ (by simp;omega)];simp,fun k h0 hk=> ?_,fun k hk=> ?_,fun k h0 h1 hk hn=> ?_⟩
 ·rw[show k=0 by have:=hz k hk;omega];exact .zero
 ·simp only[List.mem_cons,List.not_mem_nil,or_false] at hk
  subst hk
  exact⟨by omega,by simp;omega,by rw[lJ (by simp;omega)];simp⟩
 ·exact absurd (by rw[show k=0 by have:=hz k hk;omega];simp) hn
theorem lW.on {g:cF} {cut:Int} (h:Whole g) {out:List Bool} {pend:List Int} {at_:Int} {a b:List Int} (hp:pend=a++at_::b) (hg:lW g cut out pend) (hc:at_≠cut) {t:List Int} {s:List Bool×List Int} (hs:kF (g.nd at_.toNat).oO (out,t)=s) {t2:List Int} (ht2:s.2=t++t2):lW g cut s.1 (a++b++t2):=by
 obtain⟨i1,i2,i3⟩:=hg.inr at_ (by rw[hp];simp)
 have hfol:=(h.2.2 at_.toNat (by rw[←hg.len];exact i2)).2.2
 have sp:=jm (g.nd at_.toNat).oO (out,t) (fun k hk=>by have:=hfol k hk;rw[←hg.len] at this;exact this)
 rw[hs] at sp
 obtain⟨t3,e1,e2,e3,e4⟩:=sp.more
 have:t2=t3:=by rw[ht2] at e1;exact List.append_cancel_left e1
 subst this
 have hl:s.1.length=out.length:=sp.len
 refine⟨hl.trans hg.len,sp.gR _ hg.zero,fun k h0 hk=> ?_,fun k hk=> ?_,fun k h0 h1 hk hn hkc j hj=> ?_⟩
 ·rcases sp.new k h0 hk with h1|h1
  ·exact hg.oZ k h0 h1
  ·exact .step (hg.oZ at_ i1 i3) hc h1
 ·rcases List.mem_append.1 hk with hk|hk
  ·have h1:=hg.inr k (by rw[hp];rcases List.mem_append.1 hk with h|h<;>simp[h])
   exact⟨h1.1,by rw[hl];exact h1.2.1,sp.gR _ h1.2.2⟩
  ·have h1:=hfol k (e2 k hk).1
   exact⟨h1.1,by rw[hl,hg.len];exact h1.2,(e2 k hk).2⟩
 ·by_cases hka:k=at_
  ·subst hka;exact sp.all j hj
  ·rcases e3 k h0 hk with h2|h2
   ·refine sp.gR _ (hg.done k h0 (by rw[←hl];exact h1) h2 (fun hm=> ?_) hkc j hj)
    rw[hp] at hm
    simp only[List.mem_append,List.mem_cons] at hm
    rcases hm with hm|hm|hm
    ·exact hn (by simp[hm])
    ·exact hka hm
    ·exact hn (by simp[hm])
   ·exact absurd (List.mem_append_right _ h2) hn
theorem lW.cut {g:cF} {cut:Int} {out:List Bool} {pend a b:List Int} (hp:pend=a++cut::b) (hg:lW g cut out pend):lW g cut out (a++b):=by
 refine⟨hg.len,hg.zero,hg.oZ,fun k hk=>hg.inr k (by rw[hp];rcases List.mem_append.1 hk with h|h<;>simp[h]),fun k h0 h1 hk hn hkc=>hg.done k h0 h1 hk (fun hm=> ?_) hkc⟩
 rw[hp] at hm
 simp only[List.mem_append,List.mem_cons] at hm
 rcases hm with hm|hm|hm
 ·exact hn (by simp[hm])
 ·exact hkc hm
 ·exact hn (by simp[hm])
theorem lW.fin {g:cF} {cut:Int} (h:Whole g) {out:List Bool} (hg:lW g cut out []):out=fZ g cut:=by
 have hall:∀k,la g cut k→0≤k∧k.toNat<g.nodes.length∧mn out k=true:=fun k hk=>by
  induction hk with
  |zero=>exact⟨by omega,by have:=h.1;simp;omega,hg.zero⟩
  |@step i k hi hc hk ih=>
   obtain⟨i1,i2,i3⟩:=ih
   have h1:=(h.2.2 i.toNat i2).2.2 k hk
   exact⟨h1.1,h1.2,hg.done i i1 (by rw[hg.len];exact i2) i3 (by simp) hc k hk⟩
 apply List.ext_getElem
 ·rw[hg.len,DN]
 ·intro i h1 h2
  have hi:i<g.nodes.length:=by rw[←hg.len];exact h1
  have e1:out[i]=mn out (i:Int):=by simp[mn,List.getD,h1]
  have e2:(fZ g cut)[i]=(fZ g cut).getD i false:=by simp[List.getD,h2]
  rw[e1,e2,Bool.eq_iff_iff,DM g cut hi]
  exact⟨fun hf=>hg.oZ _ (by omega) hf,fun hf=>(hall _ hf).2.2⟩
end Go.Proofs.YtjopoheligmmoaaGreatDoor
end
section
/- Lists that are handed back; small functions. -/
namespace Go.cZ
open Go.RowKit
theorem aS {α:Type} {g:Option Bool} {x:Option α} {K:α→Prop} {a:α} (h:Gd g→x=some a) (k:Go (K a)):jK g x K:=jK.of h k
theorem dL.refl (c:Cx):∀bs:List AV,dL c c bs bs
 |[]=> .nil
 |_::bs=> .cons (fun _ hv=>hv) (dL.refl c bs)
theorem dL.map {α:Type} {c:Cx} {f g:α→AV} (h:∀a,dN c c (f a) (g a)):∀l:List α,dL c c (l.map f) (l.map g)
 |[]=> .nil
 |a::l=> .cons (h a) (dL.map h l)
theorem Pure.args {P:Program} {f:FuncId} {bs bs2:List AV} {R:AV→Prop} (h:Pure P f bs2 R) (hle:∀c,dL c c bs bs2):Pure P f bs R:=
 ⟨h.1,fun M w vs hM hv=>h.2 M w vs hM ((hle _).ZX hv)⟩
theorem cG.args {P:Program} {f:FuncId} {bs bs2:List AV} {H:Hp} {nx:Nat} {R:AV→Hp→Nat→Prop} (h:cG P f bs2 H nx R) (hle:∀c,dL c c bs bs2):cG P f bs H nx R:=
 ⟨h.1,fun w0 c vs h1 h2 h3 hv=>h.2 w0 c vs h1 h2 h3 ((hle _).ZX hv)⟩
theorem gS {P:Program} {f:FuncId} {args:List AV} {a b:AV} (h:Pure P f args (fun r=>r=a)) (hf:cI 0 b) (hle:∀c,dN c c a b):Pure P f args (fun r=>r=b):=
 ⟨h.1,fun M w vs hM hv=>(h.2 M w vs hM hv).mono fun _ _ ⟨v,r,he,hR,hf0,hvr,hb⟩=>⟨v,b,he,rfl,hf,hle _ v (by rw[←hR];exact hvr),hb⟩⟩
theorem dN.kb (c c2:Cx) (sz:Nat) (d:AV):dN c c2 (.sc (.slice none 0 0)) (.im sz d []):=by
 intro v hv
 rw[VR] at hv
 subst hv
 rw[VR]
 exact⟨none,0,rfl,by simp, .inl rfl⟩
def rU (H:Hp) (nx:Nat) (e:TypeId) (sz:Nat) (es:List AV):AV→Hp→Nat→Prop:=fun r H' n=>∃b' d',r= .sl b' es.length∧nx≤b'∧b'<n∧nx≤n∧bu H' b'=some (.row e sz d' es)∧∀b,b<nx→bu H' b=bu H b
theorem rU.of {P:Program} {f:FuncId} {args:List AV} {H:Hp} {nx:Nat} {e:TypeId} {sz:Nat} {es:List AV} (hsz:0<sz) (h:cG P f args H nx (fun r H' n=>(r= .sc (.slice none 0 0)∧es=[]∧nx≤n∧∀b,b<nx→bu H' b=bu H b)∨rU H nx e sz es r H' n)):cG P f args H nx (rU H nx e sz es):=by
 refine h.wk ?_
 rintro r H' n (⟨rfl,rfl,h1,h2⟩|h1)
 ·refine⟨_,_,_,Wk.nil (nx:=n) e sz .any hsz,n, .any,rfl,h1,Nat.lt_succ_self _,by omega,cq _ _ _,fun b hb=> ?_⟩
  rw[c8 (by omega)];exact h2 b hb
 ·exact⟨r,H',n,Wk.refl _ _ _,h1⟩
end Go.cZ
namespace Go.Proofs.YtjopoheligmmoaaGreatDoor
open Go Go.cZ Go.Proofs
set_option linter.unusedSimpArgs false
set_option linter.unusedVariables false
def fX (l:List Int):AV:= .im 1 .any (l.map i64)
def FF (l:List Bool):AV:= .im 1 .any (l.map bl)
theorem cx {P:Program} {f:FuncId} {args:List AV} {u:AV} (h:cG P f args [] 0 (fun r H _=>cZ.dV H 6 r=u)) (hf:cI 0 u):Pure P f args (fun r=>r=u):=by
 refine⟨h.1,fun M w vs hM hv=> ?_⟩
 have hS:dZ w ⟨fun _=>none,bu [],fun _=>False,w,M⟩:=⟨⟨rfl,rfl,rfl,Nat.le_refl _,fun _ _=>rfl⟩,hM,fun b e sz d es he=>by simp[bu] at he,fun b b' k k' blk o z o' z' hk=>by simp[bu] at hk⟩
 refine(h.2 w _ vs hS rfl (fun _ h=>h.elim) hv).mono ?_
 rintro en w' ⟨v1,r1,H1,nx',ρ,U,he,hz,hU,hS',_,g2⟩
 have h3:=kV hS' rfl 6 (a:=r1) (v:=v1) (by rw[hz];exact hf) g2
 rw[hz] at h3
 exact⟨v1,_,he,rfl,hf,h3,hS'.below⟩
theorem pure_or {P:Program} {f:FuncId} {args:List AV} {u v:AV} (h:cG P f args [] 0 (fun r H _=>cZ.dV H 6 r=u∨cZ.dV H 6 r=v)) (hu:cI 0 u) (hv:cI 0 v):Pure P f args (fun r=>r=u∨r=v):=by
 refine⟨h.1,fun M w vs hM hv'=> ?_⟩
 have hS:dZ w ⟨fun _=>none,bu [],fun _=>False,w,M⟩:=⟨⟨rfl,rfl,rfl,Nat.le_refl _,fun _ _=>rfl⟩,hM,fun b e sz d es he=>by simp[bu] at he,fun b b' k k' blk o z o' z' hk=>by simp[bu] at hk⟩
 refine(h.2 w _ vs hS rfl (fun _ h=>h.elim) hv').mono ?_
 rintro en w' ⟨v1,r1,H1,nx',ρ,U,he,hz,hU,hS',_,g2⟩
 rcases hz with hz|hz
 ·have h3:=kV hS' rfl 6 (a:=r1) (v:=v1) (by rw[hz];exact hu) g2
  rw[hz] at h3
  exact⟨v1,_,he, .inl rfl,hu,h3,hS'.below⟩
 ·have h3:=kV hS' rfl 6 (a:=r1) (v:=v1) (by rw[hz];exact hv) g2
  rw[hz] at h3
  exact⟨v1,_,he, .inr rfl,hv,h3,hS'.below⟩
theorem HH {P:Program} {f:FuncId} {args:List AV} {u v:AV} (h:Pure P f args (fun r=>r=u∨r=v)) (hv:cI 0 v) (hle:∀c,dN c c u v):Pure P f args (fun r=>r=v):=
 ⟨h.1,fun M w vs hM hv'=>(h.2 M w vs hM hv').mono fun en w' ⟨x,r,h2,h3,h4,h5,h6⟩=>by
  rcases h3 with rfl|rfl
  ·exact⟨x,_,h2,rfl,hv,hle _ _ h5,h6⟩
  ·exact⟨x,_,h2,rfl,hv,h5,h6⟩⟩
theorem nF {P:Program} {f:FuncId} {args:List AV} {sz:Nat} {es:List AV} (hf:cI 0 (.im sz .any es)) (h:cG P f args [] 0 (fun r H _=>cZ.dV H 6 r= .sc (.slice none 0 0)∧es=[]∨cZ.dV H 6 r= .im sz .any es)):Pure P f args (fun r=>r= .im sz .any es):=by
 by_cases hl:es=[]
 ·subst hl
  exact HH (pure_or (h.mono fun r H n h=>h.imp (·.1) id) (by simp[cI,cX]) hf) hf (fun c=>cZ.dN.kb c c _ _)
 ·exact cx (h.mono fun r H n h=>h.elim (fun h=>absurd h.2 hl) id) hf
theorem fq (op:Int):Pure Tryz.prog 196 [u8 op] (fun r=>r=bl (decide (0<op∧op<19))):=by
 refine aJ zO rfl ?_
 repeat' (first|((with_reducible refine aI ?_);conv=>whnf)|refine aG ?_|exact aC|with_reducible refine aD ?_ ?_|(apply aB;(·exact cS))|refine aH ?_|((with_reducible refine aA ?_ ?_)<;>intro hc<;>(try simp only[List.length_map,ne_eq,db] at hc)<;>try(exfalso;omega)))
 simp only[decide_eq_true_eq]
 exact fA (by by_cases h:0<op<;>simp[h])
theorem eW (c:Int):Pure Tryz.prog 163 [u8 c] (fun r=>r=bl (decide (48≤c)&&decide (c≤57))):=by
 refine aJ zF rfl ?_
 repeat' (first|((with_reducible refine aI ?_);conv=>whnf)|refine aG ?_|exact aC|with_reducible refine aD ?_ ?_|(apply aB;(·exact cS))|refine aH ?_|((with_reducible refine aA ?_ ?_)<;>intro hc<;>(try simp only[List.length_map,ne_eq,db] at hc)<;>try(exfalso;omega)))
 all_goals simp_all[db]
set_option maxHeartbeats 1000000 in
theorem lK (n:Node):Pure Tryz.prog 120 [n.av] (fun r=>r=fX n.fold):=by
 refine nF (by simp[cI,cB]) ?_
 refine aM yn rfl ?_
 repeat' (first|((with_reducible refine aI ?_);conv=>whnf)|refine aG ?_|exact gG|with_reducible refine aD ?_ ?_|((with_reducible refine Ask.mk ?_);first|exact dz|exact dD|(intro h;simp_all[Node.cells]<;>fail)|(simp_all[Node.cells]<;>fail))|(apply aB;(·exact cS))|refine aH ?_|((with_reducible refine aA ?_ ?_)<;>intro hc<;>(try simp only[List.length_map,ne_eq,db] at hc)<;>try(exfalso;omega)))
 all_goals refine⟨?_⟩
 all_goals first|exact .inl ⟨rfl,by simp_all[Node.fold]⟩|(refine .inr ((dc bw (by simp)).trans ?_);rw[cy _ (by simp[cX,cI])];first|(simp_all[fX,Node.fold];done)|(unfold Node.fold;rw[if_neg (by assumption),if_neg (fun h=>hc.elim (fun a=>a h.1) (fun a=>h.2 a))];rfl))
end Go.Proofs.YtjopoheligmmoaaGreatDoor
end
section
/- Is a node right? -/
namespace Go.Proofs.YtjopoheligmmoaaGreatDoor
open Go Go.cZ Go.Proofs
set_option linter.unusedSimpArgs false
set_option linter.unusedVariables false
theorem ko {f:FuncId} {args:List AV} {u:AV} (hu:cI 0 u) (h:(v7 TT 30 f args [] 0).map (fun q=>dV q.2.1 6 q.1)=some u):Pure Tryz.prog f args (fun r=>r=u):=by
 simp only[Option.map_eq_some_iff] at h
 obtain⟨⟨r,H',nx'⟩,h1,h2⟩:=h
 simp only at h2
 have h0:=oK hTT 30 _ _ _ _ _ _ _ h1
 have h3:=cG.pure (H':=H') (h0.mono fun r H n ⟨h1,h2,_⟩=>⟨h1,h2⟩) (by rw[h2];exact hu)
 exact h3.mono fun r hr=>by rw[hr,h2]
theorem fQ (op:Int) (h0:0≤op):Pure Tryz.prog 159 [u8 op] (fun r=>r=bl (eB op)):=by
 refine aJ zA rfl ?_
 repeat' (first|((with_reducible refine aI ?_);conv=>whnf)|refine aG ?_|exact aC|with_reducible refine aD ?_ ?_|(apply aB;(·exact cS))|((with_reducible refine aR (fq _) ?_ ?_);(·exact cH))|((with_reducible refine aQ (fun _=>fq _) ?_ ?_);(·exact cH))|((with_reducible refine aO (fq _) ?_ ?_);(·exact cH))|((with_reducible refine aP (fun _=>fq _) ?_ ?_);(·exact cH))|refine aH ?_|((with_reducible refine aA ?_ ?_)<;>intro hc<;>(try simp only[List.length_map,ne_eq,db] at hc)<;>try(exfalso;omega)))
 refine fA ?_
 unfold eB
 by_cases h1:0<op<;>by_cases h2:op<19<;>by_cases h3:op=17<;>by_cases h4:op=18<;>simp[h1,h2,h3,h4]<;>omega
def mask (k op:Int):Int:=if k=1 then(if eB op=true then 59 else 43) else if k=2 then 38 else if k=3 then 44 else if k=4 then 46 else if k=5 then 36 else if k=6 then 36 else if k=7 then 40 else if k=8 then 104 else 0
set_option maxRecDepth 100000 in
theorem DH (n:Node) (hn:n.Wf) (h:1≤n.kind∧n.kind<10):Pure Tryz.prog 116 [n.av] (fun r=>r=u8 (mask n.kind n.op)):=by
 obtain⟨h0,h1⟩:=h
 have ho:=hn.op.1
 obtain⟨kind,op,slot,cQ,a,b,next,sO,origin⟩:=n
 simp only at h0 h1 ho
 have hk:kind=1∨kind=2∨kind=3∨kind=4∨kind=5∨kind=6∨kind=7∨kind=8∨kind=9:=by omega
 rcases hk with rfl|rfl|rfl|rfl|rfl|rfl|rfl|rfl|rfl
 ·refine aJ yj rfl ?_
  repeat' (first|((with_reducible refine aI ?_);conv=>whnf)|refine aG ?_|exact aC|with_reducible refine aD ?_ ?_|(apply aB;(·exact cS))|((with_reducible refine aR (fQ _ ho) ?_ ?_);(·exact cH))|((with_reducible refine aQ (fun _=>fQ _ ho) ?_ ?_);(·exact cH))|((with_reducible refine aO (fQ _ ho) ?_ ?_);(·exact cH))|((with_reducible refine aP (fun _=>fQ _ ho) ?_ ?_);(·exact cH))|refine aH ?_|((with_reducible refine aA ?_ ?_)<;>intro hc<;>(try simp only[List.length_map,ne_eq,db] at hc)<;>try(exfalso;omega)))
  all_goals
   cases ht:eB op with
   |true=>
    rw[ht] at hc
    first|(exact absurd rfl hc)|(exact absurd hc (by decide))|(simp only[show mask 1 op=59 by simp[mask,ht]];try kernel_rfl)
   |false=>
    rw[ht] at hc
    first|(exact absurd rfl hc)|(exact absurd hc (by decide))|(simp only[show mask 1 op=43 by simp[mask,ht]];try kernel_rfl)
 iterate 8 exact ko (by simp[cI,cX]) (by kernel_rfl)
theorem l8.default_eq:(default:l8)=⟨false,0,0⟩:=rfl
def iq (m u:Int):Int:=IntKind.u8.wrap (BitVec.ofInt IntKind.u8.bits m&&& BitVec.ofInt IntKind.u8.bits u).toNat
theorem qq (k u most m:Int) (b:Nat) (H:Hp) (nx:Nat) (e:TypeId) (d:AV) (hb:bu H b=some (.row e 1 d [u8 m])):ve Tryz.prog 117 [i64 k,u8 u,i64 most, .pt b 1 0 0] H nx (bl (qT k (decide (iq m u≠0)) most)):=by
 refine aa yk rfl ?_
 repeat' (first|((with_reducible refine aI ?_);conv=>whnf)|refine aG ?_|exact aC|with_reducible refine aD ?_ ?_|(apply aB;(·exact cS))|refine aH ?_|((with_reducible refine aA ?_ ?_)<;>intro hc<;>(try simp only[List.length_map,ne_eq,db] at hc)<;>try(exfalso;omega)))
 refine LL.look ?_ xU
 simp only[show IntKind.u8.wrap (BitVec.ofInt IntKind.u8.bits m&&& BitVec.ofInt IntKind.u8.bits u).toNat=iq m u from rfl,qT]
 by_cases h1:iq m u=0<;>by_cases h2:k=0<;>by_cases h3:0≤k<;>by_cases h4:k<most<;>simp[h1,h2,h3,h4]
theorem tV (v:l8) (u m:Int) (g:cF) (b c:Nat) (H:Hp) (nx:Nat) (e e2:TypeId) (d d2:AV) (hb:bu H b=some (.row e 1 d [u8 m])) (hc:bu H c=some (.row e2 4 d2 [g.av])) (hbn:b<nx) (hcn:c<nx):ve Tryz.prog 118 [v.av,u8 u, .pt b 1 0 0, .pt c 1 0 0] H nx (bl (uE v (decide (iq m u≠0)) g.cA)):=by
 refine aa yl rfl ?_
 repeat' (first|((with_reducible refine aI ?_);conv=>whnf)|refine aG ?_|exact gG|with_reducible refine aD ?_ ?_|((with_reducible refine Ask.mk ?_);first|exact dz|exact dD|(intro h;simp_all[l8.cells,cF.cells]<;>fail)|(simp_all[l8.cells,cF.cells]<;>fail))|(apply aB;(·exact cS))|refine aH ?_|((with_reducible refine aA ?_ ?_)<;>intro hc<;>(try simp only[List.length_map,ne_eq,db] at hc)<;>try(exfalso;omega)))
 all_goals refine LL.look ?_ xU
 all_goals simp only[show IntKind.u8.wrap (BitVec.ofInt IntKind.u8.bits m&&& BitVec.ofInt IntKind.u8.bits u).toNat=iq m u from rfl] at *
 all_goals unfold uE
 ·rw[if_neg (show ¬decide (iq m u≠0)=true by simp[hc])]
  obtain⟨is,sl,wo⟩:=v
  refine fA ?_
  rw[Bool.eq_iff_iff]
  simp[l8.default_eq,and_assoc]
 ·rename_i h0
  rw[decide_eq_true hc,if_pos rfl,if_pos h0]
  refine fA ?_
  by_cases h1:0≤v.slot<;>by_cases h2:v.slot<g.cA<;>simp[h1,h2]
 ·rename_i h0
  rw[decide_eq_true hc,if_pos rfl,if_neg (by rw[h0];decide)]
theorem J2 (k op:Int) (h:1≤k∧k<10):(iq (mask k op) 1=0↔¬k=1)∧(decide (iq (mask k op) 2≠0)=kr k)∧(decide (iq (mask k op) 4≠0)=gA k)∧(decide (iq (mask k op) 8≠0)=vU k)∧(decide (iq (mask k op) 16≠0)=(decide (k=1)&&eB op))∧(decide (iq (mask k op) 32≠0)=j5 k)∧(decide (iq (mask k op) 64≠0)=decide (k=8)):=by
 have hk:k=1∨k=2∨k=3∨k=4∨k=5∨k=6∨k=7∨k=8∨k=9:=by omega
 rcases hk with rfl|rfl|rfl|rfl|rfl|rfl|rfl|rfl|rfl
 ·cases ht:eB op with
  |false=>rw[show mask 1 op=43 by simp[mask,ht]];decide
  |true=>rw[show mask 1 op=59 by simp[mask,ht]];decide
 ·rw[show mask 2 op=38 by rfl,show(decide ((2:Int)=1)&&eB op)=false by rfl];decide
 ·rw[show mask 3 op=44 by rfl,show(decide ((3:Int)=1)&&eB op)=false by rfl];decide
 ·rw[show mask 4 op=46 by rfl,show(decide ((4:Int)=1)&&eB op)=false by rfl];decide
 ·rw[show mask 5 op=36 by rfl,show(decide ((5:Int)=1)&&eB op)=false by rfl];decide
 ·rw[show mask 6 op=36 by rfl,show(decide ((6:Int)=1)&&eB op)=false by rfl];decide
 ·rw[show mask 7 op=40 by rfl,show(decide ((7:Int)=1)&&eB op)=false by rfl];decide
 ·rw[show mask 8 op=104 by rfl,show(decide ((8:Int)=1)&&eB op)=false by rfl];decide
 ·rw[show mask 9 op=0 by rfl,show(decide ((9:Int)=1)&&eB op)=false by rfl];decide
set_option maxRecDepth 4000 in
set_option maxHeartbeats 2000000 in
theorem DT (u:bx) (g:cF) (n:Node) (hn:n.Wf):Pure Tryz.prog 72 [u.av,g.av,n.av] (fun r=>r=bl (mL u g n)):=by
 refine aJ OO rfl ?_
 have h0:=hn.kind.1
 have ho:=hn.op.1
 by_cases hk:1≤n.kind∧n.kind<10∧0≤n.origin∧n.origin<4096
 ·have hp:=DH n hn ⟨hk.1,hk.2.1⟩
  obtain⟨m1,m2,m3,m4,m5,m6,m7⟩:=J2 n.kind n.op ⟨hk.1,hk.2.1⟩
  repeat' (first|((with_reducible refine aI ?_);conv=>whnf)|refine aG ?_|exact gG|with_reducible refine aD ?_ ?_|((with_reducible refine Ask.mk ?_);first|exact dz|exact dD|(intro h;simp_all[bx.cells,cF.cells,Node.cells]<;>fail)|(simp_all[bx.cells,cF.cells,Node.cells]<;>fail))|(apply aB;(·exact cS))|refine aK (hp) ?_|((refine aY (qq _ _ _ _ _ _ _ _ _ (by exact rfl)) ?_ ?_);(·exact True.intro))|((refine aX (fun _=>qq _ _ _ _ _ _ _ _ _ (by exact rfl)) ?_ ?_);(·exact True.intro))|((refine aY (tV ⟨_,_,_⟩ _ _ _ _ _ _ _ _ _ _ _ (by exact rfl) (by exact rfl) ca ca) ?_ ?_);(·exact True.intro))|((refine aX (fun _=>tV ⟨_,_,_⟩ _ _ _ _ _ _ _ _ _ _ _ (by exact rfl) (by exact rfl) ca ca) ?_ ?_);(·exact True.intro))|refine aH ?_|((with_reducible refine aA ?_ ?_)<;>intro hc<;>(try simp only[List.length_map,ne_eq,db] at hc)<;>try(exfalso;omega)))
  all_goals
   have hop:qT (IntKind.i64.wrap n.op) (decide (iq (mask n.kind n.op) 1≠0)) 19=(if n.kind=1 then decide (n.op<19) else decide (n.op=0)):=by
    have h2:=hn.op.2
    rw[wrap64 (by omega) (by omega)]
    unfold qT
    by_cases h1:n.kind=1
    ·rw[if_pos h1,if_pos (show decide (iq (mask n.kind n.op) 1≠0)=true by rw[decide_eq_true_eq];exact fun h=>m1.1 h h1),decide_eq_true ho,Bool.true_and]
    ·rw[if_neg h1,if_neg (show ¬decide (iq (mask n.kind n.op) 1≠0)=true by rw[decide_eq_true_eq];exact fun h=>h (m1.2 h1))]
   refine fA ?_
   rw[hop,m2,m3,m4,m5,m6,m7]
   unfold mL
   rw[decide_eq_true hk,Bool.true_and]
   simp only[hc,if_true,if_false,or_self,Bool.if_false_right,Bool.decide_eq_true,Bool.and_assoc]
   simp only[List.length_map]
   generalize qT n.slot (kr n.kind) g.cA=x1
   have ea:(⟨n.a.jR,n.a.slot,n.a.word⟩:l8)=n.a:=rfl
   have eb:(⟨n.b.jR,n.b.slot,n.b.word⟩:l8)=n.b:=rfl
   rw[ea,eb]
   generalize uE n.a (vU n.kind) g.cA=x2
   generalize uE n.b (decide (n.kind=1)&&eB n.op) g.cA=x3
   generalize qT n.next (j5 n.kind) g.nodes.length=x4
   generalize qT n.sO (decide (n.kind=8)) g.nodes.length=x5
   revert x1 x2 x3 x4 x5
   intro x1 x2 x3 x4 x5
   cases x1<;>cases x2<;>cases x3<;>cases x4<;>cases x5<;>simp
 ·have hb:mL u g n=false:=by unfold mL;rw[decide_eq_false hk];simp
  rw[hb]
  repeat' (first|((with_reducible refine aI ?_);conv=>whnf)|refine aG ?_|exact gG|with_reducible refine aD ?_ ?_|((with_reducible refine Ask.mk ?_);first|exact dz|exact dD|(intro h;simp_all[bx.cells,cF.cells,Node.cells]<;>fail)|(simp_all[bx.cells,cF.cells,Node.cells]<;>fail))|(apply aB;(·exact cS))|refine aH ?_|((with_reducible refine aA ?_ ?_)<;>intro hc<;>(try simp only[List.length_map,ne_eq,db] at hc)<;>try(exfalso;omega)))
  exact rfl
end Go.Proofs.YtjopoheligmmoaaGreatDoor
end
section
/- Names. -/
namespace Go.Proofs.YtjopoheligmmoaaGreatDoor
open Go Go.cZ Go.Proofs
set_option linter.unusedSimpArgs false
set_option linter.unusedVariables false
def jP (c:Int):Bool:=decide (48≤c)&&decide (c≤57)
def nB (c:Int):Bool:=decide (97≤c)&&decide (c≤122)||decide (65≤c)&&decide (c≤90)||decide (c=95)
def QE:List ByteArray:=[⟨(List.toArray [115,104,97,114,101,100])⟩,⟨(List.toArray [108,111,99,107])⟩,⟨(List.toArray [116,104,114,101,97,100])⟩,⟨(List.toArray [108,111,99,97,108])⟩,⟨(List.toArray [105,102])⟩,⟨(List.toArray [101,108,115,101])⟩,⟨(List.toArray [119,104,105,108,101])⟩,⟨(List.toArray [112,114,105,110,116])⟩,⟨(List.toArray [115,107,105,112])⟩,⟨(List.toArray [115,119,97,112])⟩]
def vY (s:ByteArray):Bool:=QE.any (s==·)
theorem eJ (c:Int):Pure Tryz.prog 165 [u8 c] (fun r=>r=bl (nB c)):=by
 refine aJ zH rfl ?_
 repeat' (first|((with_reducible refine aI ?_);conv=>whnf)|refine aG ?_|exact aC|with_reducible refine aD ?_ ?_|(apply aB;(·exact cS))|refine aH ?_|((with_reducible refine aA ?_ ?_)<;>intro hc<;>(try simp only[List.length_map,ne_eq,db] at hc)<;>try(exfalso;omega)))
 refine fA ?_
 unfold nB
 by_cases h1:97≤c<;>by_cases h2:c≤122<;>by_cases h3:65≤c<;>by_cases h4:c≤90<;>by_cases h5:c=95<;>simp[h1,h2,h3,h4,h5]
theorem gT (s:ByteArray):Pure Tryz.prog 164 [st s] (fun r=>r=bl (vY s)):=by
 refine aJ zG rfl ?_
 repeat' (first|((with_reducible refine aI ?_);conv=>whnf)|refine aG ?_|exact aC|with_reducible refine aD ?_ ?_|(apply aB;(·exact cS))|refine aH ?_|((with_reducible refine aA ?_ ?_)<;>intro hc<;>(try simp only[List.length_map,ne_eq,db] at hc)<;>try(exfalso;omega)))
 all_goals refine fA ?_
 all_goals simp_all[vY,QE]
def gN (s:ByteArray) (i:Nat):Int:=(s.data.toList.getD i 0).toNat
def l5 (s:ByteArray):Bool:=decide (1≤s.size)&&decide (s.size≤32)&& !jP (gN s 0)&& !vY s&&(List.range s.size).all fun i=>nB (gN s i)||jP (gN s i)
theorem T2 (s:ByteArray):(s==(⟨#[]⟩:ByteArray))=decide (s.size=0):=by
 obtain⟨d⟩:=s
 show(d==#[])=_
 rw[Bool.eq_iff_iff]
 show(d==#[])=true↔decide (d.size=0)=true
 simp
theorem J5 (s:ByteArray) (hs:s.size≤140737488351232):Pure Tryz.prog 115 [st s] (fun r=>r=bl (l5 s)):=by
 refine aJ yi rfl ?_
 have e0:=T2 s
 by_cases hz:s.size=0
 ·have e1:(s==(⟨#[]⟩:ByteArray))=true:=by rw[e0,decide_eq_true hz]
  have hb:l5 s=false:=by unfold l5;rw[decide_eq_false (by omega)];simp
  rw[hb]
  repeat' (first|((with_reducible refine aI ?_);conv=>whnf)|refine aG ?_|exact gG|with_reducible refine aD ?_ ?_|((with_reducible refine Ask.mk ?_);first|exact dz|((refine Ask.mk ?_);intro h;simp_all)|exact dD)|(apply aB;(·exact cS))|((with_reducible refine aR (eW _) ?_ ?_);(·exact cH))|((with_reducible refine aQ (fun _=>eW _) ?_ ?_);(·exact cH))|((with_reducible refine aO (eW _) ?_ ?_);(·exact cH))|((with_reducible refine aP (fun _=>eW _) ?_ ?_);(·exact cH))|((with_reducible refine aR (gT _) ?_ ?_);(·exact cH))|((with_reducible refine aQ (fun _=>gT _) ?_ ?_);(·exact cH))|((with_reducible refine aO (gT _) ?_ ?_);(·exact cH))|((with_reducible refine aP (fun _=>gT _) ?_ ?_);(·exact cH))|((with_reducible refine aR (eJ _) ?_ ?_);(·exact cH))|((with_reducible refine aQ (fun _=>eJ _) ?_ ?_);(·exact cH))|((with_reducible refine aO (eJ _) ?_ ?_);(·exact cH))|((with_reducible refine aP (fun _=>eJ _) ?_ ?_);(·exact cH))|(simp only[e1])|refine aH ?_|((with_reducible refine aA ?_ ?_)<;>intro hc<;>(try simp only[List.length_map,ne_eq,db] at hc)<;>try(exfalso;omega)))
  all_goals first|exact rfl|(exfalso;simp_all)
 ·have e1:(s==(⟨#[]⟩:ByteArray))=false:=by rw[e0,decide_eq_false hz]
  repeat' (first|((with_reducible refine aI ?_);conv=>whnf)|refine aG ?_|exact gG|with_reducible refine aD ?_ ?_|((with_reducible refine Ask.mk ?_);first|exact dz|((refine Ask.mk ?_);intro h;exact⟨by omega,by omega⟩)|exact dD)|(apply aB;(·exact cS))|((with_reducible refine aR (eW _) ?_ ?_);(·exact cH))|((with_reducible refine aQ (fun _=>eW _) ?_ ?_);(·exact cH))|((with_reducible refine aO (eW _) ?_ ?_);(·exact cH))|((with_reducible refine aP (fun _=>eW _) ?_ ?_);(·exact cH))|((with_reducible refine aR (gT _) ?_ ?_);(·exact cH))|((with_reducible refine aQ (fun _=>gT _) ?_ ?_);(·exact cH))|((with_reducible refine aO (gT _) ?_ ?_);(·exact cH))|((with_reducible refine aP (fun _=>gT _) ?_ ?_);(·exact cH))|((with_reducible refine aR (eJ _) ?_ ?_);(·exact cH))|((with_reducible refine aQ (fun _=>eJ _) ?_ ?_);(·exact cH))|((with_reducible refine aO (eJ _) ?_ ?_);(·exact cH))|((with_reducible refine aP (fun _=>eJ _) ?_ ?_);(·exact cH))|(simp only[e1])|refine aH ?_|((with_reducible refine aA ?_ ?_)<;>intro hc<;>(try simp only[List.length_map,ne_eq,db] at hc)<;>try(exfalso;omega)))
  ·refine fA (Eq.symm ?_)
   unfold l5
   have hp:(decide (1≤s.size)&&decide (s.size≤32)&& !jP (gN s 0)&& !vY s)=false:=by
    rcases hc with((h|h)|h)|h
    ·exact absurd h (by decide)
    ·simp[show ¬s.size≤32 by omega]
    ·have h:48≤gN s 0∧gN s 0≤57:=h
     simp[jP,h.1,h.2]
    ·simp[h]
   rw[hp,Bool.false_and]
  ·have hp:(decide (1≤s.size)&&decide (s.size≤32)&& !jP (gN s 0)&& !vY s)=true:=by
    obtain⟨h1,h2⟩:=hc
    have h3:¬(48≤gN s 0∧gN s 0≤57):=fun h=>h1 (.inr h)
    have h4:s.size≤32:=by
     have:¬(32:Int)<s.size:=fun h=>h1 (.inl (.inr h))
     omega
    have h5:jP (gN s 0)=false:=by
     unfold jP
     by_cases h:48≤gN s 0
     ·rw[decide_eq_true h,decide_eq_false (fun h'=>h3 ⟨h,h'⟩)];rfl
     ·rw[decide_eq_false h];rfl
    rw[decide_eq_true (by omega:1≤s.size),decide_eq_true h4,h5,h2];rfl
   have hb:∀R,(decide (1≤s.size)&&decide (s.size≤32)&& !jP (gN s 0)&& !vY s&&R)=R:=fun R=>by rw[hp,Bool.true_and]
   unfold l5
   rw[hb]
   clear hc hp hb e1 e0
   refine aN (fun i:Nat=>[(0,st s),(21,i64 s.size),(22,i64 i)]) (fun i H n=>i≤s.size∧∀j,j<i→(nB (gN s j)||jP (gN s j))=true) (fun i=>s.size - i) 0 cK ⟨Nat.zero_le _,fun _ h=>by omega⟩ ?_
   rintro i H n ⟨hi,hall⟩
   by_cases his:i<s.size
   ·repeat' (first|((with_reducible refine aI ?_);conv=>whnf)|refine aG ?_|exact gG|with_reducible refine aD ?_ ?_|((with_reducible refine Ask.mk ?_);first|exact dz|((refine Ask.mk ?_);intro h;exact⟨by omega,by omega⟩)|exact dD)|(apply aB;(·exact cS))|((with_reducible refine aR (eW _) ?_ ?_);(·exact cH))|((with_reducible refine aQ (fun _=>eW _) ?_ ?_);(·exact cH))|((with_reducible refine aO (eW _) ?_ ?_);(·exact cH))|((with_reducible refine aP (fun _=>eW _) ?_ ?_);(·exact cH))|((with_reducible refine aR (eJ _) ?_ ?_);(·exact cH))|((with_reducible refine aQ (fun _=>eJ _) ?_ ?_);(·exact cH))|((with_reducible refine aO (eJ _) ?_ ?_);(·exact cH))|((with_reducible refine aP (fun _=>eJ _) ?_ ?_);(·exact cH))|refine aH ?_|((with_reducible refine aA ?_ ?_)<;>intro hc<;>(try simp only[List.length_map,ne_eq,db] at hc)<;>try(exfalso;omega)))
    ·refine fA (Eq.symm ?_)
     rw[Bool.eq_false_iff,ne_eq,List.all_eq_true]
     intro hA
     have h1:=hA i (List.mem_range.2 his)
     have hc:nB (gN s i)=false∧(gN s i<48∨57<gN s i):=hc
     rw[hc.1,Bool.false_or] at h1
     simp only[jP,Bool.and_eq_true,decide_eq_true_eq] at h1
     omega
    ·refine⟨i+1,by omega,cK,by omega,fun j hj=> ?_⟩
     by_cases hji:j=i
     ·have hc:¬nB (gN s i)=false∨(48≤gN s i∧gN s i≤57):=hc
      rw[hji]
      rcases hc with h|h
      ·rw[Bool.not_eq_false] at h
       rw[h,Bool.true_or]
      ·simp[jP,h.1,h.2]
     ·exact hall j (by omega)
   ·have:i=s.size:=by omega
    subst this
    repeat' (first|((with_reducible refine aI ?_);conv=>whnf)|refine aG ?_|exact aC|with_reducible refine aD ?_ ?_|(apply aB;(·exact cS))|refine aH ?_|((with_reducible refine aA ?_ ?_)<;>intro hc<;>(try simp only[List.length_map,ne_eq,db] at hc)<;>try(exfalso;omega)))
    refine fA (Eq.symm ?_)
    rw[List.all_eq_true]
    intro j hj
    exact hall j (List.mem_range.1 hj)
end Go.Proofs.YtjopoheligmmoaaGreatDoor
end
