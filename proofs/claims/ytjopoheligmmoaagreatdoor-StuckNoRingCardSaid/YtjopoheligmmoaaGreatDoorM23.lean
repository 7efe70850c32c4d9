import Derived.Test.YtjopoheligmmoaaGreatDoorM15
import Derived.Test.YtjopoheligmmoaaGreatDoorM20
import Derived.Test.YtjopoheligmmoaaGreatDoorM21
import Derived.Test.YtjopoheligmmoaaGreatDoorM22
section
/- Units as plain data. -/
namespace Go.Proofs.YtjopoheligmmoaaGreatDoor
open Go Go.cZ Go.Proofs
set_option linter.unusedSimpArgs false
set_option linter.unusedVariables false
abbrev i64 (n:Int):AV:= .sc (.int .i64 n)
abbrev u8 (n:Int):AV:= .sc (.int .u8 n)
abbrev bl (b:Bool):AV:= .sc (.bool b)
abbrev st (s:ByteArray):AV:= .sc (.string s)
def eO (n:Int):Prop:=-9223372036854775808≤n∧n<9223372036854775808
structure lY where
 jM:Bool
 slot:Int
 word:Int
 deriving Inhabited,DecidableEq
def lY.cells (v:lY):List AV:=[bl v.jM,i64 v.slot,i64 v.word]
abbrev lY.av (v:lY):AV:= .agg v.cells
structure lY.Wf (v:lY):Prop where
 slot:eO v.slot
 word:eO v.word
structure Node where
 kind:Int
 op:Int
 slot:Int
 cN:Int
 a:lY
 b:lY
 next:Int
 sF:Int
 origin:Int
 deriving Inhabited,DecidableEq
def Node.cells (n:Node):List AV:=[u8 n.kind,u8 n.op,i64 n.slot,i64 n.cN,bl n.a.jM,i64 n.a.slot,i64 n.a.word,bl n.b.jM,i64 n.b.slot,i64 n.b.word,i64 n.next,i64 n.sF,i64 n.origin]
abbrev Node.av (n:Node):AV:= .agg n.cells
structure Node.Wf (n:Node):Prop where
 kind:0≤n.kind∧n.kind<256
 op:0≤n.op∧n.op<256
 slot:eO n.slot
 cN:eO n.cN
 a:n.a.Wf
 b:n.b.Wf
 next:eO n.next
 sF:eO n.sF
 origin:eO n.origin
structure Decl where
 name:ByteArray
 word:Int
 at_:Int
 deriving Inhabited,DecidableEq
def Decl.cells (d:Decl):List AV:=[st d.name,i64 d.word,i64 d.at_]
abbrev Decl.av (d:Decl):AV:= .agg d.cells
structure Decl.Wf (d:Decl):Prop where
 name:d.name.size≤140737488351232
 word:eO d.word
 at_:eO d.at_
structure cD where
 name:ByteArray
 locals:Int
 bz:Int
 nodes:List Node
 deriving Inhabited,DecidableEq
abbrev iq (l:List Node):AV:= .im 13 .any (l.map Node.av)
def cD.cells (g:cD):List AV:=[st g.name,i64 g.locals,i64 g.bz,iq g.nodes]
abbrev cD.av (g:cD):AV:= .agg g.cells
structure cD.Wf (g:cD):Prop where
 name:g.name.size≤140737488351232
 locals:eO g.locals
 bz:eO g.bz
 nodes:∀n∈g.nodes,n.Wf
 len:g.nodes.length * 88≤140737488351232
structure bw where
 shared:List Decl
 cE:List Decl
 bu:List cD
 deriving Inhabited,DecidableEq
abbrev cr (l:List Decl):AV:= .im 3 .any (l.map Decl.av)
abbrev de (l:List cD):AV:= .im 4 .any (l.map cD.av)
def bw.cells (u:bw):List AV:=[cr u.shared,cr u.cE,de u.bu]
abbrev bw.av (u:bw):AV:= .agg u.cells
structure bw.Wf (u:bw):Prop where
 shared:∀d∈u.shared,d.Wf
 vC:u.shared.length * 32≤140737488351232
 cE:∀d∈u.cE,d.Wf
 zR:u.cE.length * 32≤140737488351232
 bu:∀g∈u.bu,g.Wf
 IX:u.bu.length * 56≤140737488351232
@[simp] theorem Y5 (n:Nat) (v:lY):cY n v.cells:=by simp[lY.cells,cY,cJ]
@[simp] theorem XV (n:Nat) (v:Node):cY n v.cells:=by simp[Node.cells,cY,cJ]
@[simp] theorem XU (n:Nat) (v:Decl):cY n v.cells:=by simp[Decl.cells,cY,cJ]
@[simp] theorem W3 (n:Nat) (v:cD):cY n v.cells:=by simp[cD.cells,cY,cJ,cC]
@[simp] theorem XW (n:Nat) (v:bw):cY n v.cells:=by simp[bw.cells,cY,cJ,cC]
abbrev cD.nd (g:cD) (i:Nat):Node:=g.nodes.getD i default
abbrev bw.gr (u:bw) (t:Nat):cD:=u.bu.getD t default
theorem u7 {α β:Type} (f:α→β) (l:List α) (i:Nat) (a:α):(l.map f).getD i (f a)=f (l.getD i a):=by
 simp only[List.getD,List.getElem?_map]
 cases l[i]?<;>rfl
theorem VN {l:List cD} {i:Nat}:(l.map cD.av).getD i (cD.av default)=(l.getD i default).av:=u7 _ _ _ _
theorem L6 {l:List Decl} {i:Nat}:(l.map Decl.av).getD i (Decl.av default)=(l.getD i default).av:=u7 _ _ _ _
theorem ez {a b:Bool} (h:a=b):AV.sc (.bool a)=bl b:=by rw[h]
theorem cQ {α:Type} {l:List α} {j:Nat} (d:α) (h:j<l.length):l.getD j d∈l:=by
 simp only[List.getD,List.getElem?_eq_getElem h,Option.getD_some];exact List.getElem_mem h
end Go.Proofs.YtjopoheligmmoaaGreatDoor
end
section
/- What a unit must be, in plain data. -/
namespace Go.Proofs.YtjopoheligmmoaaGreatDoor
open Go Go.cZ Go.Proofs
set_option linter.unusedSimpArgs false
set_option linter.unusedVariables false
def Node.oE (n:Node):List Int:=if n.kind=9 then[] else if n.kind=8 then[n.next,n.sF] else[n.next]
def Node.fold (n:Node):List Int:=if n.kind=9 then[] else if n.kind=8∧n.sF≠n.next then[n.next,n.sF] else[n.next]
def fj {α:Type} (p:α→Bool):List α→Nat→Option Nat
 |[],_=>none
 |x::r,i=>if p x=true then fj p r (i+1) else some i
theorem xi {α:Type} (p:α→Bool) (l:List α) (d:α) {i:Nat} (h:i<l.length):fj p (l.drop i) i=if p (l.getD i d)=true then fj p (l.drop (i+1)) (i+1) else some i:=by
 rw[List.drop_eq_getElem_cons h,fj]
 simp[List.getD,h]
theorem BZ {α:Type} (p:α→Bool) (l:List α) {i:Nat} (h:l.length≤i):fj p (l.drop i) i=none:=by
 rw[List.drop_eq_nil_of_le h,fj]
def dz (op:Int):Bool:=decide (1≤op)&&decide (op≤16)
def k7 (k:Int):Bool:=decide (k=1∨k=2∨k=4)
def fw (k:Int):Bool:=decide (k=2∨k=3∨k=4∨k=5∨k=6)
def vJ (k:Int):Bool:=decide (k=1∨k=3∨k=4∨k=7∨k=8)
def jW (k:Int):Bool:=decide (1≤k∧k≤8)
def tq (v:lY) (used:Bool) (bz:Int):Bool:=if used=true then(if v.jM=true then decide (0≤v.slot)&&decide (v.slot<bz)&&decide (v.word=0) else decide (v.slot=0)) else decide (v=default)
def qJ (n:Int) (used:Bool) (most:Int):Bool:=if used=true then decide (0≤n)&&decide (n<most) else decide (n=0)
def mD (u:bw) (g:cD) (n:Node):Bool:=
 decide (1≤n.kind∧n.kind<10∧0≤n.origin∧n.origin<4096)&&(if n.kind=1 then decide (n.op<19) else decide (n.op=0))&&
 qJ n.slot (k7 n.kind) g.bz&&qJ n.cN (fw n.kind) (if n.kind=5∨n.kind=6 then u.cE.length else u.shared.length)&&tq n.a (vJ n.kind) g.bz&&tq n.b (decide (n.kind=1)&&dz n.op) g.bz&&qJ n.next (jW n.kind) g.nodes.length&&qJ n.sF (decide (n.kind=8)) g.nodes.length
def tF (m:Nat) (n:Node):Bool:=decide (1≤n.kind)&&decide (n.kind<10)&&n.oE.all fun k=>decide (0≤k)&&decide (k<m)
def lK (g:cD):Bool:=decide (1≤g.nodes.length)&&decide (g.nodes.length≤4096)&&g.nodes.all (tF g.nodes.length)
structure HS where
 cE:List (List Int)
 found:List Bool
 todo:List Int
def HS.l (s:HS) (k:Int):List Int:=s.cE.getD k.toNat []
def HS.f (s:HS) (k:Int):Bool:=s.found.getD k.toNat false
def df (n:Node) (l:List Int):Option (List Int):=
 if n.kind=5 then some (l++[n.cN]) else if n.kind=6 then(if l≠[]∧l.getLast?=some n.cN then some l.dropLast else none) else if n.kind=9 then(if l=[] then some l else none) else some l
def da (now:List Int):List Int→HS→HS ⊕ Int
 |[],s=> .inl s
 |k::r,s=>if s.f k=false then da now r ⟨s.cE.set k.toNat now,s.found.set k.toNat true,s.todo++[k]⟩ else if s.l k=now then da now r s else .inr k
def fb (g:cD):Nat→HS→Nat→List (List Int)×Int
 |0,s,_=>(s.cE,-1)
 |f+1,s,k=>if k<s.todo.length then(match df (g.nd (s.todo.getD k 0).toNat) (s.l (s.todo.getD k 0)) with
  |none=>([],s.todo.getD k 0)
  |some now=>match da now (g.nd (s.todo.getD k 0).toNat).oE s with
   | .inl s'=>fb g f s' (k+1)
   | .inr at_=>([],at_)) else(s.cE,-1)
def wD (g:cD):HS:=⟨List.replicate g.nodes.length [],(List.replicate g.nodes.length false).set 0 true,[0]⟩
def eM (g:cD):List (List Int)×Int:=fb g (g.nodes.length+1) (wD g) 0
def nh (u:bw) (g:cD):Option Int:=
 if g.locals<0∨g.locals>64∨g.bz<g.locals∨g.bz>4160∨g.nodes.length<1∨g.nodes.length>4096 then some 0 else
 match fj (mD u g) g.nodes 0 with
 |some i=>some (i:Int)
 |none=>if 0≤(eM g).2 then some (eM g).2 else none
def fT (u:bw):List cD→Nat→Int×Int×Int
 |[],_=>(0,0,0)
 |g::r,t=>match nh u g with
  |some k=>(60,t,k)
  |none=>fT u r (t+1)
end Go.Proofs.YtjopoheligmmoaaGreatDoor
end
section
/- What is reached, in plain data. -/
namespace Go.Proofs.YtjopoheligmmoaaGreatDoor
open Go Go.cZ Go.Proofs
set_option linter.unusedSimpArgs false
set_option linter.unusedVariables false
theorem II {α:Type} (F:List Int→α) (n:Node) (h:∀a,F [a,a]=F [a]):F n.fold=F n.oE:=by
 unfold Node.fold Node.oE
 by_cases h9:n.kind=9
 ·rw[if_pos h9,if_pos h9]
 ·rw[if_neg h9,if_neg h9]
  by_cases h8:n.kind=8
  ·rw[if_pos h8]
   by_cases he:n.sF=n.next
   ·rw[if_neg (fun h=>h.2 he),he,h]
   ·rw[if_pos ⟨h8,he⟩]
  ·rw[if_neg h8,if_neg (fun h=>h8 h.1)]
abbrev ma (out:List Bool) (k:Int):Bool:=out.getD k.toNat false
def jx:List Int→List Bool×List Int→List Bool×List Int
 |[],s=>s
 |k::r,s=>if ma s.1 k=false then jx r (s.1.set k.toNat true,s.2++[k]) else jx r s
theorem DW (a:Int) (s:List Bool×List Int) (h:a.toNat<s.1.length):jx [a,a] s=jx [a] s:=by
 simp only[jx]
 by_cases h1:ma s.1 a=false
 ·rw[if_pos h1,if_pos h1,if_neg (by simp[ma,List.getD,h])]
 ·simp only[if_neg h1]
structure UQ (l:List Int) (s s':List Bool×List Int):Prop where
 len:s'.1.length=s.1.length
 gN:∀k,ma s.1 k=true→ma s'.1 k=true
 new:∀k,0≤k→ma s'.1 k=true→ma s.1 k=true∨k∈l
 all:∀k∈l,ma s'.1 k=true
 more:∃t,s'.2=s.2++t∧(∀k∈t,k∈l∧ma s'.1 k=true)∧(∀k,0≤k→ma s'.1 k=true→ma s.1 k=true∨k∈t)∧s'.1.count false+t.length=s.1.count false
theorem count_set {l:List Bool} {i:Nat} (h:i<l.length) (hf:l.getD i false=false):(l.set i true).count false+1=l.count false:=by
 have h1:l[i]=false:=by simpa[List.getD,h] using hf
 rw[List.count_set h,h1]
 have:0<l.count false:=List.count_pos_iff.2 (h1▸List.getElem_mem h)
 simp
 omega
theorem kz {l:List Bool} {i:Nat} (h:i<l.length) (k:Int):ma (l.set i true) k=if k.toNat=i then true else ma l k:=by
 unfold ma
 simp only[List.getD,List.getElem?_set]
 by_cases hk:k.toNat=i
 ·rw[if_pos hk.symm,if_pos hk];simp[h]
 ·rw[if_neg (fun e=>hk e.symm),if_neg hk]
theorem je:∀(l:List Int) (s:List Bool×List Int),(∀k∈l,0≤k∧k.toNat<s.1.length)→UQ l s (jx l s)
 |[],s,_=>⟨rfl,fun _ h=>h,fun _ _ h=> .inl h,fun _ h=>by simp at h,[],by simp[jx],fun _ h=>by simp at h,fun _ _ h=> .inl h,by simp[jx]⟩
 |k::r,s,h=>by
  obtain⟨hk0,hk⟩:=h k (by simp)
  have hr:=fun x hx=>h x (List.mem_cons_of_mem _ hx)
  rw[jx]
  by_cases h1:ma s.1 k=false
  ·rw[if_pos h1]
   have ih:=je r (s.1.set k.toNat true,s.2++[k]) (fun x hx=>by simpa using hr x hx)
   have hset:=kz (l:=s.1) hk
   obtain⟨t,t1,t2,t3,t4⟩:=ih.more
   have hkk:ma (jx r (s.1.set k.toNat true,s.2++[k])).1 k=true:=ih.gN k (by rw[hset,if_pos rfl])
   refine⟨ih.len.trans (by simp),fun x hx=>ih.gN x (by rw[hset];split<;>first|rfl|exact hx),fun x hx0 hx=> ?_,fun x hx=> ?_,k::t,by rw[t1];simp,fun x hx=> ?_,fun x hx0 hx=> ?_, ?_⟩
   ·rcases ih.new x hx0 hx with h2|h2
    ·rw[hset] at h2
     split at h2
     ·rename_i e;exact .inr (by rw[show x=k by omega];simp)
     ·exact .inl h2
    ·exact .inr (List.mem_cons_of_mem _ h2)
   ·rcases List.mem_cons.1 hx with rfl|hx
    ·exact hkk
    ·exact ih.all x hx
   ·rcases List.mem_cons.1 hx with rfl|hx
    ·exact⟨by simp,hkk⟩
    ·exact⟨List.mem_cons_of_mem _ (t2 x hx).1,(t2 x hx).2⟩
   ·rcases t3 x hx0 hx with h2|h2
    ·rw[hset] at h2
     split at h2
     ·rename_i e;exact .inr (by rw[show x=k by omega];simp)
     ·exact .inl h2
    ·exact .inr (List.mem_cons_of_mem _ h2)
   ·have:=count_set hk h1
    rw[List.length_cons]
    dsimp only at t4
    omega
  ·rw[if_neg h1]
   have hkt:ma s.1 k=true:=by simpa using h1
   have ih:=je r s hr
   obtain⟨t,t1,t2,t3,t4⟩:=ih.more
   refine⟨ih.len,ih.gN,fun x hx0 hx=>(ih.new x hx0 hx).imp id (List.mem_cons_of_mem _),fun x hx=> ?_,t,t1,fun x hx=>⟨List.mem_cons_of_mem _ (t2 x hx).1,(t2 x hx).2⟩,t3,t4⟩
   rcases List.mem_cons.1 hx with rfl|hx
   ·exact ih.gN _ hkt
   ·exact ih.all x hx
inductive l3 (g:cD) (cut:Int):Int→Prop where
 |zero:l3 g cut 0
 |step {i k:Int}:l3 g cut i→i≠cut→k∈(g.nd i.toNat).oE→l3 g cut k
structure lM (g:cD) (cut:Int) (out:List Bool) (pend:List Int):Prop where
 len:out.length=g.nodes.length
 zero:ma out 0=true
 oR:∀k,0≤k→ma out k=true→l3 g cut k
 inr:∀k∈pend,0≤k∧k.toNat<out.length∧ma out k=true
 done:∀k,0≤k→k.toNat<out.length→ma out k=true→k∉pend→k≠cut→∀j∈(g.nd k.toNat).oE,ma out j=true
open Classical in
noncomputable def fZ (g:cD) (cut:Int):List Bool:=(List.range g.nodes.length).map fun(i:Nat)=>decide (l3 g cut (i:Int))
theorem C9 (g:cD) (cut:Int):(fZ g cut).length=g.nodes.length:=by simp[fZ]
theorem C8 (g:cD) (cut:Int) {i:Nat} (h:i<g.nodes.length):(fZ g cut).getD i false=true↔l3 g cut i:=by simp[fZ,List.getD,h]
def Whole (g:cD):Prop:=1≤g.nodes.length∧g.nodes.length≤4096∧∀i,i<g.nodes.length→1≤(g.nd i).kind∧(g.nd i).kind<10∧∀k∈(g.nd i).oE,0≤k∧k.toNat<g.nodes.length
theorem KW {g:cD}:lK g=true↔Whole g:=by
 unfold lK Whole tF
 simp only[Bool.and_eq_true,decide_eq_true_eq,List.all_eq_true,and_assoc]
 refine and_congr Iff.rfl (and_congr Iff.rfl ⟨fun h i hi=> ?_,fun h n hn=> ?_⟩)
 ·have:=h (g.nd i) (cQ _ hi)
  exact⟨this.1,this.2.1,fun k hk=>by have:=this.2.2 k hk;omega⟩
 ·obtain⟨i,hi,rfl⟩:=List.getElem_of_mem hn
  have:=h i hi
  rw[show g.nd i=g.nodes[i] by simp[List.getD,hi]] at this
  exact⟨this.1,this.2.1,fun k hk=>by have:=this.2.2 k hk;omega⟩
theorem lM.start {g:cD} {cut:Int} (h:Whole g):lM g cut ((List.replicate g.nodes.length false).set 0 true) [0]:=by
 have hl:=h.1
 have hz:∀k,ma ((List.replicate g.nodes.length false).set 0 true) k=true→k.toNat=0:=fun k hk=>by
  rw[kz (by simp;omega)] at hk
  split at hk
  ·assumption
  ·simp only[ma,List.getD,List.getElem?_replicate] at hk
   split at hk<;>simp at hk
 refine⟨by simp,by rw[kz (by simp;omega)];simp,fun k h0 hk=> ?_,fun k hk=> ?_,fun k h0 h1 hk hn=> ?_⟩
 ·rw[show k=0 by have:=hz k hk;omega];exact .zero
 ·simp only[List.mem_cons,List.not_mem_nil,or_false] at hk
  subst hk
  exact⟨by omega,by simp;omega,by rw[kz (by simp;omega)];simp⟩
 ·exact absurd (by rw[show k=0 by have:=hz k hk;omega];simp) hn
theorem lM.on {g:cD} {cut:Int} (h:Whole g) {out:List Bool} {pend:List Int} {at_:Int} {a b:List Int} (hp:pend=a++at_::b) (hg:lM g cut out pend) (hc:at_≠cut) {t:List Int} {s:List Bool×List Int} (hs:jx (g.nd at_.toNat).oE (out,t)=s) {t2:List Int} (ht2:s.2=t++t2):lM g cut s.1 (a++b++t2):=by
 obtain⟨i1,i2,i3⟩:=hg.inr at_ (by rw[hp];simp)
 have hfol:=(h.2.2 at_.toNat (by rw[←hg.len];exact i2)).2.2
 have sp:=je (g.nd at_.toNat).oE (out,t) (fun k hk=>by have:=hfol k hk;rw[←hg.len] at this;exact this)
 rw[hs] at sp
 obtain⟨t3,e1,e2,e3,e4⟩:=sp.more
 have:t2=t3:=by rw[ht2] at e1;exact List.append_cancel_left e1
 subst this
 have hl:s.1.length=out.length:=sp.len
 refine⟨hl.trans hg.len,sp.gN _ hg.zero,fun k h0 hk=> ?_,fun k hk=> ?_,fun k h0 h1 hk hn hkc j hj=> ?_⟩
 ·rcases sp.new k h0 hk with h1|h1
  ·exact hg.oR k h0 h1
  ·exact .step (hg.oR at_ i1 i3) hc h1
 ·rcases List.mem_append.1 hk with hk|hk
  ·have h1:=hg.inr k (by rw[hp];rcases List.mem_append.1 hk with h|h<;>simp[h])
   exact⟨h1.1,by rw[hl];exact h1.2.1,sp.gN _ h1.2.2⟩
  ·have h1:=hfol k (e2 k hk).1
   exact⟨h1.1,by rw[hl,hg.len];exact h1.2,(e2 k hk).2⟩
 ·by_cases hka:k=at_
  ·subst hka;exact sp.all j hj
  ·rcases e3 k h0 hk with h2|h2
   ·refine sp.gN _ (hg.done k h0 (by rw[←hl];exact h1) h2 (fun hm=> ?_) hkc j hj)
    rw[hp] at hm
    simp only[List.mem_append,List.mem_cons] at hm
    rcases hm with hm|hm|hm
    ·exact hn (by simp[hm])
    ·exact hka hm
    ·exact hn (by simp[hm])
   ·exact absurd (List.mem_append_right _ h2) hn
theorem lM.cut {g:cD} {cut:Int} {out:List Bool} {pend a b:List Int} (hp:pend=a++cut::b) (hg:lM g cut out pend):lM g cut out (a++b):=by
 refine⟨hg.len,hg.zero,hg.oR,fun k hk=>hg.inr k (by rw[hp];rcases List.mem_append.1 hk with h|h<;>simp[h]),fun k h0 h1 hk hn hkc=>hg.done k h0 h1 hk (fun hm=> ?_) hkc⟩
 rw[hp] at hm
 simp only[List.mem_append,List.mem_cons] at hm
 rcases hm with hm|hm|hm
 ·exact hn (by simp[hm])
 ·exact hkc hm
 ·exact hn (by simp[hm])
theorem lM.fin {g:cD} {cut:Int} (h:Whole g) {out:List Bool} (hg:lM g cut out []):out=fZ g cut:=by
 have hall:∀k,l3 g cut k→0≤k∧k.toNat<g.nodes.length∧ma out k=true:=fun k hk=>by
  induction hk with
  |zero=>exact⟨by omega,by have:=h.1;simp;omega,hg.zero⟩
  |@step i k hi hc hk ih=>
   obtain⟨i1,i2,i3⟩:=ih
   have h1:=(h.2.2 i.toNat i2).2.2 k hk
   exact⟨h1.1,h1.2,hg.done i i1 (by rw[hg.len];exact i2) i3 (by simp) hc k hk⟩
 apply List.ext_getElem
 ·rw[hg.len,C9]
 ·intro i h1 h2
  have hi:i<g.nodes.length:=by rw[←hg.len];exact h1
  have e1:out[i]=ma out (i:Int):=by simp[ma,List.getD,h1]
  have e2:(fZ g cut)[i]=(fZ g cut).getD i false:=by simp[List.getD,h2]
  rw[e1,e2,Bool.eq_iff_iff,C8 g cut hi]
  exact⟨fun hf=>hg.oR _ (by omega) hf,fun hf=>(hall _ hf).2.2⟩
end Go.Proofs.YtjopoheligmmoaaGreatDoor
end
section
/- Lists that are handed back; small functions. -/
namespace Go.cZ
open Go.RowKit
theorem aR {α:Type} {g:Option Bool} {x:Option α} {K:α→Prop} {a:α} (h:Gd g→x=some a) (k:Go (K a)):jF g x K:=jF.of h k
theorem dH.refl (c:Cx):∀bs:List AV,dH c c bs bs
 |[]=> .nil
 |_::bs=> .cons (fun _ hv=>hv) (dH.refl c bs)
theorem dH.map {α:Type} {c:Cx} {f g:α→AV} (h:∀a,dN c c (f a) (g a)):∀l:List α,dH c c (l.map f) (l.map g)
 |[]=> .nil
 |a::l=> .cons (h a) (dH.map h l)
theorem Pure.args {P:Program} {f:FuncId} {bs bs2:List AV} {R:AV→Prop} (h:Pure P f bs2 R) (hle:∀c,dH c c bs bs2):Pure P f bs R:=
 ⟨h.1,fun M w vs hM hv=>h.2 M w vs hM ((hle _).ZD hv)⟩
theorem cI.args {P:Program} {f:FuncId} {bs bs2:List AV} {H:Hp} {nx:Nat} {R:AV→Hp→Nat→Prop} (h:cI P f bs2 H nx R) (hle:∀c,dH c c bs bs2):cI P f bs H nx R:=
 ⟨h.1,fun w0 c vs h1 h2 h3 hv=>h.2 w0 c vs h1 h2 h3 ((hle _).ZD hv)⟩
theorem iF {P:Program} {f:FuncId} {args:List AV} {a b:AV} (h:Pure P f args (fun r=>r=a)) (hf:cJ 0 b) (hle:∀c,dN c c a b):Pure P f args (fun r=>r=b):=
 ⟨h.1,fun M w vs hM hv=>(h.2 M w vs hM hv).mono fun _ _ ⟨v,r,he,hR,hf0,hvr,hb⟩=>⟨v,b,he,rfl,hf,hle _ v (by rw[←hR];exact hvr),hb⟩⟩
theorem dN.lU (c c2:Cx) (sz:Nat) (d:AV):dN c c2 (.sc (.slice none 0 0)) (.im sz d []):=by
 intro v hv
 rw[VR] at hv
 subst hv
 rw[VR]
 exact⟨none,0,rfl,by simp, .inl rfl⟩
def rJ (H:Hp) (nx:Nat) (e:TypeId) (sz:Nat) (es:List AV):AV→Hp→Nat→Prop:=fun r H' n=>∃b' d',r= .sl b' es.length∧nx≤b'∧b'<n∧nx≤n∧bt H' b'=some (.row e sz d' es)∧∀b,b<nx→bt H' b=bt H b
theorem rJ.of {P:Program} {f:FuncId} {args:List AV} {H:Hp} {nx:Nat} {e:TypeId} {sz:Nat} {es:List AV} (hsz:0<sz) (h:cI P f args H nx (fun r H' n=>(r= .sc (.slice none 0 0)∧es=[]∧nx≤n∧∀b,b<nx→bt H' b=bt H b)∨rJ H nx e sz es r H' n)):cI P f args H nx (rJ H nx e sz es):=by
 refine h.wk ?_
 rintro r H' n (⟨rfl,rfl,h1,h2⟩|h1)
 ·refine⟨_,_,_,Wk.nil (nx:=n) e sz .any hsz,n, .any,rfl,h1,Nat.lt_succ_self _,by omega,cp _ _ _,fun b hb=> ?_⟩
  rw[cX (by omega)];exact h2 b hb
 ·exact⟨r,H',n,Wk.refl _ _ _,h1⟩
end Go.cZ
namespace Go.Proofs.YtjopoheligmmoaaGreatDoor
open Go Go.cZ Go.Proofs
set_option linter.unusedSimpArgs false
set_option linter.unusedVariables false
def fX (l:List Int):AV:= .im 1 .any (l.map i64)
def E0 (l:List Bool):AV:= .im 1 .any (l.map bl)
theorem dL {P:Program} {f:FuncId} {args:List AV} {u:AV} (h:cI P f args [] 0 (fun r H _=>cZ.dV H 6 r=u)) (hf:cJ 0 u):Pure P f args (fun r=>r=u):=by
 refine⟨h.1,fun M w vs hM hv=> ?_⟩
 have hS:dW w ⟨fun _=>none,bt [],fun _=>False,w,M⟩:=⟨⟨rfl,rfl,rfl,Nat.le_refl _,fun _ _=>rfl⟩,hM,fun b e sz d es he=>by simp[bt] at he,fun b b' k k' blk o z o' z' hk=>by simp[bt] at hk⟩
 refine(h.2 w _ vs hS rfl (fun _ h=>h.elim) hv).mono ?_
 rintro en w' ⟨v1,r1,H1,nx',ρ,U,he,hz,hU,hS',_,g2⟩
 have h3:=kM hS' rfl 6 (a:=r1) (v:=v1) (by rw[hz];exact hf) g2
 rw[hz] at h3
 exact⟨v1,_,he,rfl,hf,h3,hS'.below⟩
theorem pure_or {P:Program} {f:FuncId} {args:List AV} {u v:AV} (h:cI P f args [] 0 (fun r H _=>cZ.dV H 6 r=u∨cZ.dV H 6 r=v)) (hu:cJ 0 u) (hv:cJ 0 v):Pure P f args (fun r=>r=u∨r=v):=by
 refine⟨h.1,fun M w vs hM hv'=> ?_⟩
 have hS:dW w ⟨fun _=>none,bt [],fun _=>False,w,M⟩:=⟨⟨rfl,rfl,rfl,Nat.le_refl _,fun _ _=>rfl⟩,hM,fun b e sz d es he=>by simp[bt] at he,fun b b' k k' blk o z o' z' hk=>by simp[bt] at hk⟩
 refine(h.2 w _ vs hS rfl (fun _ h=>h.elim) hv').mono ?_
 rintro en w' ⟨v1,r1,H1,nx',ρ,U,he,hz,hU,hS',_,g2⟩
 rcases hz with hz|hz
 ·have h3:=kM hS' rfl 6 (a:=r1) (v:=v1) (by rw[hz];exact hu) g2
  rw[hz] at h3
  exact⟨v1,_,he, .inl rfl,hu,h3,hS'.below⟩
 ·have h3:=kM hS' rfl 6 (a:=r1) (v:=v1) (by rw[hz];exact hv) g2
  rw[hz] at h3
  exact⟨v1,_,he, .inr rfl,hv,h3,hS'.below⟩
theorem G3 {P:Program} {f:FuncId} {args:List AV} {u v:AV} (h:Pure P f args (fun r=>r=u∨r=v)) (hv:cJ 0 v) (hle:∀c,dN c c u v):Pure P f args (fun r=>r=v):=
 ⟨h.1,fun M w vs hM hv'=>(h.2 M w vs hM hv').mono fun en w' ⟨x,r,h2,h3,h4,h5,h6⟩=>by
  rcases h3 with rfl|rfl
  ·exact⟨x,_,h2,rfl,hv,hle _ _ h5,h6⟩
  ·exact⟨x,_,h2,rfl,hv,h5,h6⟩⟩
theorem mq {P:Program} {f:FuncId} {args:List AV} {sz:Nat} {es:List AV} (hf:cJ 0 (.im sz .any es)) (h:cI P f args [] 0 (fun r H _=>cZ.dV H 6 r= .sc (.slice none 0 0)∧es=[]∨cZ.dV H 6 r= .im sz .any es)):Pure P f args (fun r=>r= .im sz .any es):=by
 by_cases hl:es=[]
 ·subst hl
  exact G3 (pure_or (h.mono fun r H n h=>h.imp (·.1) id) (by simp[cJ,cY]) hf) hf (fun c=>cZ.dN.lU c c _ _)
 ·exact dL (h.mono fun r H n h=>h.elim (fun h=>absurd h.2 hl) id) hf
theorem fm (op:Int):Pure Tryz.prog 196 [u8 op] (fun r=>r=bl (decide (0<op∧op<19))):=by
 refine aI yq rfl ?_
 repeat' (first|((with_reducible refine aF ?_);conv=>whnf)|refine aG ?_|exact aC|with_reducible refine aD ?_ ?_|(apply aB;(·exact cP))|refine aH ?_|((with_reducible refine aA ?_ ?_)<;>intro hc<;>(try simp only[List.length_map,ne_eq,dZ] at hc)<;>try(exfalso;omega)))
 simp only[decide_eq_true_eq]
 exact ez (by by_cases h:0<op<;>simp[h])
theorem eW (c:Int):Pure Tryz.prog 163 [u8 c] (fun r=>r=bl (decide (48≤c)&&decide (c≤57))):=by
 refine aI yh rfl ?_
 repeat' (first|((with_reducible refine aF ?_);conv=>whnf)|refine aG ?_|exact aC|with_reducible refine aD ?_ ?_|(apply aB;(·exact cP))|refine aH ?_|((with_reducible refine aA ?_ ?_)<;>intro hc<;>(try simp only[List.length_map,ne_eq,dZ] at hc)<;>try(exfalso;omega)))
 all_goals simp_all[dZ]
set_option maxHeartbeats 1000000 in
theorem lA (n:Node):Pure Tryz.prog 120 [n.av] (fun r=>r=fX n.fold):=by
 refine mq (by simp[cJ,cC]) ?_
 refine aL yW rfl ?_
 repeat' (first|((with_reducible refine aF ?_);conv=>whnf)|refine aG ?_|exact gE|with_reducible refine aD ?_ ?_|((with_reducible refine Ask.mk ?_);first|exact dw|exact dA|(intro h;simp_all[Node.cells]<;>fail)|(simp_all[Node.cells]<;>fail))|(apply aB;(·exact cP))|refine aH ?_|((with_reducible refine aA ?_ ?_)<;>intro hc<;>(try simp only[List.length_map,ne_eq,dZ] at hc)<;>try(exfalso;omega)))
 all_goals refine⟨?_⟩
 all_goals first|exact .inl ⟨rfl,by simp_all[Node.fold]⟩|(refine .inr ((dh bx (by simp)).trans ?_);rw[cw _ (by simp[cY,cJ])];first|(simp_all[fX,Node.fold];done)|(unfold Node.fold;rw[if_neg (by assumption),if_neg (fun h=>hc.elim (fun a=>a h.1) (fun a=>h.2 a))];rfl))
end Go.Proofs.YtjopoheligmmoaaGreatDoor
end
section
/- Is a node right? -/
namespace Go.Proofs.YtjopoheligmmoaaGreatDoor
open Go Go.cZ Go.Proofs
set_option linter.unusedSimpArgs false
set_option linter.unusedVariables false
theorem kY {f:FuncId} {args:List AV} {u:AV} (hu:cJ 0 u) (h:(vP TT 30 f args [] 0).map (fun q=>dV q.2.1 6 q.1)=some u):Pure Tryz.prog f args (fun r=>r=u):=by
 simp only[Option.map_eq_some_iff] at h
 obtain⟨⟨r,H',nx'⟩,h1,h2⟩:=h
 simp only at h2
 have h0:=oB hTT 30 _ _ _ _ _ _ _ h1
 have h3:=cI.pure (H':=H') (h0.mono fun r H n ⟨h1,h2,_⟩=>⟨h1,h2⟩) (by rw[h2];exact hu)
 exact h3.mono fun r hr=>by rw[hr,h2]
theorem fP (op:Int) (h0:0≤op):Pure Tryz.prog 159 [u8 op] (fun r=>r=bl (dz op)):=by
 refine aI yd rfl ?_
 repeat' (first|((with_reducible refine aF ?_);conv=>whnf)|refine aG ?_|exact aC|with_reducible refine aD ?_ ?_|(apply aB;(·exact cP))|((with_reducible refine aQ (fm _) ?_ ?_);(·exact cF))|((with_reducible refine aP (fun _=>fm _) ?_ ?_);(·exact cF))|((with_reducible refine aN (fm _) ?_ ?_);(·exact cF))|((with_reducible refine aO (fun _=>fm _) ?_ ?_);(·exact cF))|refine aH ?_|((with_reducible refine aA ?_ ?_)<;>intro hc<;>(try simp only[List.length_map,ne_eq,dZ] at hc)<;>try(exfalso;omega)))
 refine ez ?_
 unfold dz
 by_cases h1:0<op<;>by_cases h2:op<19<;>by_cases h3:op=17<;>by_cases h4:op=18<;>simp[h1,h2,h3,h4]<;>omega
def mask (k op:Int):Int:=if k=1 then(if dz op=true then 59 else 43) else if k=2 then 38 else if k=3 then 44 else if k=4 then 46 else if k=5 then 36 else if k=6 then 36 else if k=7 then 40 else if k=8 then 104 else 0
set_option maxRecDepth 100000 in
theorem C2 (n:Node) (hn:n.Wf) (h:1≤n.kind∧n.kind<10):Pure Tryz.prog 116 [n.av] (fun r=>r=u8 (mask n.kind n.op)):=by
 obtain⟨h0,h1⟩:=h
 have ho:=hn.op.1
 obtain⟨kind,op,slot,cN,a,b,next,sF,origin⟩:=n
 simp only at h0 h1 ho
 have hk:kind=1∨kind=2∨kind=3∨kind=4∨kind=5∨kind=6∨kind=7∨kind=8∨kind=9:=by omega
 rcases hk with rfl|rfl|rfl|rfl|rfl|rfl|rfl|rfl|rfl
 ·refine aI yS rfl ?_
  repeat' (first|((with_reducible refine aF ?_);conv=>whnf)|refine aG ?_|exact aC|with_reducible refine aD ?_ ?_|(apply aB;(·exact cP))|((with_reducible refine aQ (fP _ ho) ?_ ?_);(·exact cF))|((with_reducible refine aP (fun _=>fP _ ho) ?_ ?_);(·exact cF))|((with_reducible refine aN (fP _ ho) ?_ ?_);(·exact cF))|((with_reducible refine aO (fun _=>fP _ ho) ?_ ?_);(·exact cF))|refine aH ?_|((with_reducible refine aA ?_ ?_)<;>intro hc<;>(try simp only[List.length_map,ne_eq,dZ] at hc)<;>try(exfalso;omega)))
  all_goals
   cases ht:dz op with
   |true=>
    rw[ht] at hc
    first|(exact absurd rfl hc)|(exact absurd hc (by decide))|(simp only[show mask 1 op=59 by simp[mask,ht]];try kernel_rfl)
   |false=>
    rw[ht] at hc
    first|(exact absurd rfl hc)|(exact absurd hc (by decide))|(simp only[show mask 1 op=43 by simp[mask,ht]];try kernel_rfl)
 iterate 8 exact kY (by simp[cJ,cY]) (by kernel_rfl)
theorem lY.default_eq:(default:lY)=⟨false,0,0⟩:=rfl
def iY (m u:Int):Int:=IntKind.u8.wrap (BitVec.ofInt IntKind.u8.bits m&&& BitVec.ofInt IntKind.u8.bits u).toNat
theorem qh (k u most m:Int) (b:Nat) (H:Hp) (nx:Nat) (e:TypeId) (d:AV) (hb:bt H b=some (.row e 1 d [u8 m])):vT Tryz.prog 117 [i64 k,u8 u,i64 most, .pt b 1 0 0] H nx (bl (qJ k (decide (iY m u≠0)) most)):=by
 refine aZ yT rfl ?_
 repeat' (first|((with_reducible refine aF ?_);conv=>whnf)|refine aG ?_|exact aC|with_reducible refine aD ?_ ?_|(apply aB;(·exact cP))|refine aH ?_|((with_reducible refine aA ?_ ?_)<;>intro hc<;>(try simp only[List.length_map,ne_eq,dZ] at hc)<;>try(exfalso;omega)))
 refine K5.look ?_ xD
 simp only[show IntKind.u8.wrap (BitVec.ofInt IntKind.u8.bits m&&& BitVec.ofInt IntKind.u8.bits u).toNat=iY m u from rfl,qJ]
 by_cases h1:iY m u=0<;>by_cases h2:k=0<;>by_cases h3:0≤k<;>by_cases h4:k<most<;>simp[h1,h2,h3,h4]
theorem tK (v:lY) (u m:Int) (g:cD) (b c:Nat) (H:Hp) (nx:Nat) (e e2:TypeId) (d d2:AV) (hb:bt H b=some (.row e 1 d [u8 m])) (hc:bt H c=some (.row e2 4 d2 [g.av])) (hbn:b<nx) (hcn:c<nx):vT Tryz.prog 118 [v.av,u8 u, .pt b 1 0 0, .pt c 1 0 0] H nx (bl (tq v (decide (iY m u≠0)) g.bz)):=by
 refine aZ yU rfl ?_
 repeat' (first|((with_reducible refine aF ?_);conv=>whnf)|refine aG ?_|exact gE|with_reducible refine aD ?_ ?_|((with_reducible refine Ask.mk ?_);first|exact dw|exact dA|(intro h;simp_all[lY.cells,cD.cells]<;>fail)|(simp_all[lY.cells,cD.cells]<;>fail))|(apply aB;(·exact cP))|refine aH ?_|((with_reducible refine aA ?_ ?_)<;>intro hc<;>(try simp only[List.length_map,ne_eq,dZ] at hc)<;>try(exfalso;omega)))
 all_goals refine K5.look ?_ xD
 all_goals simp only[show IntKind.u8.wrap (BitVec.ofInt IntKind.u8.bits m&&& BitVec.ofInt IntKind.u8.bits u).toNat=iY m u from rfl] at *
 all_goals unfold tq
 ·rw[if_neg (show ¬decide (iY m u≠0)=true by simp[hc])]
  obtain⟨is,sl,wo⟩:=v
  refine ez ?_
  rw[Bool.eq_iff_iff]
  simp[lY.default_eq,and_assoc]
 ·rename_i h0
  rw[decide_eq_true hc,if_pos rfl,if_pos h0]
  refine ez ?_
  by_cases h1:0≤v.slot<;>by_cases h2:v.slot<g.bz<;>simp[h1,h2]
 ·rename_i h0
  rw[decide_eq_true hc,if_pos rfl,if_neg (by rw[h0];decide)]
theorem JS (k op:Int) (h:1≤k∧k<10):(iY (mask k op) 1=0↔¬k=1)∧(decide (iY (mask k op) 2≠0)=k7 k)∧(decide (iY (mask k op) 4≠0)=fw k)∧(decide (iY (mask k op) 8≠0)=vJ k)∧(decide (iY (mask k op) 16≠0)=(decide (k=1)&&dz op))∧(decide (iY (mask k op) 32≠0)=jW k)∧(decide (iY (mask k op) 64≠0)=decide (k=8)):=by
 have hk:k=1∨k=2∨k=3∨k=4∨k=5∨k=6∨k=7∨k=8∨k=9:=by omega
 rcases hk with rfl|rfl|rfl|rfl|rfl|rfl|rfl|rfl|rfl
 ·cases ht:dz op with
  |false=>rw[show mask 1 op=43 by simp[mask,ht]];decide
  |true=>rw[show mask 1 op=59 by simp[mask,ht]];decide
 ·rw[show mask 2 op=38 by rfl,show(decide ((2:Int)=1)&&dz op)=false by rfl];decide
 ·rw[show mask 3 op=44 by rfl,show(decide ((3:Int)=1)&&dz op)=false by rfl];decide
 ·rw[show mask 4 op=46 by rfl,show(decide ((4:Int)=1)&&dz op)=false by rfl];decide
 ·rw[show mask 5 op=36 by rfl,show(decide ((5:Int)=1)&&dz op)=false by rfl];decide
 ·rw[show mask 6 op=36 by rfl,show(decide ((6:Int)=1)&&dz op)=false by rfl];decide
 ·rw[show mask 7 op=40 by rfl,show(decide ((7:Int)=1)&&dz op)=false by rfl];decide
 ·rw[show mask 8 op=104 by rfl,show(decide ((8:Int)=1)&&dz op)=false by rfl];decide
 ·rw[show mask 9 op=0 by rfl,show(decide ((9:Int)=1)&&dz op)=false by rfl];decide
set_option maxRecDepth 4000 in
set_option maxHeartbeats 2000000 in
theorem DF (u:bw) (g:cD) (n:Node) (hn:n.Wf):Pure Tryz.prog 72 [u.av,g.av,n.av] (fun r=>r=bl (mD u g n)):=by
 refine aI OC rfl ?_
 have h0:=hn.kind.1
 have ho:=hn.op.1
 by_cases hk:1≤n.kind∧n.kind<10∧0≤n.origin∧n.origin<4096
 ·have hp:=C2 n hn ⟨hk.1,hk.2.1⟩
  obtain⟨m1,m2,m3,m4,m5,m6,m7⟩:=JS n.kind n.op ⟨hk.1,hk.2.1⟩
  repeat' (first|((with_reducible refine aF ?_);conv=>whnf)|refine aG ?_|exact gE|with_reducible refine aD ?_ ?_|((with_reducible refine Ask.mk ?_);first|exact dw|exact dA|(intro h;simp_all[bw.cells,cD.cells,Node.cells]<;>fail)|(simp_all[bw.cells,cD.cells,Node.cells]<;>fail))|(apply aB;(·exact cP))|refine aK (hp) ?_|((refine aX (qh _ _ _ _ _ _ _ _ _ (by exact rfl)) ?_ ?_);(·exact True.intro))|((refine aW (fun _=>qh _ _ _ _ _ _ _ _ _ (by exact rfl)) ?_ ?_);(·exact True.intro))|((refine aX (tK ⟨_,_,_⟩ _ _ _ _ _ _ _ _ _ _ _ (by exact rfl) (by exact rfl) c8 c8) ?_ ?_);(·exact True.intro))|((refine aW (fun _=>tK ⟨_,_,_⟩ _ _ _ _ _ _ _ _ _ _ _ (by exact rfl) (by exact rfl) c8 c8) ?_ ?_);(·exact True.intro))|refine aH ?_|((with_reducible refine aA ?_ ?_)<;>intro hc<;>(try simp only[List.length_map,ne_eq,dZ] at hc)<;>try(exfalso;omega)))
  all_goals
   have hop:qJ (IntKind.i64.wrap n.op) (decide (iY (mask n.kind n.op) 1≠0)) 19=(if n.kind=1 then decide (n.op<19) else decide (n.op=0)):=by
    have h2:=hn.op.2
    rw[wrap64 (by omega) (by omega)]
    unfold qJ
    by_cases h1:n.kind=1
    ·rw[if_pos h1,if_pos (show decide (iY (mask n.kind n.op) 1≠0)=true by rw[decide_eq_true_eq];exact fun h=>m1.1 h h1),decide_eq_true ho,Bool.true_and]
    ·rw[if_neg h1,if_neg (show ¬decide (iY (mask n.kind n.op) 1≠0)=true by rw[decide_eq_true_eq];exact fun h=>h (m1.2 h1))]
   refine ez ?_
   rw[hop,m2,m3,m4,m5,m6,m7]
   unfold mD
   rw[decide_eq_true hk,Bool.true_and]
   simp only[hc,if_true,if_false,or_self,Bool.if_false_right,Bool.decide_eq_true,Bool.and_assoc]
   simp only[List.length_map]
   generalize qJ n.slot (k7 n.kind) g.bz=x1
   have ea:(⟨n.a.jM,n.a.slot,n.a.word⟩:lY)=n.a:=rfl
   have eb:(⟨n.b.jM,n.b.slot,n.b.word⟩:lY)=n.b:=rfl
   rw[ea,eb]
   generalize tq n.a (vJ n.kind) g.bz=x2
   generalize tq n.b (decide (n.kind=1)&&dz n.op) g.bz=x3
   generalize qJ n.next (jW n.kind) g.nodes.length=x4
   generalize qJ n.sF (decide (n.kind=8)) g.nodes.length=x5
   revert x1 x2 x3 x4 x5
   intro x1 x2 x3 x4 x5
   cases x1<;>cases x2<;>cases x3<;>cases x4<;>cases x5<;>simp
 ·have hb:mD u g n=false:=by unfold mD;rw[decide_eq_false hk];simp
  rw[hb]
  repeat' (first|((with_reducible refine aF ?_);conv=>whnf)|refine aG ?_|exact gE|with_reducible refine aD ?_ ?_|((with_reducible refine Ask.mk ?_);first|exact dw|exact dA|(intro h;simp_all[bw.cells,cD.cells,Node.cells]<;>fail)|(simp_all[bw.cells,cD.cells,Node.cells]<;>fail))|(apply aB;(·exact cP))|refine aH ?_|((with_reducible refine aA ?_ ?_)<;>intro hc<;>(try simp only[List.length_map,ne_eq,dZ] at hc)<;>try(exfalso;omega)))
  exact rfl
end Go.Proofs.YtjopoheligmmoaaGreatDoor
end
section
/- Names. -/
namespace Go.Proofs.YtjopoheligmmoaaGreatDoor
open Go Go.cZ Go.Proofs
set_option linter.unusedSimpArgs false
set_option linter.unusedVariables false
def jK (c:Int):Bool:=decide (48≤c)&&decide (c≤57)
def mi (c:Int):Bool:=decide (97≤c)&&decide (c≤122)||decide (65≤c)&&decide (c≤90)||decide (c=95)
def P1:List ByteArray:=[⟨(List.toArray [115,104,97,114,101,100])⟩,⟨(List.toArray [108,111,99,107])⟩,⟨(List.toArray [116,104,114,101,97,100])⟩,⟨(List.toArray [108,111,99,97,108])⟩,⟨(List.toArray [105,102])⟩,⟨(List.toArray [101,108,115,101])⟩,⟨(List.toArray [119,104,105,108,101])⟩,⟨(List.toArray [112,114,105,110,116])⟩,⟨(List.toArray [115,107,105,112])⟩,⟨(List.toArray [115,119,97,112])⟩]
def vN (s:ByteArray):Bool:=P1.any (s==·)
theorem eI (c:Int):Pure Tryz.prog 165 [u8 c] (fun r=>r=bl (mi c)):=by
 refine aI yj rfl ?_
 repeat' (first|((with_reducible refine aF ?_);conv=>whnf)|refine aG ?_|exact aC|with_reducible refine aD ?_ ?_|(apply aB;(·exact cP))|refine aH ?_|((with_reducible refine aA ?_ ?_)<;>intro hc<;>(try simp only[List.length_map,ne_eq,dZ] at hc)<;>try(exfalso;omega)))
 refine ez ?_
 unfold mi
 by_cases h1:97≤c<;>by_cases h2:c≤122<;>by_cases h3:65≤c<;>by_cases h4:c≤90<;>by_cases h5:c=95<;>simp[h1,h2,h3,h4,h5]
theorem gO (s:ByteArray):Pure Tryz.prog 164 [st s] (fun r=>r=bl (vN s)):=by
 refine aI yi rfl ?_
 repeat' (first|((with_reducible refine aF ?_);conv=>whnf)|refine aG ?_|exact aC|with_reducible refine aD ?_ ?_|(apply aB;(·exact cP))|refine aH ?_|((with_reducible refine aA ?_ ?_)<;>intro hc<;>(try simp only[List.length_map,ne_eq,dZ] at hc)<;>try(exfalso;omega)))
 all_goals refine ez ?_
 all_goals simp_all[vN,P1]
def gM (s:ByteArray) (i:Nat):Int:=(s.data.toList.getD i 0).toNat
def lT (s:ByteArray):Bool:=decide (1≤s.size)&&decide (s.size≤32)&& !jK (gM s 0)&& !vN s&&(List.range s.size).all fun i=>mi (gM s i)||jK (gM s i)
theorem TM (s:ByteArray):(s==(⟨#[]⟩:ByteArray))=decide (s.size=0):=by
 obtain⟨d⟩:=s
 show(d==#[])=_
 rw[Bool.eq_iff_iff]
 show(d==#[])=true↔decide (d.size=0)=true
 simp
theorem JV (s:ByteArray) (hs:s.size≤140737488351232):Pure Tryz.prog 115 [st s] (fun r=>r=bl (lT s)):=by
 refine aI yR rfl ?_
 have e0:=TM s
 by_cases hz:s.size=0
 ·have e1:(s==(⟨#[]⟩:ByteArray))=true:=by rw[e0,decide_eq_true hz]
  have hb:lT s=false:=by unfold lT;rw[decide_eq_false (by omega)];simp
  rw[hb]
  repeat' (first|((with_reducible refine aF ?_);conv=>whnf)|refine aG ?_|exact gE|with_reducible refine aD ?_ ?_|((with_reducible refine Ask.mk ?_);first|exact dw|((refine Ask.mk ?_);intro h;simp_all)|exact dA)|(apply aB;(·exact cP))|((with_reducible refine aQ (eW _) ?_ ?_);(·exact cF))|((with_reducible refine aP (fun _=>eW _) ?_ ?_);(·exact cF))|((with_reducible refine aN (eW _) ?_ ?_);(·exact cF))|((with_reducible refine aO (fun _=>eW _) ?_ ?_);(·exact cF))|((with_reducible refine aQ (gO _) ?_ ?_);(·exact cF))|((with_reducible refine aP (fun _=>gO _) ?_ ?_);(·exact cF))|((with_reducible refine aN (gO _) ?_ ?_);(·exact cF))|((with_reducible refine aO (fun _=>gO _) ?_ ?_);(·exact cF))|((with_reducible refine aQ (eI _) ?_ ?_);(·exact cF))|((with_reducible refine aP (fun _=>eI _) ?_ ?_);(·exact cF))|((with_reducible refine aN (eI _) ?_ ?_);(·exact cF))|((with_reducible refine aO (fun _=>eI _) ?_ ?_);(·exact cF))|(simp only[e1])|refine aH ?_|((with_reducible refine aA ?_ ?_)<;>intro hc<;>(try simp only[List.length_map,ne_eq,dZ] at hc)<;>try(exfalso;omega)))
  all_goals first|exact rfl|(exfalso;simp_all)
 ·have e1:(s==(⟨#[]⟩:ByteArray))=false:=by rw[e0,decide_eq_false hz]
  repeat' (first|((with_reducible refine aF ?_);conv=>whnf)|refine aG ?_|exact gE|with_reducible refine aD ?_ ?_|((with_reducible refine Ask.mk ?_);first|exact dw|((refine Ask.mk ?_);intro h;exact⟨by omega,by omega⟩)|exact dA)|(apply aB;(·exact cP))|((with_reducible refine aQ (eW _) ?_ ?_);(·exact cF))|((with_reducible refine aP (fun _=>eW _) ?_ ?_);(·exact cF))|((with_reducible refine aN (eW _) ?_ ?_);(·exact cF))|((with_reducible refine aO (fun _=>eW _) ?_ ?_);(·exact cF))|((with_reducible refine aQ (gO _) ?_ ?_);(·exact cF))|((with_reducible refine aP (fun _=>gO _) ?_ ?_);(·exact cF))|((with_reducible refine aN (gO _) ?_ ?_);(·exact cF))|((with_reducible refine aO (fun _=>gO _) ?_ ?_);(·exact cF))|((with_reducible refine aQ (eI _) ?_ ?_);(·exact cF))|((with_reducible refine aP (fun _=>eI _) ?_ ?_);(·exact cF))|((with_reducible refine aN (eI _) ?_ ?_);(·exact cF))|((with_reducible refine aO (fun _=>eI _) ?_ ?_);(·exact cF))|(simp only[e1])|refine aH ?_|((with_reducible refine aA ?_ ?_)<;>intro hc<;>(try simp only[List.length_map,ne_eq,dZ] at hc)<;>try(exfalso;omega)))
  ·refine ez (Eq.symm ?_)
   unfold lT
   have hp:(decide (1≤s.size)&&decide (s.size≤32)&& !jK (gM s 0)&& !vN s)=false:=by
    rcases hc with((h|h)|h)|h
    ·exact absurd h (by decide)
    ·simp[show ¬s.size≤32 by omega]
    ·have h:48≤gM s 0∧gM s 0≤57:=h
     simp[jK,h.1,h.2]
    ·simp[h]
   rw[hp,Bool.false_and]
  ·have hp:(decide (1≤s.size)&&decide (s.size≤32)&& !jK (gM s 0)&& !vN s)=true:=by
    obtain⟨h1,h2⟩:=hc
    have h3:¬(48≤gM s 0∧gM s 0≤57):=fun h=>h1 (.inr h)
    have h4:s.size≤32:=by
     have:¬(32:Int)<s.size:=fun h=>h1 (.inl (.inr h))
     omega
    have h5:jK (gM s 0)=false:=by
     unfold jK
     by_cases h:48≤gM s 0
     ·rw[decide_eq_true h,decide_eq_false (fun h'=>h3 ⟨h,h'⟩)];rfl
     ·rw[decide_eq_false h];rfl
    rw[decide_eq_true (by omega:1≤s.size),decide_eq_true h4,h5,h2];rfl
   have hb:∀R,(decide (1≤s.size)&&decide (s.size≤32)&& !jK (gM s 0)&& !vN s&&R)=R:=fun R=>by rw[hp,Bool.true_and]
   unfold lT
   rw[hb]
   clear hc hp hb e1 e0
   refine aM (fun i:Nat=>[(0,st s),(21,i64 s.size),(22,i64 i)]) (fun i H n=>i≤s.size∧∀j,j<i→(mi (gM s j)||jK (gM s j))=true) (fun i=>s.size - i) 0 cK ⟨Nat.zero_le _,fun _ h=>by omega⟩ ?_
   rintro i H n ⟨hi,hall⟩
   by_cases his:i<s.size
   ·repeat' (first|((with_reducible refine aF ?_);conv=>whnf)|refine aG ?_|exact gE|with_reducible refine aD ?_ ?_|((with_reducible refine Ask.mk ?_);first|exact dw|((refine Ask.mk ?_);intro h;exact⟨by omega,by omega⟩)|exact dA)|(apply aB;(·exact cP))|((with_reducible refine aQ (eW _) ?_ ?_);(·exact cF))|((with_reducible refine aP (fun _=>eW _) ?_ ?_);(·exact cF))|((with_reducible refine aN (eW _) ?_ ?_);(·exact cF))|((with_reducible refine aO (fun _=>eW _) ?_ ?_);(·exact cF))|((with_reducible refine aQ (eI _) ?_ ?_);(·exact cF))|((with_reducible refine aP (fun _=>eI _) ?_ ?_);(·exact cF))|((with_reducible refine aN (eI _) ?_ ?_);(·exact cF))|((with_reducible refine aO (fun _=>eI _) ?_ ?_);(·exact cF))|refine aH ?_|((with_reducible refine aA ?_ ?_)<;>intro hc<;>(try simp only[List.length_map,ne_eq,dZ] at hc)<;>try(exfalso;omega)))
    ·refine ez (Eq.symm ?_)
     rw[Bool.eq_false_iff,ne_eq,List.all_eq_true]
     intro hA
     have h1:=hA i (List.mem_range.2 his)
     have hc:mi (gM s i)=false∧(gM s i<48∨57<gM s i):=hc
     rw[hc.1,Bool.false_or] at h1
     simp only[jK,Bool.and_eq_true,decide_eq_true_eq] at h1
     omega
    ·refine⟨i+1,by omega,cK,by omega,fun j hj=> ?_⟩
     by_cases hji:j=i
     ·have hc:¬mi (gM s i)=false∨(48≤gM s i∧gM s i≤57):=hc
      rw[hji]
      rcases hc with h|h
      ·rw[Bool.not_eq_false] at h
       rw[h,Bool.true_or]
      ·simp[jK,h.1,h.2]
     ·exact hall j (by omega)
   ·have:i=s.size:=by omega
    subst this
    repeat' (first|((with_reducible refine aF ?_);conv=>whnf)|refine aG ?_|exact aC|with_reducible refine aD ?_ ?_|(apply aB;(·exact cP))|refine aH ?_|((with_reducible refine aA ?_ ?_)<;>intro hc<;>(try simp only[List.length_map,ne_eq,dZ] at hc)<;>try(exfalso;omega)))
    refine ez (Eq.symm ?_)
    rw[List.all_eq_true]
    intro j hj
    exact hall j (List.mem_range.1 hj)
end Go.Proofs.YtjopoheligmmoaaGreatDoor
end
