import Derived.Test.YtjopoheligmmoaaGreatDoorM15
import Derived.Test.YtjopoheligmmoaaGreatDoorM20
import Derived.Test.YtjopoheligmmoaaGreatDoorM21
import Derived.Test.YtjopoheligmmoaaGreatDoorM22
section
/- Units as plain data. -/
namespace Go.Proofs.YtjopoheligmmoaaGreatDoor
open Go Go.cY Go.Proofs
set_option linter.unusedSimpArgs false
set_option linter.unusedVariables false
abbrev i64 (n:Int):AV:= .sc (.int .i64 n)
abbrev u8 (n:Int):AV:= .sc (.int .u8 n)
abbrev bl (b:Bool):AV:= .sc (.bool b)
abbrev st (s:ByteArray):AV:= .sc (.string s)
def eN (n:Int):Prop:=-9223372036854775808≤n∧n<9223372036854775808
structure l3 where
 jK:Bool
 slot:Int
 word:Int
 deriving Inhabited,DecidableEq
def l3.cells (v:l3):List AV:=[bl v.jK,i64 v.slot,i64 v.word]
abbrev l3.av (v:l3):AV:= .agg v.cells
structure l3.Wf (v:l3):Prop where
 slot:eN v.slot
 word:eN v.word
structure Node where
 kind:Int
 op:Int
 slot:Int
 cP:Int
 a:l3
 b:l3
 next:Int
 sH:Int
 origin:Int
 deriving Inhabited,DecidableEq
def Node.cells (n:Node):List AV:=[u8 n.kind,u8 n.op,i64 n.slot,i64 n.cP,bl n.a.jK,i64 n.a.slot,i64 n.a.word,bl n.b.jK,i64 n.b.slot,i64 n.b.word,i64 n.next,i64 n.sH,i64 n.origin]
abbrev Node.av (n:Node):AV:= .agg n.cells
structure Node.Wf (n:Node):Prop where
 kind:0≤n.kind∧n.kind<256
 op:0≤n.op∧n.op<256
 slot:eN n.slot
 cP:eN n.cP
 a:n.a.Wf
 b:n.b.Wf
 next:eN n.next
 sH:eN n.sH
 origin:eN n.origin
structure Decl where
 name:ByteArray
 word:Int
 at_:Int
 deriving Inhabited,DecidableEq
def Decl.cells (d:Decl):List AV:=[st d.name,i64 d.word,i64 d.at_]
abbrev Decl.av (d:Decl):AV:= .agg d.cells
structure Decl.Wf (d:Decl):Prop where
 name:d.name.size≤140737488351232
 word:eN d.word
 at_:eN d.at_
structure cD where
 name:ByteArray
 locals:Int
 bz:Int
 nodes:List Node
 deriving Inhabited,DecidableEq
abbrev ig (l:List Node):AV:= .im 13 .any (l.map Node.av)
def cD.cells (g:cD):List AV:=[st g.name,i64 g.locals,i64 g.bz,ig g.nodes]
abbrev cD.av (g:cD):AV:= .agg g.cells
structure cD.Wf (g:cD):Prop where
 name:g.name.size≤140737488351232
 locals:eN g.locals
 bz:eN g.bz
 nodes:∀n∈g.nodes,n.Wf
 len:g.nodes.length * 88≤140737488351232
structure bu where
 shared:List Decl
 cE:List Decl
 bw:List cD
 deriving Inhabited,DecidableEq
abbrev cr (l:List Decl):AV:= .im 3 .any (l.map Decl.av)
abbrev de (l:List cD):AV:= .im 4 .any (l.map cD.av)
def bu.cells (u:bu):List AV:=[cr u.shared,cr u.cE,de u.bw]
abbrev bu.av (u:bu):AV:= .agg u.cells
structure bu.Wf (u:bu):Prop where
 shared:∀d∈u.shared,d.Wf
 vE:u.shared.length * 32≤140737488351232
 cE:∀d∈u.cE,d.Wf
 zZ:u.cE.length * 32≤140737488351232
 bw:∀g∈u.bw,g.Wf
 I1:u.bw.length * 56≤140737488351232
@[simp] theorem Y7 (n:Nat) (v:l3):cZ n v.cells:=by simp[l3.cells,cZ,cK]
@[simp] theorem XW (n:Nat) (v:Node):cZ n v.cells:=by simp[Node.cells,cZ,cK]
@[simp] theorem XV (n:Nat) (v:Decl):cZ n v.cells:=by simp[Decl.cells,cZ,cK]
@[simp] theorem W4 (n:Nat) (v:cD):cZ n v.cells:=by simp[cD.cells,cZ,cK,cC]
@[simp] theorem XX (n:Nat) (v:bu):cZ n v.cells:=by simp[bu.cells,cZ,cK,cC]
abbrev cD.nd (g:cD) (i:Nat):Node:=g.nodes.getD i default
abbrev bu.gr (u:bu) (t:Nat):cD:=u.bw.getD t default
theorem ua {α β:Type} (f:α→β) (l:List α) (i:Nat) (a:α):(l.map f).getD i (f a)=f (l.getD i a):=by
 simp only[List.getD,List.getElem?_map]
 cases l[i]?<;>rfl
theorem VQ {l:List cD} {i:Nat}:(l.map cD.av).getD i (cD.av default)=(l.getD i default).av:=ua _ _ _ _
theorem MB {l:List Decl} {i:Nat}:(l.map Decl.av).getD i (Decl.av default)=(l.getD i default).av:=ua _ _ _ _
theorem ez {a b:Bool} (h:a=b):AV.sc (.bool a)=bl b:=by rw[h]
theorem cS {α:Type} {l:List α} {j:Nat} (d:α) (h:j<l.length):l.getD j d∈l:=by
 simp only[List.getD,List.getElem?_eq_getElem h,Option.getD_some];exact List.getElem_mem h
end Go.Proofs.YtjopoheligmmoaaGreatDoor
end
section
/- What a unit must be, in plain data. -/
namespace Go.Proofs.YtjopoheligmmoaaGreatDoor
open Go Go.cY Go.Proofs
set_option linter.unusedSimpArgs false
set_option linter.unusedVariables false
def Node.oI (n:Node):List Int:=if n.kind=9 then[] else if n.kind=8 then[n.next,n.sH] else[n.next]
def Node.fold (n:Node):List Int:=if n.kind=9 then[] else if n.kind=8∧n.sH≠n.next then[n.next,n.sH] else[n.next]
def fj {α:Type} (p:α→Bool):List α→Nat→Option Nat
 |[],_=>none
 |x::r,i=>if p x=true then fj p r (i+1) else some i
theorem xm {α:Type} (p:α→Bool) (l:List α) (d:α) {i:Nat} (h:i<l.length):fj p (l.drop i) i=if p (l.getD i d)=true then fj p (l.drop (i+1)) (i+1) else some i:=by
 rw[List.drop_eq_getElem_cons h,fj]
 simp[List.getD,h]
theorem B8 {α:Type} (p:α→Bool) (l:List α) {i:Nat} (h:l.length≤i):fj p (l.drop i) i=none:=by
 rw[List.drop_eq_nil_of_le h,fj]
def eA (op:Int):Bool:=decide (1≤op)&&decide (op≤16)
def k9 (k:Int):Bool:=decide (k=1∨k=2∨k=4)
def fw (k:Int):Bool:=decide (k=2∨k=3∨k=4∨k=5∨k=6)
def vL (k:Int):Bool:=decide (k=1∨k=3∨k=4∨k=7∨k=8)
def jV (k:Int):Bool:=decide (1≤k∧k≤8)
def tv (v:l3) (used:Bool) (bz:Int):Bool:=if used=true then(if v.jK=true then decide (0≤v.slot)&&decide (v.slot<bz)&&decide (v.word=0) else decide (v.slot=0)) else decide (v=default)
def qH (n:Int) (used:Bool) (most:Int):Bool:=if used=true then decide (0≤n)&&decide (n<most) else decide (n=0)
def mF (u:bu) (g:cD) (n:Node):Bool:=
 decide (1≤n.kind∧n.kind<10∧0≤n.origin∧n.origin<4096)&&(if n.kind=1 then decide (n.op<19) else decide (n.op=0))&&
 qH n.slot (k9 n.kind) g.bz&&qH n.cP (fw n.kind) (if n.kind=5∨n.kind=6 then u.cE.length else u.shared.length)&&tv n.a (vL n.kind) g.bz&&tv n.b (decide (n.kind=1)&&eA n.op) g.bz&&qH n.next (jV n.kind) g.nodes.length&&qH n.sH (decide (n.kind=8)) g.nodes.length
def tI (m:Nat) (n:Node):Bool:=decide (1≤n.kind)&&decide (n.kind<10)&&n.oI.all fun k=>decide (0≤k)&&decide (k<m)
def lM (g:cD):Bool:=decide (1≤g.nodes.length)&&decide (g.nodes.length≤4096)&&g.nodes.all (tI g.nodes.length)
structure HS where
 cE:List (List Int)
 found:List Bool
 todo:List Int
def HS.l (s:HS) (k:Int):List Int:=s.cE.getD k.toNat []
def HS.f (s:HS) (k:Int):Bool:=s.found.getD k.toNat false
def df (n:Node) (l:List Int):Option (List Int):=
 if n.kind=5 then some (l++[n.cP]) else if n.kind=6 then(if l≠[]∧l.getLast?=some n.cP then some l.dropLast else none) else if n.kind=9 then(if l=[] then some l else none) else some l
def da (now:List Int):List Int→HS→HS ⊕ Int
 |[],s=> .inl s
 |k::r,s=>if s.f k=false then da now r ⟨s.cE.set k.toNat now,s.found.set k.toNat true,s.todo++[k]⟩ else if s.l k=now then da now r s else .inr k
def fZ (g:cD):Nat→HS→Nat→List (List Int)×Int
 |0,s,_=>(s.cE,-1)
 |f+1,s,k=>if k<s.todo.length then(match df (g.nd (s.todo.getD k 0).toNat) (s.l (s.todo.getD k 0)) with
  |none=>([],s.todo.getD k 0)
  |some now=>match da now (g.nd (s.todo.getD k 0).toNat).oI s with
   | .inl s'=>fZ g f s' (k+1)
   | .inr at_=>([],at_)) else(s.cE,-1)
def wE (g:cD):HS:=⟨List.replicate g.nodes.length [],(List.replicate g.nodes.length false).set 0 true,[0]⟩
def eL (g:cD):List (List Int)×Int:=fZ g (g.nodes.length+1) (wE g) 0
def nk (u:bu) (g:cD):Option Int:=
 if g.locals<0∨g.locals>64∨g.bz<g.locals∨g.bz>4160∨g.nodes.length<1∨g.nodes.length>4096 then some 0 else
 match fj (mF u g) g.nodes 0 with
 |some i=>some (i:Int)
 |none=>if 0≤(eL g).2 then some (eL g).2 else none
def fS (u:bu):List cD→Nat→Int×Int×Int
 |[],_=>(0,0,0)
 |g::r,t=>match nk u g with
  |some k=>(60,t,k)
  |none=>fS u r (t+1)
end Go.Proofs.YtjopoheligmmoaaGreatDoor
end
section
/- What is reached, in plain data. -/
namespace Go.Proofs.YtjopoheligmmoaaGreatDoor
open Go Go.cY Go.Proofs
set_option linter.unusedSimpArgs false
set_option linter.unusedVariables false
theorem IM {α:Type} (F:List Int→α) (n:Node) (h:∀a,F [a,a]=F [a]):F n.fold=F n.oI:=by
 unfold Node.fold Node.oI
 by_cases h9:n.kind=9
 ·rw[if_pos h9,if_pos h9]
 ·rw[if_neg h9,if_neg h9]
  by_cases h8:n.kind=8
  ·rw[if_pos h8]
   by_cases he:n.sH=n.next
   ·rw[if_neg (fun h=>h.2 he),he,h]
   ·rw[if_pos ⟨h8,he⟩]
  ·rw[if_neg h8,if_neg (fun h=>h8 h.1)]
abbrev mc (out:List Bool) (k:Int):Bool:=out.getD k.toNat false
def jx:List Int→List Bool×List Int→List Bool×List Int
 |[],s=>s
 |k::r,s=>if mc s.1 k=false then jx r (s.1.set k.toNat true,s.2++[k]) else jx r s
theorem D3 (a:Int) (s:List Bool×List Int) (h:a.toNat<s.1.length):jx [a,a] s=jx [a] s:=by
 simp only[jx]
 by_cases h1:mc s.1 a=false
 ·rw[if_pos h1,if_pos h1,if_neg (by simp[mc,List.getD,h])]
 ·simp only[if_neg h1]
structure UU (l:List Int) (s s':List Bool×List Int):Prop where
 len:s'.1.length=s.1.length
 gN:∀k,mc s.1 k=true→mc s'.1 k=true
 new:∀k,0≤k→mc s'.1 k=true→mc s.1 k=true∨k∈l
 all:∀k∈l,mc s'.1 k=true
 more:∃t,s'.2=s.2++t∧(∀k∈t,k∈l∧mc s'.1 k=true)∧(∀k,0≤k→mc s'.1 k=true→mc s.1 k=true∨k∈t)∧s'.1.count false+t.length=s.1.count false
theorem count_set {l:List Bool} {i:Nat} (h:i<l.length) (hf:l.getD i false=false):(l.set i true).count false+1=l.count false:=by
 have h1:l[i]=false:=by simpa[List.getD,h] using hf
 rw[List.count_set h,h1]
 have:0<l.count false:=List.count_pos_iff.2 (h1▸List.getElem_mem h)
 simp
 omega
theorem lB {l:List Bool} {i:Nat} (h:i<l.length) (k:Int):mc (l.set i true) k=if k.toNat=i then true else mc l k:=by
 unfold mc
 simp only[List.getD,List.getElem?_set]
 by_cases hk:k.toNat=i
 ·rw[if_pos hk.symm,if_pos hk];simp[h]
 ·rw[if_neg (fun e=>hk e.symm),if_neg hk]
theorem je:∀(l:List Int) (s:List Bool×List Int),(∀k∈l,0≤k∧k.toNat<s.1.length)→UU l s (jx l s)
 |[],s,_=>⟨rfl,fun _ h=>h,fun _ _ h=> .inl h,fun _ h=>by simp at h,[],by simp[jx],fun _ h=>by simp at h,fun _ _ h=> .inl h,by simp[jx]⟩
 |k::r,s,h=>by
  obtain⟨hk0,hk⟩:=h k (by simp)
  have hr:=fun x hx=>h x (List.mem_cons_of_mem _ hx)
  rw[jx]
  by_cases h1:mc s.1 k=false
  ·rw[if_pos h1]
   have ih:=je r (s.1.set k.toNat true,s.2++[k]) (fun x hx=>by simpa using hr x hx)
   have hset:=lB (l:=s.1) hk
   obtain⟨t,t1,t2,t3,t4⟩:=ih.more
   have hkk:mc (jx r (s.1.set k.toNat true,s.2++[k])).1 k=true:=ih.gN k (by rw[hset,if_pos rfl])
   refine⟨ih.len.trans (by simp),fun x hx=>ih.gN x (by rw[hset];split<;>first|rfl|exact hx),fun x hx0 hx=> ?_,fun x hx=> ?_,k::t,by rw[t1];simp,fun x hx=> ?_,fun x hx0 hx=> ?_, ?_⟩
   ·rcases ih.new x hx0 hx with h2|h2
    ·rw[hset] at h2
     split at h2
     ·rename_i e;exact .inr (by rw[show x=k by omega];simp)
     ·exact .inl h2
    ·exact .inr (List.mem_cons_of_mem _ h2)
   ·rcases List.mem_cons.1 hx with rfl|hx
    ·exact hkk
    ·exact ih.all x hx
   ·rcases List.mem_cons.1 hx with rfl|hx
    ·exact⟨by simp,hkk⟩
    ·exact⟨List.mem_cons_of_mem _ (t2 x hx).1,(t2 x hx).2⟩
   ·rcases t3 x hx0 hx with h2|h2
    ·rw[hset] at h2
     split at h2
     ·rename_i e;exact .inr (by rw[show x=k by omega];simp)
     ·exact .inl h2
    ·exact .inr (List.mem_cons_of_mem _ h2)
   ·have:=count_set hk h1
    rw[List.length_cons]
    dsimp only at t4
    omega
  ·rw[if_neg h1]
   have hkt:mc s.1 k=true:=by simpa using h1
   have ih:=je r s hr
   obtain⟨t,t1,t2,t3,t4⟩:=ih.more
   refine⟨ih.len,ih.gN,fun x hx0 hx=>(ih.new x hx0 hx).imp id (List.mem_cons_of_mem _),fun x hx=> ?_,t,t1,fun x hx=>⟨List.mem_cons_of_mem _ (t2 x hx).1,(t2 x hx).2⟩,t3,t4⟩
   rcases List.mem_cons.1 hx with rfl|hx
   ·exact ih.gN _ hkt
   ·exact ih.all x hx
inductive l5 (g:cD) (cut:Int):Int→Prop where
 |zero:l5 g cut 0
 |step {i k:Int}:l5 g cut i→i≠cut→k∈(g.nd i.toNat).oI→l5 g cut k
structure lO (g:cD) (cut:Int) (out:List Bool) (pend:List Int):Prop where
 len:out.length=g.nodes.length
 zero:mc out 0=true
 oU:∀k,0≤k→mc out k=true→l5 g cut k
 inr:∀k∈pend,0≤k∧k.toNat<out.length∧mc out k=true
 done:∀k,0≤k→k.toNat<out.length→mc out k=true→k∉pend→k≠cut→∀j∈(g.nd k.toNat).oI,mc out j=true
open Classical in
noncomputable def fY (g:cD) (cut:Int):List Bool:=(List.range g.nodes.length).map fun(i:Nat)=>decide (l5 g cut (i:Int))
theorem DG (g:cD) (cut:Int):(fY g cut).length=g.nodes.length:=by simp[fY]
theorem DF (g:cD) (cut:Int) {i:Nat} (h:i<g.nodes.length):(fY g cut).getD i false=true↔l5 g cut i:=by simp[fY,List.getD,h]
def Whole (g:cD):Prop:=1≤g.nodes.length∧g.nodes.length≤4096∧∀i,i<g.nodes.length→1≤(g.nd i).kind∧(g.nd i).kind<10∧∀k∈(g.nd i).oI,0≤k∧k.toNat<g.nodes.length
theorem K1 {g:cD}:lM g=true↔Whole g:=by
 unfold lM Whole tI
 simp only[Bool.and_eq_true,decide_eq_true_eq,List.all_eq_true,and_assoc]
 refine and_congr Iff.rfl (and_congr Iff.rfl ⟨fun h i hi=> ?_,fun h n hn=> ?_⟩)
 ·have:=h (g.nd i) (cS _ hi)
  exact⟨this.1,this.2.1,fun k hk=>by have:=this.2.2 k hk;omega⟩
 ·obtain⟨i,hi,rfl⟩:=List.getElem_of_mem hn
  have:=h i hi
  rw[show g.nd i=g.nodes[i] by simp[List.getD,hi]] at this
  exact⟨this.1,this.2.1,fun k hk=>by have:=this.2.2 k hk;omega⟩
theorem lO.start {g:cD} {cut:Int} (h:Whole g):lO g cut ((List.replicate g.nodes.length false).set 0 true) [0]:=by
 have hl:=h.1
 have hz:∀k,mc ((List.replicate g.nodes.length false).set 0 true) k=true→k.toNat=0:=fun k hk=>by
  rw[lB (by simp;omega)] at hk
  split at hk
  ·assumption
  ·simp only[mc,List.getD,List.getElem?_replicate] at hk
   split at hk<;>simp at hk
 refine⟨by simp,by rw[lB (by simp;omega)];simp,fun k h0 hk=> ?_,fun k hk=> ?_,fun k h0 h1 hk hn=> ?_⟩
 ·rw[show k=0 by have:=hz k hk;omega];exact .zero
 ·simp only[List.mem_cons,List.not_mem_nil,or_false] at hk
  subst hk
  exact⟨by omega,by simp;omega,by rw[lB (by simp;omega)];simp⟩
 ·exact absurd (by rw[show k=0 by have:=hz k hk;omega];simp) hn
theorem lO.on {g:cD} {cut:Int} (h:Whole g) {out:List Bool} {pend:List Int} {at_:Int} {a b:List Int} (hp:pend=a++at_::b) (hg:lO g cut out pend) (hc:at_≠cut) {t:List Int} {s:List Bool×List Int} (hs:jx (g.nd at_.toNat).oI (out,t)=s) {t2:List Int} (ht2:s.2=t++t2):lO g cut s.1 (a++b++t2):=by
 obtain⟨i1,i2,i3⟩:=hg.inr at_ (by rw[hp];simp)
 have hfol:=(h.2.2 at_.toNat (by rw[←hg.len];exact i2)).2.2
 have sp:=je (g.nd at_.toNat).oI (out,t) (fun k hk=>by have:=hfol k hk;rw[←hg.len] at this;exact this)
 rw[hs] at sp
 obtain⟨t3,e1,e2,e3,e4⟩:=sp.more
 have:t2=t3:=by rw[ht2] at e1;exact List.append_cancel_left e1
 subst this
 have hl:s.1.length=out.length:=sp.len
 refine⟨hl.trans hg.len,sp.gN _ hg.zero,fun k h0 hk=> ?_,fun k hk=> ?_,fun k h0 h1 hk hn hkc j hj=> ?_⟩
 ·rcases sp.new k h0 hk with h1|h1
  ·exact hg.oU k h0 h1
  ·exact .step (hg.oU at_ i1 i3) hc h1
 ·rcases List.mem_append.1 hk with hk|hk
  ·have h1:=hg.inr k (by rw[hp];rcases List.mem_append.1 hk with h|h<;>simp[h])
   exact⟨h1.1,by rw[hl];exact h1.2.1,sp.gN _ h1.2.2⟩
  ·have h1:=hfol k (e2 k hk).1
   exact⟨h1.1,by rw[hl,hg.len];exact h1.2,(e2 k hk).2⟩
 ·by_cases hka:k=at_
  ·subst hka;exact sp.all j hj
  ·rcases e3 k h0 hk with h2|h2
   ·refine sp.gN _ (hg.done k h0 (by rw[←hl];exact h1) h2 (fun hm=> ?_) hkc j hj)
    rw[hp] at hm
    simp only[List.mem_append,List.mem_cons] at hm
    rcases hm with hm|hm|hm
    ·exact hn (by simp[hm])
    ·exact hka hm
    ·exact hn (by simp[hm])
   ·exact absurd (List.mem_append_right _ h2) hn
theorem lO.cut {g:cD} {cut:Int} {out:List Bool} {pend a b:List Int} (hp:pend=a++cut::b) (hg:lO g cut out pend):lO g cut out (a++b):=by
 refine⟨hg.len,hg.zero,hg.oU,fun k hk=>hg.inr k (by rw[hp];rcases List.mem_append.1 hk with h|h<;>simp[h]),fun k h0 h1 hk hn hkc=>hg.done k h0 h1 hk (fun hm=> ?_) hkc⟩
 rw[hp] at hm
 simp only[List.mem_append,List.mem_cons] at hm
 rcases hm with hm|hm|hm
 ·exact hn (by simp[hm])
 ·exact hkc hm
 ·exact hn (by simp[hm])
theorem lO.fin {g:cD} {cut:Int} (h:Whole g) {out:List Bool} (hg:lO g cut out []):out=fY g cut:=by
 have hall:∀k,l5 g cut k→0≤k∧k.toNat<g.nodes.length∧mc out k=true:=fun k hk=>by
  induction hk with
  |zero=>exact⟨by omega,by have:=h.1;simp;omega,hg.zero⟩
  |@step i k hi hc hk ih=>
   obtain⟨i1,i2,i3⟩:=ih
   have h1:=(h.2.2 i.toNat i2).2.2 k hk
   exact⟨h1.1,h1.2,hg.done i i1 (by rw[hg.len];exact i2) i3 (by simp) hc k hk⟩
 apply List.ext_getElem
 ·rw[hg.len,DG]
 ·intro i h1 h2
  have hi:i<g.nodes.length:=by rw[←hg.len];exact h1
  have e1:out[i]=mc out (i:Int):=by simp[mc,List.getD,h1]
  have e2:(fY g cut)[i]=(fY g cut).getD i false:=by simp[List.getD,h2]
  rw[e1,e2,Bool.eq_iff_iff,DF g cut hi]
  exact⟨fun hf=>hg.oU _ (by omega) hf,fun hf=>(hall _ hf).2.2⟩
end Go.Proofs.YtjopoheligmmoaaGreatDoor
end
section
/- Lists that are handed back; small functions. -/
namespace Go.cY
open Go.RowKit
theorem aR {α:Type} {g:Option Bool} {x:Option α} {K:α→Prop} {a:α} (h:Gd g→x=some a) (k:Go (K a)):jD g x K:=jD.of h k
theorem dI.refl (c:Cx):∀bs:List AV,dI c c bs bs
 |[]=> .nil
 |_::bs=> .cons (fun _ hv=>hv) (dI.refl c bs)
theorem dI.map {α:Type} {c:Cx} {f g:α→AV} (h:∀a,dN c c (f a) (g a)):∀l:List α,dI c c (l.map f) (l.map g)
 |[]=> .nil
 |a::l=> .cons (h a) (dI.map h l)
theorem Pure.args {P:Program} {f:FuncId} {bs bs2:List AV} {R:AV→Prop} (h:Pure P f bs2 R) (hle:∀c,dI c c bs bs2):Pure P f bs R:=
 ⟨h.1,fun M w vs hM hv=>h.2 M w vs hM ((hle _).ZG hv)⟩
theorem cJ.args {P:Program} {f:FuncId} {bs bs2:List AV} {H:Hp} {nx:Nat} {R:AV→Hp→Nat→Prop} (h:cJ P f bs2 H nx R) (hle:∀c,dI c c bs bs2):cJ P f bs H nx R:=
 ⟨h.1,fun w0 c vs h1 h2 h3 hv=>h.2 w0 c vs h1 h2 h3 ((hle _).ZG hv)⟩
theorem iF {P:Program} {f:FuncId} {args:List AV} {a b:AV} (h:Pure P f args (fun r=>r=a)) (hf:cK 0 b) (hle:∀c,dN c c a b):Pure P f args (fun r=>r=b):=
 ⟨h.1,fun M w vs hM hv=>(h.2 M w vs hM hv).mono fun _ _ ⟨v,r,he,hR,hf0,hvr,hb⟩=>⟨v,b,he,rfl,hf,hle _ v (by rw[←hR];exact hvr),hb⟩⟩
theorem dN.lW (c c2:Cx) (sz:Nat) (d:AV):dN c c2 (.sc (.slice none 0 0)) (.im sz d []):=by
 intro v hv
 rw[VR] at hv
 subst hv
 rw[VR]
 exact⟨none,0,rfl,by simp, .inl rfl⟩
def rK (H:Hp) (nx:Nat) (e:TypeId) (sz:Nat) (es:List AV):AV→Hp→Nat→Prop:=fun r H' n=>∃b' d',r= .sl b' es.length∧nx≤b'∧b'<n∧nx≤n∧bt H' b'=some (.row e sz d' es)∧∀b,b<nx→bt H' b=bt H b
theorem rK.of {P:Program} {f:FuncId} {args:List AV} {H:Hp} {nx:Nat} {e:TypeId} {sz:Nat} {es:List AV} (hsz:0<sz) (h:cJ P f args H nx (fun r H' n=>(r= .sc (.slice none 0 0)∧es=[]∧nx≤n∧∀b,b<nx→bt H' b=bt H b)∨rK H nx e sz es r H' n)):cJ P f args H nx (rK H nx e sz es):=by
 refine h.wk ?_
 rintro r H' n (⟨rfl,rfl,h1,h2⟩|h1)
 ·refine⟨_,_,_,Wk.nil (nx:=n) e sz .any hsz,n, .any,rfl,h1,Nat.lt_succ_self _,by omega,cp _ _ _,fun b hb=> ?_⟩
  rw[cX (by omega)];exact h2 b hb
 ·exact⟨r,H',n,Wk.refl _ _ _,h1⟩
end Go.cY
namespace Go.Proofs.YtjopoheligmmoaaGreatDoor
open Go Go.cY Go.Proofs
set_option linter.unusedSimpArgs false
set_option linter.unusedVariables false
def fW (l:List Int):AV:= .im 1 .any (l.map i64)
def E9 (l:List Bool):AV:= .im 1 .any (l.map bl)
theorem dH {P:Program} {f:FuncId} {args:List AV} {u:AV} (h:cJ P f args [] 0 (fun r H _=>cY.dW H 6 r=u)) (hf:cK 0 u):Pure P f args (fun r=>r=u):=by
 refine⟨h.1,fun M w vs hM hv=> ?_⟩
 have hS:dX w ⟨fun _=>none,bt [],fun _=>False,w,M⟩:=⟨⟨rfl,rfl,rfl,Nat.le_refl _,fun _ _=>rfl⟩,hM,fun b e sz d es he=>by simp[bt] at he,fun b b' k k' blk o z o' z' hk=>by simp[bt] at hk⟩
 refine(h.2 w _ vs hS rfl (fun _ h=>h.elim) hv).mono ?_
 rintro en w' ⟨v1,r1,H1,nx',ρ,U,he,hz,hU,hS',_,g2⟩
 have h3:=kN hS' rfl 6 (a:=r1) (v:=v1) (by rw[hz];exact hf) g2
 rw[hz] at h3
 exact⟨v1,_,he,rfl,hf,h3,hS'.below⟩
theorem pure_or {P:Program} {f:FuncId} {args:List AV} {u v:AV} (h:cJ P f args [] 0 (fun r H _=>cY.dW H 6 r=u∨cY.dW H 6 r=v)) (hu:cK 0 u) (hv:cK 0 v):Pure P f args (fun r=>r=u∨r=v):=by
 refine⟨h.1,fun M w vs hM hv'=> ?_⟩
 have hS:dX w ⟨fun _=>none,bt [],fun _=>False,w,M⟩:=⟨⟨rfl,rfl,rfl,Nat.le_refl _,fun _ _=>rfl⟩,hM,fun b e sz d es he=>by simp[bt] at he,fun b b' k k' blk o z o' z' hk=>by simp[bt] at hk⟩
 refine(h.2 w _ vs hS rfl (fun _ h=>h.elim) hv').mono ?_
 rintro en w' ⟨v1,r1,H1,nx',ρ,U,he,hz,hU,hS',_,g2⟩
 rcases hz with hz|hz
 ·have h3:=kN hS' rfl 6 (a:=r1) (v:=v1) (by rw[hz];exact hu) g2
  rw[hz] at h3
  exact⟨v1,_,he, .inl rfl,hu,h3,hS'.below⟩
 ·have h3:=kN hS' rfl 6 (a:=r1) (v:=v1) (by rw[hz];exact hv) g2
  rw[hz] at h3
  exact⟨v1,_,he, .inr rfl,hv,h3,hS'.below⟩
theorem G9 {P:Program} {f:FuncId} {args:List AV} {u v:AV} (h:Pure P f args (fun r=>r=u∨r=v)) (hv:cK 0 v) (hle:∀c,dN c c u v):Pure P f args (fun r=>r=v):=
 ⟨h.1,fun M w vs hM hv'=>(h.2 M w vs hM hv').mono fun en w' ⟨x,r,h2,h3,h4,h5,h6⟩=>by
  rcases h3 with rfl|rfl
  ·exact⟨x,_,h2,rfl,hv,hle _ _ h5,h6⟩
  ·exact⟨x,_,h2,rfl,hv,h5,h6⟩⟩
theorem mu {P:Program} {f:FuncId} {args:List AV} {sz:Nat} {es:List AV} (hf:cK 0 (.im sz .any es)) (h:cJ P f args [] 0 (fun r H _=>cY.dW H 6 r= .sc (.slice none 0 0)∧es=[]∨cY.dW H 6 r= .im sz .any es)):Pure P f args (fun r=>r= .im sz .any es):=by
 by_cases hl:es=[]
 ·subst hl
  exact G9 (pure_or (h.mono fun r H n h=>h.imp (·.1) id) (by simp[cK,cZ]) hf) hf (fun c=>cY.dN.lW c c _ _)
 ·exact dH (h.mono fun r H n h=>h.elim (fun h=>absurd h.2 hl) id) hf
theorem fm (op:Int):Pure Tryz.prog 196 [u8 op] (fun r=>r=bl (decide (0<op∧op<19))):=by
 refine aI yy rfl ?_
 repeat' (first|((with_reducible refine aF ?_);conv=>whnf)|refine aG ?_|exact aC|with_reducible refine aD ?_ ?_|(apply aB;(·exact cR))|refine aH ?_|((with_reducible refine aA ?_ ?_)<;>intro hc<;>(try simp only[List.length_map,ne_eq,dZ] at hc)<;>try(exfalso;omega)))
 simp only[decide_eq_true_eq]
 exact ez (by by_cases h:0<op<;>simp[h])
theorem eW (c:Int):Pure Tryz.prog 163 [u8 c] (fun r=>r=bl (decide (48≤c)&&decide (c≤57))):=by
 refine aI ym rfl ?_
 repeat' (first|((with_reducible refine aF ?_);conv=>whnf)|refine aG ?_|exact aC|with_reducible refine aD ?_ ?_|(apply aB;(·exact cR))|refine aH ?_|((with_reducible refine aA ?_ ?_)<;>intro hc<;>(try simp only[List.length_map,ne_eq,dZ] at hc)<;>try(exfalso;omega)))
 all_goals simp_all[dZ]
set_option maxHeartbeats 1000000 in
theorem lC (n:Node):Pure Tryz.prog 120 [n.av] (fun r=>r=fW n.fold):=by
 refine mu (by simp[cK,cC]) ?_
 refine aL y7 rfl ?_
 repeat' (first|((with_reducible refine aF ?_);conv=>whnf)|refine aG ?_|exact gE|with_reducible refine aD ?_ ?_|((with_reducible refine Ask.mk ?_);first|exact dw|exact dB|(intro h;simp_all[Node.cells]<;>fail)|(simp_all[Node.cells]<;>fail))|(apply aB;(·exact cR))|refine aH ?_|((with_reducible refine aA ?_ ?_)<;>intro hc<;>(try simp only[List.length_map,ne_eq,dZ] at hc)<;>try(exfalso;omega)))
 all_goals refine⟨?_⟩
 all_goals first|exact .inl ⟨rfl,by simp_all[Node.fold]⟩|(refine .inr ((dh bx (by simp)).trans ?_);rw[cx _ (by simp[cZ,cK])];first|(simp_all[fW,Node.fold];done)|(unfold Node.fold;rw[if_neg (by assumption),if_neg (fun h=>hc.elim (fun a=>a h.1) (fun a=>h.2 a))];rfl))
end Go.Proofs.YtjopoheligmmoaaGreatDoor
end
section
/- Is a node right? -/
namespace Go.Proofs.YtjopoheligmmoaaGreatDoor
open Go Go.cY Go.Proofs
set_option linter.unusedSimpArgs false
set_option linter.unusedVariables false
theorem k7 {f:FuncId} {args:List AV} {u:AV} (hu:cK 0 u) (h:(vR TT 30 f args [] 0).map (fun q=>dW q.2.1 6 q.1)=some u):Pure Tryz.prog f args (fun r=>r=u):=by
 simp only[Option.map_eq_some_iff] at h
 obtain⟨⟨r,H',nx'⟩,h1,h2⟩:=h
 simp only at h2
 have h0:=oE hTT 30 _ _ _ _ _ _ _ h1
 have h3:=cJ.pure (H':=H') (h0.mono fun r H n ⟨h1,h2,_⟩=>⟨h1,h2⟩) (by rw[h2];exact hu)
 exact h3.mono fun r hr=>by rw[hr,h2]
theorem fP (op:Int) (h0:0≤op):Pure Tryz.prog 159 [u8 op] (fun r=>r=bl (eA op)):=by
 refine aI yi rfl ?_
 repeat' (first|((with_reducible refine aF ?_);conv=>whnf)|refine aG ?_|exact aC|with_reducible refine aD ?_ ?_|(apply aB;(·exact cR))|((with_reducible refine aQ (fm _) ?_ ?_);(·exact cF))|((with_reducible refine aP (fun _=>fm _) ?_ ?_);(·exact cF))|((with_reducible refine aN (fm _) ?_ ?_);(·exact cF))|((with_reducible refine aO (fun _=>fm _) ?_ ?_);(·exact cF))|refine aH ?_|((with_reducible refine aA ?_ ?_)<;>intro hc<;>(try simp only[List.length_map,ne_eq,dZ] at hc)<;>try(exfalso;omega)))
 refine ez ?_
 unfold eA
 by_cases h1:0<op<;>by_cases h2:op<19<;>by_cases h3:op=17<;>by_cases h4:op=18<;>simp[h1,h2,h3,h4]<;>omega
def mask (k op:Int):Int:=if k=1 then(if eA op=true then 59 else 43) else if k=2 then 38 else if k=3 then 44 else if k=4 then 46 else if k=5 then 36 else if k=6 then 36 else if k=7 then 40 else if k=8 then 104 else 0
set_option maxRecDepth 100000 in
theorem DA (n:Node) (hn:n.Wf) (h:1≤n.kind∧n.kind<10):Pure Tryz.prog 116 [n.av] (fun r=>r=u8 (mask n.kind n.op)):=by
 obtain⟨h0,h1⟩:=h
 have ho:=hn.op.1
 obtain⟨kind,op,slot,cP,a,b,next,sH,origin⟩:=n
 simp only at h0 h1 ho
 have hk:kind=1∨kind=2∨kind=3∨kind=4∨kind=5∨kind=6∨kind=7∨kind=8∨kind=9:=by omega
 rcases hk with rfl|rfl|rfl|rfl|rfl|rfl|rfl|rfl|rfl
 ·refine aI yX rfl ?_
  repeat' (first|((with_reducible refine aF ?_);conv=>whnf)|refine aG ?_|exact aC|with_reducible refine aD ?_ ?_|(apply aB;(·exact cR))|((with_reducible refine aQ (fP _ ho) ?_ ?_);(·exact cF))|((with_reducible refine aP (fun _=>fP _ ho) ?_ ?_);(·exact cF))|((with_reducible refine aN (fP _ ho) ?_ ?_);(·exact cF))|((with_reducible refine aO (fun _=>fP _ ho) ?_ ?_);(·exact cF))|refine aH ?_|((with_reducible refine aA ?_ ?_)<;>intro hc<;>(try simp only[List.length_map,ne_eq,dZ] at hc)<;>try(exfalso;omega)))
  all_goals
   cases ht:eA op with
   |true=>
    rw[ht] at hc
    first|(exact absurd rfl hc)|(exact absurd hc (by decide))|(simp only[show mask 1 op=59 by simp[mask,ht]];try kernel_rfl)
   |false=>
    rw[ht] at hc
    first|(exact absurd rfl hc)|(exact absurd hc (by decide))|(simp only[show mask 1 op=43 by simp[mask,ht]];try kernel_rfl)
 iterate 8 exact k7 (by simp[cK,cZ]) (by kernel_rfl)
theorem l3.default_eq:(default:l3)=⟨false,0,0⟩:=rfl
def iW (m u:Int):Int:=IntKind.u8.wrap (BitVec.ofInt IntKind.u8.bits m&&& BitVec.ofInt IntKind.u8.bits u).toNat
theorem qj (k u most m:Int) (b:Nat) (H:Hp) (nx:Nat) (e:TypeId) (d:AV) (hb:bt H b=some (.row e 1 d [u8 m])):vV Tryz.prog 117 [i64 k,u8 u,i64 most, .pt b 1 0 0] H nx (bl (qH k (decide (iW m u≠0)) most)):=by
 refine aa yY rfl ?_
 repeat' (first|((with_reducible refine aF ?_);conv=>whnf)|refine aG ?_|exact aC|with_reducible refine aD ?_ ?_|(apply aB;(·exact cR))|refine aH ?_|((with_reducible refine aA ?_ ?_)<;>intro hc<;>(try simp only[List.length_map,ne_eq,dZ] at hc)<;>try(exfalso;omega)))
 refine LA.look ?_ xG
 simp only[show IntKind.u8.wrap (BitVec.ofInt IntKind.u8.bits m&&& BitVec.ofInt IntKind.u8.bits u).toNat=iW m u from rfl,qH]
 by_cases h1:iW m u=0<;>by_cases h2:k=0<;>by_cases h3:0≤k<;>by_cases h4:k<most<;>simp[h1,h2,h3,h4]
theorem tN (v:l3) (u m:Int) (g:cD) (b c:Nat) (H:Hp) (nx:Nat) (e e2:TypeId) (d d2:AV) (hb:bt H b=some (.row e 1 d [u8 m])) (hc:bt H c=some (.row e2 4 d2 [g.av])) (hbn:b<nx) (hcn:c<nx):vV Tryz.prog 118 [v.av,u8 u, .pt b 1 0 0, .pt c 1 0 0] H nx (bl (tv v (decide (iW m u≠0)) g.bz)):=by
 refine aa yZ rfl ?_
 repeat' (first|((with_reducible refine aF ?_);conv=>whnf)|refine aG ?_|exact gE|with_reducible refine aD ?_ ?_|((with_reducible refine Ask.mk ?_);first|exact dw|exact dB|(intro h;simp_all[l3.cells,cD.cells]<;>fail)|(simp_all[l3.cells,cD.cells]<;>fail))|(apply aB;(·exact cR))|refine aH ?_|((with_reducible refine aA ?_ ?_)<;>intro hc<;>(try simp only[List.length_map,ne_eq,dZ] at hc)<;>try(exfalso;omega)))
 all_goals refine LA.look ?_ xG
 all_goals simp only[show IntKind.u8.wrap (BitVec.ofInt IntKind.u8.bits m&&& BitVec.ofInt IntKind.u8.bits u).toNat=iW m u from rfl] at *
 all_goals unfold tv
 ·rw[if_neg (show ¬decide (iW m u≠0)=true by simp[hc])]
  obtain⟨is,sl,wo⟩:=v
  refine ez ?_
  rw[Bool.eq_iff_iff]
  simp[l3.default_eq,and_assoc]
 ·rename_i h0
  rw[decide_eq_true hc,if_pos rfl,if_pos h0]
  refine ez ?_
  by_cases h1:0≤v.slot<;>by_cases h2:v.slot<g.bz<;>simp[h1,h2]
 ·rename_i h0
  rw[decide_eq_true hc,if_pos rfl,if_neg (by rw[h0];decide)]
theorem JX (k op:Int) (h:1≤k∧k<10):(iW (mask k op) 1=0↔¬k=1)∧(decide (iW (mask k op) 2≠0)=k9 k)∧(decide (iW (mask k op) 4≠0)=fw k)∧(decide (iW (mask k op) 8≠0)=vL k)∧(decide (iW (mask k op) 16≠0)=(decide (k=1)&&eA op))∧(decide (iW (mask k op) 32≠0)=jV k)∧(decide (iW (mask k op) 64≠0)=decide (k=8)):=by
 have hk:k=1∨k=2∨k=3∨k=4∨k=5∨k=6∨k=7∨k=8∨k=9:=by omega
 rcases hk with rfl|rfl|rfl|rfl|rfl|rfl|rfl|rfl|rfl
 ·cases ht:eA op with
  |false=>rw[show mask 1 op=43 by simp[mask,ht]];decide
  |true=>rw[show mask 1 op=59 by simp[mask,ht]];decide
 ·rw[show mask 2 op=38 by rfl,show(decide ((2:Int)=1)&&eA op)=false by rfl];decide
 ·rw[show mask 3 op=44 by rfl,show(decide ((3:Int)=1)&&eA op)=false by rfl];decide
 ·rw[show mask 4 op=46 by rfl,show(decide ((4:Int)=1)&&eA op)=false by rfl];decide
 ·rw[show mask 5 op=36 by rfl,show(decide ((5:Int)=1)&&eA op)=false by rfl];decide
 ·rw[show mask 6 op=36 by rfl,show(decide ((6:Int)=1)&&eA op)=false by rfl];decide
 ·rw[show mask 7 op=40 by rfl,show(decide ((7:Int)=1)&&eA op)=false by rfl];decide
 ·rw[show mask 8 op=104 by rfl,show(decide ((8:Int)=1)&&eA op)=false by rfl];decide
 ·rw[show mask 9 op=0 by rfl,show(decide ((9:Int)=1)&&eA op)=false by rfl];decide
set_option maxRecDepth 4000 in
set_option maxHeartbeats 2000000 in
theorem DM (u:bu) (g:cD) (n:Node) (hn:n.Wf):Pure Tryz.prog 72 [u.av,g.av,n.av] (fun r=>r=bl (mF u g n)):=by
 refine aI OH rfl ?_
 have h0:=hn.kind.1
 have ho:=hn.op.1
 by_cases hk:1≤n.kind∧n.kind<10∧0≤n.origin∧n.origin<4096
 ·have hp:=DA n hn ⟨hk.1,hk.2.1⟩
  obtain⟨m1,m2,m3,m4,m5,m6,m7⟩:=JX n.kind n.op ⟨hk.1,hk.2.1⟩
  repeat' (first|((with_reducible refine aF ?_);conv=>whnf)|refine aG ?_|exact gE|with_reducible refine aD ?_ ?_|((with_reducible refine Ask.mk ?_);first|exact dw|exact dB|(intro h;simp_all[bu.cells,cD.cells,Node.cells]<;>fail)|(simp_all[bu.cells,cD.cells,Node.cells]<;>fail))|(apply aB;(·exact cR))|refine aK (hp) ?_|((refine aY (qj _ _ _ _ _ _ _ _ _ (by exact rfl)) ?_ ?_);(·exact True.intro))|((refine aX (fun _=>qj _ _ _ _ _ _ _ _ _ (by exact rfl)) ?_ ?_);(·exact True.intro))|((refine aY (tN ⟨_,_,_⟩ _ _ _ _ _ _ _ _ _ _ _ (by exact rfl) (by exact rfl) c8 c8) ?_ ?_);(·exact True.intro))|((refine aX (fun _=>tN ⟨_,_,_⟩ _ _ _ _ _ _ _ _ _ _ _ (by exact rfl) (by exact rfl) c8 c8) ?_ ?_);(·exact True.intro))|refine aH ?_|((with_reducible refine aA ?_ ?_)<;>intro hc<;>(try simp only[List.length_map,ne_eq,dZ] at hc)<;>try(exfalso;omega)))
  all_goals
   have hop:qH (IntKind.i64.wrap n.op) (decide (iW (mask n.kind n.op) 1≠0)) 19=(if n.kind=1 then decide (n.op<19) else decide (n.op=0)):=by
    have h2:=hn.op.2
    rw[wrap64 (by omega) (by omega)]
    unfold qH
    by_cases h1:n.kind=1
    ·rw[if_pos h1,if_pos (show decide (iW (mask n.kind n.op) 1≠0)=true by rw[decide_eq_true_eq];exact fun h=>m1.1 h h1),decide_eq_true ho,Bool.true_and]
    ·rw[if_neg h1,if_neg (show ¬decide (iW (mask n.kind n.op) 1≠0)=true by rw[decide_eq_true_eq];exact fun h=>h (m1.2 h1))]
   refine ez ?_
   rw[hop,m2,m3,m4,m5,m6,m7]
   unfold mF
   rw[decide_eq_true hk,Bool.true_and]
   simp only[hc,if_true,if_false,or_self,Bool.if_false_right,Bool.decide_eq_true,Bool.and_assoc]
   simp only[List.length_map]
   generalize qH n.slot (k9 n.kind) g.bz=x1
   have ea:(⟨n.a.jK,n.a.slot,n.a.word⟩:l3)=n.a:=rfl
   have eb:(⟨n.b.jK,n.b.slot,n.b.word⟩:l3)=n.b:=rfl
   rw[ea,eb]
   generalize tv n.a (vL n.kind) g.bz=x2
   generalize tv n.b (decide (n.kind=1)&&eA n.op) g.bz=x3
   generalize qH n.next (jV n.kind) g.nodes.length=x4
   generalize qH n.sH (decide (n.kind=8)) g.nodes.length=x5
   revert x1 x2 x3 x4 x5
   intro x1 x2 x3 x4 x5
   cases x1<;>cases x2<;>cases x3<;>cases x4<;>cases x5<;>simp
 ·have hb:mF u g n=false:=by unfold mF;rw[decide_eq_false hk];simp
  rw[hb]
  repeat' (first|((with_reducible refine aF ?_);conv=>whnf)|refine aG ?_|exact gE|with_reducible refine aD ?_ ?_|((with_reducible refine Ask.mk ?_);first|exact dw|exact dB|(intro h;simp_all[bu.cells,cD.cells,Node.cells]<;>fail)|(simp_all[bu.cells,cD.cells,Node.cells]<;>fail))|(apply aB;(·exact cR))|refine aH ?_|((with_reducible refine aA ?_ ?_)<;>intro hc<;>(try simp only[List.length_map,ne_eq,dZ] at hc)<;>try(exfalso;omega)))
  exact rfl
end Go.Proofs.YtjopoheligmmoaaGreatDoor
end
section
/- Names. -/
namespace Go.Proofs.YtjopoheligmmoaaGreatDoor
open Go Go.cY Go.Proofs
set_option linter.unusedSimpArgs false
set_option linter.unusedVariables false
def jI (c:Int):Bool:=decide (48≤c)&&decide (c≤57)
def mj (c:Int):Bool:=decide (97≤c)&&decide (c≤122)||decide (65≤c)&&decide (c≤90)||decide (c=95)
def P5:List ByteArray:=[⟨(List.toArray [115,104,97,114,101,100])⟩,⟨(List.toArray [108,111,99,107])⟩,⟨(List.toArray [116,104,114,101,97,100])⟩,⟨(List.toArray [108,111,99,97,108])⟩,⟨(List.toArray [105,102])⟩,⟨(List.toArray [101,108,115,101])⟩,⟨(List.toArray [119,104,105,108,101])⟩,⟨(List.toArray [112,114,105,110,116])⟩,⟨(List.toArray [115,107,105,112])⟩,⟨(List.toArray [115,119,97,112])⟩]
def vP (s:ByteArray):Bool:=P5.any (s==·)
theorem eI (c:Int):Pure Tryz.prog 165 [u8 c] (fun r=>r=bl (mj c)):=by
 refine aI yo rfl ?_
 repeat' (first|((with_reducible refine aF ?_);conv=>whnf)|refine aG ?_|exact aC|with_reducible refine aD ?_ ?_|(apply aB;(·exact cR))|refine aH ?_|((with_reducible refine aA ?_ ?_)<;>intro hc<;>(try simp only[List.length_map,ne_eq,dZ] at hc)<;>try(exfalso;omega)))
 refine ez ?_
 unfold mj
 by_cases h1:97≤c<;>by_cases h2:c≤122<;>by_cases h3:65≤c<;>by_cases h4:c≤90<;>by_cases h5:c=95<;>simp[h1,h2,h3,h4,h5]
theorem gO (s:ByteArray):Pure Tryz.prog 164 [st s] (fun r=>r=bl (vP s)):=by
 refine aI yn rfl ?_
 repeat' (first|((with_reducible refine aF ?_);conv=>whnf)|refine aG ?_|exact aC|with_reducible refine aD ?_ ?_|(apply aB;(·exact cR))|refine aH ?_|((with_reducible refine aA ?_ ?_)<;>intro hc<;>(try simp only[List.length_map,ne_eq,dZ] at hc)<;>try(exfalso;omega)))
 all_goals refine ez ?_
 all_goals simp_all[vP,P5]
def gL (s:ByteArray) (i:Nat):Int:=(s.data.toList.getD i 0).toNat
def lV (s:ByteArray):Bool:=decide (1≤s.size)&&decide (s.size≤32)&& !jI (gL s 0)&& !vP s&&(List.range s.size).all fun i=>mj (gL s i)||jI (gL s i)
theorem TP (s:ByteArray):(s==(⟨#[]⟩:ByteArray))=decide (s.size=0):=by
 obtain⟨d⟩:=s
 show(d==#[])=_
 rw[Bool.eq_iff_iff]
 show(d==#[])=true↔decide (d.size=0)=true
 simp
theorem J0 (s:ByteArray) (hs:s.size≤140737488351232):Pure Tryz.prog 115 [st s] (fun r=>r=bl (lV s)):=by
 refine aI yW rfl ?_
 have e0:=TP s
 by_cases hz:s.size=0
 ·have e1:(s==(⟨#[]⟩:ByteArray))=true:=by rw[e0,decide_eq_true hz]
  have hb:lV s=false:=by unfold lV;rw[decide_eq_false (by omega)];simp
  rw[hb]
  repeat' (first|((with_reducible refine aF ?_);conv=>whnf)|refine aG ?_|exact gE|with_reducible refine aD ?_ ?_|((with_reducible refine Ask.mk ?_);first|exact dw|((refine Ask.mk ?_);intro h;simp_all)|exact dB)|(apply aB;(·exact cR))|((with_reducible refine aQ (eW _) ?_ ?_);(·exact cF))|((with_reducible refine aP (fun _=>eW _) ?_ ?_);(·exact cF))|((with_reducible refine aN (eW _) ?_ ?_);(·exact cF))|((with_reducible refine aO (fun _=>eW _) ?_ ?_);(·exact cF))|((with_reducible refine aQ (gO _) ?_ ?_);(·exact cF))|((with_reducible refine aP (fun _=>gO _) ?_ ?_);(·exact cF))|((with_reducible refine aN (gO _) ?_ ?_);(·exact cF))|((with_reducible refine aO (fun _=>gO _) ?_ ?_);(·exact cF))|((with_reducible refine aQ (eI _) ?_ ?_);(·exact cF))|((with_reducible refine aP (fun _=>eI _) ?_ ?_);(·exact cF))|((with_reducible refine aN (eI _) ?_ ?_);(·exact cF))|((with_reducible refine aO (fun _=>eI _) ?_ ?_);(·exact cF))|(simp only[e1])|refine aH ?_|((with_reducible refine aA ?_ ?_)<;>intro hc<;>(try simp only[List.length_map,ne_eq,dZ] at hc)<;>try(exfalso;omega)))
  all_goals first|exact rfl|(exfalso;simp_all)
 ·have e1:(s==(⟨#[]⟩:ByteArray))=false:=by rw[e0,decide_eq_false hz]
  repeat' (first|((with_reducible refine aF ?_);conv=>whnf)|refine aG ?_|exact gE|with_reducible refine aD ?_ ?_|((with_reducible refine Ask.mk ?_);first|exact dw|((refine Ask.mk ?_);intro h;exact⟨by omega,by omega⟩)|exact dB)|(apply aB;(·exact cR))|((with_reducible refine aQ (eW _) ?_ ?_);(·exact cF))|((with_reducible refine aP (fun _=>eW _) ?_ ?_);(·exact cF))|((with_reducible refine aN (eW _) ?_ ?_);(·exact cF))|((with_reducible refine aO (fun _=>eW _) ?_ ?_);(·exact cF))|((with_reducible refine aQ (gO _) ?_ ?_);(·exact cF))|((with_reducible refine aP (fun _=>gO _) ?_ ?_);(·exact cF))|((with_reducible refine aN (gO _) ?_ ?_);(·exact cF))|((with_reducible refine aO (fun _=>gO _) ?_ ?_);(·exact cF))|((with_reducible refine aQ (eI _) ?_ ?_);(·exact cF))|((with_reducible refine aP (fun _=>eI _) ?_ ?_);(·exact cF))|((with_reducible refine aN (eI _) ?_ ?_);(·exact cF))|((with_reducible refine aO (fun _=>eI _) ?_ ?_);(·exact cF))|(simp only[e1])|refine aH ?_|((with_reducible refine aA ?_ ?_)<;>intro hc<;>(try simp only[List.length_map,ne_eq,dZ] at hc)<;>try(exfalso;omega)))
  ·refine ez (Eq.symm ?_)
   unfold lV
   have hp:(decide (1≤s.size)&&decide (s.size≤32)&& !jI (gL s 0)&& !vP s)=false:=by
    rcases hc with((h|h)|h)|h
    ·exact absurd h (by decide)
    ·simp[show ¬s.size≤32 by omega]
    ·have h:48≤gL s 0∧gL s 0≤57:=h
     simp[jI,h.1,h.2]
    ·simp[h]
   rw[hp,Bool.false_and]
  ·have hp:(decide (1≤s.size)&&decide (s.size≤32)&& !jI (gL s 0)&& !vP s)=true:=by
    obtain⟨h1,h2⟩:=hc
    have h3:¬(48≤gL s 0∧gL s 0≤57):=fun h=>h1 (.inr h)
    have h4:s.size≤32:=by
     have:¬(32:Int)<s.size:=fun h=>h1 (.inl (.inr h))
     omega
    have h5:jI (gL s 0)=false:=by
     unfold jI
     by_cases h:48≤gL s 0
     ·rw[decide_eq_true h,decide_eq_false (fun h'=>h3 ⟨h,h'⟩)];rfl
     ·rw[decide_eq_false h];rfl
    rw[decide_eq_true (by omega:1≤s.size),decide_eq_true h4,h5,h2];rfl
   have hb:∀R,(decide (1≤s.size)&&decide (s.size≤32)&& !jI (gL s 0)&& !vP s&&R)=R:=fun R=>by rw[hp,Bool.true_and]
   unfold lV
   rw[hb]
   clear hc hp hb e1 e0
   refine aM (fun i:Nat=>[(0,st s),(21,i64 s.size),(22,i64 i)]) (fun i H n=>i≤s.size∧∀j,j<i→(mj (gL s j)||jI (gL s j))=true) (fun i=>s.size - i) 0 cH ⟨Nat.zero_le _,fun _ h=>by omega⟩ ?_
   rintro i H n ⟨hi,hall⟩
   by_cases his:i<s.size
   ·repeat' (first|((with_reducible refine aF ?_);conv=>whnf)|refine aG ?_|exact gE|with_reducible refine aD ?_ ?_|((with_reducible refine Ask.mk ?_);first|exact dw|((refine Ask.mk ?_);intro h;exact⟨by omega,by omega⟩)|exact dB)|(apply aB;(·exact cR))|((with_reducible refine aQ (eW _) ?_ ?_);(·exact cF))|((with_reducible refine aP (fun _=>eW _) ?_ ?_);(·exact cF))|((with_reducible refine aN (eW _) ?_ ?_);(·exact cF))|((with_reducible refine aO (fun _=>eW _) ?_ ?_);(·exact cF))|((with_reducible refine aQ (eI _) ?_ ?_);(·exact cF))|((with_reducible refine aP (fun _=>eI _) ?_ ?_);(·exact cF))|((with_reducible refine aN (eI _) ?_ ?_);(·exact cF))|((with_reducible refine aO (fun _=>eI _) ?_ ?_);(·exact cF))|refine aH ?_|((with_reducible refine aA ?_ ?_)<;>intro hc<;>(try simp only[List.length_map,ne_eq,dZ] at hc)<;>try(exfalso;omega)))
    ·refine ez (Eq.symm ?_)
     rw[Bool.eq_false_iff,ne_eq,List.all_eq_true]
     intro hA
     have h1:=hA i (List.mem_range.2 his)
     have hc:mj (gL s i)=false∧(gL s i<48∨57<gL s i):=hc
     rw[hc.1,Bool.false_or] at h1
     simp only[jI,Bool.and_eq_true,decide_eq_true_eq] at h1
     omega
    ·refine⟨i+1,by omega,cH,by omega,fun j hj=> ?_⟩
     by_cases hji:j=i
     ·have hc:¬mj (gL s i)=false∨(48≤gL s i∧gL s i≤57):=hc
      rw[hji]
      rcases hc with h|h
      ·rw[Bool.not_eq_false] at h
       rw[h,Bool.true_or]
      ·simp[jI,h.1,h.2]
     ·exact hall j (by omega)
   ·have:i=s.size:=by omega
    subst this
    repeat' (first|((with_reducible refine aF ?_);conv=>whnf)|refine aG ?_|exact aC|with_reducible refine aD ?_ ?_|(apply aB;(·exact cR))|refine aH ?_|((with_reducible refine aA ?_ ?_)<;>intro hc<;>(try simp only[List.length_map,ne_eq,dZ] at hc)<;>try(exfalso;omega)))
    refine ez (Eq.symm ?_)
    rw[List.all_eq_true]
    intro j hj
    exact hall j (List.mem_range.1 hj)
end Go.Proofs.YtjopoheligmmoaaGreatDoor
end
