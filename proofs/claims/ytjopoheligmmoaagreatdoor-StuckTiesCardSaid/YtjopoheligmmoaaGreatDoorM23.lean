import Derived.Test.YtjopoheligmmoaaGreatDoorM15
import Derived.Test.YtjopoheligmmoaaGreatDoorM20
import Derived.Test.YtjopoheligmmoaaGreatDoorM21
import Derived.Test.YtjopoheligmmoaaGreatDoorM22
section
/- Units as plain data. -/
namespace Go.Proofs.YtjopoheligmmoaaGreatDoor
open Go Go.cY Go.Proofs
set_option linter.unusedSimpArgs false
set_option linter.unusedVariables false
abbrev i64 (n:Int):AV:= .sc (.int .i64 n)
abbrev u8 (n:Int):AV:= .sc (.int .u8 n)
abbrev bl (b:Bool):AV:= .sc (.bool b)
abbrev st (s:ByteArray):AV:= .sc (.string s)
def eP (n:Int):Prop:=-9223372036854775808≤n∧n<9223372036854775808
structure lZ where
 jK:Bool
 slot:Int
 word:Int
 deriving Inhabited,DecidableEq
def lZ.cells (v:lZ):List AV:=[bl v.jK,i64 v.slot,i64 v.word]
abbrev lZ.av (v:lZ):AV:= .agg v.cells
structure lZ.Wf (v:lZ):Prop where
 slot:eP v.slot
 word:eP v.word
structure Node where
 kind:Int
 op:Int
 slot:Int
 cM:Int
 a:lZ
 b:lZ
 next:Int
 sC:Int
 origin:Int
 deriving Inhabited,DecidableEq
def Node.cells (n:Node):List AV:=[u8 n.kind,u8 n.op,i64 n.slot,i64 n.cM,bl n.a.jK,i64 n.a.slot,i64 n.a.word,bl n.b.jK,i64 n.b.slot,i64 n.b.word,i64 n.next,i64 n.sC,i64 n.origin]
abbrev Node.av (n:Node):AV:= .agg n.cells
structure Node.Wf (n:Node):Prop where
 kind:0≤n.kind∧n.kind<256
 op:0≤n.op∧n.op<256
 slot:eP n.slot
 cM:eP n.cM
 a:n.a.Wf
 b:n.b.Wf
 next:eP n.next
 sC:eP n.sC
 origin:eP n.origin
structure Decl where
 name:ByteArray
 word:Int
 at_:Int
 deriving Inhabited,DecidableEq
def Decl.cells (d:Decl):List AV:=[st d.name,i64 d.word,i64 d.at_]
abbrev Decl.av (d:Decl):AV:= .agg d.cells
structure Decl.Wf (d:Decl):Prop where
 name:d.name.size≤140737488351232
 word:eP d.word
 at_:eP d.at_
structure cD where
 name:ByteArray
 locals:Int
 bz:Int
 nodes:List Node
 deriving Inhabited,DecidableEq
abbrev ig (l:List Node):AV:= .im 13 .any (l.map Node.av)
def cD.cells (g:cD):List AV:=[st g.name,i64 g.locals,i64 g.bz,ig g.nodes]
abbrev cD.av (g:cD):AV:= .agg g.cells
structure cD.Wf (g:cD):Prop where
 name:g.name.size≤140737488351232
 locals:eP g.locals
 bz:eP g.bz
 nodes:∀n∈g.nodes,n.Wf
 len:g.nodes.length * 88≤140737488351232
structure bw where
 shared:List Decl
 cE:List Decl
 bu:List cD
 deriving Inhabited,DecidableEq
abbrev ct (l:List Decl):AV:= .im 3 .any (l.map Decl.av)
abbrev de (l:List cD):AV:= .im 4 .any (l.map cD.av)
def bw.cells (u:bw):List AV:=[ct u.shared,ct u.cE,de u.bu]
abbrev bw.av (u:bw):AV:= .agg u.cells
structure bw.Wf (u:bw):Prop where
 shared:∀d∈u.shared,d.Wf
 vB:u.shared.length * 32≤140737488351232
 cE:∀d∈u.cE,d.Wf
 zQ:u.cE.length * 32≤140737488351232
 bu:∀g∈u.bu,g.Wf
 IM:u.bu.length * 56≤140737488351232
@[simp] theorem Y4 (n:Nat) (v:lZ):cZ n v.cells:=by simp[lZ.cells,cZ,cK]
@[simp] theorem XU (n:Nat) (v:Node):cZ n v.cells:=by simp[Node.cells,cZ,cK]
@[simp] theorem XS (n:Nat) (v:Decl):cZ n v.cells:=by simp[Decl.cells,cZ,cK]
@[simp] theorem W3 (n:Nat) (v:cD):cZ n v.cells:=by simp[cD.cells,cZ,cK,cC]
@[simp] theorem XV (n:Nat) (v:bw):cZ n v.cells:=by simp[bw.cells,cZ,cK,cC]
abbrev cD.nd (g:cD) (i:Nat):Node:=g.nodes.getD i default
abbrev bw.gr (u:bw) (t:Nat):cD:=u.bu.getD t default
theorem u5 {α β:Type} (f:α→β) (l:List α) (i:Nat) (a:α):(l.map f).getD i (f a)=f (l.getD i a):=by
 simp only[List.getD,List.getElem?_map]
 cases l[i]?<;>rfl
theorem VP {l:List cD} {i:Nat}:(l.map cD.av).getD i (cD.av default)=(l.getD i default).av:=u5 _ _ _ _
theorem L4 {l:List Decl} {i:Nat}:(l.map Decl.av).getD i (Decl.av default)=(l.getD i default).av:=u5 _ _ _ _
theorem fA {a b:Bool} (h:a=b):AV.sc (.bool a)=bl b:=by rw[h]
theorem cS {α:Type} {l:List α} {j:Nat} (d:α) (h:j<l.length):l.getD j d∈l:=by
 simp only[List.getD,List.getElem?_eq_getElem h,Option.getD_some];exact List.getElem_mem h
end Go.Proofs.YtjopoheligmmoaaGreatDoor
end
section
/- What a unit must be, in plain data. -/
namespace Go.Proofs.YtjopoheligmmoaaGreatDoor
open Go Go.cY Go.Proofs
set_option linter.unusedSimpArgs false
set_option linter.unusedVariables false
def Node.oG (n:Node):List Int:=if n.kind=9 then[] else if n.kind=8 then[n.next,n.sC] else[n.next]
def Node.fold (n:Node):List Int:=if n.kind=9 then[] else if n.kind=8∧n.sC≠n.next then[n.next,n.sC] else[n.next]
def fj {α:Type} (p:α→Bool):List α→Nat→Option Nat
 |[],_=>none
 |x::r,i=>if p x=true then fj p r (i+1) else some i
theorem xi {α:Type} (p:α→Bool) (l:List α) (d:α) {i:Nat} (h:i<l.length):fj p (l.drop i) i=if p (l.getD i d)=true then fj p (l.drop (i+1)) (i+1) else some i:=by
 rw[List.drop_eq_getElem_cons h,fj]
 simp[List.getD,h]
theorem BX {α:Type} (p:α→Bool) (l:List α) {i:Nat} (h:l.length≤i):fj p (l.drop i) i=none:=by
 rw[List.drop_eq_nil_of_le h,fj]
def eB (op:Int):Bool:=decide (1≤op)&&decide (op≤16)
def k7 (k:Int):Bool:=decide (k=1∨k=2∨k=4)
def fw (k:Int):Bool:=decide (k=2∨k=3∨k=4∨k=5∨k=6)
def vH (k:Int):Bool:=decide (k=1∨k=3∨k=4∨k=7∨k=8)
def jV (k:Int):Bool:=decide (1≤k∧k≤8)
def tg (v:lZ) (used:Bool) (bz:Int):Bool:=if used=true then(if v.jK=true then decide (0≤v.slot)&&decide (v.slot<bz)&&decide (v.word=0) else decide (v.slot=0)) else decide (v=default)
def qI (n:Int) (used:Bool) (most:Int):Bool:=if used=true then decide (0≤n)&&decide (n<most) else decide (n=0)
def mE (u:bw) (g:cD) (n:Node):Bool:=
 decide (1≤n.kind∧n.kind<10∧0≤n.origin∧n.origin<4096)&&(if n.kind=1 then decide (n.op<19) else decide (n.op=0))&&
 qI n.slot (k7 n.kind) g.bz&&qI n.cM (fw n.kind) (if n.kind=5∨n.kind=6 then u.cE.length else u.shared.length)&&tg n.a (vH n.kind) g.bz&&tg n.b (decide (n.kind=1)&&eB n.op) g.bz&&qI n.next (jV n.kind) g.nodes.length&&qI n.sC (decide (n.kind=8)) g.nodes.length
def tC (m:Nat) (n:Node):Bool:=decide (1≤n.kind)&&decide (n.kind<10)&&n.oG.all fun k=>decide (0≤k)&&decide (k<m)
def lL (g:cD):Bool:=decide (1≤g.nodes.length)&&decide (g.nodes.length≤4096)&&g.nodes.all (tC g.nodes.length)
structure HS where
 cE:List (List Int)
 found:List Bool
 todo:List Int
def HS.l (s:HS) (k:Int):List Int:=s.cE.getD k.toNat []
def HS.f (s:HS) (k:Int):Bool:=s.found.getD k.toNat false
def df (n:Node) (l:List Int):Option (List Int):=
 if n.kind=5 then some (l++[n.cM]) else if n.kind=6 then(if l≠[]∧l.getLast?=some n.cM then some l.dropLast else none) else if n.kind=9 then(if l=[] then some l else none) else some l
def db (now:List Int):List Int→HS→HS ⊕ Int
 |[],s=> .inl s
 |k::r,s=>if s.f k=false then db now r ⟨s.cE.set k.toNat now,s.found.set k.toNat true,s.todo++[k]⟩ else if s.l k=now then db now r s else .inr k
def fZ (g:cD):Nat→HS→Nat→List (List Int)×Int
 |0,s,_=>(s.cE,-1)
 |f+1,s,k=>if k<s.todo.length then(match df (g.nd (s.todo.getD k 0).toNat) (s.l (s.todo.getD k 0)) with
  |none=>([],s.todo.getD k 0)
  |some now=>match db now (g.nd (s.todo.getD k 0).toNat).oG s with
   | .inl s'=>fZ g f s' (k+1)
   | .inr at_=>([],at_)) else(s.cE,-1)
def wA (g:cD):HS:=⟨List.replicate g.nodes.length [],(List.replicate g.nodes.length false).set 0 true,[0]⟩
def eN (g:cD):List (List Int)×Int:=fZ g (g.nodes.length+1) (wA g) 0
def nj (u:bw) (g:cD):Option Int:=
 if g.locals<0∨g.locals>64∨g.bz<g.locals∨g.bz>4160∨g.nodes.length<1∨g.nodes.length>4096 then some 0 else
 match fj (mE u g) g.nodes 0 with
 |some i=>some (i:Int)
 |none=>if 0≤(eN g).2 then some (eN g).2 else none
def fS (u:bw):List cD→Nat→Int×Int×Int
 |[],_=>(0,0,0)
 |g::r,t=>match nj u g with
  |some k=>(60,t,k)
  |none=>fS u r (t+1)
end Go.Proofs.YtjopoheligmmoaaGreatDoor
end
section
/- What is reached, in plain data. -/
namespace Go.Proofs.YtjopoheligmmoaaGreatDoor
open Go Go.cY Go.Proofs
set_option linter.unusedSimpArgs false
set_option linter.unusedVariables false
theorem IA {α:Type} (F:List Int→α) (n:Node) (h:∀a,F [a,a]=F [a]):F n.fold=F n.oG:=by
 unfold Node.fold Node.oG
 by_cases h9:n.kind=9
 ·rw[if_pos h9,if_pos h9]
 ·rw[if_neg h9,if_neg h9]
  by_cases h8:n.kind=8
  ·rw[if_pos h8]
   by_cases he:n.sC=n.next
   ·rw[if_neg (fun h=>h.2 he),he,h]
   ·rw[if_pos ⟨h8,he⟩]
  ·rw[if_neg h8,if_neg (fun h=>h8 h.1)]
abbrev mf (out:List Bool) (k:Int):Bool:=out.getD k.toNat false
def jw:List Int→List Bool×List Int→List Bool×List Int
 |[],s=>s
 |k::r,s=>if mf s.1 k=false then jw r (s.1.set k.toNat true,s.2++[k]) else jw r s
theorem DS (a:Int) (s:List Bool×List Int) (h:a.toNat<s.1.length):jw [a,a] s=jw [a] s:=by
 simp only[jw]
 by_cases h1:mf s.1 a=false
 ·rw[if_pos h1,if_pos h1,if_neg (by simp[mf,List.getD,h])]
 ·simp only[if_neg h1]
structure UT (l:List Int) (s s':List Bool×List Int):Prop where
 len:s'.1.length=s.1.length
 gO:∀k,mf s.1 k=true→mf s'.1 k=true
 new:∀k,0≤k→mf s'.1 k=true→mf s.1 k=true∨k∈l
 all:∀k∈l,mf s'.1 k=true
 more:∃t,s'.2=s.2++t∧(∀k∈t,k∈l∧mf s'.1 k=true)∧(∀k,0≤k→mf s'.1 k=true→mf s.1 k=true∨k∈t)∧s'.1.count false+t.length=s.1.count false
theorem count_set {l:List Bool} {i:Nat} (h:i<l.length) (hf:l.getD i false=false):(l.set i true).count false+1=l.count false:=by
 have h1:l[i]=false:=by simpa[List.getD,h] using hf
 rw[List.count_set h,h1]
 have:0<l.count false:=List.count_pos_iff.2 (h1▸List.getElem_mem h)
 simp
 omega
theorem lA {l:List Bool} {i:Nat} (h:i<l.length) (k:Int):mf (l.set i true) k=if k.toNat=i then true else mf l k:=by
 unfold mf
 simp only[List.getD,List.getElem?_set]
 by_cases hk:k.toNat=i
 ·rw[if_pos hk.symm,if_pos hk];simp[h]
 ·rw[if_neg (fun e=>hk e.symm),if_neg hk]
theorem jd:∀(l:List Int) (s:List Bool×List Int),(∀k∈l,0≤k∧k.toNat<s.1.length)→UT l s (jw l s)
 |[],s,_=>⟨rfl,fun _ h=>h,fun _ _ h=> .inl h,fun _ h=>by simp at h,[],by simp[jw],fun _ h=>by simp at h,fun _ _ h=> .inl h,by simp[jw]⟩
 |k::r,s,h=>by
  obtain⟨hk0,hk⟩:=h k (by simp)
  have hr:=fun x hx=>h x (List.mem_cons_of_mem _ hx)
  rw[jw]
  by_cases h1:mf s.1 k=false
  ·rw[if_pos h1]
   have ih:=jd r (s.1.set k.toNat true,s.2++[k]) (fun x hx=>by simpa using hr x hx)
   have hset:=lA (l:=s.1) hk
   obtain⟨t,t1,t2,t3,t4⟩:=ih.more
   have hkk:mf (jw r (s.1.set k.toNat true,s.2++[k])).1 k=true:=ih.gO k (by rw[hset,if_pos rfl])
   refine⟨ih.len.trans (by simp),fun x hx=>ih.gO x (by rw[hset];split<;>first|rfl|exact hx),fun x hx0 hx=> ?_,fun x hx=> ?_,k::t,by rw[t1];simp,fun x hx=> ?_,fun x hx0 hx=> ?_, ?_⟩
   ·rcases ih.new x hx0 hx with h2|h2
    ·rw[hset] at h2
     split at h2
     ·rename_i e;exact .inr (by rw[show x=k by omega];simp)
     ·exact .inl h2
    ·exact .inr (List.mem_cons_of_mem _ h2)
   ·rcases List.mem_cons.1 hx with rfl|hx
    ·exact hkk
    ·exact ih.all x hx
   ·rcases List.mem_cons.1 hx with rfl|hx
    ·exact⟨by simp,hkk⟩
    ·exact⟨List.mem_cons_of_mem _ (t2 x hx).1,(t2 x hx).2⟩
   ·rcases t3 x hx0 hx with h2|h2
    ·rw[hset] at h2
     split at h2
     ·rename_i e;exact .inr (by rw[show x=k by omega];simp)
     ·exact .inl h2
    ·exact .inr (List.mem_cons_of_mem _ h2)
   ·have:=count_set hk h1
    rw[List.length_cons]
    dsimp only at t4
    omega
  ·rw[if_neg h1]
   have hkt:mf s.1 k=true:=by simpa using h1
   have ih:=jd r s hr
   obtain⟨t,t1,t2,t3,t4⟩:=ih.more
   refine⟨ih.len,ih.gO,fun x hx0 hx=>(ih.new x hx0 hx).imp id (List.mem_cons_of_mem _),fun x hx=> ?_,t,t1,fun x hx=>⟨List.mem_cons_of_mem _ (t2 x hx).1,(t2 x hx).2⟩,t3,t4⟩
   rcases List.mem_cons.1 hx with rfl|hx
   ·exact ih.gO _ hkt
   ·exact ih.all x hx
inductive l4 (g:cD) (cut:Int):Int→Prop where
 |zero:l4 g cut 0
 |step {i k:Int}:l4 g cut i→i≠cut→k∈(g.nd i.toNat).oG→l4 g cut k
structure lN (g:cD) (cut:Int) (out:List Bool) (pend:List Int):Prop where
 len:out.length=g.nodes.length
 zero:mf out 0=true
 oS:∀k,0≤k→mf out k=true→l4 g cut k
 inr:∀k∈pend,0≤k∧k.toNat<out.length∧mf out k=true
 done:∀k,0≤k→k.toNat<out.length→mf out k=true→k∉pend→k≠cut→∀j∈(g.nd k.toNat).oG,mf out j=true
open Classical in
noncomputable def fX (g:cD) (cut:Int):List Bool:=(List.range g.nodes.length).map fun(i:Nat)=>decide (l4 g cut (i:Int))
theorem C5 (g:cD) (cut:Int):(fX g cut).length=g.nodes.length:=by simp[fX]
theorem C4 (g:cD) (cut:Int) {i:Nat} (h:i<g.nodes.length):(fX g cut).getD i false=true↔l4 g cut i:=by simp[fX,List.getD,h]
def Whole (g:cD):Prop:=1≤g.nodes.length∧g.nodes.length≤4096∧∀i,i<g.nodes.length→1≤(g.nd i).kind∧(g.nd i).kind<10∧∀k∈(g.nd i).oG,0≤k∧k.toNat<g.nodes.length
theorem KP {g:cD}:lL g=true↔Whole g:=by
 unfold lL Whole tC
 simp only[Bool.and_eq_true,decide_eq_true_eq,List.all_eq_true,and_assoc]
 refine and_congr Iff.rfl (and_congr Iff.rfl ⟨fun h i hi=> ?_,fun h n hn=> ?_⟩)
 ·have:=h (g.nd i) (cS _ hi)
  exact⟨this.1,this.2.1,fun k hk=>by have:=this.2.2 k hk;omega⟩
 ·obtain⟨i,hi,rfl⟩:=List.getElem_of_mem hn
  have:=h i hi
  rw[show g.nd i=g.nodes[i] by simp[List.getD,hi]] at this
  exact⟨this.1,this.2.1,fun k hk=>by have:=this.2.2 k hk;omega⟩
theorem lN.start {g:cD} {cut:Int} (h:Whole g):lN g cut ((List.replicate g.nodes.length false).set 0 true) [0]:=by
 have hl:=h.1
 have hz:∀k,mf ((List.replicate g.nodes.length false).set 0 true) k=true→k.toNat=0:=fun k hk=>by
  rw[lA (by simp;omega)] at hk
  split at hk
  ·assumption
  ·simp only[mf,List.getD,List.getElem?_replicate] at hk
   split at hk<;>simp at hk
 refine⟨by simp,by rw[lA (by simp;omega)];simp,fun k h0 hk=> ?_,fun k hk=> ?_,fun k h0 h1 hk hn=> ?_⟩
 ·rw[show k=0 by have:=hz k hk;omega];exact .zero
 ·simp only[List.mem_cons,List.not_mem_nil,or_false] at hk
  subst hk
  exact⟨by omega,by simp;omega,by rw[lA (by simp;omega)];simp⟩
 ·exact absurd (by rw[show k=0 by have:=hz k hk;omega];simp) hn
theorem lN.on {g:cD} {cut:Int} (h:Whole g) {out:List Bool} {pend:List Int} {at_:Int} {a b:List Int} (hp:pend=a++at_::b) (hg:lN g cut out pend) (hc:at_≠cut) {t:List Int} {s:List Bool×List Int} (hs:jw (g.nd at_.toNat).oG (out,t)=s) {t2:List Int} (ht2:s.2=t++t2):lN g cut s.1 (a++b++t2):=by
 obtain⟨i1,i2,i3⟩:=hg.inr at_ (by rw[hp];simp)
 have hfol:=(h.2.2 at_.toNat (by rw[←hg.len];exact i2)).2.2
 have sp:=jd (g.nd at_.toNat).oG (out,t) (fun k hk=>by have:=hfol k hk;rw[←hg.len] at this;exact this)
 rw[hs] at sp
 obtain⟨t3,e1,e2,e3,e4⟩:=sp.more
 have:t2=t3:=by rw[ht2] at e1;exact List.append_cancel_left e1
 subst this
 have hl:s.1.length=out.length:=sp.len
 refine⟨hl.trans hg.len,sp.gO _ hg.zero,fun k h0 hk=> ?_,fun k hk=> ?_,fun k h0 h1 hk hn hkc j hj=> ?_⟩
 ·rcases sp.new k h0 hk with h1|h1
  ·exact hg.oS k h0 h1
  ·exact .step (hg.oS at_ i1 i3) hc h1
 ·rcases List.mem_append.1 hk with hk|hk
  ·have h1:=hg.inr k (by rw[hp];rcases List.mem_append.1 hk with h|h<;>simp[h])
   exact⟨h1.1,by rw[hl];exact h1.2.1,sp.gO _ h1.2.2⟩
  ·have h1:=hfol k (e2 k hk).1
   exact⟨h1.1,by rw[hl,hg.len];exact h1.2,(e2 k hk).2⟩
 ·by_cases hka:k=at_
  ·subst hka;exact sp.all j hj
  ·rcases e3 k h0 hk with h2|h2
   ·refine sp.gO _ (hg.done k h0 (by rw[←hl];exact h1) h2 (fun hm=> ?_) hkc j hj)
    rw[hp] at hm
    simp only[List.mem_append,List.mem_cons] at hm
    rcases hm with hm|hm|hm
    ·exact hn (by simp[hm])
    ·exact hka hm
    ·exact hn (by simp[hm])
   ·exact absurd (List.mem_append_right _ h2) hn
theorem lN.cut {g:cD} {cut:Int} {out:List Bool} {pend a b:List Int} (hp:pend=a++cut::b) (hg:lN g cut out pend):lN g cut out (a++b):=by
 refine⟨hg.len,hg.zero,hg.oS,fun k hk=>hg.inr k (by rw[hp];rcases List.mem_append.1 hk with h|h<;>simp[h]),fun k h0 h1 hk hn hkc=>hg.done k h0 h1 hk (fun hm=> ?_) hkc⟩
 rw[hp] at hm
 simp only[List.mem_append,List.mem_cons] at hm
 rcases hm with hm|hm|hm
 ·exact hn (by simp[hm])
 ·exact hkc hm
 ·exact hn (by simp[hm])
theorem lN.fin {g:cD} {cut:Int} (h:Whole g) {out:List Bool} (hg:lN g cut out []):out=fX g cut:=by
 have hall:∀k,l4 g cut k→0≤k∧k.toNat<g.nodes.length∧mf out k=true:=fun k hk=>by
  induction hk with
  |zero=>exact⟨by omega,by have:=h.1;simp;omega,hg.zero⟩
  |@step i k hi hc hk ih=>
   obtain⟨i1,i2,i3⟩:=ih
   have h1:=(h.2.2 i.toNat i2).2.2 k hk
   exact⟨h1.1,h1.2,hg.done i i1 (by rw[hg.len];exact i2) i3 (by simp) hc k hk⟩
 apply List.ext_getElem
 ·rw[hg.len,C5]
 ·intro i h1 h2
  have hi:i<g.nodes.length:=by rw[←hg.len];exact h1
  have e1:out[i]=mf out (i:Int):=by simp[mf,List.getD,h1]
  have e2:(fX g cut)[i]=(fX g cut).getD i false:=by simp[List.getD,h2]
  rw[e1,e2,Bool.eq_iff_iff,C4 g cut hi]
  exact⟨fun hf=>hg.oS _ (by omega) hf,fun hf=>(hall _ hf).2.2⟩
end Go.Proofs.YtjopoheligmmoaaGreatDoor
end
section
/- Lists that are handed back; small functions. -/
namespace Go.cY
open Go.RowKit
theorem aR {α:Type} {g:Option Bool} {x:Option α} {K:α→Prop} {a:α} (h:Gd g→x=some a) (k:Go (K a)):jD g x K:=jD.of h k
theorem dK.refl (c:Cx):∀bs:List AV,dK c c bs bs
 |[]=> .nil
 |_::bs=> .cons (fun _ hv=>hv) (dK.refl c bs)
theorem dK.map {α:Type} {c:Cx} {f g:α→AV} (h:∀a,dO c c (f a) (g a)):∀l:List α,dK c c (l.map f) (l.map g)
 |[]=> .nil
 |a::l=> .cons (h a) (dK.map h l)
theorem Pure.args {P:Program} {f:FuncId} {bs bs2:List AV} {R:AV→Prop} (h:Pure P f bs2 R) (hle:∀c,dK c c bs bs2):Pure P f bs R:=
 ⟨h.1,fun M w vs hM hv=>h.2 M w vs hM ((hle _).ZC hv)⟩
theorem cJ.args {P:Program} {f:FuncId} {bs bs2:List AV} {H:Hp} {nx:Nat} {R:AV→Hp→Nat→Prop} (h:cJ P f bs2 H nx R) (hle:∀c,dK c c bs bs2):cJ P f bs H nx R:=
 ⟨h.1,fun w0 c vs h1 h2 h3 hv=>h.2 w0 c vs h1 h2 h3 ((hle _).ZC hv)⟩
theorem iD {P:Program} {f:FuncId} {args:List AV} {a b:AV} (h:Pure P f args (fun r=>r=a)) (hf:cK 0 b) (hle:∀c,dO c c a b):Pure P f args (fun r=>r=b):=
 ⟨h.1,fun M w vs hM hv=>(h.2 M w vs hM hv).mono fun _ _ ⟨v,r,he,hR,hf0,hvr,hb⟩=>⟨v,b,he,rfl,hf,hle _ v (by rw[←hR];exact hvr),hb⟩⟩
theorem dO.lW (c c2:Cx) (sz:Nat) (d:AV):dO c c2 (.sc (.slice none 0 0)) (.im sz d []):=by
 intro v hv
 rw[VR] at hv
 subst hv
 rw[VR]
 exact⟨none,0,rfl,by simp, .inl rfl⟩
def rI (H:Hp) (nx:Nat) (e:TypeId) (sz:Nat) (es:List AV):AV→Hp→Nat→Prop:=fun r H' n=>∃b' d',r= .sl b' es.length∧nx≤b'∧b'<n∧nx≤n∧bt H' b'=some (.row e sz d' es)∧∀b,b<nx→bt H' b=bt H b
theorem rI.of {P:Program} {f:FuncId} {args:List AV} {H:Hp} {nx:Nat} {e:TypeId} {sz:Nat} {es:List AV} (hsz:0<sz) (h:cJ P f args H nx (fun r H' n=>(r= .sc (.slice none 0 0)∧es=[]∧nx≤n∧∀b,b<nx→bt H' b=bt H b)∨rI H nx e sz es r H' n)):cJ P f args H nx (rI H nx e sz es):=by
 refine h.wk ?_
 rintro r H' n (⟨rfl,rfl,h1,h2⟩|h1)
 ·refine⟨_,_,_,Wk.nil (nx:=n) e sz .any hsz,n, .any,rfl,h1,Nat.lt_succ_self _,by omega,cp _ _ _,fun b hb=> ?_⟩
  rw[cX (by omega)];exact h2 b hb
 ·exact⟨r,H',n,Wk.refl _ _ _,h1⟩
end Go.cY
namespace Go.Proofs.YtjopoheligmmoaaGreatDoor
open Go Go.cY Go.Proofs
set_option linter.unusedSimpArgs false
set_option linter.unusedVariables false
def fV (l:List Int):AV:= .im 1 .any (l.map i64)
def EV (l:List Bool):AV:= .im 1 .any (l.map bl)
theorem dD {P:Program} {f:FuncId} {args:List AV} {u:AV} (h:cJ P f args [] 0 (fun r H _=>cY.dX H 6 r=u)) (hf:cK 0 u):Pure P f args (fun r=>r=u):=by
 refine⟨h.1,fun M w vs hM hv=> ?_⟩
 have hS:dY w ⟨fun _=>none,bt [],fun _=>False,w,M⟩:=⟨⟨rfl,rfl,rfl,Nat.le_refl _,fun _ _=>rfl⟩,hM,fun b e sz d es he=>by simp[bt] at he,fun b b' k k' blk o z o' z' hk=>by simp[bt] at hk⟩
 refine(h.2 w _ vs hS rfl (fun _ h=>h.elim) hv).mono ?_
 rintro en w' ⟨v1,r1,H1,nx',ρ,U,he,hz,hU,hS',_,g2⟩
 have h3:=kL hS' rfl 6 (a:=r1) (v:=v1) (by rw[hz];exact hf) g2
 rw[hz] at h3
 exact⟨v1,_,he,rfl,hf,h3,hS'.below⟩
theorem pure_or {P:Program} {f:FuncId} {args:List AV} {u v:AV} (h:cJ P f args [] 0 (fun r H _=>cY.dX H 6 r=u∨cY.dX H 6 r=v)) (hu:cK 0 u) (hv:cK 0 v):Pure P f args (fun r=>r=u∨r=v):=by
 refine⟨h.1,fun M w vs hM hv'=> ?_⟩
 have hS:dY w ⟨fun _=>none,bt [],fun _=>False,w,M⟩:=⟨⟨rfl,rfl,rfl,Nat.le_refl _,fun _ _=>rfl⟩,hM,fun b e sz d es he=>by simp[bt] at he,fun b b' k k' blk o z o' z' hk=>by simp[bt] at hk⟩
 refine(h.2 w _ vs hS rfl (fun _ h=>h.elim) hv').mono ?_
 rintro en w' ⟨v1,r1,H1,nx',ρ,U,he,hz,hU,hS',_,g2⟩
 rcases hz with hz|hz
 ·have h3:=kL hS' rfl 6 (a:=r1) (v:=v1) (by rw[hz];exact hu) g2
  rw[hz] at h3
  exact⟨v1,_,he, .inl rfl,hu,h3,hS'.below⟩
 ·have h3:=kL hS' rfl 6 (a:=r1) (v:=v1) (by rw[hz];exact hv) g2
  rw[hz] at h3
  exact⟨v1,_,he, .inr rfl,hv,h3,hS'.below⟩
theorem GX {P:Program} {f:FuncId} {args:List AV} {u v:AV} (h:Pure P f args (fun r=>r=u∨r=v)) (hv:cK 0 v) (hle:∀c,dO c c u v):Pure P f args (fun r=>r=v):=
 ⟨h.1,fun M w vs hM hv'=>(h.2 M w vs hM hv').mono fun en w' ⟨x,r,h2,h3,h4,h5,h6⟩=>by
  rcases h3 with rfl|rfl
  ·exact⟨x,_,h2,rfl,hv,hle _ _ h5,h6⟩
  ·exact⟨x,_,h2,rfl,hv,h5,h6⟩⟩
theorem my {P:Program} {f:FuncId} {args:List AV} {sz:Nat} {es:List AV} (hf:cK 0 (.im sz .any es)) (h:cJ P f args [] 0 (fun r H _=>cY.dX H 6 r= .sc (.slice none 0 0)∧es=[]∨cY.dX H 6 r= .im sz .any es)):Pure P f args (fun r=>r= .im sz .any es):=by
 by_cases hl:es=[]
 ·subst hl
  exact GX (pure_or (h.mono fun r H n h=>h.imp (·.1) id) (by simp[cK,cZ]) hf) hf (fun c=>cY.dO.lW c c _ _)
 ·exact dD (h.mono fun r H n h=>h.elim (fun h=>absurd h.2 hl) id) hf
theorem fm (op:Int):Pure Tryz.prog 196 [u8 op] (fun r=>r=bl (decide (0<op∧op<19))):=by
 refine aI yp rfl ?_
 repeat' (first|((with_reducible refine aF ?_);conv=>whnf)|refine aG ?_|exact aC|with_reducible refine aD ?_ ?_|(apply aB;(·exact cR))|refine aH ?_|((with_reducible refine aA ?_ ?_)<;>intro hc<;>(try simp only[List.length_map,ne_eq,da] at hc)<;>try(exfalso;omega)))
 simp only[decide_eq_true_eq]
 exact fA (by by_cases h:0<op<;>simp[h])
theorem eW (c:Int):Pure Tryz.prog 163 [u8 c] (fun r=>r=bl (decide (48≤c)&&decide (c≤57))):=by
 refine aI yg rfl ?_
 repeat' (first|((with_reducible refine aF ?_);conv=>whnf)|refine aG ?_|exact aC|with_reducible refine aD ?_ ?_|(apply aB;(·exact cR))|refine aH ?_|((with_reducible refine aA ?_ ?_)<;>intro hc<;>(try simp only[List.length_map,ne_eq,da] at hc)<;>try(exfalso;omega)))
 all_goals simp_all[da]
set_option maxHeartbeats 1000000 in
theorem lB (n:Node):Pure Tryz.prog 120 [n.av] (fun r=>r=fV n.fold):=by
 refine my (by simp[cK,cC]) ?_
 refine aL yV rfl ?_
 repeat' (first|((with_reducible refine aF ?_);conv=>whnf)|refine aG ?_|exact gF|with_reducible refine aD ?_ ?_|((with_reducible refine Ask.mk ?_);first|exact dw|exact dE|(intro h;simp_all[Node.cells]<;>fail)|(simp_all[Node.cells]<;>fail))|(apply aB;(·exact cR))|refine aH ?_|((with_reducible refine aA ?_ ?_)<;>intro hc<;>(try simp only[List.length_map,ne_eq,da] at hc)<;>try(exfalso;omega)))
 all_goals refine⟨?_⟩
 all_goals first|exact .inl ⟨rfl,by simp_all[Node.fold]⟩|(refine .inr ((dh bx (by simp)).trans ?_);rw[cy _ (by simp[cZ,cK])];first|(simp_all[fV,Node.fold];done)|(unfold Node.fold;rw[if_neg (by assumption),if_neg (fun h=>hc.elim (fun a=>a h.1) (fun a=>h.2 a))];rfl))
end Go.Proofs.YtjopoheligmmoaaGreatDoor
end
section
/- Is a node right? -/
namespace Go.Proofs.YtjopoheligmmoaaGreatDoor
open Go Go.cY Go.Proofs
set_option linter.unusedSimpArgs false
set_option linter.unusedVariables false
theorem kY {f:FuncId} {args:List AV} {u:AV} (hu:cK 0 u) (h:(vN TT 30 f args [] 0).map (fun q=>dX q.2.1 6 q.1)=some u):Pure Tryz.prog f args (fun r=>r=u):=by
 simp only[Option.map_eq_some_iff] at h
 obtain⟨⟨r,H',nx'⟩,h1,h2⟩:=h
 simp only at h2
 have h0:=oD hTT 30 _ _ _ _ _ _ _ h1
 have h3:=cJ.pure (H':=H') (h0.mono fun r H n ⟨h1,h2,_⟩=>⟨h1,h2⟩) (by rw[h2];exact hu)
 exact h3.mono fun r hr=>by rw[hr,h2]
theorem fP (op:Int) (h0:0≤op):Pure Tryz.prog 159 [u8 op] (fun r=>r=bl (eB op)):=by
 refine aI yc rfl ?_
 repeat' (first|((with_reducible refine aF ?_);conv=>whnf)|refine aG ?_|exact aC|with_reducible refine aD ?_ ?_|(apply aB;(·exact cR))|((with_reducible refine aQ (fm _) ?_ ?_);(·exact cF))|((with_reducible refine aP (fun _=>fm _) ?_ ?_);(·exact cF))|((with_reducible refine aN (fm _) ?_ ?_);(·exact cF))|((with_reducible refine aO (fun _=>fm _) ?_ ?_);(·exact cF))|refine aH ?_|((with_reducible refine aA ?_ ?_)<;>intro hc<;>(try simp only[List.length_map,ne_eq,da] at hc)<;>try(exfalso;omega)))
 refine fA ?_
 unfold eB
 by_cases h1:0<op<;>by_cases h2:op<19<;>by_cases h3:op=17<;>by_cases h4:op=18<;>simp[h1,h2,h3,h4]<;>omega
def mask (k op:Int):Int:=if k=1 then(if eB op=true then 59 else 43) else if k=2 then 38 else if k=3 then 44 else if k=4 then 46 else if k=5 then 36 else if k=6 then 36 else if k=7 then 40 else if k=8 then 104 else 0
set_option maxRecDepth 100000 in
theorem CZ (n:Node) (hn:n.Wf) (h:1≤n.kind∧n.kind<10):Pure Tryz.prog 116 [n.av] (fun r=>r=u8 (mask n.kind n.op)):=by
 obtain⟨h0,h1⟩:=h
 have ho:=hn.op.1
 obtain⟨kind,op,slot,cM,a,b,next,sC,origin⟩:=n
 simp only at h0 h1 ho
 have hk:kind=1∨kind=2∨kind=3∨kind=4∨kind=5∨kind=6∨kind=7∨kind=8∨kind=9:=by omega
 rcases hk with rfl|rfl|rfl|rfl|rfl|rfl|rfl|rfl|rfl
 ·refine aI yR rfl ?_
  repeat' (first|((with_reducible refine aF ?_);conv=>whnf)|refine aG ?_|exact aC|with_reducible refine aD ?_ ?_|(apply aB;(·exact cR))|((with_reducible refine aQ (fP _ ho) ?_ ?_);(·exact cF))|((with_reducible refine aP (fun _=>fP _ ho) ?_ ?_);(·exact cF))|((with_reducible refine aN (fP _ ho) ?_ ?_);(·exact cF))|((with_reducible refine aO (fun _=>fP _ ho) ?_ ?_);(·exact cF))|refine aH ?_|((with_reducible refine aA ?_ ?_)<;>intro hc<;>(try simp only[List.length_map,ne_eq,da] at hc)<;>try(exfalso;omega)))
  all_goals
   cases ht:eB op with
   |true=>
    rw[ht] at hc
    first|(exact absurd rfl hc)|(exact absurd hc (by decide))|(simp only[show mask 1 op=59 by simp[mask,ht]];try kernel_rfl)
   |false=>
    rw[ht] at hc
    first|(exact absurd rfl hc)|(exact absurd hc (by decide))|(simp only[show mask 1 op=43 by simp[mask,ht]];try kernel_rfl)
 iterate 8 exact kY (by simp[cK,cZ]) (by kernel_rfl)
theorem lZ.default_eq:(default:lZ)=⟨false,0,0⟩:=rfl
def iW (m u:Int):Int:=IntKind.u8.wrap (BitVec.ofInt IntKind.u8.bits m&&& BitVec.ofInt IntKind.u8.bits u).toNat
theorem qj (k u most m:Int) (b:Nat) (H:Hp) (nx:Nat) (e:TypeId) (d:AV) (hb:bt H b=some (.row e 1 d [u8 m])):vR Tryz.prog 117 [i64 k,u8 u,i64 most, .pt b 1 0 0] H nx (bl (qI k (decide (iW m u≠0)) most)):=by
 refine aa yS rfl ?_
 repeat' (first|((with_reducible refine aF ?_);conv=>whnf)|refine aG ?_|exact aC|with_reducible refine aD ?_ ?_|(apply aB;(·exact cR))|refine aH ?_|((with_reducible refine aA ?_ ?_)<;>intro hc<;>(try simp only[List.length_map,ne_eq,da] at hc)<;>try(exfalso;omega)))
 refine KZ.look ?_ xC
 simp only[show IntKind.u8.wrap (BitVec.ofInt IntKind.u8.bits m&&& BitVec.ofInt IntKind.u8.bits u).toNat=iW m u from rfl,qI]
 by_cases h1:iW m u=0<;>by_cases h2:k=0<;>by_cases h3:0≤k<;>by_cases h4:k<most<;>simp[h1,h2,h3,h4]
theorem tG (v:lZ) (u m:Int) (g:cD) (b c:Nat) (H:Hp) (nx:Nat) (e e2:TypeId) (d d2:AV) (hb:bt H b=some (.row e 1 d [u8 m])) (hc:bt H c=some (.row e2 4 d2 [g.av])) (hbn:b<nx) (hcn:c<nx):vR Tryz.prog 118 [v.av,u8 u, .pt b 1 0 0, .pt c 1 0 0] H nx (bl (tg v (decide (iW m u≠0)) g.bz)):=by
 refine aa yT rfl ?_
 repeat' (first|((with_reducible refine aF ?_);conv=>whnf)|refine aG ?_|exact gF|with_reducible refine aD ?_ ?_|((with_reducible refine Ask.mk ?_);first|exact dw|exact dE|(intro h;simp_all[lZ.cells,cD.cells]<;>fail)|(simp_all[lZ.cells,cD.cells]<;>fail))|(apply aB;(·exact cR))|refine aH ?_|((with_reducible refine aA ?_ ?_)<;>intro hc<;>(try simp only[List.length_map,ne_eq,da] at hc)<;>try(exfalso;omega)))
 all_goals refine KZ.look ?_ xC
 all_goals simp only[show IntKind.u8.wrap (BitVec.ofInt IntKind.u8.bits m&&& BitVec.ofInt IntKind.u8.bits u).toNat=iW m u from rfl] at *
 all_goals unfold tg
 ·rw[if_neg (show ¬decide (iW m u≠0)=true by simp[hc])]
  obtain⟨is,sl,wo⟩:=v
  refine fA ?_
  rw[Bool.eq_iff_iff]
  simp[lZ.default_eq,and_assoc]
 ·rename_i h0
  rw[decide_eq_true hc,if_pos rfl,if_pos h0]
  refine fA ?_
  by_cases h1:0≤v.slot<;>by_cases h2:v.slot<g.bz<;>simp[h1,h2]
 ·rename_i h0
  rw[decide_eq_true hc,if_pos rfl,if_neg (by rw[h0];decide)]
theorem JJ (k op:Int) (h:1≤k∧k<10):(iW (mask k op) 1=0↔¬k=1)∧(decide (iW (mask k op) 2≠0)=k7 k)∧(decide (iW (mask k op) 4≠0)=fw k)∧(decide (iW (mask k op) 8≠0)=vH k)∧(decide (iW (mask k op) 16≠0)=(decide (k=1)&&eB op))∧(decide (iW (mask k op) 32≠0)=jV k)∧(decide (iW (mask k op) 64≠0)=decide (k=8)):=by
 have hk:k=1∨k=2∨k=3∨k=4∨k=5∨k=6∨k=7∨k=8∨k=9:=by omega
 rcases hk with rfl|rfl|rfl|rfl|rfl|rfl|rfl|rfl|rfl
 ·cases ht:eB op with
  |false=>rw[show mask 1 op=43 by simp[mask,ht]];decide
  |true=>rw[show mask 1 op=59 by simp[mask,ht]];decide
 ·rw[show mask 2 op=38 by rfl,show(decide ((2:Int)=1)&&eB op)=false by rfl];decide
 ·rw[show mask 3 op=44 by rfl,show(decide ((3:Int)=1)&&eB op)=false by rfl];decide
 ·rw[show mask 4 op=46 by rfl,show(decide ((4:Int)=1)&&eB op)=false by rfl];decide
 ·rw[show mask 5 op=36 by rfl,show(decide ((5:Int)=1)&&eB op)=false by rfl];decide
 ·rw[show mask 6 op=36 by rfl,show(decide ((6:Int)=1)&&eB op)=false by rfl];decide
 ·rw[show mask 7 op=40 by rfl,show(decide ((7:Int)=1)&&eB op)=false by rfl];decide
 ·rw[show mask 8 op=104 by rfl,show(decide ((8:Int)=1)&&eB op)=false by rfl];decide
 ·rw[show mask 9 op=0 by rfl,show(decide ((9:Int)=1)&&eB op)=false by rfl];decide
set_option maxRecDepth 4000 in
set_option maxHeartbeats 2000000 in
theorem DB (u:bw) (g:cD) (n:Node) (hn:n.Wf):Pure Tryz.prog 72 [u.av,g.av,n.av] (fun r=>r=bl (mE u g n)):=by
 refine aI OE rfl ?_
 have h0:=hn.kind.1
 have ho:=hn.op.1
 by_cases hk:1≤n.kind∧n.kind<10∧0≤n.origin∧n.origin<4096
 ·have hp:=CZ n hn ⟨hk.1,hk.2.1⟩
  obtain⟨m1,m2,m3,m4,m5,m6,m7⟩:=JJ n.kind n.op ⟨hk.1,hk.2.1⟩
  repeat' (first|((with_reducible refine aF ?_);conv=>whnf)|refine aG ?_|exact gF|with_reducible refine aD ?_ ?_|((with_reducible refine Ask.mk ?_);first|exact dw|exact dE|(intro h;simp_all[bw.cells,cD.cells,Node.cells]<;>fail)|(simp_all[bw.cells,cD.cells,Node.cells]<;>fail))|(apply aB;(·exact cR))|refine aK (hp) ?_|((refine aY (qj _ _ _ _ _ _ _ _ _ (by exact rfl)) ?_ ?_);(·exact True.intro))|((refine aX (fun _=>qj _ _ _ _ _ _ _ _ _ (by exact rfl)) ?_ ?_);(·exact True.intro))|((refine aY (tG ⟨_,_,_⟩ _ _ _ _ _ _ _ _ _ _ _ (by exact rfl) (by exact rfl) c8 c8) ?_ ?_);(·exact True.intro))|((refine aX (fun _=>tG ⟨_,_,_⟩ _ _ _ _ _ _ _ _ _ _ _ (by exact rfl) (by exact rfl) c8 c8) ?_ ?_);(·exact True.intro))|refine aH ?_|((with_reducible refine aA ?_ ?_)<;>intro hc<;>(try simp only[List.length_map,ne_eq,da] at hc)<;>try(exfalso;omega)))
  all_goals
   have hop:qI (IntKind.i64.wrap n.op) (decide (iW (mask n.kind n.op) 1≠0)) 19=(if n.kind=1 then decide (n.op<19) else decide (n.op=0)):=by
    have h2:=hn.op.2
    rw[wrap64 (by omega) (by omega)]
    unfold qI
    by_cases h1:n.kind=1
    ·rw[if_pos h1,if_pos (show decide (iW (mask n.kind n.op) 1≠0)=true by rw[decide_eq_true_eq];exact fun h=>m1.1 h h1),decide_eq_true ho,Bool.true_and]
    ·rw[if_neg h1,if_neg (show ¬decide (iW (mask n.kind n.op) 1≠0)=true by rw[decide_eq_true_eq];exact fun h=>h (m1.2 h1))]
   refine fA ?_
   rw[hop,m2,m3,m4,m5,m6,m7]
   unfold mE
   rw[decide_eq_true hk,Bool.true_and]
   simp only[hc,if_true,if_false,or_self,Bool.if_false_right,Bool.decide_eq_true,Bool.and_assoc]
   simp only[List.length_map]
   generalize qI n.slot (k7 n.kind) g.bz=x1
   have ea:(⟨n.a.jK,n.a.slot,n.a.word⟩:lZ)=n.a:=rfl
   have eb:(⟨n.b.jK,n.b.slot,n.b.word⟩:lZ)=n.b:=rfl
   rw[ea,eb]
   generalize tg n.a (vH n.kind) g.bz=x2
   generalize tg n.b (decide (n.kind=1)&&eB n.op) g.bz=x3
   generalize qI n.next (jV n.kind) g.nodes.length=x4
   generalize qI n.sC (decide (n.kind=8)) g.nodes.length=x5
   revert x1 x2 x3 x4 x5
   intro x1 x2 x3 x4 x5
   cases x1<;>cases x2<;>cases x3<;>cases x4<;>cases x5<;>simp
 ·have hb:mE u g n=false:=by unfold mE;rw[decide_eq_false hk];simp
  rw[hb]
  repeat' (first|((with_reducible refine aF ?_);conv=>whnf)|refine aG ?_|exact gF|with_reducible refine aD ?_ ?_|((with_reducible refine Ask.mk ?_);first|exact dw|exact dE|(intro h;simp_all[bw.cells,cD.cells,Node.cells]<;>fail)|(simp_all[bw.cells,cD.cells,Node.cells]<;>fail))|(apply aB;(·exact cR))|refine aH ?_|((with_reducible refine aA ?_ ?_)<;>intro hc<;>(try simp only[List.length_map,ne_eq,da] at hc)<;>try(exfalso;omega)))
  exact rfl
end Go.Proofs.YtjopoheligmmoaaGreatDoor
end
section
/- Names. -/
namespace Go.Proofs.YtjopoheligmmoaaGreatDoor
open Go Go.cY Go.Proofs
set_option linter.unusedSimpArgs false
set_option linter.unusedVariables false
def jI (c:Int):Bool:=decide (48≤c)&&decide (c≤57)
def mm (c:Int):Bool:=decide (97≤c)&&decide (c≤122)||decide (65≤c)&&decide (c≤90)||decide (c=95)
def P0:List ByteArray:=[⟨(List.toArray [115,104,97,114,101,100])⟩,⟨(List.toArray [108,111,99,107])⟩,⟨(List.toArray [116,104,114,101,97,100])⟩,⟨(List.toArray [108,111,99,97,108])⟩,⟨(List.toArray [105,102])⟩,⟨(List.toArray [101,108,115,101])⟩,⟨(List.toArray [119,104,105,108,101])⟩,⟨(List.toArray [112,114,105,110,116])⟩,⟨(List.toArray [115,107,105,112])⟩,⟨(List.toArray [115,119,97,112])⟩]
def vL (s:ByteArray):Bool:=P0.any (s==·)
theorem eI (c:Int):Pure Tryz.prog 165 [u8 c] (fun r=>r=bl (mm c)):=by
 refine aI yi rfl ?_
 repeat' (first|((with_reducible refine aF ?_);conv=>whnf)|refine aG ?_|exact aC|with_reducible refine aD ?_ ?_|(apply aB;(·exact cR))|refine aH ?_|((with_reducible refine aA ?_ ?_)<;>intro hc<;>(try simp only[List.length_map,ne_eq,da] at hc)<;>try(exfalso;omega)))
 refine fA ?_
 unfold mm
 by_cases h1:97≤c<;>by_cases h2:c≤122<;>by_cases h3:65≤c<;>by_cases h4:c≤90<;>by_cases h5:c=95<;>simp[h1,h2,h3,h4,h5]
theorem gP (s:ByteArray):Pure Tryz.prog 164 [st s] (fun r=>r=bl (vL s)):=by
 refine aI yh rfl ?_
 repeat' (first|((with_reducible refine aF ?_);conv=>whnf)|refine aG ?_|exact aC|with_reducible refine aD ?_ ?_|(apply aB;(·exact cR))|refine aH ?_|((with_reducible refine aA ?_ ?_)<;>intro hc<;>(try simp only[List.length_map,ne_eq,da] at hc)<;>try(exfalso;omega)))
 all_goals refine fA ?_
 all_goals simp_all[vL,P0]
def gN (s:ByteArray) (i:Nat):Int:=(s.data.toList.getD i 0).toNat
def lV (s:ByteArray):Bool:=decide (1≤s.size)&&decide (s.size≤32)&& !jI (gN s 0)&& !vL s&&(List.range s.size).all fun i=>mm (gN s i)||jI (gN s i)
theorem TO (s:ByteArray):(s==(⟨#[]⟩:ByteArray))=decide (s.size=0):=by
 obtain⟨d⟩:=s
 show(d==#[])=_
 rw[Bool.eq_iff_iff]
 show(d==#[])=true↔decide (d.size=0)=true
 simp
theorem JM (s:ByteArray) (hs:s.size≤140737488351232):Pure Tryz.prog 115 [st s] (fun r=>r=bl (lV s)):=by
 refine aI yQ rfl ?_
 have e0:=TO s
 by_cases hz:s.size=0
 ·have e1:(s==(⟨#[]⟩:ByteArray))=true:=by rw[e0,decide_eq_true hz]
  have hb:lV s=false:=by unfold lV;rw[decide_eq_false (by omega)];simp
  rw[hb]
  repeat' (first|((with_reducible refine aF ?_);conv=>whnf)|refine aG ?_|exact gF|with_reducible refine aD ?_ ?_|((with_reducible refine Ask.mk ?_);first|exact dw|((refine Ask.mk ?_);intro h;simp_all)|exact dE)|(apply aB;(·exact cR))|((with_reducible refine aQ (eW _) ?_ ?_);(·exact cF))|((with_reducible refine aP (fun _=>eW _) ?_ ?_);(·exact cF))|((with_reducible refine aN (eW _) ?_ ?_);(·exact cF))|((with_reducible refine aO (fun _=>eW _) ?_ ?_);(·exact cF))|((with_reducible refine aQ (gP _) ?_ ?_);(·exact cF))|((with_reducible refine aP (fun _=>gP _) ?_ ?_);(·exact cF))|((with_reducible refine aN (gP _) ?_ ?_);(·exact cF))|((with_reducible refine aO (fun _=>gP _) ?_ ?_);(·exact cF))|((with_reducible refine aQ (eI _) ?_ ?_);(·exact cF))|((with_reducible refine aP (fun _=>eI _) ?_ ?_);(·exact cF))|((with_reducible refine aN (eI _) ?_ ?_);(·exact cF))|((with_reducible refine aO (fun _=>eI _) ?_ ?_);(·exact cF))|(simp only[e1])|refine aH ?_|((with_reducible refine aA ?_ ?_)<;>intro hc<;>(try simp only[List.length_map,ne_eq,da] at hc)<;>try(exfalso;omega)))
  all_goals first|exact rfl|(exfalso;simp_all)
 ·have e1:(s==(⟨#[]⟩:ByteArray))=false:=by rw[e0,decide_eq_false hz]
  repeat' (first|((with_reducible refine aF ?_);conv=>whnf)|refine aG ?_|exact gF|with_reducible refine aD ?_ ?_|((with_reducible refine Ask.mk ?_);first|exact dw|((refine Ask.mk ?_);intro h;exact⟨by omega,by omega⟩)|exact dE)|(apply aB;(·exact cR))|((with_reducible refine aQ (eW _) ?_ ?_);(·exact cF))|((with_reducible refine aP (fun _=>eW _) ?_ ?_);(·exact cF))|((with_reducible refine aN (eW _) ?_ ?_);(·exact cF))|((with_reducible refine aO (fun _=>eW _) ?_ ?_);(·exact cF))|((with_reducible refine aQ (gP _) ?_ ?_);(·exact cF))|((with_reducible refine aP (fun _=>gP _) ?_ ?_);(·exact cF))|((with_reducible refine aN (gP _) ?_ ?_);(·exact cF))|((with_reducible refine aO (fun _=>gP _) ?_ ?_);(·exact cF))|((with_reducible refine aQ (eI _) ?_ ?_);(·exact cF))|((with_reducible refine aP (fun _=>eI _) ?_ ?_);(·exact cF))|((with_reducible refine aN (eI _) ?_ ?_);(·exact cF))|((with_reducible refine aO (fun _=>eI _) ?_ ?_);(·exact cF))|(simp only[e1])|refine aH ?_|((with_reducible refine aA ?_ ?_)<;>intro hc<;>(try simp only[List.length_map,ne_eq,da] at hc)<;>try(exfalso;omega)))
  ·refine fA (Eq.symm ?_)
   unfold lV
   have hp:(decide (1≤s.size)&&decide (s.size≤32)&& !jI (gN s 0)&& !vL s)=false:=by
    rcases hc with((h|h)|h)|h
    ·exact absurd h (by decide)
    ·simp[show ¬s.size≤32 by omega]
    ·have h:48≤gN s 0∧gN s 0≤57:=h
     simp[jI,h.1,h.2]
    ·simp[h]
   rw[hp,Bool.false_and]
  ·have hp:(decide (1≤s.size)&&decide (s.size≤32)&& !jI (gN s 0)&& !vL s)=true:=by
    obtain⟨h1,h2⟩:=hc
    have h3:¬(48≤gN s 0∧gN s 0≤57):=fun h=>h1 (.inr h)
    have h4:s.size≤32:=by
     have:¬(32:Int)<s.size:=fun h=>h1 (.inl (.inr h))
     omega
    have h5:jI (gN s 0)=false:=by
     unfold jI
     by_cases h:48≤gN s 0
     ·rw[decide_eq_true h,decide_eq_false (fun h'=>h3 ⟨h,h'⟩)];rfl
     ·rw[decide_eq_false h];rfl
    rw[decide_eq_true (by omega:1≤s.size),decide_eq_true h4,h5,h2];rfl
   have hb:∀R,(decide (1≤s.size)&&decide (s.size≤32)&& !jI (gN s 0)&& !vL s&&R)=R:=fun R=>by rw[hp,Bool.true_and]
   unfold lV
   rw[hb]
   clear hc hp hb e1 e0
   refine aM (fun i:Nat=>[(0,st s),(21,i64 s.size),(22,i64 i)]) (fun i H n=>i≤s.size∧∀j,j<i→(mm (gN s j)||jI (gN s j))=true) (fun i=>s.size - i) 0 cH ⟨Nat.zero_le _,fun _ h=>by omega⟩ ?_
   rintro i H n ⟨hi,hall⟩
   by_cases his:i<s.size
   ·repeat' (first|((with_reducible refine aF ?_);conv=>whnf)|refine aG ?_|exact gF|with_reducible refine aD ?_ ?_|((with_reducible refine Ask.mk ?_);first|exact dw|((refine Ask.mk ?_);intro h;exact⟨by omega,by omega⟩)|exact dE)|(apply aB;(·exact cR))|((with_reducible refine aQ (eW _) ?_ ?_);(·exact cF))|((with_reducible refine aP (fun _=>eW _) ?_ ?_);(·exact cF))|((with_reducible refine aN (eW _) ?_ ?_);(·exact cF))|((with_reducible refine aO (fun _=>eW _) ?_ ?_);(·exact cF))|((with_reducible refine aQ (eI _) ?_ ?_);(·exact cF))|((with_reducible refine aP (fun _=>eI _) ?_ ?_);(·exact cF))|((with_reducible refine aN (eI _) ?_ ?_);(·exact cF))|((with_reducible refine aO (fun _=>eI _) ?_ ?_);(·exact cF))|refine aH ?_|((with_reducible refine aA ?_ ?_)<;>intro hc<;>(try simp only[List.length_map,ne_eq,da] at hc)<;>try(exfalso;omega)))
    ·refine fA (Eq.symm ?_)
     rw[Bool.eq_false_iff,ne_eq,List.all_eq_true]
     intro hA
     have h1:=hA i (List.mem_range.2 his)
     have hc:mm (gN s i)=false∧(gN s i<48∨57<gN s i):=hc
     rw[hc.1,Bool.false_or] at h1
     simp only[jI,Bool.and_eq_true,decide_eq_true_eq] at h1
     omega
    ·refine⟨i+1,by omega,cH,by omega,fun j hj=> ?_⟩
     by_cases hji:j=i
     ·have hc:¬mm (gN s i)=false∨(48≤gN s i∧gN s i≤57):=hc
      rw[hji]
      rcases hc with h|h
      ·rw[Bool.not_eq_false] at h
       rw[h,Bool.true_or]
      ·simp[jI,h.1,h.2]
     ·exact hall j (by omega)
   ·have:i=s.size:=by omega
    subst this
    repeat' (first|((with_reducible refine aF ?_);conv=>whnf)|refine aG ?_|exact aC|with_reducible refine aD ?_ ?_|(apply aB;(·exact cR))|refine aH ?_|((with_reducible refine aA ?_ ?_)<;>intro hc<;>(try simp only[List.length_map,ne_eq,da] at hc)<;>try(exfalso;omega)))
    refine fA (Eq.symm ?_)
    rw[List.all_eq_true]
    intro j hj
    exact hall j (List.mem_range.1 hj)
end Go.Proofs.YtjopoheligmmoaaGreatDoor
end
