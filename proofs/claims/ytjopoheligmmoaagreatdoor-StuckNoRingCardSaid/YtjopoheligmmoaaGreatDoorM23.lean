import Derived.Test.YtjopoheligmmoaaGreatDoorM15
import Derived.Test.YtjopoheligmmoaaGreatDoorM20
import Derived.Test.YtjopoheligmmoaaGreatDoorM21
import Derived.Test.YtjopoheligmmoaaGreatDoorM22
section
/- Units as plain data. -/
namespace Go.Proofs.YtjopoheligmmoaaGreatDoor
open Go Go.cY Go.Proofs
set_option linter.unusedSimpArgs false
set_option linter.unusedVariables false
abbrev i64 (n:Int):AV:= .sc (.int .i64 n)
abbrev u8 (n:Int):AV:= .sc (.int .u8 n)
abbrev bl (b:Bool):AV:= .sc (.bool b)
abbrev st (s:ByteArray):AV:= .sc (.string s)
def eN (n:Int):Prop:=-9223372036854775808≤n∧n<9223372036854775808
structure lX where
 jL:Bool
 slot:Int
 word:Int
 deriving Inhabited,DecidableEq
def lX.cells (v:lX):List AV:=[bl v.jL,i64 v.slot,i64 v.word]
abbrev lX.av (v:lX):AV:= .agg v.cells
structure lX.Wf (v:lX):Prop where
 slot:eN v.slot
 word:eN v.word
structure Node where
 kind:Int
 op:Int
 slot:Int
 cM:Int
 a:lX
 b:lX
 next:Int
 sE:Int
 origin:Int
 deriving Inhabited,DecidableEq
def Node.cells (n:Node):List AV:=[u8 n.kind,u8 n.op,i64 n.slot,i64 n.cM,bl n.a.jL,i64 n.a.slot,i64 n.a.word,bl n.b.jL,i64 n.b.slot,i64 n.b.word,i64 n.next,i64 n.sE,i64 n.origin]
abbrev Node.av (n:Node):AV:= .agg n.cells
structure Node.Wf (n:Node):Prop where
 kind:0≤n.kind∧n.kind<256
 op:0≤n.op∧n.op<256
 slot:eN n.slot
 cM:eN n.cM
 a:n.a.Wf
 b:n.b.Wf
 next:eN n.next
 sE:eN n.sE
 origin:eN n.origin
structure Decl where
 name:ByteArray
 word:Int
 at_:Int
 deriving Inhabited,DecidableEq
def Decl.cells (d:Decl):List AV:=[st d.name,i64 d.word,i64 d.at_]
abbrev Decl.av (d:Decl):AV:= .agg d.cells
structure Decl.Wf (d:Decl):Prop where
 name:d.name.size≤140737488351232
 word:eN d.word
 at_:eN d.at_
structure cC where
 name:ByteArray
 locals:Int
 bx:Int
 nodes:List Node
 deriving Inhabited,DecidableEq
abbrev ij (l:List Node):AV:= .im 13 .any (l.map Node.av)
def cC.cells (g:cC):List AV:=[st g.name,i64 g.locals,i64 g.bx,ij g.nodes]
abbrev cC.av (g:cC):AV:= .agg g.cells
structure cC.Wf (g:cC):Prop where
 name:g.name.size≤140737488351232
 locals:eN g.locals
 bx:eN g.bx
 nodes:∀n∈g.nodes,n.Wf
 len:g.nodes.length * 88≤140737488351232
structure bu where
 shared:List Decl
 cD:List Decl
 bt:List cC
 deriving Inhabited,DecidableEq
abbrev cq (l:List Decl):AV:= .im 3 .any (l.map Decl.av)
abbrev dc (l:List cC):AV:= .im 4 .any (l.map cC.av)
def bu.cells (u:bu):List AV:=[cq u.shared,cq u.cD,dc u.bt]
abbrev bu.av (u:bu):AV:= .agg u.cells
structure bu.Wf (u:bu):Prop where
 shared:∀d∈u.shared,d.Wf
 vB:u.shared.length * 32≤140737488351232
 cD:∀d∈u.cD,d.Wf
 zQ:u.cD.length * 32≤140737488351232
 bt:∀g∈u.bt,g.Wf
 IW:u.bt.length * 56≤140737488351232
@[simp] theorem Y4 (n:Nat) (v:lX):cX n v.cells:=by simp[lX.cells,cX,cI]
@[simp] theorem XU (n:Nat) (v:Node):cX n v.cells:=by simp[Node.cells,cX,cI]
@[simp] theorem XS (n:Nat) (v:Decl):cX n v.cells:=by simp[Decl.cells,cX,cI]
@[simp] theorem W2 (n:Nat) (v:cC):cX n v.cells:=by simp[cC.cells,cX,cI,cB]
@[simp] theorem XV (n:Nat) (v:bu):cX n v.cells:=by simp[bu.cells,cX,cI,cB]
abbrev cC.nd (g:cC) (i:Nat):Node:=g.nodes.getD i default
abbrev bu.gr (u:bu) (t:Nat):cC:=u.bt.getD t default
theorem u6 {α β:Type} (f:α→β) (l:List α) (i:Nat) (a:α):(l.map f).getD i (f a)=f (l.getD i a):=by
 simp only[List.getD,List.getElem?_map]
 cases l[i]?<;>rfl
theorem VM {l:List cC} {i:Nat}:(l.map cC.av).getD i (cC.av default)=(l.getD i default).av:=u6 _ _ _ _
theorem L5 {l:List Decl} {i:Nat}:(l.map Decl.av).getD i (Decl.av default)=(l.getD i default).av:=u6 _ _ _ _
theorem ew {a b:Bool} (h:a=b):AV.sc (.bool a)=bl b:=by rw[h]
theorem cP {α:Type} {l:List α} {j:Nat} (d:α) (h:j<l.length):l.getD j d∈l:=by
 simp only[List.getD,List.getElem?_eq_getElem h,Option.getD_some];exact List.getElem_mem h
end Go.Proofs.YtjopoheligmmoaaGreatDoor
end
section
/- What a unit must be, in plain data. -/
namespace Go.Proofs.YtjopoheligmmoaaGreatDoor
open Go Go.cY Go.Proofs
set_option linter.unusedSimpArgs false
set_option linter.unusedVariables false
def Node.oD (n:Node):List Int:=if n.kind=9 then[] else if n.kind=8 then[n.next,n.sE] else[n.next]
def Node.fold (n:Node):List Int:=if n.kind=9 then[] else if n.kind=8∧n.sE≠n.next then[n.next,n.sE] else[n.next]
def fi {α:Type} (p:α→Bool):List α→Nat→Option Nat
 |[],_=>none
 |x::r,i=>if p x=true then fi p r (i+1) else some i
theorem xh {α:Type} (p:α→Bool) (l:List α) (d:α) {i:Nat} (h:i<l.length):fi p (l.drop i) i=if p (l.getD i d)=true then fi p (l.drop (i+1)) (i+1) else some i:=by
 rw[List.drop_eq_getElem_cons h,fi]
 simp[List.getD,h]
theorem BY {α:Type} (p:α→Bool) (l:List α) {i:Nat} (h:l.length≤i):fi p (l.drop i) i=none:=by
 rw[List.drop_eq_nil_of_le h,fi]
def dy (op:Int):Bool:=decide (1≤op)&&decide (op≤16)
def kZ (k:Int):Bool:=decide (k=1∨k=2∨k=4)
def fu (k:Int):Bool:=decide (k=2∨k=3∨k=4∨k=5∨k=6)
def vI (k:Int):Bool:=decide (k=1∨k=3∨k=4∨k=7∨k=8)
def jV (k:Int):Bool:=decide (1≤k∧k≤8)
def tm (v:lX) (used:Bool) (bx:Int):Bool:=if used=true then(if v.jL=true then decide (0≤v.slot)&&decide (v.slot<bx)&&decide (v.word=0) else decide (v.slot=0)) else decide (v=default)
def qI (n:Int) (used:Bool) (most:Int):Bool:=if used=true then decide (0≤n)&&decide (n<most) else decide (n=0)
def mC (u:bu) (g:cC) (n:Node):Bool:=
 decide (1≤n.kind∧n.kind<10∧0≤n.origin∧n.origin<4096)&&(if n.kind=1 then decide (n.op<19) else decide (n.op=0))&&
 qI n.slot (kZ n.kind) g.bx&&qI n.cM (fu n.kind) (if n.kind=5∨n.kind=6 then u.cD.length else u.shared.length)&&tm n.a (vI n.kind) g.bx&&tm n.b (decide (n.kind=1)&&dy n.op) g.bx&&qI n.next (jV n.kind) g.nodes.length&&qI n.sE (decide (n.kind=8)) g.nodes.length
def tE (m:Nat) (n:Node):Bool:=decide (1≤n.kind)&&decide (n.kind<10)&&n.oD.all fun k=>decide (0≤k)&&decide (k<m)
def lJ (g:cC):Bool:=decide (1≤g.nodes.length)&&decide (g.nodes.length≤4096)&&g.nodes.all (tE g.nodes.length)
structure HS where
 cD:List (List Int)
 found:List Bool
 todo:List Int
def HS.l (s:HS) (k:Int):List Int:=s.cD.getD k.toNat []
def HS.f (s:HS) (k:Int):Bool:=s.found.getD k.toNat false
def de (n:Node) (l:List Int):Option (List Int):=
 if n.kind=5 then some (l++[n.cM]) else if n.kind=6 then(if l≠[]∧l.getLast?=some n.cM then some l.dropLast else none) else if n.kind=9 then(if l=[] then some l else none) else some l
def dZ (now:List Int):List Int→HS→HS ⊕ Int
 |[],s=> .inl s
 |k::r,s=>if s.f k=false then dZ now r ⟨s.cD.set k.toNat now,s.found.set k.toNat true,s.todo++[k]⟩ else if s.l k=now then dZ now r s else .inr k
def fZ (g:cC):Nat→HS→Nat→List (List Int)×Int
 |0,s,_=>(s.cD,-1)
 |f+1,s,k=>if k<s.todo.length then(match de (g.nd (s.todo.getD k 0).toNat) (s.l (s.todo.getD k 0)) with
  |none=>([],s.todo.getD k 0)
  |some now=>match dZ now (g.nd (s.todo.getD k 0).toNat).oD s with
   | .inl s'=>fZ g f s' (k+1)
   | .inr at_=>([],at_)) else(s.cD,-1)
def wC (g:cC):HS:=⟨List.replicate g.nodes.length [],(List.replicate g.nodes.length false).set 0 true,[0]⟩
def eL (g:cC):List (List Int)×Int:=fZ g (g.nodes.length+1) (wC g) 0
def ng (u:bu) (g:cC):Option Int:=
 if g.locals<0∨g.locals>64∨g.bx<g.locals∨g.bx>4160∨g.nodes.length<1∨g.nodes.length>4096 then some 0 else
 match fi (mC u g) g.nodes 0 with
 |some i=>some (i:Int)
 |none=>if 0≤(eL g).2 then some (eL g).2 else none
def fS (u:bu):List cC→Nat→Int×Int×Int
 |[],_=>(0,0,0)
 |g::r,t=>match ng u g with
  |some k=>(60,t,k)
  |none=>fS u r (t+1)
end Go.Proofs.YtjopoheligmmoaaGreatDoor
end
section
/- What is reached, in plain data. -/
namespace Go.Proofs.YtjopoheligmmoaaGreatDoor
open Go Go.cY Go.Proofs
set_option linter.unusedSimpArgs false
set_option linter.unusedVariables false
theorem IH {α:Type} (F:List Int→α) (n:Node) (h:∀a,F [a,a]=F [a]):F n.fold=F n.oD:=by
 unfold Node.fold Node.oD
 by_cases h9:n.kind=9
 ·rw[if_pos h9,if_pos h9]
 ·rw[if_neg h9,if_neg h9]
  by_cases h8:n.kind=8
  ·rw[if_pos h8]
   by_cases he:n.sE=n.next
   ·rw[if_neg (fun h=>h.2 he),he,h]
   ·rw[if_pos ⟨h8,he⟩]
  ·rw[if_neg h8,if_neg (fun h=>h8 h.1)]
abbrev mZ (out:List Bool) (k:Int):Bool:=out.getD k.toNat false
def jw:List Int→List Bool×List Int→List Bool×List Int
 |[],s=>s
 |k::r,s=>if mZ s.1 k=false then jw r (s.1.set k.toNat true,s.2++[k]) else jw r s
theorem DV (a:Int) (s:List Bool×List Int) (h:a.toNat<s.1.length):jw [a,a] s=jw [a] s:=by
 simp only[jw]
 by_cases h1:mZ s.1 a=false
 ·rw[if_pos h1,if_pos h1,if_neg (by simp[mZ,List.getD,h])]
 ·simp only[if_neg h1]
structure UP (l:List Int) (s s':List Bool×List Int):Prop where
 len:s'.1.length=s.1.length
 gM:∀k,mZ s.1 k=true→mZ s'.1 k=true
 new:∀k,0≤k→mZ s'.1 k=true→mZ s.1 k=true∨k∈l
 all:∀k∈l,mZ s'.1 k=true
 more:∃t,s'.2=s.2++t∧(∀k∈t,k∈l∧mZ s'.1 k=true)∧(∀k,0≤k→mZ s'.1 k=true→mZ s.1 k=true∨k∈t)∧s'.1.count false+t.length=s.1.count false
theorem count_set {l:List Bool} {i:Nat} (h:i<l.length) (hf:l.getD i false=false):(l.set i true).count false+1=l.count false:=by
 have h1:l[i]=false:=by simpa[List.getD,h] using hf
 rw[List.count_set h,h1]
 have:0<l.count false:=List.count_pos_iff.2 (h1▸List.getElem_mem h)
 simp
 omega
theorem ky {l:List Bool} {i:Nat} (h:i<l.length) (k:Int):mZ (l.set i true) k=if k.toNat=i then true else mZ l k:=by
 unfold mZ
 simp only[List.getD,List.getElem?_set]
 by_cases hk:k.toNat=i
 ·rw[if_pos hk.symm,if_pos hk];simp[h]
 ·rw[if_neg (fun e=>hk e.symm),if_neg hk]
theorem jd:∀(l:List Int) (s:List Bool×List Int),(∀k∈l,0≤k∧k.toNat<s.1.length)→UP l s (jw l s)
 |[],s,_=>⟨rfl,fun _ h=>h,fun _ _ h=> .inl h,fun _ h=>by simp at h,[],by simp[jw],fun _ h=>by simp at h,fun _ _ h=> .inl h,by simp[jw]⟩
 |k::r,s,h=>by
  obtain⟨hk0,hk⟩:=h k (by simp)
  have hr:=fun x hx=>h x (List.mem_cons_of_mem _ hx)
  rw[jw]
  by_cases h1:mZ s.1 k=false
  ·rw[if_pos h1]
   have ih:=jd r (s.1.set k.toNat true,s.2++[k]) (fun x hx=>by simpa using hr x hx)
   have hset:=ky (l:=s.1) hk
   obtain⟨t,t1,t2,t3,t4⟩:=ih.more
   have hkk:mZ (jw r (s.1.set k.toNat true,s.2++[k])).1 k=true:=ih.gM k (by rw[hset,if_pos rfl])
   refine⟨ih.len.trans (by simp),fun x hx=>ih.gM x (by rw[hset];split<;>first|rfl|exact hx),fun x hx0 hx=> ?_,fun x hx=> ?_,k::t,by rw[t1];simp,fun x hx=> ?_,fun x hx0 hx=> ?_, ?_⟩
   ·rcases ih.new x hx0 hx with h2|h2
    ·rw[hset] at h2
     split at h2
     ·rename_i e;exact .inr (by rw[show x=k by omega];simp)
     ·exact .inl h2
    ·exact .inr (List.mem_cons_of_mem _ h2)
   ·rcases List.mem_cons.1 hx with rfl|hx
    ·exact hkk
    ·exact ih.all x hx
   ·rcases List.mem_cons.1 hx with rfl|hx
    ·exact⟨by simp,hkk⟩
    ·exact⟨List.mem_cons_of_mem _ (t2 x hx).1,(t2 x hx).2⟩
   ·rcases t3 x hx0 hx with h2|h2
    ·rw[hset] at h2
     split at h2
     ·rename_i e;exact .inr (by rw[show x=k by omega];simp)
     ·exact .inl h2
    ·exact .inr (List.mem_cons_of_mem _ h2)
   ·have:=count_set hk h1
    rw[List.length_cons]
    dsimp only at t4
    omega
  ·rw[if_neg h1]
   have hkt:mZ s.1 k=true:=by simpa using h1
   have ih:=jd r s hr
   obtain⟨t,t1,t2,t3,t4⟩:=ih.more
   refine⟨ih.len,ih.gM,fun x hx0 hx=>(ih.new x hx0 hx).imp id (List.mem_cons_of_mem _),fun x hx=> ?_,t,t1,fun x hx=>⟨List.mem_cons_of_mem _ (t2 x hx).1,(t2 x hx).2⟩,t3,t4⟩
   rcases List.mem_cons.1 hx with rfl|hx
   ·exact ih.gM _ hkt
   ·exact ih.all x hx
inductive lZ (g:cC) (cut:Int):Int→Prop where
 |zero:lZ g cut 0
 |step {i k:Int}:lZ g cut i→i≠cut→k∈(g.nd i.toNat).oD→lZ g cut k
structure lL (g:cC) (cut:Int) (out:List Bool) (pend:List Int):Prop where
 len:out.length=g.nodes.length
 zero:mZ out 0=true
 oQ:∀k,0≤k→mZ out k=true→lZ g cut k
 inr:∀k∈pend,0≤k∧k.toNat<out.length∧mZ out k=true
 done:∀k,0≤k→k.toNat<out.length→mZ out k=true→k∉pend→k≠cut→∀j∈(g.nd k.toNat).oD,mZ out j=true
open Classical in
noncomputable def fY (g:cC) (cut:Int):List Bool:=(List.range g.nodes.length).map fun(i:Nat)=>decide (lZ g cut (i:Int))
theorem C8 (g:cC) (cut:Int):(fY g cut).length=g.nodes.length:=by simp[fY]
theorem C7 (g:cC) (cut:Int) {i:Nat} (h:i<g.nodes.length):(fY g cut).getD i false=true↔lZ g cut i:=by simp[fY,List.getD,h]
def Whole (g:cC):Prop:=1≤g.nodes.length∧g.nodes.length≤4096∧∀i,i<g.nodes.length→1≤(g.nd i).kind∧(g.nd i).kind<10∧∀k∈(g.nd i).oD,0≤k∧k.toNat<g.nodes.length
theorem KV {g:cC}:lJ g=true↔Whole g:=by
 unfold lJ Whole tE
 simp only[Bool.and_eq_true,decide_eq_true_eq,List.all_eq_true,and_assoc]
 refine and_congr Iff.rfl (and_congr Iff.rfl ⟨fun h i hi=> ?_,fun h n hn=> ?_⟩)
 ·have:=h (g.nd i) (cP _ hi)
  exact⟨this.1,this.2.1,fun k hk=>by have:=this.2.2 k hk;omega⟩
 ·obtain⟨i,hi,rfl⟩:=List.getElem_of_mem hn
  have:=h i hi
  rw[show g.nd i=g.nodes[i] by simp[List.getD,hi]] at this
  exact⟨this.1,this.2.1,fun k hk=>by have:=this.2.2 k hk;omega⟩
theorem lL.start {g:cC} {cut:Int} (h:Whole g):lL g cut ((List.replicate g.nodes.length false).set 0 true) [0]:=by
 have hl:=h.1
 have hz:∀k,mZ ((List.replicate g.nodes.length false).set 0 true) k=true→k.toNat=0:=fun k hk=>by
  rw[ky (by simp;omega)] at hk
  split at hk
  ·assumption
  ·simp only[mZ,List.getD,List.getElem?_replicate] at hk
   split at hk<;>simp at hk
 refine⟨by simp,by rw[ky (by simp;omega)];simp,fun k h0 hk=> ?_,fun k hk=> ?_,fun k h0 h1 hk hn=> ?_⟩
 ·rw[show k=0 by have:=hz k hk;omega];exact .zero
 ·simp only[List.mem_cons,List.not_mem_nil,or_false] at hk
  subst hk
  exact⟨by omega,by simp;omega,by rw[ky (by simp;omega)];simp⟩
 ·exact absurd (by rw[show k=0 by have:=hz k hk;omega];simp) hn
theorem lL.on {g:cC} {cut:Int} (h:Whole g) {out:List Bool} {pend:List Int} {at_:Int} {a b:List Int} (hp:pend=a++at_::b) (hg:lL g cut out pend) (hc:at_≠cut) {t:List Int} {s:List Bool×List Int} (hs:jw (g.nd at_.toNat).oD (out,t)=s) {t2:List Int} (ht2:s.2=t++t2):lL g cut s.1 (a++b++t2):=by
 obtain⟨i1,i2,i3⟩:=hg.inr at_ (by rw[hp];simp)
 have hfol:=(h.2.2 at_.toNat (by rw[←hg.len];exact i2)).2.2
 have sp:=jd (g.nd at_.toNat).oD (out,t) (fun k hk=>by have:=hfol k hk;rw[←hg.len] at this;exact this)
 rw[hs] at sp
 obtain⟨t3,e1,e2,e3,e4⟩:=sp.more
 have:t2=t3:=by rw[ht2] at e1;exact List.append_cancel_left e1
 subst this
 have hl:s.1.length=out.length:=sp.len
 refine⟨hl.trans hg.len,sp.gM _ hg.zero,fun k h0 hk=> ?_,fun k hk=> ?_,fun k h0 h1 hk hn hkc j hj=> ?_⟩
 ·rcases sp.new k h0 hk with h1|h1
  ·exact hg.oQ k h0 h1
  ·exact .step (hg.oQ at_ i1 i3) hc h1
 ·rcases List.mem_append.1 hk with hk|hk
  ·have h1:=hg.inr k (by rw[hp];rcases List.mem_append.1 hk with h|h<;>simp[h])
   exact⟨h1.1,by rw[hl];exact h1.2.1,sp.gM _ h1.2.2⟩
  ·have h1:=hfol k (e2 k hk).1
   exact⟨h1.1,by rw[hl,hg.len];exact h1.2,(e2 k hk).2⟩
 ·by_cases hka:k=at_
  ·subst hka;exact sp.all j hj
  ·rcases e3 k h0 hk with h2|h2
   ·refine sp.gM _ (hg.done k h0 (by rw[←hl];exact h1) h2 (fun hm=> ?_) hkc j hj)
    rw[hp] at hm
    simp only[List.mem_append,List.mem_cons] at hm
    rcases hm with hm|hm|hm
    ·exact hn (by simp[hm])
    ·exact hka hm
    ·exact hn (by simp[hm])
   ·exact absurd (List.mem_append_right _ h2) hn
theorem lL.cut {g:cC} {cut:Int} {out:List Bool} {pend a b:List Int} (hp:pend=a++cut::b) (hg:lL g cut out pend):lL g cut out (a++b):=by
 refine⟨hg.len,hg.zero,hg.oQ,fun k hk=>hg.inr k (by rw[hp];rcases List.mem_append.1 hk with h|h<;>simp[h]),fun k h0 h1 hk hn hkc=>hg.done k h0 h1 hk (fun hm=> ?_) hkc⟩
 rw[hp] at hm
 simp only[List.mem_append,List.mem_cons] at hm
 rcases hm with hm|hm|hm
 ·exact hn (by simp[hm])
 ·exact hkc hm
 ·exact hn (by simp[hm])
theorem lL.fin {g:cC} {cut:Int} (h:Whole g) {out:List Bool} (hg:lL g cut out []):out=fY g cut:=by
 have hall:∀k,lZ g cut k→0≤k∧k.toNat<g.nodes.length∧mZ out k=true:=fun k hk=>by
  induction hk with
  |zero=>exact⟨by omega,by have:=h.1;simp;omega,hg.zero⟩
  |@step i k hi hc hk ih=>
   obtain⟨i1,i2,i3⟩:=ih
   have h1:=(h.2.2 i.toNat i2).2.2 k hk
   exact⟨h1.1,h1.2,hg.done i i1 (by rw[hg.len];exact i2) i3 (by simp) hc k hk⟩
 apply List.ext_getElem
 ·rw[hg.len,C8]
 ·intro i h1 h2
  have hi:i<g.nodes.length:=by rw[←hg.len];exact h1
  have e1:out[i]=mZ out (i:Int):=by simp[mZ,List.getD,h1]
  have e2:(fY g cut)[i]=(fY g cut).getD i false:=by simp[List.getD,h2]
  rw[e1,e2,Bool.eq_iff_iff,C7 g cut hi]
  exact⟨fun hf=>hg.oQ _ (by omega) hf,fun hf=>(hall _ hf).2.2⟩
end Go.Proofs.YtjopoheligmmoaaGreatDoor
end
section
/- Lists that are handed back; small functions. -/
namespace Go.cY
open Go.RowKit
theorem aR {α:Type} {g:Option Bool} {x:Option α} {K:α→Prop} {a:α} (h:Gd g→x=some a) (k:Go (K a)):jE g x K:=jE.of h k
theorem dG.refl (c:Cx):∀bs:List AV,dG c c bs bs
 |[]=> .nil
 |_::bs=> .cons (fun _ hv=>hv) (dG.refl c bs)
theorem dG.map {α:Type} {c:Cx} {f g:α→AV} (h:∀a,dM c c (f a) (g a)):∀l:List α,dG c c (l.map f) (l.map g)
 |[]=> .nil
 |a::l=> .cons (h a) (dG.map h l)
theorem Pure.args {P:Program} {f:FuncId} {bs bs2:List AV} {R:AV→Prop} (h:Pure P f bs2 R) (hle:∀c,dG c c bs bs2):Pure P f bs R:=
 ⟨h.1,fun M w vs hM hv=>h.2 M w vs hM ((hle _).ZC hv)⟩
theorem cH.args {P:Program} {f:FuncId} {bs bs2:List AV} {H:Hp} {nx:Nat} {R:AV→Hp→Nat→Prop} (h:cH P f bs2 H nx R) (hle:∀c,dG c c bs bs2):cH P f bs H nx R:=
 ⟨h.1,fun w0 c vs h1 h2 h3 hv=>h.2 w0 c vs h1 h2 h3 ((hle _).ZC hv)⟩
theorem iE {P:Program} {f:FuncId} {args:List AV} {a b:AV} (h:Pure P f args (fun r=>r=a)) (hf:cI 0 b) (hle:∀c,dM c c a b):Pure P f args (fun r=>r=b):=
 ⟨h.1,fun M w vs hM hv=>(h.2 M w vs hM hv).mono fun _ _ ⟨v,r,he,hR,hf0,hvr,hb⟩=>⟨v,b,he,rfl,hf,hle _ v (by rw[←hR];exact hvr),hb⟩⟩
theorem dM.lT (c c2:Cx) (sz:Nat) (d:AV):dM c c2 (.sc (.slice none 0 0)) (.im sz d []):=by
 intro v hv
 rw[VR] at hv
 subst hv
 rw[VR]
 exact⟨none,0,rfl,by simp, .inl rfl⟩
def rI (H:Hp) (nx:Nat) (e:TypeId) (sz:Nat) (es:List AV):AV→Hp→Nat→Prop:=fun r H' n=>∃b' d',r= .sl b' es.length∧nx≤b'∧b'<n∧nx≤n∧br H' b'=some (.row e sz d' es)∧∀b,b<nx→br H' b=br H b
theorem rI.of {P:Program} {f:FuncId} {args:List AV} {H:Hp} {nx:Nat} {e:TypeId} {sz:Nat} {es:List AV} (hsz:0<sz) (h:cH P f args H nx (fun r H' n=>(r= .sc (.slice none 0 0)∧es=[]∧nx≤n∧∀b,b<nx→br H' b=br H b)∨rI H nx e sz es r H' n)):cH P f args H nx (rI H nx e sz es):=by
 refine h.wk ?_
 rintro r H' n (⟨rfl,rfl,h1,h2⟩|h1)
 ·refine⟨_,_,_,Wk.nil (nx:=n) e sz .any hsz,n, .any,rfl,h1,Nat.lt_succ_self _,by omega,cn _ _ _,fun b hb=> ?_⟩
  rw[cW (by omega)];exact h2 b hb
 ·exact⟨r,H',n,Wk.refl _ _ _,h1⟩
end Go.cY
namespace Go.Proofs.YtjopoheligmmoaaGreatDoor
open Go Go.cY Go.Proofs
set_option linter.unusedSimpArgs false
set_option linter.unusedVariables false
def fW (l:List Int):AV:= .im 1 .any (l.map i64)
def EZ (l:List Bool):AV:= .im 1 .any (l.map bl)
theorem dK {P:Program} {f:FuncId} {args:List AV} {u:AV} (h:cH P f args [] 0 (fun r H _=>cY.dU H 6 r=u)) (hf:cI 0 u):Pure P f args (fun r=>r=u):=by
 refine⟨h.1,fun M w vs hM hv=> ?_⟩
 have hS:dV w ⟨fun _=>none,br [],fun _=>False,w,M⟩:=⟨⟨rfl,rfl,rfl,Nat.le_refl _,fun _ _=>rfl⟩,hM,fun b e sz d es he=>by simp[br] at he,fun b b' k k' blk o z o' z' hk=>by simp[br] at hk⟩
 refine(h.2 w _ vs hS rfl (fun _ h=>h.elim) hv).mono ?_
 rintro en w' ⟨v1,r1,H1,nx',ρ,U,he,hz,hU,hS',_,g2⟩
 have h3:=kL hS' rfl 6 (a:=r1) (v:=v1) (by rw[hz];exact hf) g2
 rw[hz] at h3
 exact⟨v1,_,he,rfl,hf,h3,hS'.below⟩
theorem pure_or {P:Program} {f:FuncId} {args:List AV} {u v:AV} (h:cH P f args [] 0 (fun r H _=>cY.dU H 6 r=u∨cY.dU H 6 r=v)) (hu:cI 0 u) (hv:cI 0 v):Pure P f args (fun r=>r=u∨r=v):=by
 refine⟨h.1,fun M w vs hM hv'=> ?_⟩
 have hS:dV w ⟨fun _=>none,br [],fun _=>False,w,M⟩:=⟨⟨rfl,rfl,rfl,Nat.le_refl _,fun _ _=>rfl⟩,hM,fun b e sz d es he=>by simp[br] at he,fun b b' k k' blk o z o' z' hk=>by simp[br] at hk⟩
 refine(h.2 w _ vs hS rfl (fun _ h=>h.elim) hv').mono ?_
 rintro en w' ⟨v1,r1,H1,nx',ρ,U,he,hz,hU,hS',_,g2⟩
 rcases hz with hz|hz
 ·have h3:=kL hS' rfl 6 (a:=r1) (v:=v1) (by rw[hz];exact hu) g2
  rw[hz] at h3
  exact⟨v1,_,he, .inl rfl,hu,h3,hS'.below⟩
 ·have h3:=kL hS' rfl 6 (a:=r1) (v:=v1) (by rw[hz];exact hv) g2
  rw[hz] at h3
  exact⟨v1,_,he, .inr rfl,hv,h3,hS'.below⟩
theorem G2 {P:Program} {f:FuncId} {args:List AV} {u v:AV} (h:Pure P f args (fun r=>r=u∨r=v)) (hv:cI 0 v) (hle:∀c,dM c c u v):Pure P f args (fun r=>r=v):=
 ⟨h.1,fun M w vs hM hv'=>(h.2 M w vs hM hv').mono fun en w' ⟨x,r,h2,h3,h4,h5,h6⟩=>by
  rcases h3 with rfl|rfl
  ·exact⟨x,_,h2,rfl,hv,hle _ _ h5,h6⟩
  ·exact⟨x,_,h2,rfl,hv,h5,h6⟩⟩
theorem mn {P:Program} {f:FuncId} {args:List AV} {sz:Nat} {es:List AV} (hf:cI 0 (.im sz .any es)) (h:cH P f args [] 0 (fun r H _=>cY.dU H 6 r= .sc (.slice none 0 0)∧es=[]∨cY.dU H 6 r= .im sz .any es)):Pure P f args (fun r=>r= .im sz .any es):=by
 by_cases hl:es=[]
 ·subst hl
  exact G2 (pure_or (h.mono fun r H n h=>h.imp (·.1) id) (by simp[cI,cX]) hf) hf (fun c=>cY.dM.lT c c _ _)
 ·exact dK (h.mono fun r H n h=>h.elim (fun h=>absurd h.2 hl) id) hf
theorem fk (op:Int):Pure Tryz.prog 196 [u8 op] (fun r=>r=bl (decide (0<op∧op<19))):=by
 refine aI yp rfl ?_
 repeat' (first|((with_reducible refine aF ?_);conv=>whnf)|refine aG ?_|exact aC|with_reducible refine aD ?_ ?_|(apply aB;(·exact cO))|refine aH ?_|((with_reducible refine aA ?_ ?_)<;>intro hc<;>(try simp only[List.length_map,ne_eq,dY] at hc)<;>try(exfalso;omega)))
 simp only[decide_eq_true_eq]
 exact ew (by by_cases h:0<op<;>simp[h])
theorem eV (c:Int):Pure Tryz.prog 163 [u8 c] (fun r=>r=bl (decide (48≤c)&&decide (c≤57))):=by
 refine aI yg rfl ?_
 repeat' (first|((with_reducible refine aF ?_);conv=>whnf)|refine aG ?_|exact aC|with_reducible refine aD ?_ ?_|(apply aB;(·exact cO))|refine aH ?_|((with_reducible refine aA ?_ ?_)<;>intro hc<;>(try simp only[List.length_map,ne_eq,dY] at hc)<;>try(exfalso;omega)))
 all_goals simp_all[dY]
set_option maxHeartbeats 1000000 in
theorem kz (n:Node):Pure Tryz.prog 120 [n.av] (fun r=>r=fW n.fold):=by
 refine mn (by simp[cI,cB]) ?_
 refine aL yV rfl ?_
 repeat' (first|((with_reducible refine aF ?_);conv=>whnf)|refine aG ?_|exact gD|with_reducible refine aD ?_ ?_|((with_reducible refine Ask.mk ?_);first|exact dv|exact cz|(intro h;simp_all[Node.cells]<;>fail)|(simp_all[Node.cells]<;>fail))|(apply aB;(·exact cO))|refine aH ?_|((with_reducible refine aA ?_ ?_)<;>intro hc<;>(try simp only[List.length_map,ne_eq,dY] at hc)<;>try(exfalso;omega)))
 all_goals refine⟨?_⟩
 all_goals first|exact .inl ⟨rfl,by simp_all[Node.fold]⟩|(refine .inr ((df bw (by simp)).trans ?_);rw[cu _ (by simp[cX,cI])];first|(simp_all[fW,Node.fold];done)|(unfold Node.fold;rw[if_neg (by assumption),if_neg (fun h=>hc.elim (fun a=>a h.1) (fun a=>h.2 a))];rfl))
end Go.Proofs.YtjopoheligmmoaaGreatDoor
end
section
/- Is a node right? -/
namespace Go.Proofs.YtjopoheligmmoaaGreatDoor
open Go Go.cY Go.Proofs
set_option linter.unusedSimpArgs false
set_option linter.unusedVariables false
theorem kX {f:FuncId} {args:List AV} {u:AV} (hu:cI 0 u) (h:(vO TT 30 f args [] 0).map (fun q=>dU q.2.1 6 q.1)=some u):Pure Tryz.prog f args (fun r=>r=u):=by
 simp only[Option.map_eq_some_iff] at h
 obtain⟨⟨r,H',nx'⟩,h1,h2⟩:=h
 simp only at h2
 have h0:=oA hTT 30 _ _ _ _ _ _ _ h1
 have h3:=cH.pure (H':=H') (h0.mono fun r H n ⟨h1,h2,_⟩=>⟨h1,h2⟩) (by rw[h2];exact hu)
 exact h3.mono fun r hr=>by rw[hr,h2]
theorem fO (op:Int) (h0:0≤op):Pure Tryz.prog 159 [u8 op] (fun r=>r=bl (dy op)):=by
 refine aI yc rfl ?_
 repeat' (first|((with_reducible refine aF ?_);conv=>whnf)|refine aG ?_|exact aC|with_reducible refine aD ?_ ?_|(apply aB;(·exact cO))|((with_reducible refine aQ (fk _) ?_ ?_);(·exact cE))|((with_reducible refine aP (fun _=>fk _) ?_ ?_);(·exact cE))|((with_reducible refine aN (fk _) ?_ ?_);(·exact cE))|((with_reducible refine aO (fun _=>fk _) ?_ ?_);(·exact cE))|refine aH ?_|((with_reducible refine aA ?_ ?_)<;>intro hc<;>(try simp only[List.length_map,ne_eq,dY] at hc)<;>try(exfalso;omega)))
 refine ew ?_
 unfold dy
 by_cases h1:0<op<;>by_cases h2:op<19<;>by_cases h3:op=17<;>by_cases h4:op=18<;>simp[h1,h2,h3,h4]<;>omega
def mask (k op:Int):Int:=if k=1 then(if dy op=true then 59 else 43) else if k=2 then 38 else if k=3 then 44 else if k=4 then 46 else if k=5 then 36 else if k=6 then 36 else if k=7 then 40 else if k=8 then 104 else 0
set_option maxRecDepth 100000 in
theorem C1 (n:Node) (hn:n.Wf) (h:1≤n.kind∧n.kind<10):Pure Tryz.prog 116 [n.av] (fun r=>r=u8 (mask n.kind n.op)):=by
 obtain⟨h0,h1⟩:=h
 have ho:=hn.op.1
 obtain⟨kind,op,slot,cM,a,b,next,sE,origin⟩:=n
 simp only at h0 h1 ho
 have hk:kind=1∨kind=2∨kind=3∨kind=4∨kind=5∨kind=6∨kind=7∨kind=8∨kind=9:=by omega
 rcases hk with rfl|rfl|rfl|rfl|rfl|rfl|rfl|rfl|rfl
 ·refine aI yR rfl ?_
  repeat' (first|((with_reducible refine aF ?_);conv=>whnf)|refine aG ?_|exact aC|with_reducible refine aD ?_ ?_|(apply aB;(·exact cO))|((with_reducible refine aQ (fO _ ho) ?_ ?_);(·exact cE))|((with_reducible refine aP (fun _=>fO _ ho) ?_ ?_);(·exact cE))|((with_reducible refine aN (fO _ ho) ?_ ?_);(·exact cE))|((with_reducible refine aO (fun _=>fO _ ho) ?_ ?_);(·exact cE))|refine aH ?_|((with_reducible refine aA ?_ ?_)<;>intro hc<;>(try simp only[List.length_map,ne_eq,dY] at hc)<;>try(exfalso;omega)))
  all_goals
   cases ht:dy op with
   |true=>
    rw[ht] at hc
    first|(exact absurd rfl hc)|(exact absurd hc (by decide))|(simp only[show mask 1 op=59 by simp[mask,ht]];try kernel_rfl)
   |false=>
    rw[ht] at hc
    first|(exact absurd rfl hc)|(exact absurd hc (by decide))|(simp only[show mask 1 op=43 by simp[mask,ht]];try kernel_rfl)
 iterate 8 exact kX (by simp[cI,cX]) (by kernel_rfl)
theorem lX.default_eq:(default:lX)=⟨false,0,0⟩:=rfl
def iX (m u:Int):Int:=IntKind.u8.wrap (BitVec.ofInt IntKind.u8.bits m&&& BitVec.ofInt IntKind.u8.bits u).toNat
theorem qg (k u most m:Int) (b:Nat) (H:Hp) (nx:Nat) (e:TypeId) (d:AV) (hb:br H b=some (.row e 1 d [u8 m])):vS Tryz.prog 117 [i64 k,u8 u,i64 most, .pt b 1 0 0] H nx (bl (qI k (decide (iX m u≠0)) most)):=by
 refine aZ yS rfl ?_
 repeat' (first|((with_reducible refine aF ?_);conv=>whnf)|refine aG ?_|exact aC|with_reducible refine aD ?_ ?_|(apply aB;(·exact cO))|refine aH ?_|((with_reducible refine aA ?_ ?_)<;>intro hc<;>(try simp only[List.length_map,ne_eq,dY] at hc)<;>try(exfalso;omega)))
 refine K4.look ?_ xC
 simp only[show IntKind.u8.wrap (BitVec.ofInt IntKind.u8.bits m&&& BitVec.ofInt IntKind.u8.bits u).toNat=iX m u from rfl,qI]
 by_cases h1:iX m u=0<;>by_cases h2:k=0<;>by_cases h3:0≤k<;>by_cases h4:k<most<;>simp[h1,h2,h3,h4]
theorem tJ (v:lX) (u m:Int) (g:cC) (b c:Nat) (H:Hp) (nx:Nat) (e e2:TypeId) (d d2:AV) (hb:br H b=some (.row e 1 d [u8 m])) (hc:br H c=some (.row e2 4 d2 [g.av])) (hbn:b<nx) (hcn:c<nx):vS Tryz.prog 118 [v.av,u8 u, .pt b 1 0 0, .pt c 1 0 0] H nx (bl (tm v (decide (iX m u≠0)) g.bx)):=by
 refine aZ yT rfl ?_
 repeat' (first|((with_reducible refine aF ?_);conv=>whnf)|refine aG ?_|exact gD|with_reducible refine aD ?_ ?_|((with_reducible refine Ask.mk ?_);first|exact dv|exact cz|(intro h;simp_all[lX.cells,cC.cells]<;>fail)|(simp_all[lX.cells,cC.cells]<;>fail))|(apply aB;(·exact cO))|refine aH ?_|((with_reducible refine aA ?_ ?_)<;>intro hc<;>(try simp only[List.length_map,ne_eq,dY] at hc)<;>try(exfalso;omega)))
 all_goals refine K4.look ?_ xC
 all_goals simp only[show IntKind.u8.wrap (BitVec.ofInt IntKind.u8.bits m&&& BitVec.ofInt IntKind.u8.bits u).toNat=iX m u from rfl] at *
 all_goals unfold tm
 ·rw[if_neg (show ¬decide (iX m u≠0)=true by simp[hc])]
  obtain⟨is,sl,wo⟩:=v
  refine ew ?_
  rw[Bool.eq_iff_iff]
  simp[lX.default_eq,and_assoc]
 ·rename_i h0
  rw[decide_eq_true hc,if_pos rfl,if_pos h0]
  refine ew ?_
  by_cases h1:0≤v.slot<;>by_cases h2:v.slot<g.bx<;>simp[h1,h2]
 ·rename_i h0
  rw[decide_eq_true hc,if_pos rfl,if_neg (by rw[h0];decide)]
theorem JR (k op:Int) (h:1≤k∧k<10):(iX (mask k op) 1=0↔¬k=1)∧(decide (iX (mask k op) 2≠0)=kZ k)∧(decide (iX (mask k op) 4≠0)=fu k)∧(decide (iX (mask k op) 8≠0)=vI k)∧(decide (iX (mask k op) 16≠0)=(decide (k=1)&&dy op))∧(decide (iX (mask k op) 32≠0)=jV k)∧(decide (iX (mask k op) 64≠0)=decide (k=8)):=by
 have hk:k=1∨k=2∨k=3∨k=4∨k=5∨k=6∨k=7∨k=8∨k=9:=by omega
 rcases hk with rfl|rfl|rfl|rfl|rfl|rfl|rfl|rfl|rfl
 ·cases ht:dy op with
  |false=>rw[show mask 1 op=43 by simp[mask,ht]];decide
  |true=>rw[show mask 1 op=59 by simp[mask,ht]];decide
 ·rw[show mask 2 op=38 by rfl,show(decide ((2:Int)=1)&&dy op)=false by rfl];decide
 ·rw[show mask 3 op=44 by rfl,show(decide ((3:Int)=1)&&dy op)=false by rfl];decide
 ·rw[show mask 4 op=46 by rfl,show(decide ((4:Int)=1)&&dy op)=false by rfl];decide
 ·rw[show mask 5 op=36 by rfl,show(decide ((5:Int)=1)&&dy op)=false by rfl];decide
 ·rw[show mask 6 op=36 by rfl,show(decide ((6:Int)=1)&&dy op)=false by rfl];decide
 ·rw[show mask 7 op=40 by rfl,show(decide ((7:Int)=1)&&dy op)=false by rfl];decide
 ·rw[show mask 8 op=104 by rfl,show(decide ((8:Int)=1)&&dy op)=false by rfl];decide
 ·rw[show mask 9 op=0 by rfl,show(decide ((9:Int)=1)&&dy op)=false by rfl];decide
set_option maxRecDepth 4000 in
set_option maxHeartbeats 2000000 in
theorem DE (u:bu) (g:cC) (n:Node) (hn:n.Wf):Pure Tryz.prog 72 [u.av,g.av,n.av] (fun r=>r=bl (mC u g n)):=by
 refine aI OB rfl ?_
 have h0:=hn.kind.1
 have ho:=hn.op.1
 by_cases hk:1≤n.kind∧n.kind<10∧0≤n.origin∧n.origin<4096
 ·have hp:=C1 n hn ⟨hk.1,hk.2.1⟩
  obtain⟨m1,m2,m3,m4,m5,m6,m7⟩:=JR n.kind n.op ⟨hk.1,hk.2.1⟩
  repeat' (first|((with_reducible refine aF ?_);conv=>whnf)|refine aG ?_|exact gD|with_reducible refine aD ?_ ?_|((with_reducible refine Ask.mk ?_);first|exact dv|exact cz|(intro h;simp_all[bu.cells,cC.cells,Node.cells]<;>fail)|(simp_all[bu.cells,cC.cells,Node.cells]<;>fail))|(apply aB;(·exact cO))|refine aK (hp) ?_|((refine aX (qg _ _ _ _ _ _ _ _ _ (by exact rfl)) ?_ ?_);(·exact True.intro))|((refine aW (fun _=>qg _ _ _ _ _ _ _ _ _ (by exact rfl)) ?_ ?_);(·exact True.intro))|((refine aX (tJ ⟨_,_,_⟩ _ _ _ _ _ _ _ _ _ _ _ (by exact rfl) (by exact rfl) cZ cZ) ?_ ?_);(·exact True.intro))|((refine aW (fun _=>tJ ⟨_,_,_⟩ _ _ _ _ _ _ _ _ _ _ _ (by exact rfl) (by exact rfl) cZ cZ) ?_ ?_);(·exact True.intro))|refine aH ?_|((with_reducible refine aA ?_ ?_)<;>intro hc<;>(try simp only[List.length_map,ne_eq,dY] at hc)<;>try(exfalso;omega)))
  all_goals
   have hop:qI (IntKind.i64.wrap n.op) (decide (iX (mask n.kind n.op) 1≠0)) 19=(if n.kind=1 then decide (n.op<19) else decide (n.op=0)):=by
    have h2:=hn.op.2
    rw[wrap64 (by omega) (by omega)]
    unfold qI
    by_cases h1:n.kind=1
    ·rw[if_pos h1,if_pos (show decide (iX (mask n.kind n.op) 1≠0)=true by rw[decide_eq_true_eq];exact fun h=>m1.1 h h1),decide_eq_true ho,Bool.true_and]
    ·rw[if_neg h1,if_neg (show ¬decide (iX (mask n.kind n.op) 1≠0)=true by rw[decide_eq_true_eq];exact fun h=>h (m1.2 h1))]
   refine ew ?_
   rw[hop,m2,m3,m4,m5,m6,m7]
   unfold mC
   rw[decide_eq_true hk,Bool.true_and]
   simp only[hc,if_true,if_false,or_self,Bool.if_false_right,Bool.decide_eq_true,Bool.and_assoc]
   simp only[List.length_map]
   generalize qI n.slot (kZ n.kind) g.bx=x1
   have ea:(⟨n.a.jL,n.a.slot,n.a.word⟩:lX)=n.a:=rfl
   have eb:(⟨n.b.jL,n.b.slot,n.b.word⟩:lX)=n.b:=rfl
   rw[ea,eb]
   generalize tm n.a (vI n.kind) g.bx=x2
   generalize tm n.b (decide (n.kind=1)&&dy n.op) g.bx=x3
   generalize qI n.next (jV n.kind) g.nodes.length=x4
   generalize qI n.sE (decide (n.kind=8)) g.nodes.length=x5
   revert x1 x2 x3 x4 x5
   intro x1 x2 x3 x4 x5
   cases x1<;>cases x2<;>cases x3<;>cases x4<;>cases x5<;>simp
 ·have hb:mC u g n=false:=by unfold mC;rw[decide_eq_false hk];simp
  rw[hb]
  repeat' (first|((with_reducible refine aF ?_);conv=>whnf)|refine aG ?_|exact gD|with_reducible refine aD ?_ ?_|((with_reducible refine Ask.mk ?_);first|exact dv|exact cz|(intro h;simp_all[bu.cells,cC.cells,Node.cells]<;>fail)|(simp_all[bu.cells,cC.cells,Node.cells]<;>fail))|(apply aB;(·exact cO))|refine aH ?_|((with_reducible refine aA ?_ ?_)<;>intro hc<;>(try simp only[List.length_map,ne_eq,dY] at hc)<;>try(exfalso;omega)))
  exact rfl
end Go.Proofs.YtjopoheligmmoaaGreatDoor
end
section
/- Names. -/
namespace Go.Proofs.YtjopoheligmmoaaGreatDoor
open Go Go.cY Go.Proofs
set_option linter.unusedSimpArgs false
set_option linter.unusedVariables false
def jJ (c:Int):Bool:=decide (48≤c)&&decide (c≤57)
def mh (c:Int):Bool:=decide (97≤c)&&decide (c≤122)||decide (65≤c)&&decide (c≤90)||decide (c=95)
def P0:List ByteArray:=[⟨(List.toArray [115,104,97,114,101,100])⟩,⟨(List.toArray [108,111,99,107])⟩,⟨(List.toArray [116,104,114,101,97,100])⟩,⟨(List.toArray [108,111,99,97,108])⟩,⟨(List.toArray [105,102])⟩,⟨(List.toArray [101,108,115,101])⟩,⟨(List.toArray [119,104,105,108,101])⟩,⟨(List.toArray [112,114,105,110,116])⟩,⟨(List.toArray [115,107,105,112])⟩,⟨(List.toArray [115,119,97,112])⟩]
def vM (s:ByteArray):Bool:=P0.any (s==·)
theorem eH (c:Int):Pure Tryz.prog 165 [u8 c] (fun r=>r=bl (mh c)):=by
 refine aI yi rfl ?_
 repeat' (first|((with_reducible refine aF ?_);conv=>whnf)|refine aG ?_|exact aC|with_reducible refine aD ?_ ?_|(apply aB;(·exact cO))|refine aH ?_|((with_reducible refine aA ?_ ?_)<;>intro hc<;>(try simp only[List.length_map,ne_eq,dY] at hc)<;>try(exfalso;omega)))
 refine ew ?_
 unfold mh
 by_cases h1:97≤c<;>by_cases h2:c≤122<;>by_cases h3:65≤c<;>by_cases h4:c≤90<;>by_cases h5:c=95<;>simp[h1,h2,h3,h4,h5]
theorem gN (s:ByteArray):Pure Tryz.prog 164 [st s] (fun r=>r=bl (vM s)):=by
 refine aI yh rfl ?_
 repeat' (first|((with_reducible refine aF ?_);conv=>whnf)|refine aG ?_|exact aC|with_reducible refine aD ?_ ?_|(apply aB;(·exact cO))|refine aH ?_|((with_reducible refine aA ?_ ?_)<;>intro hc<;>(try simp only[List.length_map,ne_eq,dY] at hc)<;>try(exfalso;omega)))
 all_goals refine ew ?_
 all_goals simp_all[vM,P0]
def gL (s:ByteArray) (i:Nat):Int:=(s.data.toList.getD i 0).toNat
def lS (s:ByteArray):Bool:=decide (1≤s.size)&&decide (s.size≤32)&& !jJ (gL s 0)&& !vM s&&(List.range s.size).all fun i=>mh (gL s i)||jJ (gL s i)
theorem TL (s:ByteArray):(s==(⟨#[]⟩:ByteArray))=decide (s.size=0):=by
 obtain⟨d⟩:=s
 show(d==#[])=_
 rw[Bool.eq_iff_iff]
 show(d==#[])=true↔decide (d.size=0)=true
 simp
theorem JU (s:ByteArray) (hs:s.size≤140737488351232):Pure Tryz.prog 115 [st s] (fun r=>r=bl (lS s)):=by
 refine aI yQ rfl ?_
 have e0:=TL s
 by_cases hz:s.size=0
 ·have e1:(s==(⟨#[]⟩:ByteArray))=true:=by rw[e0,decide_eq_true hz]
  have hb:lS s=false:=by unfold lS;rw[decide_eq_false (by omega)];simp
  rw[hb]
  repeat' (first|((with_reducible refine aF ?_);conv=>whnf)|refine aG ?_|exact gD|with_reducible refine aD ?_ ?_|((with_reducible refine Ask.mk ?_);first|exact dv|((refine Ask.mk ?_);intro h;simp_all)|exact cz)|(apply aB;(·exact cO))|((with_reducible refine aQ (eV _) ?_ ?_);(·exact cE))|((with_reducible refine aP (fun _=>eV _) ?_ ?_);(·exact cE))|((with_reducible refine aN (eV _) ?_ ?_);(·exact cE))|((with_reducible refine aO (fun _=>eV _) ?_ ?_);(·exact cE))|((with_reducible refine aQ (gN _) ?_ ?_);(·exact cE))|((with_reducible refine aP (fun _=>gN _) ?_ ?_);(·exact cE))|((with_reducible refine aN (gN _) ?_ ?_);(·exact cE))|((with_reducible refine aO (fun _=>gN _) ?_ ?_);(·exact cE))|((with_reducible refine aQ (eH _) ?_ ?_);(·exact cE))|((with_reducible refine aP (fun _=>eH _) ?_ ?_);(·exact cE))|((with_reducible refine aN (eH _) ?_ ?_);(·exact cE))|((with_reducible refine aO (fun _=>eH _) ?_ ?_);(·exact cE))|(simp only[e1])|refine aH ?_|((with_reducible refine aA ?_ ?_)<;>intro hc<;>(try simp only[List.length_map,ne_eq,dY] at hc)<;>try(exfalso;omega)))
  all_goals first|exact rfl|(exfalso;simp_all)
 ·have e1:(s==(⟨#[]⟩:ByteArray))=false:=by rw[e0,decide_eq_false hz]
  repeat' (first|((with_reducible refine aF ?_);conv=>whnf)|refine aG ?_|exact gD|with_reducible refine aD ?_ ?_|((with_reducible refine Ask.mk ?_);first|exact dv|((refine Ask.mk ?_);intro h;exact⟨by omega,by omega⟩)|exact cz)|(apply aB;(·exact cO))|((with_reducible refine aQ (eV _) ?_ ?_);(·exact cE))|((with_reducible refine aP (fun _=>eV _) ?_ ?_);(·exact cE))|((with_reducible refine aN (eV _) ?_ ?_);(·exact cE))|((with_reducible refine aO (fun _=>eV _) ?_ ?_);(·exact cE))|((with_reducible refine aQ (gN _) ?_ ?_);(·exact cE))|((with_reducible refine aP (fun _=>gN _) ?_ ?_);(·exact cE))|((with_reducible refine aN (gN _) ?_ ?_);(·exact cE))|((with_reducible refine aO (fun _=>gN _) ?_ ?_);(·exact cE))|((with_reducible refine aQ (eH _) ?_ ?_);(·exact cE))|((with_reducible refine aP (fun _=>eH _) ?_ ?_);(·exact cE))|((with_reducible refine aN (eH _) ?_ ?_);(·exact cE))|((with_reducible refine aO (fun _=>eH _) ?_ ?_);(·exact cE))|(simp only[e1])|refine aH ?_|((with_reducible refine aA ?_ ?_)<;>intro hc<;>(try simp only[List.length_map,ne_eq,dY] at hc)<;>try(exfalso;omega)))
  ·refine ew (Eq.symm ?_)
   unfold lS
   have hp:(decide (1≤s.size)&&decide (s.size≤32)&& !jJ (gL s 0)&& !vM s)=false:=by
    rcases hc with((h|h)|h)|h
    ·exact absurd h (by decide)
    ·simp[show ¬s.size≤32 by omega]
    ·have h:48≤gL s 0∧gL s 0≤57:=h
     simp[jJ,h.1,h.2]
    ·simp[h]
   rw[hp,Bool.false_and]
  ·have hp:(decide (1≤s.size)&&decide (s.size≤32)&& !jJ (gL s 0)&& !vM s)=true:=by
    obtain⟨h1,h2⟩:=hc
    have h3:¬(48≤gL s 0∧gL s 0≤57):=fun h=>h1 (.inr h)
    have h4:s.size≤32:=by
     have:¬(32:Int)<s.size:=fun h=>h1 (.inl (.inr h))
     omega
    have h5:jJ (gL s 0)=false:=by
     unfold jJ
     by_cases h:48≤gL s 0
     ·rw[decide_eq_true h,decide_eq_false (fun h'=>h3 ⟨h,h'⟩)];rfl
     ·rw[decide_eq_false h];rfl
    rw[decide_eq_true (by omega:1≤s.size),decide_eq_true h4,h5,h2];rfl
   have hb:∀R,(decide (1≤s.size)&&decide (s.size≤32)&& !jJ (gL s 0)&& !vM s&&R)=R:=fun R=>by rw[hp,Bool.true_and]
   unfold lS
   rw[hb]
   clear hc hp hb e1 e0
   refine aM (fun i:Nat=>[(0,st s),(21,i64 s.size),(22,i64 i)]) (fun i H n=>i≤s.size∧∀j,j<i→(mh (gL s j)||jJ (gL s j))=true) (fun i=>s.size - i) 0 cJ ⟨Nat.zero_le _,fun _ h=>by omega⟩ ?_
   rintro i H n ⟨hi,hall⟩
   by_cases his:i<s.size
   ·repeat' (first|((with_reducible refine aF ?_);conv=>whnf)|refine aG ?_|exact gD|with_reducible refine aD ?_ ?_|((with_reducible refine Ask.mk ?_);first|exact dv|((refine Ask.mk ?_);intro h;exact⟨by omega,by omega⟩)|exact cz)|(apply aB;(·exact cO))|((with_reducible refine aQ (eV _) ?_ ?_);(·exact cE))|((with_reducible refine aP (fun _=>eV _) ?_ ?_);(·exact cE))|((with_reducible refine aN (eV _) ?_ ?_);(·exact cE))|((with_reducible refine aO (fun _=>eV _) ?_ ?_);(·exact cE))|((with_reducible refine aQ (eH _) ?_ ?_);(·exact cE))|((with_reducible refine aP (fun _=>eH _) ?_ ?_);(·exact cE))|((with_reducible refine aN (eH _) ?_ ?_);(·exact cE))|((with_reducible refine aO (fun _=>eH _) ?_ ?_);(·exact cE))|refine aH ?_|((with_reducible refine aA ?_ ?_)<;>intro hc<;>(try simp only[List.length_map,ne_eq,dY] at hc)<;>try(exfalso;omega)))
    ·refine ew (Eq.symm ?_)
     rw[Bool.eq_false_iff,ne_eq,List.all_eq_true]
     intro hA
     have h1:=hA i (List.mem_range.2 his)
     have hc:mh (gL s i)=false∧(gL s i<48∨57<gL s i):=hc
     rw[hc.1,Bool.false_or] at h1
     simp only[jJ,Bool.and_eq_true,decide_eq_true_eq] at h1
     omega
    ·refine⟨i+1,by omega,cJ,by omega,fun j hj=> ?_⟩
     by_cases hji:j=i
     ·have hc:¬mh (gL s i)=false∨(48≤gL s i∧gL s i≤57):=hc
      rw[hji]
      rcases hc with h|h
      ·rw[Bool.not_eq_false] at h
       rw[h,Bool.true_or]
      ·simp[jJ,h.1,h.2]
     ·exact hall j (by omega)
   ·have:i=s.size:=by omega
    subst this
    repeat' (first|((with_reducible refine aF ?_);conv=>whnf)|refine aG ?_|exact aC|with_reducible refine aD ?_ ?_|(apply aB;(·exact cO))|refine aH ?_|((with_reducible refine aA ?_ ?_)<;>intro hc<;>(try simp only[List.length_map,ne_eq,dY] at hc)<;>try(exfalso;omega)))
    refine ew (Eq.symm ?_)
    rw[List.all_eq_true]
    intro j hj
    exact hall j (List.mem_range.1 hj)
end Go.Proofs.YtjopoheligmmoaaGreatDoor
end
