import Derived.Test.YtekfmjjmihomlaaGreatM14
import Derived.Test.YtekfmjjmihomlaaGreatM19
import Derived.Test.YtekfmjjmihomlaaGreatM20
import Derived.Test.YtekfmjjmihomlaaGreatM21
section
/- Units as plain data. -/
namespace Go.Proofs.YtekfmjjmihomlaaGreat
open Go Go.cO Go.Proofs
set_option linter.unusedSimpArgs false
set_option linter.unusedVariables false
abbrev i64 (n:Int):AV:= .sc (.int .i64 n)
abbrev u8 (n:Int):AV:= .sc (.int .u8 n)
abbrev bl (b:Bool):AV:= .sc (.bool b)
abbrev st (s:ByteArray):AV:= .sc (.string s)
def di (n:Int):Prop:=-9223372036854775808≤n∧n<9223372036854775808
structure ja where
 gp:Bool
 slot:Int
 word:Int
 deriving Inhabited,DecidableEq
def ja.cells (v:ja):List AV:=[bl v.gp,i64 v.slot,i64 v.word]
abbrev ja.av (v:ja):AV:= .agg v.cells
structure ja.Wf (v:ja):Prop where
 slot:di v.slot
 word:di v.word
structure Node where
 kind:Int
 op:Int
 slot:Int
 cH:Int
 a:ja
 b:ja
 next:Int
 oc:Int
 origin:Int
 deriving Inhabited,DecidableEq
def Node.cells (n:Node):List AV:=[u8 n.kind,u8 n.op,i64 n.slot,i64 n.cH,bl n.a.gp,i64 n.a.slot,i64 n.a.word,bl n.b.gp,i64 n.b.slot,i64 n.b.word,i64 n.next,i64 n.oc,i64 n.origin]
abbrev Node.av (n:Node):AV:= .agg n.cells
structure Node.Wf (n:Node):Prop where
 kind:0≤n.kind∧n.kind<256
 op:0≤n.op∧n.op<256
 slot:di n.slot
 cH:di n.cH
 a:n.a.Wf
 b:n.b.Wf
 next:di n.next
 oc:di n.oc
 origin:di n.origin
structure Decl where
 name:ByteArray
 word:Int
 at_:Int
 deriving Inhabited,DecidableEq
def Decl.cells (d:Decl):List AV:=[st d.name,i64 d.word,i64 d.at_]
abbrev Decl.av (d:Decl):AV:= .agg d.cells
structure Decl.Wf (d:Decl):Prop where
 name:d.name.size≤140737488351232
 word:di d.word
 at_:di d.at_
structure cA where
 name:ByteArray
 locals:Int
 bg:Int
 nodes:List Node
 deriving Inhabited,DecidableEq
abbrev mH (l:List Node):AV:= .im 13 .any (l.map Node.av)
def cA.cells (g:cA):List AV:=[st g.name,i64 g.locals,i64 g.bg,mH g.nodes]
abbrev cA.av (g:cA):AV:= .agg g.cells
structure cA.Wf (g:cA):Prop where
 name:g.name.size≤140737488351232
 locals:di g.locals
 bg:di g.bg
 nodes:∀n∈g.nodes,n.Wf
 len:g.nodes.length * 88≤140737488351232
structure bf where
 shared:List Decl
 bz:List Decl
 bj:List cA
 deriving Inhabited,DecidableEq
abbrev cV (l:List Decl):AV:= .im 3 .any (l.map Decl.av)
abbrev dQ (l:List cA):AV:= .im 4 .any (l.map cA.av)
def bf.cells (u:bf):List AV:=[cV u.shared,cV u.bz,dQ u.bj]
abbrev bf.av (u:bf):AV:= .agg u.cells
structure bf.Wf (u:bf):Prop where
 shared:∀d∈u.shared,d.Wf
 qq:u.shared.length * 32≤140737488351232
 bz:∀d∈u.bz,d.Wf
 uh:u.bz.length * 32≤140737488351232
 bj:∀g∈u.bj,g.Wf
 zf:u.bj.length * 56≤140737488351232
@[simp] theorem MO (n:Nat) (v:ja):cK n v.cells:=by simp[ja.cells,cK,bx]
@[simp] theorem LB (n:Nat) (v:Node):cK n v.cells:=by simp[Node.cells,cK,bx]
@[simp] theorem LA (n:Nat) (v:Decl):cK n v.cells:=by simp[Decl.cells,cK,bx]
@[simp] theorem KS (n:Nat) (v:cA):cK n v.cells:=by simp[cA.cells,cK,bx,cB]
@[simp] theorem LD (n:Nat) (v:bf):cK n v.cells:=by simp[bf.cells,cK,bx,cB]
abbrev cA.nd (g:cA) (i:Nat):Node:=g.nodes.getD i default
abbrev bf.gr (u:bf) (t:Nat):cA:=u.bj.getD t default
theorem q9 {α β:Type} (f:α→β) (l:List α) (i:Nat) (a:α):(l.map f).getD i (f a)=f (l.getD i a):=by
 simp only[List.getD,List.getElem?_map]
 cases l[i]?<;>rfl
theorem JW {l:List cA} {i:Nat}:(l.map cA.av).getD i (cA.av default)=(l.getD i default).av:=q9 _ _ _ _
theorem BV {l:List Decl} {i:Nat}:(l.map Decl.av).getD i (Decl.av default)=(l.getD i default).av:=q9 _ _ _ _
theorem ec {a b:Bool} (h:a=b):AV.sc (.bool a)=bl b:=by rw[h]
theorem cW {α:Type} {l:List α} {j:Nat} (d:α) (h:j<l.length):l.getD j d∈l:=by
 simp only[List.getD,List.getElem?_eq_getElem h,Option.getD_some];exact List.getElem_mem h
end Go.Proofs.YtekfmjjmihomlaaGreat
end
section
/- What a unit must be, in plain data. -/
namespace Go.Proofs.YtekfmjjmihomlaaGreat
open Go Go.cO Go.Proofs
set_option linter.unusedSimpArgs false
set_option linter.unusedVariables false
def Node.om (n:Node):List Int:=if n.kind=9 then[] else if n.kind=8 then[n.next,n.oc] else[n.next]
def Node.fold (n:Node):List Int:=if n.kind=9 then[] else if n.kind=8∧n.oc≠n.next then[n.next,n.oc] else[n.next]
def ed {α:Type} (p:α→Bool):List α→Nat→Option Nat
 |[],_=>none
 |x::r,i=>if p x=true then ed p r (i+1) else some i
theorem tY {α:Type} (p:α→Bool) (l:List α) (d:α) {i:Nat} (h:i<l.length):ed p (l.drop i) i=if p (l.getD i d)=true then ed p (l.drop (i+1)) (i+1) else some i:=by
 rw[List.drop_eq_getElem_cons h,ed]
 simp[List.getD,h]
theorem wP {α:Type} (p:α→Bool) (l:List α) {i:Nat} (h:l.length≤i):ed p (l.drop i) i=none:=by
 rw[List.drop_eq_nil_of_le h,ed]
def dJ (op:Int):Bool:=decide (1≤op)&&decide (op≤16)
def jE (k:Int):Bool:=decide (k=1∨k=2∨k=4)
def fu (k:Int):Bool:=decide (k=2∨k=3∨k=4∨k=5∨k=6)
def qy (k:Int):Bool:=decide (k=1∨k=3∨k=4∨k=7∨k=8)
def gy (k:Int):Bool:=decide (1≤k∧k≤8)
def qA (v:ja) (used:Bool) (bg:Int):Bool:=if used=true then(if v.gp=true then decide (0≤v.slot)&&decide (v.slot<bg)&&decide (v.word=0) else decide (v.slot=0)) else decide (v=default)
def nI (n:Int) (used:Bool) (most:Int):Bool:=if used=true then decide (0≤n)&&decide (n<most) else decide (n=0)
def jt (u:bf) (g:cA) (n:Node):Bool:=
 decide (1≤n.kind∧n.kind<10∧0≤n.origin∧n.origin<4096)&&(if n.kind=1 then decide (n.op<19) else decide (n.op=0))&&
 nI n.slot (jE n.kind) g.bg&&nI n.cH (fu n.kind) (if n.kind=5∨n.kind=6 then u.bz.length else u.shared.length)&&qA n.a (qy n.kind) g.bg&&qA n.b (decide (n.kind=1)&&dJ n.op) g.bg&&nI n.next (gy n.kind) g.nodes.length&&nI n.oc (decide (n.kind=8)) g.nodes.length
structure HS where
 bz:List (List Int)
 found:List Bool
 todo:List Int
def HS.l (s:HS) (k:Int):List Int:=s.bz.getD k.toNat []
def HS.f (s:HS) (k:Int):Bool:=s.found.getD k.toNat false
def du (n:Node) (l:List Int):Option (List Int):=
 if n.kind=5 then some (l++[n.cH]) else if n.kind=6 then(if l≠[]∧l.getLast?=some n.cH then some l.dropLast else none) else if n.kind=9 then(if l=[] then some l else none) else some l
def dN (now:List Int):List Int→HS→HS ⊕ Int
 |[],s=> .inl s
 |k::r,s=>if s.f k=false then dN now r ⟨s.bz.set k.toNat now,s.found.set k.toNat true,s.todo++[k]⟩ else if s.l k=now then dN now r s else .inr k
def jS (g:cA):Nat→HS→Nat→List (List Int)×Int
 |0,s,_=>(s.bz,-1)
 |f+1,s,k=>if k<s.todo.length then(match du (g.nd (s.todo.getD k 0).toNat) (s.l (s.todo.getD k 0)) with
  |none=>([],s.todo.getD k 0)
  |some now=>match dN now (g.nd (s.todo.getD k 0).toNat).om s with
   | .inl s'=>jS g f s' (k+1)
   | .inr at_=>([],at_)) else(s.bz,-1)
def tu (g:cA):HS:=⟨List.replicate g.nodes.length [],(List.replicate g.nodes.length false).set 0 true,[0]⟩
def jo (g:cA):List (List Int)×Int:=jS g (g.nodes.length+1) (tu g) 0
def lI (u:bf) (g:cA):Option Int:=
 if g.locals<0∨g.locals>64∨g.bg<g.locals∨g.bg>4160∨g.nodes.length<1∨g.nodes.length>4096 then some 0 else
 match ed (jt u g) g.nodes 0 with
 |some i=>some (i:Int)
 |none=>if 0≤(jo g).2 then some (jo g).2 else none
def eU (u:bf):List cA→Nat→Int×Int×Int
 |[],_=>(0,0,0)
 |g::r,t=>match lI u g with
  |some k=>(60,t,k)
  |none=>eU u r (t+1)
end Go.Proofs.YtekfmjjmihomlaaGreat
end
section
/- What is reached, in plain data. -/
namespace Go.Proofs.YtekfmjjmihomlaaGreat
open Go Go.cO Go.Proofs
set_option linter.unusedSimpArgs false
set_option linter.unusedVariables false
theorem zV {α:Type} (F:List Int→α) (n:Node) (h:∀a,F [a,a]=F [a]):F n.fold=F n.om:=by
 unfold Node.fold Node.om
 by_cases h9:n.kind=9
 ·rw[if_pos h9,if_pos h9]
 ·rw[if_neg h9,if_neg h9]
  by_cases h8:n.kind=8
  ·rw[if_pos h8]
   by_cases he:n.oc=n.next
   ·rw[if_neg (fun h=>h.2 he),he,h]
   ·rw[if_pos ⟨h8,he⟩]
  ·rw[if_neg h8,if_neg (fun h=>h8 h.1)]
abbrev mb (out:List Bool) (k:Int):Bool:=out.getD k.toNat false
def vN:List Int→List Bool×List Int→List Bool×List Int
 |[],s=>s
 |k::r,s=>if mb s.1 k=false then vN r (s.1.set k.toNat true,s.2++[k]) else vN r s
structure I9 (l:List Int) (s s':List Bool×List Int):Prop where
 len:s'.1.length=s.1.length
 fN:∀k,mb s.1 k=true→mb s'.1 k=true
 new:∀k,0≤k→mb s'.1 k=true→mb s.1 k=true∨k∈l
 all:∀k∈l,mb s'.1 k=true
 more:∃t,s'.2=s.2++t∧(∀k∈t,k∈l∧mb s'.1 k=true)∧(∀k,0≤k→mb s'.1 k=true→mb s.1 k=true∨k∈t)∧s'.1.count false+t.length=s.1.count false
theorem count_set {l:List Bool} {i:Nat} (h:i<l.length) (hf:l.getD i false=false):(l.set i true).count false+1=l.count false:=by
 have h1:l[i]=false:=by simpa[List.getD,h] using hf
 rw[List.count_set h,h1]
 have:0<l.count false:=List.count_pos_iff.2 (h1▸List.getElem_mem h)
 simp
 omega
theorem jR {l:List Bool} {i:Nat} (h:i<l.length) (k:Int):mb (l.set i true) k=if k.toNat=i then true else mb l k:=by
 unfold mb
 simp only[List.getD,List.getElem?_set]
 by_cases hk:k.toNat=i
 ·rw[if_pos hk.symm,if_pos hk];simp[h]
 ·rw[if_neg (fun e=>hk e.symm),if_neg hk]
theorem kB:∀(l:List Int) (s:List Bool×List Int),(∀k∈l,0≤k∧k.toNat<s.1.length)→I9 l s (vN l s)
 |[],s,_=>⟨rfl,fun _ h=>h,fun _ _ h=> .inl h,fun _ h=>by simp at h,[],by simp[vN],fun _ h=>by simp at h,fun _ _ h=> .inl h,by simp[vN]⟩
 |k::r,s,h=>by
  obtain⟨hk0,hk⟩:=h k (by simp)
  have hr:=fun x hx=>h x (List.mem_cons_of_mem _ hx)
  rw[vN]
  by_cases h1:mb s.1 k=false
  ·rw[if_pos h1]
   have ih:=kB r (s.1.set k.toNat true,s.2++[k]) (fun x hx=>by simpa using hr x hx)
   have hset:=jR (l:=s.1) hk
   obtain⟨t,t1,t2,t3,t4⟩:=ih.more
   have hkk:mb (vN r (s.1.set k.toNat true,s.2++[k])).1 k=true:=ih.fN k (by rw[hset,if_pos rfl])
   refine⟨ih.len.trans (by simp),fun x hx=>ih.fN x (by rw[hset];split<;>first|rfl|exact hx),fun x hx0 hx=> ?_,fun x hx=> ?_,k::t,by rw[t1];simp,fun x hx=> ?_,fun x hx0 hx=> ?_, ?_⟩
   ·rcases ih.new x hx0 hx with h2|h2
    ·rw[hset] at h2
     split at h2
     ·rename_i e;exact .inr (by rw[show x=k by omega];simp)
     ·exact .inl h2
    ·exact .inr (List.mem_cons_of_mem _ h2)
   ·rcases List.mem_cons.1 hx with rfl|hx
    ·exact hkk
    ·exact ih.all x hx
   ·rcases List.mem_cons.1 hx with rfl|hx
    ·exact⟨by simp,hkk⟩
    ·exact⟨List.mem_cons_of_mem _ (t2 x hx).1,(t2 x hx).2⟩
   ·rcases t3 x hx0 hx with h2|h2
    ·rw[hset] at h2
     split at h2
     ·rename_i e;exact .inr (by rw[show x=k by omega];simp)
     ·exact .inl h2
    ·exact .inr (List.mem_cons_of_mem _ h2)
   ·have:=count_set hk h1
    rw[List.length_cons]
    dsimp only at t4
    omega
  ·rw[if_neg h1]
   have hkt:mb s.1 k=true:=by simpa using h1
   have ih:=kB r s hr
   obtain⟨t,t1,t2,t3,t4⟩:=ih.more
   refine⟨ih.len,ih.fN,fun x hx0 hx=>(ih.new x hx0 hx).imp id (List.mem_cons_of_mem _),fun x hx=> ?_,t,t1,fun x hx=>⟨List.mem_cons_of_mem _ (t2 x hx).1,(t2 x hx).2⟩,t3,t4⟩
   rcases List.mem_cons.1 hx with rfl|hx
   ·exact ih.fN _ hkt
   ·exact ih.all x hx
inductive oH (g:cA) (cut:Int):Int→Prop where
 |zero:oH g cut 0
 |step {i k:Int}:oH g cut i→i≠cut→k∈(g.nd i.toNat).om→oH g cut k
structure k8 (g:cA) (cut:Int) (out:List Bool) (pend:List Int):Prop where
 len:out.length=g.nodes.length
 zero:mb out 0=true
 tJ:∀k,0≤k→mb out k=true→oH g cut k
 inr:∀k∈pend,0≤k∧k.toNat<out.length∧mb out k=true
 done:∀k,0≤k→k.toNat<out.length→mb out k=true→k∉pend→k≠cut→∀j∈(g.nd k.toNat).om,mb out j=true
open Classical in
noncomputable def lO (g:cA) (cut:Int):List Bool:=(List.range g.nodes.length).map fun(i:Nat)=>decide (oH g cut (i:Int))
theorem xB (g:cA) (cut:Int):(lO g cut).length=g.nodes.length:=by simp[lO]
theorem xA (g:cA) (cut:Int) {i:Nat} (h:i<g.nodes.length):(lO g cut).getD i false=true↔oH g cut i:=by simp[lO,List.getD,h]
def Whole (g:cA):Prop:=1≤g.nodes.length∧g.nodes.length≤4096∧∀i,i<g.nodes.length→1≤(g.nd i).kind∧(g.nd i).kind<10∧∀k∈(g.nd i).om,0≤k∧k.toNat<g.nodes.length
theorem k8.start {g:cA} {cut:Int} (h:Whole g):k8 g cut ((List.replicate g.nodes.length false).set 0 true) [0]:=by
 have hl:=h.1
 have hz:∀k,mb ((List.replicate g.nodes.length false).set 0 true) k=true→k.toNat=0:=fun k hk=>by
  rw[jR (by simp;omega)] at hk
  split at hk
  ·assumption
  ·simp only[mb,List.getD,List.getElem?_replicate] at hk
   split at hk<;>simp at hk
 refine⟨by simp,by rw[jR (by simp;omega)];simp,fun k h0 hk=> ?_,fun k hk=> ?_,fun k h0 h1 hk hn=> ?_⟩
 ·rw[show k=0 by have:=hz k hk;omega];exact .zero
 ·simp only[List.mem_cons,List.not_mem_nil,or_false] at hk
  subst hk
  exact⟨by omega,by simp;omega,by rw[jR (by simp;omega)];simp⟩
 ·exact absurd (by rw[show k=0 by have:=hz k hk;omega];simp) hn
theorem k8.on {g:cA} {cut:Int} (h:Whole g) {out:List Bool} {pend:List Int} {at_:Int} {a b:List Int} (hp:pend=a++at_::b) (hg:k8 g cut out pend) (hc:at_≠cut) {t:List Int} {s:List Bool×List Int} (hs:vN (g.nd at_.toNat).om (out,t)=s) {t2:List Int} (ht2:s.2=t++t2):k8 g cut s.1 (a++b++t2):=by
 obtain⟨i1,i2,i3⟩:=hg.inr at_ (by rw[hp];simp)
 have hfol:=(h.2.2 at_.toNat (by rw[←hg.len];exact i2)).2.2
 have sp:=kB (g.nd at_.toNat).om (out,t) (fun k hk=>by have:=hfol k hk;rw[←hg.len] at this;exact this)
 rw[hs] at sp
 obtain⟨t3,e1,e2,e3,e4⟩:=sp.more
 have:t2=t3:=by rw[ht2] at e1;exact List.append_cancel_left e1
 subst this
 have hl:s.1.length=out.length:=sp.len
 refine⟨hl.trans hg.len,sp.fN _ hg.zero,fun k h0 hk=> ?_,fun k hk=> ?_,fun k h0 h1 hk hn hkc j hj=> ?_⟩
 ·rcases sp.new k h0 hk with h1|h1
  ·exact hg.tJ k h0 h1
  ·exact .step (hg.tJ at_ i1 i3) hc h1
 ·rcases List.mem_append.1 hk with hk|hk
  ·have h1:=hg.inr k (by rw[hp];rcases List.mem_append.1 hk with h|h<;>simp[h])
   exact⟨h1.1,by rw[hl];exact h1.2.1,sp.fN _ h1.2.2⟩
  ·have h1:=hfol k (e2 k hk).1
   exact⟨h1.1,by rw[hl,hg.len];exact h1.2,(e2 k hk).2⟩
 ·by_cases hka:k=at_
  ·subst hka;exact sp.all j hj
  ·rcases e3 k h0 hk with h2|h2
   ·refine sp.fN _ (hg.done k h0 (by rw[←hl];exact h1) h2 (fun hm=> ?_) hkc j hj)
    rw[hp] at hm
    simp only[List.mem_append,List.mem_cons] at hm
    rcases hm with hm|hm|hm
    ·exact hn (by simp[hm])
    ·exact hka hm
    ·exact hn (by simp[hm])
   ·exact absurd (List.mem_append_right _ h2) hn
theorem k8.cut {g:cA} {cut:Int} {out:List Bool} {pend a b:List Int} (hp:pend=a++cut::b) (hg:k8 g cut out pend):k8 g cut out (a++b):=by
 refine⟨hg.len,hg.zero,hg.tJ,fun k hk=>hg.inr k (by rw[hp];rcases List.mem_append.1 hk with h|h<;>simp[h]),fun k h0 h1 hk hn hkc=>hg.done k h0 h1 hk (fun hm=> ?_) hkc⟩
 rw[hp] at hm
 simp only[List.mem_append,List.mem_cons] at hm
 rcases hm with hm|hm|hm
 ·exact hn (by simp[hm])
 ·exact hkc hm
 ·exact hn (by simp[hm])
theorem k8.fin {g:cA} {cut:Int} (h:Whole g) {out:List Bool} (hg:k8 g cut out []):out=lO g cut:=by
 have hall:∀k,oH g cut k→0≤k∧k.toNat<g.nodes.length∧mb out k=true:=fun k hk=>by
  induction hk with
  |zero=>exact⟨by omega,by have:=h.1;simp;omega,hg.zero⟩
  |@step i k hi hc hk ih=>
   obtain⟨i1,i2,i3⟩:=ih
   have h1:=(h.2.2 i.toNat i2).2.2 k hk
   exact⟨h1.1,h1.2,hg.done i i1 (by rw[hg.len];exact i2) i3 (by simp) hc k hk⟩
 apply List.ext_getElem
 ·rw[hg.len,xB]
 ·intro i h1 h2
  have hi:i<g.nodes.length:=by rw[←hg.len];exact h1
  have e1:out[i]=mb out (i:Int):=by simp[mb,List.getD,h1]
  have e2:(lO g cut)[i]=(lO g cut).getD i false:=by simp[List.getD,h2]
  rw[e1,e2,Bool.eq_iff_iff,xA g cut hi]
  exact⟨fun hf=>hg.tJ _ (by omega) hf,fun hf=>(hall _ hf).2.2⟩
end Go.Proofs.YtekfmjjmihomlaaGreat
end
section
/- Lists that are handed back; small functions. -/
namespace Go.cO
open Go.RowKit
theorem aP {α:Type} {g:Option Bool} {x:Option α} {K:α→Prop} {a:α} (h:Gd g→x=some a) (k:Go (K a)):gk g x K:=gk.of h k
theorem cj.refl (c:Cx):∀bs:List AV,cj c c bs bs
 |[]=> .nil
 |_::bs=> .cons (fun _ hv=>hv) (cj.refl c bs)
theorem cj.map {α:Type} {c:Cx} {f g:α→AV} (h:∀a,dA c c (f a) (g a)):∀l:List α,cj c c (l.map f) (l.map g)
 |[]=> .nil
 |a::l=> .cons (h a) (cj.map h l)
theorem Pure.args {P:Program} {f:FuncId} {bs bs2:List AV} {R:AV→Prop} (h:Pure P f bs2 R) (hle:∀c,cj c c bs bs2):Pure P f bs R:=
 ⟨h.1,fun M w vs hM hv=>h.2 M w vs hM ((hle _).M1 hv)⟩
theorem cD.args {P:Program} {f:FuncId} {bs bs2:List AV} {H:Hp} {nx:Nat} {R:AV→Hp→Nat→Prop} (h:cD P f bs2 H nx R) (hle:∀c,cj c c bs bs2):cD P f bs H nx R:=
 ⟨h.1,fun w0 c vs h1 h2 h3 hv=>h.2 w0 c vs h1 h2 h3 ((hle _).M1 hv)⟩
theorem dA.ql (c c2:Cx) (sz:Nat) (d:AV):dA c c2 (.sc (.slice none 0 0)) (.im sz d []):=by
 intro v hv
 rw[VR] at hv
 subst hv
 rw[VR]
 exact⟨none,0,rfl,by simp, .inl rfl⟩
def oG (H:Hp) (nx:Nat) (e:TypeId) (sz:Nat) (es:List AV):AV→Hp→Nat→Prop:=fun r H' n=>∃b' d',r= .sl b' es.length∧nx≤b'∧b'<n∧nx≤n∧bd H' b'=some (.row e sz d' es)∧∀b,b<nx→bd H' b=bd H b
theorem oG.of {P:Program} {f:FuncId} {args:List AV} {H:Hp} {nx:Nat} {e:TypeId} {sz:Nat} {es:List AV} (hsz:0<sz) (h:cD P f args H nx (fun r H' n=>(r= .sc (.slice none 0 0)∧es=[]∧nx≤n∧∀b,b<nx→bd H' b=bd H b)∨oG H nx e sz es r H' n)):cD P f args H nx (oG H nx e sz es):=by
 refine h.wk ?_
 rintro r H' n (⟨rfl,rfl,h1,h2⟩|h1)
 ·refine⟨_,_,_,Wk.nil (nx:=n) e sz .any hsz,n, .any,rfl,h1,Nat.lt_succ_self _,by omega,cT _ _ _,fun b hb=> ?_⟩
  rw[cF (by omega)];exact h2 b hb
 ·exact⟨r,H',n,Wk.refl _ _ _,h1⟩
end Go.cO
namespace Go.Proofs.YtekfmjjmihomlaaGreat
open Go Go.cO Go.Proofs
set_option linter.unusedSimpArgs false
set_option linter.unusedVariables false
def hC (l:List Int):AV:= .im 1 .any (l.map i64)
theorem er {P:Program} {f:FuncId} {args:List AV} {u:AV} (h:cD P f args [] 0 (fun r H _=>cO.dM H 6 r=u)) (hf:bx 0 u):Pure P f args (fun r=>r=u):=by
 refine⟨h.1,fun M w vs hM hv=> ?_⟩
 have hS:dC w ⟨fun _=>none,bd [],fun _=>False,w,M⟩:=⟨⟨rfl,rfl,rfl,Nat.le_refl _,fun _ _=>rfl⟩,hM,fun b e sz d es he=>by simp[bd] at he,fun b b' k k' blk o z o' z' hk=>by simp[bd] at hk⟩
 refine(h.2 w _ vs hS rfl (fun _ h=>h.elim) hv).mono ?_
 rintro en w' ⟨v1,r1,H1,nx',ρ,U,he,hz,hU,hS',_,g2⟩
 have h3:=iq hS' rfl 6 (a:=r1) (v:=v1) (by rw[hz];exact hf) g2
 rw[hz] at h3
 exact⟨v1,_,he,rfl,hf,h3,hS'.below⟩
theorem pure_or {P:Program} {f:FuncId} {args:List AV} {u v:AV} (h:cD P f args [] 0 (fun r H _=>cO.dM H 6 r=u∨cO.dM H 6 r=v)) (hu:bx 0 u) (hv:bx 0 v):Pure P f args (fun r=>r=u∨r=v):=by
 refine⟨h.1,fun M w vs hM hv'=> ?_⟩
 have hS:dC w ⟨fun _=>none,bd [],fun _=>False,w,M⟩:=⟨⟨rfl,rfl,rfl,Nat.le_refl _,fun _ _=>rfl⟩,hM,fun b e sz d es he=>by simp[bd] at he,fun b b' k k' blk o z o' z' hk=>by simp[bd] at hk⟩
 refine(h.2 w _ vs hS rfl (fun _ h=>h.elim) hv').mono ?_
 rintro en w' ⟨v1,r1,H1,nx',ρ,U,he,hz,hU,hS',_,g2⟩
 rcases hz with hz|hz
 ·have h3:=iq hS' rfl 6 (a:=r1) (v:=v1) (by rw[hz];exact hu) g2
  rw[hz] at h3
  exact⟨v1,_,he, .inl rfl,hu,h3,hS'.below⟩
 ·have h3:=iq hS' rfl 6 (a:=r1) (v:=v1) (by rw[hz];exact hv) g2
  rw[hz] at h3
  exact⟨v1,_,he, .inr rfl,hv,h3,hS'.below⟩
theorem sR {P:Program} {f:FuncId} {args:List AV} {u v:AV} (h:Pure P f args (fun r=>r=u∨r=v)) (hv:bx 0 v) (hle:∀c,dA c c u v):Pure P f args (fun r=>r=v):=
 ⟨h.1,fun M w vs hM hv'=>(h.2 M w vs hM hv').mono fun en w' ⟨x,r,h2,h3,h4,h5,h6⟩=>by
  rcases h3 with rfl|rfl
  ·exact⟨x,_,h2,rfl,hv,hle _ _ h5,h6⟩
  ·exact⟨x,_,h2,rfl,hv,h5,h6⟩⟩
theorem mO {P:Program} {f:FuncId} {args:List AV} {sz:Nat} {es:List AV} (hf:bx 0 (.im sz .any es)) (h:cD P f args [] 0 (fun r H _=>cO.dM H 6 r= .sc (.slice none 0 0)∧es=[]∨cO.dM H 6 r= .im sz .any es)):Pure P f args (fun r=>r= .im sz .any es):=by
 by_cases hl:es=[]
 ·subst hl
  exact sR (pure_or (h.mono fun r H n h=>h.imp (·.1) id) (by simp[bx,cK]) hf) hf (fun c=>cO.dA.ql c c _ _)
 ·exact er (h.mono fun r H n h=>h.elim (fun h=>absurd h.2 hl) id) hf
theorem ee (op:Int):Pure Tryz.prog 146 [u8 op] (fun r=>r=bl (decide (0<op∧op<19))):=by
 refine aI uQ rfl ?_
 repeat' (first|((with_reducible refine aF ?_);conv=>whnf)|refine aG ?_|exact aC|with_reducible refine aD ?_ ?_|(apply aA;(·exact cI))|refine aH ?_|((with_reducible refine aB ?_ ?_)<;>intro hc<;>(try simp only[List.length_map,ne_eq,da] at hc)<;>try(exfalso;omega)))
 simp only[decide_eq_true_eq]
 exact ec (by by_cases h:0<op<;>simp[h])
theorem dq (c:Int):Pure Tryz.prog 143 [u8 c] (fun r=>r=bl (decide (48≤c)&&decide (c≤57))):=by
 refine aI uN rfl ?_
 repeat' (first|((with_reducible refine aF ?_);conv=>whnf)|refine aG ?_|exact aC|with_reducible refine aD ?_ ?_|(apply aA;(·exact cI))|refine aH ?_|((with_reducible refine aB ?_ ?_)<;>intro hc<;>(try simp only[List.length_map,ne_eq,da] at hc)<;>try(exfalso;omega)))
 all_goals simp_all[da]
set_option maxHeartbeats 1000000 in
theorem rq (n:Node):Pure Tryz.prog 120 [n.av] (fun r=>r=hC n.fold):=by
 refine mO (by simp[bx,cB]) ?_
 refine aQ uH rfl ?_
 repeat' (first|((with_reducible refine aF ?_);conv=>whnf)|refine aG ?_|exact gH|with_reducible refine aD ?_ ?_|((with_reducible refine Ask.mk ?_);first|exact dj|exact cy|(intro h;simp_all[Node.cells]<;>fail)|(simp_all[Node.cells]<;>fail))|(apply aA;(·exact cI))|refine aH ?_|((with_reducible refine aB ?_ ?_)<;>intro hc<;>(try simp only[List.length_map,ne_eq,da] at hc)<;>try(exfalso;omega)))
 all_goals refine⟨?_⟩
 all_goals first|exact .inl ⟨rfl,by simp_all[Node.fold]⟩|(refine .inr ((eA bh (by simp)).trans ?_);rw[dE _ (by simp[cK,bx])];first|(simp_all[hC,Node.fold];done)|(unfold Node.fold;rw[if_neg (by assumption),if_neg (fun h=>hc.elim (fun a=>a h.1) (fun a=>h.2 a))];rfl))
end Go.Proofs.YtekfmjjmihomlaaGreat
end
section
/- Is a node right? -/
namespace Go.Proofs.YtekfmjjmihomlaaGreat
open Go Go.cO Go.Proofs
set_option linter.unusedSimpArgs false
set_option linter.unusedVariables false
theorem kY {f:FuncId} {args:List AV} {u:AV} (hu:bx 0 u) (h:(rD TT 30 f args [] 0).map (fun q=>dM q.2.1 6 q.1)=some u):Pure Tryz.prog f args (fun r=>r=u):=by
 simp only[Option.map_eq_some_iff] at h
 obtain⟨⟨r,H',nx'⟩,h1,h2⟩:=h
 simp only at h2
 have h0:=lT NZ 30 _ _ _ _ _ _ _ h1
 have h3:=cD.pure (H':=H') (h0.mono fun r H n ⟨h1,h2,_⟩=>⟨h1,h2⟩) (by rw[h2];exact hu)
 exact h3.mono fun r hr=>by rw[hr,h2]
theorem eP (op:Int) (h0:0≤op):Pure Tryz.prog 123 [u8 op] (fun r=>r=bl (dJ op)):=by
 refine aI uJ rfl ?_
 repeat' (first|((with_reducible refine aF ?_);conv=>whnf)|refine aG ?_|exact aC|with_reducible refine aD ?_ ?_|(apply aA;(·exact cI))|((with_reducible refine aO (ee _) ?_ ?_);(·exact bo))|((with_reducible refine aN (fun _=>ee _) ?_ ?_);(·exact bo))|((with_reducible refine aL (ee _) ?_ ?_);(·exact bo))|((with_reducible refine aM (fun _=>ee _) ?_ ?_);(·exact bo))|refine aH ?_|((with_reducible refine aB ?_ ?_)<;>intro hc<;>(try simp only[List.length_map,ne_eq,da] at hc)<;>try(exfalso;omega)))
 refine ec ?_
 unfold dJ
 by_cases h1:0<op<;>by_cases h2:op<19<;>by_cases h3:op=17<;>by_cases h4:op=18<;>simp[h1,h2,h3,h4]<;>omega
def mask (k op:Int):Int:=if k=1 then(if dJ op=true then 59 else 43) else if k=2 then 38 else if k=3 then 44 else if k=4 then 46 else if k=5 then 36 else if k=6 then 36 else if k=7 then 40 else if k=8 then 104 else 0
set_option maxRecDepth 100000 in
theorem wq (n:Node) (hn:n.Wf) (h:1≤n.kind∧n.kind<10):Pure Tryz.prog 116 [n.av] (fun r=>r=u8 (mask n.kind n.op)):=by
 obtain⟨h0,h1⟩:=h
 have ho:=hn.op.1
 obtain⟨kind,op,slot,cH,a,b,next,oc,origin⟩:=n
 simp only at h0 h1 ho
 have hk:kind=1∨kind=2∨kind=3∨kind=4∨kind=5∨kind=6∨kind=7∨kind=8∨kind=9:=by omega
 rcases hk with rfl|rfl|rfl|rfl|rfl|rfl|rfl|rfl|rfl
 ·refine aI uD rfl ?_
  repeat' (first|((with_reducible refine aF ?_);conv=>whnf)|refine aG ?_|exact aC|with_reducible refine aD ?_ ?_|(apply aA;(·exact cI))|((with_reducible refine aO (eP _ ho) ?_ ?_);(·exact bo))|((with_reducible refine aN (fun _=>eP _ ho) ?_ ?_);(·exact bo))|((with_reducible refine aL (eP _ ho) ?_ ?_);(·exact bo))|((with_reducible refine aM (fun _=>eP _ ho) ?_ ?_);(·exact bo))|refine aH ?_|((with_reducible refine aB ?_ ?_)<;>intro hc<;>(try simp only[List.length_map,ne_eq,da] at hc)<;>try(exfalso;omega)))
  all_goals
   cases ht:dJ op with
   |true=>
    rw[ht] at hc
    first|(exact absurd rfl hc)|(exact absurd hc (by decide))|(simp only[show mask 1 op=59 by simp[mask,ht]];try kernel_rfl)
   |false=>
    rw[ht] at hc
    first|(exact absurd rfl hc)|(exact absurd hc (by decide))|(simp only[show mask 1 op=43 by simp[mask,ht]];try kernel_rfl)
 iterate 8 exact kY (by simp[bx,cK]) (by kernel_rfl)
theorem ja.default_eq:(default:ja)=⟨false,0,0⟩:=rfl
def gK (m u:Int):Int:=IntKind.u8.wrap (BitVec.ofInt IntKind.u8.bits m&&& BitVec.ofInt IntKind.u8.bits u).toNat
theorem nc (k u most m:Int) (b:Nat) (H:Hp) (nx:Nat) (e:TypeId) (d:AV) (hb:bd H b=some (.row e 1 d [u8 m])):rJ Tryz.prog 117 [i64 k,u8 u,i64 most, .pt b 1 0 0] H nx (bl (nI k (decide (gK m u≠0)) most)):=by
 refine aY uE rfl ?_
 repeat' (first|((with_reducible refine aF ?_);conv=>whnf)|refine aG ?_|exact aC|with_reducible refine aD ?_ ?_|(apply aA;(·exact cI))|refine aH ?_|((with_reducible refine aB ?_ ?_)<;>intro hc<;>(try simp only[List.length_map,ne_eq,da] at hc)<;>try(exfalso;omega)))
 refine A5.look ?_ sr
 simp only[show IntKind.u8.wrap (BitVec.ofInt IntKind.u8.bits m&&& BitVec.ofInt IntKind.u8.bits u).toNat=gK m u from rfl,nI]
 by_cases h1:gK m u=0<;>by_cases h2:k=0<;>by_cases h3:0≤k<;>by_cases h4:k<most<;>simp[h1,h2,h3,h4]
theorem p9 (v:ja) (u m:Int) (g:cA) (b c:Nat) (H:Hp) (nx:Nat) (e e2:TypeId) (d d2:AV) (hb:bd H b=some (.row e 1 d [u8 m])) (hc:bd H c=some (.row e2 4 d2 [g.av])) (hbn:b<nx) (hcn:c<nx):rJ Tryz.prog 118 [v.av,u8 u, .pt b 1 0 0, .pt c 1 0 0] H nx (bl (qA v (decide (gK m u≠0)) g.bg)):=by
 refine aY uF rfl ?_
 repeat' (first|((with_reducible refine aF ?_);conv=>whnf)|refine aG ?_|exact gH|with_reducible refine aD ?_ ?_|((with_reducible refine Ask.mk ?_);first|exact dj|exact cy|(intro h;simp_all[ja.cells,cA.cells]<;>fail)|(simp_all[ja.cells,cA.cells]<;>fail))|(apply aA;(·exact cI))|refine aH ?_|((with_reducible refine aB ?_ ?_)<;>intro hc<;>(try simp only[List.length_map,ne_eq,da] at hc)<;>try(exfalso;omega)))
 all_goals refine A5.look ?_ sr
 all_goals simp only[show IntKind.u8.wrap (BitVec.ofInt IntKind.u8.bits m&&& BitVec.ofInt IntKind.u8.bits u).toNat=gK m u from rfl] at *
 all_goals unfold qA
 ·rw[if_neg (show ¬decide (gK m u≠0)=true by simp[hc])]
  obtain⟨is,sl,wo⟩:=v
  refine ec ?_
  rw[Bool.eq_iff_iff]
  simp[ja.default_eq,and_assoc]
 ·rename_i h0
  rw[decide_eq_true hc,if_pos rfl,if_pos h0]
  refine ec ?_
  by_cases h1:0≤v.slot<;>by_cases h2:v.slot<g.bg<;>simp[h1,h2]
 ·rename_i h0
  rw[decide_eq_true hc,if_pos rfl,if_neg (by rw[h0];decide)]
theorem zx (k op:Int) (h:1≤k∧k<10):(gK (mask k op) 1=0↔¬k=1)∧(decide (gK (mask k op) 2≠0)=jE k)∧(decide (gK (mask k op) 4≠0)=fu k)∧(decide (gK (mask k op) 8≠0)=qy k)∧(decide (gK (mask k op) 16≠0)=(decide (k=1)&&dJ op))∧(decide (gK (mask k op) 32≠0)=gy k)∧(decide (gK (mask k op) 64≠0)=decide (k=8)):=by
 have hk:k=1∨k=2∨k=3∨k=4∨k=5∨k=6∨k=7∨k=8∨k=9:=by omega
 rcases hk with rfl|rfl|rfl|rfl|rfl|rfl|rfl|rfl|rfl
 ·cases ht:dJ op with
  |false=>rw[show mask 1 op=43 by simp[mask,ht]];decide
  |true=>rw[show mask 1 op=59 by simp[mask,ht]];decide
 ·rw[show mask 2 op=38 by rfl,show(decide ((2:Int)=1)&&dJ op)=false by rfl];decide
 ·rw[show mask 3 op=44 by rfl,show(decide ((3:Int)=1)&&dJ op)=false by rfl];decide
 ·rw[show mask 4 op=46 by rfl,show(decide ((4:Int)=1)&&dJ op)=false by rfl];decide
 ·rw[show mask 5 op=36 by rfl,show(decide ((5:Int)=1)&&dJ op)=false by rfl];decide
 ·rw[show mask 6 op=36 by rfl,show(decide ((6:Int)=1)&&dJ op)=false by rfl];decide
 ·rw[show mask 7 op=40 by rfl,show(decide ((7:Int)=1)&&dJ op)=false by rfl];decide
 ·rw[show mask 8 op=104 by rfl,show(decide ((8:Int)=1)&&dJ op)=false by rfl];decide
 ·rw[show mask 9 op=0 by rfl,show(decide ((9:Int)=1)&&dJ op)=false by rfl];decide
set_option maxRecDepth 4000 in
set_option maxHeartbeats 2000000 in
theorem xG (u:bf) (g:cA) (n:Node) (hn:n.Wf):Pure Tryz.prog 79 [u.av,g.av,n.av] (fun r=>r=bl (jt u g n)):=by
 refine aI DO rfl ?_
 have h0:=hn.kind.1
 have ho:=hn.op.1
 by_cases hk:1≤n.kind∧n.kind<10∧0≤n.origin∧n.origin<4096
 ·have hp:=wq n hn ⟨hk.1,hk.2.1⟩
  obtain⟨m1,m2,m3,m4,m5,m6,m7⟩:=zx n.kind n.op ⟨hk.1,hk.2.1⟩
  repeat' (first|((with_reducible refine aF ?_);conv=>whnf)|refine aG ?_|exact gH|with_reducible refine aD ?_ ?_|((with_reducible refine Ask.mk ?_);first|exact dj|exact cy|(intro h;simp_all[bf.cells,cA.cells,Node.cells]<;>fail)|(simp_all[bf.cells,cA.cells,Node.cells]<;>fail))|(apply aA;(·exact cI))|refine aK (hp) ?_|((refine aW (nc _ _ _ _ _ _ _ _ _ (by exact rfl)) ?_ ?_);(·exact True.intro))|((refine aV (fun _=>nc _ _ _ _ _ _ _ _ _ (by exact rfl)) ?_ ?_);(·exact True.intro))|((refine aW (p9 ⟨_,_,_⟩ _ _ _ _ _ _ _ _ _ _ _ (by exact rfl) (by exact rfl) cZ cZ) ?_ ?_);(·exact True.intro))|((refine aV (fun _=>p9 ⟨_,_,_⟩ _ _ _ _ _ _ _ _ _ _ _ (by exact rfl) (by exact rfl) cZ cZ) ?_ ?_);(·exact True.intro))|refine aH ?_|((with_reducible refine aB ?_ ?_)<;>intro hc<;>(try simp only[List.length_map,ne_eq,da] at hc)<;>try(exfalso;omega)))
  all_goals
   have hop:nI (IntKind.i64.wrap n.op) (decide (gK (mask n.kind n.op) 1≠0)) 19=(if n.kind=1 then decide (n.op<19) else decide (n.op=0)):=by
    have h2:=hn.op.2
    rw[wrap64 (by omega) (by omega)]
    unfold nI
    by_cases h1:n.kind=1
    ·rw[if_pos h1,if_pos (show decide (gK (mask n.kind n.op) 1≠0)=true by rw[decide_eq_true_eq];exact fun h=>m1.1 h h1),decide_eq_true ho,Bool.true_and]
    ·rw[if_neg h1,if_neg (show ¬decide (gK (mask n.kind n.op) 1≠0)=true by rw[decide_eq_true_eq];exact fun h=>h (m1.2 h1))]
   refine ec ?_
   rw[hop,m2,m3,m4,m5,m6,m7]
   unfold jt
   rw[decide_eq_true hk,Bool.true_and]
   simp only[hc,if_true,if_false,or_self,Bool.if_false_right,Bool.decide_eq_true,Bool.and_assoc]
   simp only[List.length_map]
   generalize nI n.slot (jE n.kind) g.bg=x1
   have ea:(⟨n.a.gp,n.a.slot,n.a.word⟩:ja)=n.a:=rfl
   have eb:(⟨n.b.gp,n.b.slot,n.b.word⟩:ja)=n.b:=rfl
   rw[ea,eb]
   generalize qA n.a (qy n.kind) g.bg=x2
   generalize qA n.b (decide (n.kind=1)&&dJ n.op) g.bg=x3
   generalize nI n.next (gy n.kind) g.nodes.length=x4
   generalize nI n.oc (decide (n.kind=8)) g.nodes.length=x5
   revert x1 x2 x3 x4 x5
   intro x1 x2 x3 x4 x5
   cases x1<;>cases x2<;>cases x3<;>cases x4<;>cases x5<;>simp
 ·have hb:jt u g n=false:=by unfold jt;rw[decide_eq_false hk];simp
  rw[hb]
  repeat' (first|((with_reducible refine aF ?_);conv=>whnf)|refine aG ?_|exact gH|with_reducible refine aD ?_ ?_|((with_reducible refine Ask.mk ?_);first|exact dj|exact cy|(intro h;simp_all[bf.cells,cA.cells,Node.cells]<;>fail)|(simp_all[bf.cells,cA.cells,Node.cells]<;>fail))|(apply aA;(·exact cI))|refine aH ?_|((with_reducible refine aB ?_ ?_)<;>intro hc<;>(try simp only[List.length_map,ne_eq,da] at hc)<;>try(exfalso;omega)))
  exact rfl
end Go.Proofs.YtekfmjjmihomlaaGreat
end
section
/- Names. -/
namespace Go.Proofs.YtekfmjjmihomlaaGreat
open Go Go.cO Go.Proofs
set_option linter.unusedSimpArgs false
set_option linter.unusedVariables false
def gl (c:Int):Bool:=decide (48≤c)&&decide (c≤57)
def kR (c:Int):Bool:=decide (97≤c)&&decide (c≤122)||decide (65≤c)&&decide (c≤90)||decide (c=95)
def EX:List ByteArray:=[⟨(List.toArray [115,104,97,114,101,100])⟩,⟨(List.toArray [108,111,99,107])⟩,⟨(List.toArray [116,104,114,101,97,100])⟩,⟨(List.toArray [108,111,99,97,108])⟩,⟨(List.toArray [105,102])⟩,⟨(List.toArray [101,108,115,101])⟩,⟨(List.toArray [119,104,105,108,101])⟩,⟨(List.toArray [112,114,105,110,116])⟩,⟨(List.toArray [115,107,105,112])⟩,⟨(List.toArray [115,119,97,112])⟩]
def rB (s:ByteArray):Bool:=EX.any (s==·)
theorem dV (c:Int):Pure Tryz.prog 145 [u8 c] (fun r=>r=bl (kR c)):=by
 refine aI uP rfl ?_
 repeat' (first|((with_reducible refine aF ?_);conv=>whnf)|refine aG ?_|exact aC|with_reducible refine aD ?_ ?_|(apply aA;(·exact cI))|refine aH ?_|((with_reducible refine aB ?_ ?_)<;>intro hc<;>(try simp only[List.length_map,ne_eq,da] at hc)<;>try(exfalso;omega)))
 refine ec ?_
 unfold kR
 by_cases h1:97≤c<;>by_cases h2:c≤122<;>by_cases h3:65≤c<;>by_cases h4:c≤90<;>by_cases h5:c=95<;>simp[h1,h2,h3,h4,h5]
theorem fO (s:ByteArray):Pure Tryz.prog 144 [st s] (fun r=>r=bl (rB s)):=by
 refine aI uO rfl ?_
 repeat' (first|((with_reducible refine aF ?_);conv=>whnf)|refine aG ?_|exact aC|with_reducible refine aD ?_ ?_|(apply aA;(·exact cI))|refine aH ?_|((with_reducible refine aB ?_ ?_)<;>intro hc<;>(try simp only[List.length_map,ne_eq,da] at hc)<;>try(exfalso;omega)))
 all_goals refine ec ?_
 all_goals simp_all[rB,EX]
def fK (s:ByteArray) (i:Nat):Int:=(s.data.toList.getD i 0).toNat
def j8 (s:ByteArray):Bool:=decide (1≤s.size)&&decide (s.size≤32)&& !gl (fK s 0)&& !rB s&&(List.range s.size).all fun i=>kR (fK s i)||gl (fK s i)
theorem H7 (s:ByteArray):(s==(⟨#[]⟩:ByteArray))=decide (s.size=0):=by
 obtain⟨d⟩:=s
 show(d==#[])=_
 rw[Bool.eq_iff_iff]
 show(d==#[])=true↔decide (d.size=0)=true
 simp
theorem zy (s:ByteArray) (hs:s.size≤140737488351232):Pure Tryz.prog 115 [st s] (fun r=>r=bl (j8 s)):=by
 refine aI uC rfl ?_
 have e0:=H7 s
 by_cases hz:s.size=0
 ·have e1:(s==(⟨#[]⟩:ByteArray))=true:=by rw[e0,decide_eq_true hz]
  have hb:j8 s=false:=by unfold j8;rw[decide_eq_false (by omega)];simp
  rw[hb]
  repeat' (first|((with_reducible refine aF ?_);conv=>whnf)|refine aG ?_|exact gH|with_reducible refine aD ?_ ?_|((with_reducible refine Ask.mk ?_);first|exact dj|((refine Ask.mk ?_);intro h;simp_all)|exact cy)|(apply aA;(·exact cI))|((with_reducible refine aO (dq _) ?_ ?_);(·exact bo))|((with_reducible refine aN (fun _=>dq _) ?_ ?_);(·exact bo))|((with_reducible refine aL (dq _) ?_ ?_);(·exact bo))|((with_reducible refine aM (fun _=>dq _) ?_ ?_);(·exact bo))|((with_reducible refine aO (fO _) ?_ ?_);(·exact bo))|((with_reducible refine aN (fun _=>fO _) ?_ ?_);(·exact bo))|((with_reducible refine aL (fO _) ?_ ?_);(·exact bo))|((with_reducible refine aM (fun _=>fO _) ?_ ?_);(·exact bo))|((with_reducible refine aO (dV _) ?_ ?_);(·exact bo))|((with_reducible refine aN (fun _=>dV _) ?_ ?_);(·exact bo))|((with_reducible refine aL (dV _) ?_ ?_);(·exact bo))|((with_reducible refine aM (fun _=>dV _) ?_ ?_);(·exact bo))|(simp only[e1])|refine aH ?_|((with_reducible refine aB ?_ ?_)<;>intro hc<;>(try simp only[List.length_map,ne_eq,da] at hc)<;>try(exfalso;omega)))
  all_goals first|exact rfl|(exfalso;simp_all)
 ·have e1:(s==(⟨#[]⟩:ByteArray))=false:=by rw[e0,decide_eq_false hz]
  repeat' (first|((with_reducible refine aF ?_);conv=>whnf)|refine aG ?_|exact gH|with_reducible refine aD ?_ ?_|((with_reducible refine Ask.mk ?_);first|exact dj|((refine Ask.mk ?_);intro h;exact⟨by omega,by omega⟩)|exact cy)|(apply aA;(·exact cI))|((with_reducible refine aO (dq _) ?_ ?_);(·exact bo))|((with_reducible refine aN (fun _=>dq _) ?_ ?_);(·exact bo))|((with_reducible refine aL (dq _) ?_ ?_);(·exact bo))|((with_reducible refine aM (fun _=>dq _) ?_ ?_);(·exact bo))|((with_reducible refine aO (fO _) ?_ ?_);(·exact bo))|((with_reducible refine aN (fun _=>fO _) ?_ ?_);(·exact bo))|((with_reducible refine aL (fO _) ?_ ?_);(·exact bo))|((with_reducible refine aM (fun _=>fO _) ?_ ?_);(·exact bo))|((with_reducible refine aO (dV _) ?_ ?_);(·exact bo))|((with_reducible refine aN (fun _=>dV _) ?_ ?_);(·exact bo))|((with_reducible refine aL (dV _) ?_ ?_);(·exact bo))|((with_reducible refine aM (fun _=>dV _) ?_ ?_);(·exact bo))|(simp only[e1])|refine aH ?_|((with_reducible refine aB ?_ ?_)<;>intro hc<;>(try simp only[List.length_map,ne_eq,da] at hc)<;>try(exfalso;omega)))
  ·refine ec (Eq.symm ?_)
   unfold j8
   have hp:(decide (1≤s.size)&&decide (s.size≤32)&& !gl (fK s 0)&& !rB s)=false:=by
    rcases hc with((h|h)|h)|h
    ·exact absurd h (by decide)
    ·simp[show ¬s.size≤32 by omega]
    ·have h:48≤fK s 0∧fK s 0≤57:=h
     simp[gl,h.1,h.2]
    ·simp[h]
   rw[hp,Bool.false_and]
  ·have hp:(decide (1≤s.size)&&decide (s.size≤32)&& !gl (fK s 0)&& !rB s)=true:=by
    obtain⟨h1,h2⟩:=hc
    have h3:¬(48≤fK s 0∧fK s 0≤57):=fun h=>h1 (.inr h)
    have h4:s.size≤32:=by
     have:¬(32:Int)<s.size:=fun h=>h1 (.inl (.inr h))
     omega
    have h5:gl (fK s 0)=false:=by
     unfold gl
     by_cases h:48≤fK s 0
     ·rw[decide_eq_true h,decide_eq_false (fun h'=>h3 ⟨h,h'⟩)];rfl
     ·rw[decide_eq_false h];rfl
    rw[decide_eq_true (by omega:1≤s.size),decide_eq_true h4,h5,h2];rfl
   have hb:∀R,(decide (1≤s.size)&&decide (s.size≤32)&& !gl (fK s 0)&& !rB s&&R)=R:=fun R=>by rw[hp,Bool.true_and]
   unfold j8
   rw[hb]
   clear hc hp hb e1 e0
   refine aR (fun i:Nat=>[(0,st s),(21,i64 s.size),(22,i64 i)]) (fun i H n=>i≤s.size∧∀j,j<i→(kR (fK s j)||gl (fK s j))=true) (fun i=>s.size - i) 0 cM ⟨Nat.zero_le _,fun _ h=>by omega⟩ ?_
   rintro i H n ⟨hi,hall⟩
   by_cases his:i<s.size
   ·repeat' (first|((with_reducible refine aF ?_);conv=>whnf)|refine aG ?_|exact gH|with_reducible refine aD ?_ ?_|((with_reducible refine Ask.mk ?_);first|exact dj|((refine Ask.mk ?_);intro h;exact⟨by omega,by omega⟩)|exact cy)|(apply aA;(·exact cI))|((with_reducible refine aO (dq _) ?_ ?_);(·exact bo))|((with_reducible refine aN (fun _=>dq _) ?_ ?_);(·exact bo))|((with_reducible refine aL (dq _) ?_ ?_);(·exact bo))|((with_reducible refine aM (fun _=>dq _) ?_ ?_);(·exact bo))|((with_reducible refine aO (dV _) ?_ ?_);(·exact bo))|((with_reducible refine aN (fun _=>dV _) ?_ ?_);(·exact bo))|((with_reducible refine aL (dV _) ?_ ?_);(·exact bo))|((with_reducible refine aM (fun _=>dV _) ?_ ?_);(·exact bo))|refine aH ?_|((with_reducible refine aB ?_ ?_)<;>intro hc<;>(try simp only[List.length_map,ne_eq,da] at hc)<;>try(exfalso;omega)))
    ·refine ec (Eq.symm ?_)
     rw[Bool.eq_false_iff,ne_eq,List.all_eq_true]
     intro hA
     have h1:=hA i (List.mem_range.2 his)
     have hc:kR (fK s i)=false∧(fK s i<48∨57<fK s i):=hc
     rw[hc.1,Bool.false_or] at h1
     simp only[gl,Bool.and_eq_true,decide_eq_true_eq] at h1
     omega
    ·refine⟨i+1,by omega,cM,by omega,fun j hj=> ?_⟩
     by_cases hji:j=i
     ·have hc:¬kR (fK s i)=false∨(48≤fK s i∧fK s i≤57):=hc
      rw[hji]
      rcases hc with h|h
      ·rw[Bool.not_eq_false] at h
       rw[h,Bool.true_or]
      ·simp[gl,h.1,h.2]
     ·exact hall j (by omega)
   ·have:i=s.size:=by omega
    subst this
    repeat' (first|((with_reducible refine aF ?_);conv=>whnf)|refine aG ?_|exact aC|with_reducible refine aD ?_ ?_|(apply aA;(·exact cI))|refine aH ?_|((with_reducible refine aB ?_ ?_)<;>intro hc<;>(try simp only[List.length_map,ne_eq,da] at hc)<;>try(exfalso;omega)))
    refine ec (Eq.symm ?_)
    rw[List.all_eq_true]
    intro j hj
    exact hall j (List.mem_range.1 hj)
end Go.Proofs.YtekfmjjmihomlaaGreat
end
