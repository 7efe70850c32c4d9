import Derived.Test.YtmonponfppdgfaaGreatDoorM13
import Derived.Test.YtmonponfppdgfaaGreatDoorM18
import Derived.Test.YtmonponfppdgfaaGreatDoorM19
import Derived.Test.YtmonponfppdgfaaGreatDoorM20
import Derived.Test.YtmonponfppdgfaaGreatDoorM15
import Derived.Test.YtmonponfppdgfaaGreatDoorRows
import Derived.Test.YtmonponfppdgfaaGreatDoorTie
import Derived.Test.YtmonponfppdgfaaGreatDoorCards
import Derived.LaidMore
import Derived.OpenShut
import Derived.SevenTiedAt
section
/- Units as plain data. -/
namespace Go.Proofs.YtmonponfppdgfaaGreatDoor
open Go Go.ck Go.Proofs
set_option linter.unusedSimpArgs false
set_option linter.unusedVariables false
abbrev i64 (n:Int):AV:= .sc (.int .i64 n)
abbrev u8 (n:Int):AV:= .sc (.int .u8 n)
abbrev bl (b:Bool):AV:= .sc (.bool b)
abbrev st (s:ByteArray):AV:= .sc (.string s)
def iq (n:Int):Prop:=-9223372036854775808≤n∧n<9223372036854775808
structure lK where
 dk:Bool
 slot:Int
 word:Int
 deriving Inhabited,DecidableEq
def lK.cells (v:lK):List AV:=[bl v.dk,i64 v.slot,i64 v.word]
abbrev lK.av (v:lK):AV:= .agg v.cells
structure lK.Wf (v:lK):Prop where
 slot:iq v.slot
 word:iq v.word
structure Node where
 kind:Int
 op:Int
 slot:Int
 cP:Int
 a:lK
 b:lK
 next:Int
 jS:Int
 origin:Int
 deriving Inhabited,DecidableEq
def Node.cells (n:Node):List AV:=[u8 n.kind,u8 n.op,i64 n.slot,i64 n.cP,bl n.a.dk,i64 n.a.slot,i64 n.a.word,bl n.b.dk,i64 n.b.slot,i64 n.b.word,i64 n.next,i64 n.jS,i64 n.origin]
abbrev Node.av (n:Node):AV:= .agg n.cells
structure Node.Wf (n:Node):Prop where
 kind:0≤n.kind∧n.kind<256
 op:0≤n.op∧n.op<256
 slot:iq n.slot
 cP:iq n.cP
 a:n.a.Wf
 b:n.b.Wf
 next:iq n.next
 jS:iq n.jS
 origin:iq n.origin
structure Decl where
 name:ByteArray
 word:Int
 at_:Int
 deriving Inhabited,DecidableEq
def Decl.cells (d:Decl):List AV:=[st d.name,i64 d.word,i64 d.at_]
abbrev Decl.av (d:Decl):AV:= .agg d.cells
structure Decl.Wf (d:Decl):Prop where
 name:d.name.size≤140737488351232
 word:iq d.word
 at_:iq d.at_
structure bo where
 name:ByteArray
 locals:Int
 cd:Int
 nodes:List Node
 deriving Inhabited,DecidableEq
abbrev eU (l:List Node):AV:= .im 13 .any (l.map Node.av)
def bo.cells (g:bo):List AV:=[st g.name,i64 g.locals,i64 g.cd,eU g.nodes]
abbrev bo.av (g:bo):AV:= .agg g.cells
structure bo.Wf (g:bo):Prop where
 name:g.name.size≤140737488351232
 locals:iq g.locals
 cd:iq g.cd
 nodes:∀n∈g.nodes,n.Wf
 len:g.nodes.length * 88≤140737488351232
structure bq where
 shared:List Decl
 bx:List Decl
 bp:List bo
 deriving Inhabited,DecidableEq
abbrev dL (l:List Decl):AV:= .im 3 .any (l.map Decl.av)
abbrev fG (l:List bo):AV:= .im 4 .any (l.map bo.av)
def bq.cells (u:bq):List AV:=[dL u.shared,dL u.bx,fG u.bp]
abbrev bq.av (u:bq):AV:= .agg u.cells
structure bq.Wf (u:bq):Prop where
 shared:∀d∈u.shared,d.Wf
 gM:u.shared.length * 32≤140737488351232
 bx:∀d∈u.bx,d.Wf
 gv:u.bx.length * 32≤140737488351232
 bp:∀g∈u.bp,g.Wf
 gL:u.bp.length * 56≤140737488351232
@[simp] theorem L8 (n:Nat) (v:lK):cL n v.cells:=by simp[lK.cells,cL,cG]
@[simp] theorem vN (n:Nat) (v:Node):cL n v.cells:=by simp[Node.cells,cL,cG]
@[simp] theorem K7 (n:Nat) (v:Decl):cL n v.cells:=by simp[Decl.cells,cL,cG]
@[simp] theorem KN (n:Nat) (v:bo):cL n v.cells:=by simp[bo.cells,cL,cG,cJ]
@[simp] theorem CB (n:Nat) (v:bq):cL n v.cells:=by simp[bq.cells,cL,cG,cJ]
abbrev bo.nd (g:bo) (i:Nat):Node:=g.nodes.getD i default
abbrev bq.gr (u:bq) (t:Nat):bo:=u.bp.getD t default
theorem tA {α β:Type} (f:α→β) (l:List α) (i:Nat) (a:α):(l.map f).getD i (f a)=f (l.getD i a):=by
 simp only[List.getD,List.getElem?_map]
 cases l[i]?<;>rfl
theorem JO {l:List bo} {i:Nat}:(l.map bo.av).getD i (bo.av default)=(l.getD i default).av:=tA _ _ _ _
theorem B1 {l:List Decl} {i:Nat}:(l.map Decl.av).getD i (Decl.av default)=(l.getD i default).av:=tA _ _ _ _
theorem cf {a b:Bool} (h:a=b):AV.sc (.bool a)=bl b:=by rw[h]
theorem cC {α:Type} {l:List α} {j:Nat} (d:α) (h:j<l.length):l.getD j d∈l:=by
 simp only[List.getD,List.getElem?_eq_getElem h,Option.getD_some];exact List.getElem_mem h
end Go.Proofs.YtmonponfppdgfaaGreatDoor
end
section
/- What units read as; the table that the library lays. -/
namespace Go.Proofs.YtmonponfppdgfaaGreatDoor
open Go Go.ck Go.Proofs Go.RowKit Go.ChangeShapes Go.WideShapes Go.ChangeAt
set_option linter.unusedSimpArgs false
set_option linter.unusedVariables false
theorem own:ownKnob Tryz.prog.godebug=none:=by kernel_rfl
theorem laidOut:laidOutB Tryz.prog=true:=by kernel_rfl
theorem FI {n:Int} (h:(Lit.int .i64 n).wf=true):iq n:=by
 simp only[Lit.wf,Bool.and_eq_true,decide_eq_true_eq] at h
 have e1:IntKind.i64.min=-9223372036854775808:=by decide
 have e2:IntKind.i64.max=9223372036854775807:=by decide
 unfold iq
 omega
theorem zE {n:Int} (h:(Lit.int .u8 n).wf=true):0≤n∧n<256:=by
 simp only[Lit.wf,Bool.and_eq_true,decide_eq_true_eq] at h
 have e1:IntKind.u8.min=0:=by decide
 have e2:IntKind.u8.max=255:=by decide
 omega
theorem dz {t:TypeId} (ht:Tryz.prog.underlying t=some (.int .i64)):eI Tryz.prog t (fun n:Int=>[i64 n]) iq:=(oy ht).map (fun n=>n) (fun _ _=>rfl) fun _ h=>FI h
theorem tS:eI Tryz.prog 44 lK.cells lK.Wf:=by
 refine eI.map (α:=Bool×Int×Int×Unit) (fun p=>(⟨p.1,p.2.1,p.2.2.1⟩:lK))
  (hC (k:=3) Tryz.underlying44 (by kernel_rfl) (cn (k:=1) rfl (by kernel_rfl) (yE Tryz.underlying4) (cn (k:=1) rfl (by kernel_rfl) (dz Tryz.underlying3) (cn (k:=1) rfl (by kernel_rfl) (dz Tryz.underlying2) j8)))) ?_ ?_
 ·intro a _;rfl
 ·intro a h;exact⟨h.2.1,h.2.2.1⟩
theorem yG:eI Tryz.prog 46 Node.cells Node.Wf:=by
 refine eI.map (α:=Int×Int×Int×Int×lK×lK×Int×Int×Int×Unit) (fun p=>(⟨p.1,p.2.1,p.2.2.1,p.2.2.2.1,p.2.2.2.2.1,p.2.2.2.2.2.1,p.2.2.2.2.2.2.1,p.2.2.2.2.2.2.2.1,p.2.2.2.2.2.2.2.2.1⟩:Node))
  (hC (k:=13) Tryz.underlying46 (by kernel_rfl) (cn (k:=1) rfl (by kernel_rfl) (oy Tryz.underlying41) (cn (k:=1) rfl (by kernel_rfl) (oy Tryz.underlying42) (cn (k:=1) rfl (by kernel_rfl) (dz Tryz.underlying3) (cn (k:=1) rfl (by kernel_rfl) (dz Tryz.underlying3) (cn (k:=3) rfl (by kernel_rfl) tS (cn (k:=3) rfl (by kernel_rfl) tS (cn (k:=1) rfl (by kernel_rfl) (dz Tryz.underlying3) (cn (k:=1) rfl (by kernel_rfl) (dz Tryz.underlying3) (cn (k:=1) rfl (by kernel_rfl) (dz Tryz.underlying3) j8)))))))))) ?_ ?_
 ·intro a _;rfl
 ·intro a h
  obtain⟨h1,h2,h3,h4,h5,h6,h7,h8,h9,_⟩:=h
  exact⟨zE h1,zE h2,h3,h4,h5,h6,h7,h8,h9⟩
theorem yF:eI Tryz.prog 48 Decl.cells Decl.Wf:=by
 refine eI.map (α:=ByteArray×Int×Int×Unit) (fun p=>(⟨p.1,p.2.1,p.2.2.1⟩:Decl))
  (hC (k:=3) Tryz.underlying48 (by kernel_rfl) (cn (k:=1) rfl (by kernel_rfl) (oG Tryz.underlying9) (cn (k:=1) rfl (by kernel_rfl) (dz Tryz.underlying2) (cn (k:=1) rfl (by kernel_rfl) (dz Tryz.underlying3) j8)))) ?_ ?_
 ·intro a _;rfl
 ·intro a h;exact⟨h.1,h.2.1,h.2.2.1⟩
theorem wZ:eI Tryz.prog 38 (fun l:List Node=>[eU l]) (fun l=>(∀x∈l,x.Wf)∧l.length * 88≤140737488351232):=by
 have hb:Tryz.prog.bytesOf 46=96:=by kernel_rfl
 refine(ly (ag:=true) (sz:=13) .any Tryz.underlying38 (by kernel_rfl) (by omega) yG (fun _=>rfl) (fun _ _=>rfl) (fun h=>by cases h)).map (fun l=>l) (fun _ _=>rfl) ?_
 rintro l ⟨h1,h2⟩
 rw[hb] at h2
 have hr:reachBytes=140737488351232:=rfl
 exact⟨h1,by omega⟩
theorem wY:eI Tryz.prog 40 bo.cells bo.Wf:=by
 refine eI.map (α:=ByteArray×Int×Int×List Node×Unit) (fun p=>(⟨p.1,p.2.1,p.2.2.1,p.2.2.2.1⟩:bo))
  (hC (k:=4) Tryz.underlying40 (by kernel_rfl) (cn (k:=1) rfl (by kernel_rfl) (oG Tryz.underlying9) (cn (k:=1) rfl (by kernel_rfl) (dz Tryz.underlying3) (cn (k:=1) rfl (by kernel_rfl) (dz Tryz.underlying3) (cn (k:=1) rfl (by kernel_rfl) wZ j8))))) ?_ ?_
 ·intro a _;rfl
 ·intro a h
  obtain⟨h1,h2,h3,⟨h4,h5⟩,_⟩:=h
  exact⟨h1,h2,h3,h4,h5⟩
theorem p6:eI Tryz.prog 22 (fun l:List Decl=>[dL l]) (fun l=>(∀x∈l,x.Wf)∧l.length * 32≤140737488351232):=by
 have hb:Tryz.prog.bytesOf 48=32:=by kernel_rfl
 refine(ly (ag:=true) (sz:=3) .any Tryz.underlying22 (by kernel_rfl) (by omega) yF (fun _=>rfl) (fun _ _=>rfl) (fun h=>by cases h)).map (fun l=>l) (fun _ _=>rfl) ?_
 rintro l ⟨h1,h2⟩
 rw[hb] at h2
 exact⟨h1,h2⟩
theorem uS:eI Tryz.prog 23 (fun l:List bo=>[fG l]) (fun l=>(∀x∈l,x.Wf)∧l.length * 56≤140737488351232):=by
 have hb:Tryz.prog.bytesOf 40=56:=by kernel_rfl
 refine(ly (ag:=true) (sz:=4) .any Tryz.underlying23 (by kernel_rfl) (by omega) wY (fun _=>rfl) (fun _ _=>rfl) (fun h=>by cases h)).map (fun l=>l) (fun _ _=>rfl) ?_
 rintro l ⟨h1,h2⟩
 rw[hb] at h2
 exact⟨h1,h2⟩
theorem yH:eI Tryz.prog 25 bq.cells bq.Wf:=by
 refine eI.map (α:=List Decl×List Decl×List bo×Unit) (fun p=>(⟨p.1,p.2.1,p.2.2.1⟩:bq))
  (hC (k:=3) Tryz.underlying25 (by kernel_rfl) (cn (k:=1) rfl (by kernel_rfl) p6 (cn (k:=1) rfl (by kernel_rfl) p6 (cn (k:=1) rfl (by kernel_rfl) uS j8)))) ?_ ?_
 ·intro a _;rfl
 ·intro a h
  obtain⟨⟨h1,h2⟩,⟨h3,h4⟩,⟨h5,h6⟩,_⟩:=h
  exact⟨h1,h2,h3,h4,h5,h6⟩
abbrev vo:List (String×DataW Unit):=[("math/bits.deBruijn32tab",Rows.laid_math_bits_deBruijn32tab)]
def wy:List Nat:=[0,1,28,2,29,14,24,3,30,22,20,15,25,17,4,8,31,27,13,23,21,19,16,7,26,12,18,6,11,5,10,9]
theorem MJ:Tryz.prog.globalNamed "math/bits.deBruijn32tab" =some 0:=by kernel_rfl
theorem MS:(Tryz.prog.globals[0]?).map (·.type)=some 158:=by kernel_rfl
theorem B2 (os:Os) (args:Array Value):laidMetH Tryz.prog vo ((World.doorLaid Tryz.prog 400 os).forCall (fun _ _=>0) ⟨#[],args,[]⟩).memory:=
 laidMetH_of_parts3 (fuel:=8) (laidMet_of_run' 8 (by kernel_rfl) (by kernel_rfl)) (by kernel_rfl) (by kernel_rfl)
theorem IA {W:World} (h:laidMetH Tryz.prog vo W):zL W emp:=by
 rw[MakeChecks.laidMetH_plain _ _ _ (by kernel_rfl)] at h
 obtain⟨ps,⟨g0,t0,cs0,f0,p0,q0,hg0,ht0,hv0,hd0,_⟩,_,_⟩:=h
 obtain rfl:=Option.some.inj (MJ.symm.trans hg0)
 obtain rfl:=Option.some.inj (MS.symm.trans ht0)
 obtain⟨xs,m1,rfl,hx1,hlen,hn3,hel⟩:=DataW.trod_array Tryz.underlying158 hd0
 have c5:Tryz.prog.cellsOf 5=1:=by kernel_rfl
 simp only[Prod.mk.injEq] at hx1
 obtain⟨hx1,_⟩:=hx1
 have hx2:xs.map (·.1)=wy.map fun n:Nat=>DataW.lit (Lit.int .u8 (n:Int)):=by
  have h9:(DataW.agg (wy.map fun n:Nat=>DataW.lit (Lit.int .u8 (n:Int))):DataW Unit)= .agg (xs.map (·.1)):=hx1
  exact(DataW.agg.inj h9).symm
 have key:∀j,j<32→W.cell? ⟨0,j,none⟩=some (.int .u8 (([0,1,28,2,29,14,24,3,30,22,20,15,25,17,4,8,31,27,13,23,21,19,16,7,26,12,18,6,11,5,10,9]:List Nat).getD j 0)):=by
  intro j hj
  have hjx:j<xs.length:=by omega
  have h0:=hel j hj
  rw[List.getElem?_eq_getElem hjx,c5] at h0
  obtain⟨k,e1,e2,_⟩:=DataW.trod_int Tryz.underlying5 h0
  have hc:=World.var?_cell hg0 hv0 j
  have cD:cs0.toList[j]?=some (.int .u8 k):=by
   have:((cs0.toList.drop (j * 1)).take 1)[0]?=some (.int .u8 k):=by rw[e1];rfl
   simpa[List.getElem?_take,List.getElem?_drop] using this
  rw[hc,←Array.getElem?_toList,cD]
  have hxj:(xs.map (·.1))[j]?=some (.lit (.int .u8 k)):=by
   rw[List.getElem?_map,List.getElem?_eq_getElem hjx,e2];rfl
  have htl:wy.length=32:=rfl
  rw[hx2,List.getElem?_map,List.getElem?_eq_getElem (by omega)] at hxj
  simp only[Option.map_some,Option.some.injEq,DataW.lit.injEq,Lit.int.injEq,true_and] at hxj
  rw[←hxj,List.getD,List.getElem?_eq_getElem (by omega)];rfl
 refine⟨fun _ h=>h.elim,fun t ht=> ?_⟩
 have ht:t=(0,wy):=by simpa[KD,wy] using ht
 subst ht
 refine⟨fun h=>h.elim,World.block_lt_of_cell? W ⟨0,0,none⟩ (key 0 (by omega)),fun j hj=>key j hj⟩
end Go.Proofs.YtmonponfppdgfaaGreatDoor
end
section
/- What a unit must be, in plain data. -/
namespace Go.Proofs.YtmonponfppdgfaaGreatDoor
open Go Go.ck Go.Proofs
set_option linter.unusedSimpArgs false
set_option linter.unusedVariables false
def Node.dJ (n:Node):List Int:=if n.kind=9 then[] else if n.kind=8 then[n.next,n.jS] else[n.next]
def Node.fold (n:Node):List Int:=if n.kind=9 then[] else if n.kind=8∧n.jS≠n.next then[n.next,n.jS] else[n.next]
def fe {α:Type} (p:α→Bool):List α→Nat→Option Nat
 |[],_=>none
 |x::r,i=>if p x=true then fe p r (i+1) else some i
theorem vS {α:Type} (p:α→Bool) (l:List α) (d:α) {i:Nat} (h:i<l.length):fe p (l.drop i) i=if p (l.getD i d)=true then fe p (l.drop (i+1)) (i+1) else some i:=by
 rw[List.drop_eq_getElem_cons h,fe]
 simp[List.getD,h]
theorem qp {α:Type} (p:α→Bool) (l:List α) {i:Nat} (h:l.length≤i):fe p (l.drop i) i=none:=by
 rw[List.drop_eq_nil_of_le h,fe]
def dr (op:Int):Bool:=decide (1≤op)&&decide (op≤16)
def gI (k:Int):Bool:=decide (k=1∨k=2∨k=4)
def fV (k:Int):Bool:=decide (k=2∨k=3∨k=4∨k=5∨k=6)
def lR (k:Int):Bool:=decide (k=1∨k=3∨k=4∨k=7∨k=8)
def eG (k:Int):Bool:=decide (1≤k∧k≤8)
def pF (v:lK) (used:Bool) (cd:Int):Bool:=if used=true then(if v.dk=true then decide (0≤v.slot)&&decide (v.slot<cd)&&decide (v.word=0) else decide (v.slot=0)) else decide (v=default)
def nN (n:Int) (used:Bool) (most:Int):Bool:=if used=true then decide (0≤n)&&decide (n<most) else decide (n=0)
def iD (u:bq) (g:bo) (n:Node):Bool:=
 decide (1≤n.kind∧n.kind<10∧0≤n.origin∧n.origin<4096)&&(if n.kind=1 then decide (n.op<19) else decide (n.op=0))&&
 nN n.slot (gI n.kind) g.cd&&nN n.cP (fV n.kind) (if n.kind=5∨n.kind=6 then u.bx.length else u.shared.length)&&pF n.a (lR n.kind) g.cd&&pF n.b (decide (n.kind=1)&&dr n.op) g.cd&&nN n.next (eG n.kind) g.nodes.length&&nN n.jS (decide (n.kind=8)) g.nodes.length
def rh (m:Nat) (n:Node):Bool:=decide (1≤n.kind)&&decide (n.kind<10)&&n.dJ.all fun k=>decide (0≤k)&&decide (k<m)
def lH (g:bo):Bool:=decide (1≤g.nodes.length)&&decide (g.nodes.length≤4096)&&g.nodes.all (rh g.nodes.length)
structure HS where
 bx:List (List Int)
 found:List Bool
 todo:List Int
def HS.l (s:HS) (k:Int):List Int:=s.bx.getD k.toNat []
def HS.f (s:HS) (k:Int):Bool:=s.found.getD k.toNat false
def cr (n:Node) (l:List Int):Option (List Int):=
 if n.kind=5 then some (l++[n.cP]) else if n.kind=6 then(if l≠[]∧l.getLast?=some n.cP then some l.dropLast else none) else if n.kind=9 then(if l=[] then some l else none) else some l
def cm (now:List Int):List Int→HS→HS ⊕ Int
 |[],s=> .inl s
 |k::r,s=>if s.f k=false then cm now r ⟨s.bx.set k.toNat now,s.found.set k.toNat true,s.todo++[k]⟩ else if s.l k=now then cm now r s else .inr k
def fA (g:bo):Nat→HS→Nat→List (List Int)×Int
 |0,s,_=>(s.bx,-1)
 |f+1,s,k=>if k<s.todo.length then(match cr (g.nd (s.todo.getD k 0).toNat) (s.l (s.todo.getD k 0)) with
  |none=>([],s.todo.getD k 0)
  |some now=>match cm now (g.nd (s.todo.getD k 0).toNat).dJ s with
   | .inl s'=>fA g f s' (k+1)
   | .inr at_=>([],at_)) else(s.bx,-1)
def om (g:bo):HS:=⟨List.replicate g.nodes.length [],(List.replicate g.nodes.length false).set 0 true,[0]⟩
def ct (g:bo):List (List Int)×Int:=fA g (g.nodes.length+1) (om g) 0
def lh (u:bq) (g:bo):Option Int:=
 if g.locals<0∨g.locals>64∨g.cd<g.locals∨g.cd>4160∨g.nodes.length<1∨g.nodes.length>4096 then some 0 else
 match fe (iD u g) g.nodes 0 with
 |some i=>some (i:Int)
 |none=>if 0≤(ct g).2 then some (ct g).2 else none
def eR (u:bq):List bo→Nat→Int×Int×Int
 |[],_=>(0,0,0)
 |g::r,t=>match lh u g with
  |some k=>(60,t,k)
  |none=>eR u r (t+1)
end Go.Proofs.YtmonponfppdgfaaGreatDoor
end
section
/- What is reached, in plain data. -/
namespace Go.Proofs.YtmonponfppdgfaaGreatDoor
open Go Go.ck Go.Proofs
set_option linter.unusedSimpArgs false
set_option linter.unusedVariables false
theorem zk {α:Type} (F:List Int→α) (n:Node) (h:∀a,F [a,a]=F [a]):F n.fold=F n.dJ:=by
 unfold Node.fold Node.dJ
 by_cases h9:n.kind=9
 ·rw[if_pos h9,if_pos h9]
 ·rw[if_neg h9,if_neg h9]
  by_cases h8:n.kind=8
  ·rw[if_pos h8]
   by_cases he:n.jS=n.next
   ·rw[if_neg (fun h=>h.2 he),he,h]
   ·rw[if_pos ⟨h8,he⟩]
  ·rw[if_neg h8,if_neg (fun h=>h8 h.1)]
abbrev gh (out:List Bool) (k:Int):Bool:=out.getD k.toNat false
def jM:List Int→List Bool×List Int→List Bool×List Int
 |[],s=>s
 |k::r,s=>if gh s.1 k=false then jM r (s.1.set k.toNat true,s.2++[k]) else jM r s
theorem yb (a:Int) (s:List Bool×List Int) (h:a.toNat<s.1.length):jM [a,a] s=jM [a] s:=by
 simp only[jM]
 by_cases h1:gh s.1 a=false
 ·rw[if_pos h1,if_pos h1,if_neg (by simp[gh,List.getD,h])]
 ·simp only[if_neg h1]
structure I9 (l:List Int) (s s':List Bool×List Int):Prop where
 len:s'.1.length=s.1.length
 ju:∀k,gh s.1 k=true→gh s'.1 k=true
 new:∀k,0≤k→gh s'.1 k=true→gh s.1 k=true∨k∈l
 all:∀k∈l,gh s'.1 k=true
 more:∃t,s'.2=s.2++t∧(∀k∈t,k∈l∧gh s'.1 k=true)∧(∀k,0≤k→gh s'.1 k=true→gh s.1 k=true∨k∈t)∧s'.1.count false+t.length=s.1.count false
theorem count_set {l:List Bool} {i:Nat} (h:i<l.length) (hf:l.getD i false=false):(l.set i true).count false+1=l.count false:=by
 have h1:l[i]=false:=by simpa[List.getD,h] using hf
 rw[List.count_set h,h1]
 have:0<l.count false:=List.count_pos_iff.2 (h1▸List.getElem_mem h)
 simp
 omega
theorem jn {l:List Bool} {i:Nat} (h:i<l.length) (k:Int):gh (l.set i true) k=if k.toNat=i then true else gh l k:=by
 unfold gh
 simp only[List.getD,List.getElem?_set]
 by_cases hk:k.toNat=i
 ·rw[if_pos hk.symm,if_pos hk];simp[h]
 ·rw[if_neg (fun e=>hk e.symm),if_neg hk]
theorem ic:∀(l:List Int) (s:List Bool×List Int),(∀k∈l,0≤k∧k.toNat<s.1.length)→I9 l s (jM l s)
 |[],s,_=>⟨rfl,fun _ h=>h,fun _ _ h=> .inl h,fun _ h=>by simp at h,[],by simp[jM],fun _ h=>by simp at h,fun _ _ h=> .inl h,by simp[jM]⟩
 |k::r,s,h=>by
  obtain⟨hk0,hk⟩:=h k (by simp)
  have hr:=fun x hx=>h x (List.mem_cons_of_mem _ hx)
  rw[jM]
  by_cases h1:gh s.1 k=false
  ·rw[if_pos h1]
   have ih:=ic r (s.1.set k.toNat true,s.2++[k]) (fun x hx=>by simpa using hr x hx)
   have hset:=jn (l:=s.1) hk
   obtain⟨t,t1,t2,t3,t4⟩:=ih.more
   have hkk:gh (jM r (s.1.set k.toNat true,s.2++[k])).1 k=true:=ih.ju k (by rw[hset,if_pos rfl])
   refine⟨ih.len.trans (by simp),fun x hx=>ih.ju x (by rw[hset];split<;>first|rfl|exact hx),fun x hx0 hx=> ?_,fun x hx=> ?_,k::t,by rw[t1];simp,fun x hx=> ?_,fun x hx0 hx=> ?_, ?_⟩
   ·rcases ih.new x hx0 hx with h2|h2
    ·rw[hset] at h2
     split at h2
     ·rename_i e;exact .inr (by rw[show x=k by omega];simp)
     ·exact .inl h2
    ·exact .inr (List.mem_cons_of_mem _ h2)
   ·rcases List.mem_cons.1 hx with rfl|hx
    ·exact hkk
    ·exact ih.all x hx
   ·rcases List.mem_cons.1 hx with rfl|hx
    ·exact⟨by simp,hkk⟩
    ·exact⟨List.mem_cons_of_mem _ (t2 x hx).1,(t2 x hx).2⟩
   ·rcases t3 x hx0 hx with h2|h2
    ·rw[hset] at h2
     split at h2
     ·rename_i e;exact .inr (by rw[show x=k by omega];simp)
     ·exact .inl h2
    ·exact .inr (List.mem_cons_of_mem _ h2)
   ·have:=count_set hk h1
    rw[List.length_cons]
    dsimp only at t4
    omega
  ·rw[if_neg h1]
   have hkt:gh s.1 k=true:=by simpa using h1
   have ih:=ic r s hr
   obtain⟨t,t1,t2,t3,t4⟩:=ih.more
   refine⟨ih.len,ih.ju,fun x hx0 hx=>(ih.new x hx0 hx).imp id (List.mem_cons_of_mem _),fun x hx=> ?_,t,t1,fun x hx=>⟨List.mem_cons_of_mem _ (t2 x hx).1,(t2 x hx).2⟩,t3,t4⟩
   rcases List.mem_cons.1 hx with rfl|hx
   ·exact ih.ju _ hkt
   ·exact ih.all x hx
inductive fY (g:bo) (cut:Int):Int→Prop where
 |zero:fY g cut 0
 |step {i k:Int}:fY g cut i→i≠cut→k∈(g.nd i.toNat).dJ→fY g cut k
structure jh (g:bo) (cut:Int) (out:List Bool) (pend:List Int):Prop where
 len:out.length=g.nodes.length
 zero:gh out 0=true
 uA:∀k,0≤k→gh out k=true→fY g cut k
 inr:∀k∈pend,0≤k∧k.toNat<out.length∧gh out k=true
 done:∀k,0≤k→k.toNat<out.length→gh out k=true→k∉pend→k≠cut→∀j∈(g.nd k.toNat).dJ,gh out j=true
open Classical in
noncomputable def ca (g:bo) (cut:Int):List Bool:=(List.range g.nodes.length).map fun(i:Nat)=>decide (fY g cut (i:Int))
theorem dO (g:bo) (cut:Int):(ca g cut).length=g.nodes.length:=by simp[ca]
theorem nS (g:bo) (cut:Int) {i:Nat} (h:i<g.nodes.length):(ca g cut).getD i false=true↔fY g cut i:=by simp[ca,List.getD,h]
def Whole (g:bo):Prop:=1≤g.nodes.length∧g.nodes.length≤4096∧∀i,i<g.nodes.length→1≤(g.nd i).kind∧(g.nd i).kind<10∧∀k∈(g.nd i).dJ,0≤k∧k.toNat<g.nodes.length
theorem BE {g:bo}:lH g=true↔Whole g:=by
 unfold lH Whole rh
 simp only[Bool.and_eq_true,decide_eq_true_eq,List.all_eq_true,and_assoc]
 refine and_congr Iff.rfl (and_congr Iff.rfl ⟨fun h i hi=> ?_,fun h n hn=> ?_⟩)
 ·have:=h (g.nd i) (cC _ hi)
  exact⟨this.1,this.2.1,fun k hk=>by have:=this.2.2 k hk;omega⟩
 ·obtain⟨i,hi,rfl⟩:=List.getElem_of_mem hn
  have:=h i hi
  rw[show g.nd i=g.nodes[i] by simp[List.getD,hi]] at this
  exact⟨this.1,this.2.1,fun k hk=>by have:=this.2.2 k hk;omega⟩
theorem jh.start {g:bo} {cut:Int} (h:Whole g):jh g cut ((List.replicate g.nodes.length false).set 0 true) [0]:=by
 have hl:=h.1
 have hz:∀k,gh ((List.replicate g.nodes.length false).set 0 true) k=true→k.toNat=0:=fun k hk=>by
  rw[jn (by simp;omega)] at hk
  split at hk
  ·assumption
  ·simp only[gh,List.getD,List.getElem?_replicate] at hk
   split at hk<;>simp at hk
 refine⟨by simp,by rw[jn (by simp;omega)];simp,fun k h0 hk=> ?_,fun k hk=> ?_,fun k h0 h1 hk hn=> ?_⟩
 ·rw[show k=0 by have:=hz k hk;omega];exact .zero
 ·simp only[List.mem_cons,List.not_mem_nil,or_false] at hk
  subst hk
  exact⟨by omega,by simp;omega,by rw[jn (by simp;omega)];simp⟩
 ·exact absurd (by rw[show k=0 by have:=hz k hk;omega];simp) hn
theorem jh.on {g:bo} {cut:Int} (h:Whole g) {out:List Bool} {pend:List Int} {at_:Int} {a b:List Int} (hp:pend=a++at_::b) (hg:jh g cut out pend) (hc:at_≠cut) {t:List Int} {s:List Bool×List Int} (hs:jM (g.nd at_.toNat).dJ (out,t)=s) {t2:List Int} (ht2:s.2=t++t2):jh g cut s.1 (a++b++t2):=by
 obtain⟨i1,i2,i3⟩:=hg.inr at_ (by rw[hp];simp)
 have hfol:=(h.2.2 at_.toNat (by rw[←hg.len];exact i2)).2.2
 have sp:=ic (g.nd at_.toNat).dJ (out,t) (fun k hk=>by have:=hfol k hk;rw[←hg.len] at this;exact this)
 rw[hs] at sp
 obtain⟨t3,e1,e2,e3,e4⟩:=sp.more
 have:t2=t3:=by rw[ht2] at e1;exact List.append_cancel_left e1
 subst this
 have hl:s.1.length=out.length:=sp.len
 refine⟨hl.trans hg.len,sp.ju _ hg.zero,fun k h0 hk=> ?_,fun k hk=> ?_,fun k h0 h1 hk hn hkc j hj=> ?_⟩
 ·rcases sp.new k h0 hk with h1|h1
  ·exact hg.uA k h0 h1
  ·exact .step (hg.uA at_ i1 i3) hc h1
 ·rcases List.mem_append.1 hk with hk|hk
  ·have h1:=hg.inr k (by rw[hp];rcases List.mem_append.1 hk with h|h<;>simp[h])
   exact⟨h1.1,by rw[hl];exact h1.2.1,sp.ju _ h1.2.2⟩
  ·have h1:=hfol k (e2 k hk).1
   exact⟨h1.1,by rw[hl,hg.len];exact h1.2,(e2 k hk).2⟩
 ·by_cases hka:k=at_
  ·subst hka;exact sp.all j hj
  ·rcases e3 k h0 hk with h2|h2
   ·refine sp.ju _ (hg.done k h0 (by rw[←hl];exact h1) h2 (fun hm=> ?_) hkc j hj)
    rw[hp] at hm
    simp only[List.mem_append,List.mem_cons] at hm
    rcases hm with hm|hm|hm
    ·exact hn (by simp[hm])
    ·exact hka hm
    ·exact hn (by simp[hm])
   ·exact absurd (List.mem_append_right _ h2) hn
theorem jh.cut {g:bo} {cut:Int} {out:List Bool} {pend a b:List Int} (hp:pend=a++cut::b) (hg:jh g cut out pend):jh g cut out (a++b):=by
 refine⟨hg.len,hg.zero,hg.uA,fun k hk=>hg.inr k (by rw[hp];rcases List.mem_append.1 hk with h|h<;>simp[h]),fun k h0 h1 hk hn hkc=>hg.done k h0 h1 hk (fun hm=> ?_) hkc⟩
 rw[hp] at hm
 simp only[List.mem_append,List.mem_cons] at hm
 rcases hm with hm|hm|hm
 ·exact hn (by simp[hm])
 ·exact hkc hm
 ·exact hn (by simp[hm])
theorem jh.fin {g:bo} {cut:Int} (h:Whole g) {out:List Bool} (hg:jh g cut out []):out=ca g cut:=by
 have hall:∀k,fY g cut k→0≤k∧k.toNat<g.nodes.length∧gh out k=true:=fun k hk=>by
  induction hk with
  |zero=>exact⟨by omega,by have:=h.1;simp;omega,hg.zero⟩
  |@step i k hi hc hk ih=>
   obtain⟨i1,i2,i3⟩:=ih
   have h1:=(h.2.2 i.toNat i2).2.2 k hk
   exact⟨h1.1,h1.2,hg.done i i1 (by rw[hg.len];exact i2) i3 (by simp) hc k hk⟩
 apply List.ext_getElem
 ·rw[hg.len,dO]
 ·intro i h1 h2
  have hi:i<g.nodes.length:=by rw[←hg.len];exact h1
  have e1:out[i]=gh out (i:Int):=by simp[gh,List.getD,h1]
  have e2:(ca g cut)[i]=(ca g cut).getD i false:=by simp[List.getD,h2]
  rw[e1,e2,Bool.eq_iff_iff,nS g cut hi]
  exact⟨fun hf=>hg.uA _ (by omega) hf,fun hf=>(hall _ hf).2.2⟩
end Go.Proofs.YtmonponfppdgfaaGreatDoor
end
section
/- Tables that grow till nothing changes, in plain data. -/
namespace Go.Proofs.YtmonponfppdgfaaGreatDoor
open Go Go.ck Go.Proofs
set_option linter.unusedSimpArgs false
set_option linter.unusedVariables false
abbrev hX:=List (List Bool)
def dY (T:hX) (i k:Nat):Bool:=(T.getD i []).getD k false
def kd (T:hX) (i k:Nat):hX:=T.set i ((T.getD i []).set k true)
def e8 (T:hX):Nat:=(T.map (·.count false)).sum
structure Shape (T:hX) (m n:Nat):Prop where
 len:T.length=m
 row:∀i,i<m→(T.getD i []).length=n
theorem dE {α:Type} (l:List α) (i j:Nat) (v d:α):(l.set i v).getD j d=if i=j∧i<l.length then v else l.getD j d:=by
 simp only[List.getD,List.getElem?_set]
 by_cases h:i=j
 ·subst h
  by_cases h2:i<l.length
  ·simp[h2]
  ·simp[h2]
 ·simp[h]
theorem GO {T:hX} {m n i k:Nat} (h:Shape T m n) (hi:i<m) (hk:k<n) (i' k':Nat):dY (kd T i k) i' k'=if i=i'∧k=k' then true else dY T i' k':=by
 unfold dY kd
 rw[dE]
 by_cases h1:i=i'
 ·subst h1
  rw[if_pos ⟨rfl,by rw[h.len];exact hi⟩,dE]
  by_cases h2:k=k'
  ·subst h2;rw[if_pos ⟨rfl,by rw[h.row i hi];exact hk⟩,if_pos ⟨rfl,rfl⟩]
  ·rw[if_neg (fun h=>h2 h.1),if_neg (fun h=>h2 h.2)]
 ·rw[if_neg (fun h=>h1 h.1),if_neg (fun h=>h1 h.1)]
theorem Shape.set {T:hX} {m n:Nat} (h:Shape T m n) (i k:Nat):Shape (kd T i k) m n:=by
 refine⟨by simp[kd,h.len],fun j hj=> ?_⟩
 unfold kd
 rw[dE]
 split
 ·rename_i e;rw[List.length_set,e.1];exact h.row j hj
 ·exact h.row j hj
theorem zI:∀{l:List Nat} {i:Nat} (_:i<l.length) (x:Nat),(l.set i x).sum+l.getD i 0=l.sum+x
 |[],i,h,_=>absurd h (by simp)
 |a::l,0,_,x=>by simp;omega
 |a::l,i+1,h,x=>by
  have:=zI (l:=l) (i:=i) (by simpa using h) x
  simp only[List.set_cons_succ,List.sum_cons,List.getD_cons_succ]
  omega
theorem kq {T:hX} {m n i k:Nat} (h:Shape T m n) (hi:i<m) (hk:k<n) (hf:dY T i k=false):e8 (kd T i k)+1=e8 T:=by
 have h1:=count_set (l:=T.getD i []) (i:=k) (by rw[h.row i hi];exact hk) hf
 have hil:i<T.length:=by rw[h.len];exact hi
 unfold e8 kd
 rw[List.map_set]
 have h2:=zI (l:=T.map (·.count false)) (i:=i) (by simpa using hil) (((T.getD i []).set k true).count false)
 have h3:(T.map (·.count false)).getD i 0=(T.getD i []).count false:=by
  simp[List.getD,hil]
 rw[h3] at h2
 omega
inductive KK (g:bo) (iW cE:Node→Nat→Bool) (k:Nat):Nat→Prop where
 |iW {i:Nat}:iW (g.nd i) k=true→KK g iW cE k i
 |on {i:Nat} {j:Int}:cE (g.nd i) k=true→j∈(g.nd i).dJ→KK g iW cE k j.toNat→KK g iW cE k i
def kE (T:hX) (n:Node) (k:Nat):Bool:=n.dJ.any fun j=>dY T j.toNat k
theorem ux (f:Int→Bool) (n:Node):n.fold.any f=n.dJ.any f:=zk (fun l=>l.any f) n (fun a=>by simp)
def eO (g:bo) (iW cE:Node→Nat→Bool) (T:hX) (i k:Nat):Bool:=iW (g.nd i) k||(cE (g.nd i) k&&kE T (g.nd i) k)
structure iw (g:bo) (iW cE:Node→Nat→Bool) (n:Nat) (T:hX):Prop where
 shape:Shape T g.nodes.length n
 sound:∀i k,dY T i k=true→KK g iW cE k i
def kh (m n:Nat):hX:=List.replicate m (List.replicate n false)
theorem yd (m n i k:Nat):dY (kh m n) i k=false:=by
 unfold dY kh
 simp only[List.getD,List.getElem?_replicate]
 by_cases h:i<m
 ·simp only[h,if_true,Option.getD_some,List.getElem?_replicate];split<;>rfl
 ·simp[h]
theorem wq (m n:Nat):Shape (kh m n) m n:=⟨by simp[kh],fun i hi=>by simp[kh,List.getD,List.getElem?_replicate,hi]⟩
theorem iw.start (g:bo) (iW cE:Node→Nat→Bool) (n:Nat):iw g iW cE n (kh g.nodes.length n):=
 ⟨wq _ _,fun i k h=>by rw[yd] at h;cases h⟩
theorem q6 {T:hX} {n:Node} {k:Nat}:kE T n k=true↔∃j∈n.dJ,dY T j.toNat k=true:=by
 unfold kE;rw[List.any_eq_true]
theorem iw.step {g:bo} {iW cE:Node→Nat→Bool} {n:Nat} {T:hX} (h:iw g iW cE n T) {i k:Nat} (hi:i<g.nodes.length) (hk:k<n) (hc:eO g iW cE T i k=true):iw g iW cE n (kd T i k):=by
 refine⟨h.shape.set i k,fun i' k' ht=> ?_⟩
 rw[GO h.shape hi hk] at ht
 split at ht
 ·rename_i e
  obtain⟨rfl,rfl⟩:=e
  unfold eO at hc
  rw[Bool.or_eq_true,Bool.and_eq_true] at hc
  rcases hc with h1|⟨h1,h2⟩
  ·exact .iW h1
  ·obtain⟨j,hj,h3⟩:=q6.1 h2
   exact .on h1 hj (h.sound _ _ h3)
 ·exact h.sound _ _ ht
open Classical in
noncomputable def na (g:bo) (iW cE:Node→Nat→Bool) (n:Nat):hX:=(List.range g.nodes.length).map fun i=>(List.range n).map fun k=>decide (KK g iW cE k i)
theorem iT (g:bo) (iW cE:Node→Nat→Bool) (n:Nat):Shape (na g iW cE n) g.nodes.length n:=⟨by simp[na],fun i hi=>by simp[na,List.getD,hi]⟩
theorem A8 (g:bo) (iW cE:Node→Nat→Bool) (n:Nat) {i k:Nat} (hi:i<g.nodes.length) (hk:k<n):dY (na g iW cE n) i k=true↔KK g iW cE k i:=by
 simp[dY,na,List.getD,hi,hk]
theorem IL {T S:hX} {m n:Nat} (hT:Shape T m n) (hS:Shape S m n) (h:∀i k,i<m→k<n→dY T i k=dY S i k):T=S:=by
 apply List.ext_getElem (hT.len.trans hS.len.symm)
 intro i h1 h2
 have hi:i<m:=by rw[←hT.len];exact h1
 have e1:T.getD i []=T[i]:=by simp[List.getD,h1]
 have e2:S.getD i []=S[i]:=by simp[List.getD,h2]
 rw[←e1,←e2]
 apply List.ext_getElem ((hT.row i hi).trans (hS.row i hi).symm)
 intro k h3 h4
 have:=h i k hi (by rw[←hT.row i hi];exact h3)
 unfold dY at this
 have g:∀(l:List Bool) (h:k<l.length),l[k]=l.getD k false:=fun l h=>by simp[List.getD,h]
 rw[g _ h3,g _ h4]
 exact this
theorem iw.fin {g:bo} {iW cE:Node→Nat→Bool} {n:Nat} {T:hX} (hw:Whole g) (h:iw g iW cE n T) (hc:∀i k,i<g.nodes.length→k<n→eO g iW cE T i k=true→dY T i k=true):T=na g iW cE n:=by
 refine IL h.shape (iT _ _ _ _) fun i k hi hk=> ?_
 rw[Bool.eq_iff_iff,A8 g iW cE n hi hk]
 refine⟨h.sound i k,fun ha=> ?_⟩
 induction ha with
 |iW hb=>exact hc _ _ hi hk (by unfold eO;rw[hb];rfl)
 |@on i j hkp hj _ ih=>
  have hj2:=(hw.2.2 i hi).2.2 j hj
  have:=ih hj2.2
  refine hc _ _ hi hk ?_
  unfold eO
  rw[hkp,q6.2 ⟨j,hj,this⟩]
  simp
def eF (n:Node) (s:Nat):Bool:=(decide (n.kind=1∨n.kind=3∨n.kind=4∨n.kind=7∨n.kind=8)&&n.a.dk&&decide (n.a.slot=s))||(decide (n.kind=1)&&dr n.op&&n.b.dk&&decide (n.b.slot=s))
def rZ (n:Node):Bool:=decide (n.kind=1∨n.kind=2∨n.kind=4)
def fN (n:Node) (s:Nat):Bool:= !rZ n||decide (n.slot≠s)
noncomputable def fj (g:bo):hX:=na g eF fN g.cd.toNat
structure cB where
 kind:Int
 rp:Int
 lock:Int
 deriving Inhabited,DecidableEq
def cB.cells (c:cB):List AV:=[u8 c.kind,i64 c.rp,i64 c.lock]
abbrev cB.av (c:cB):AV:= .agg c.cells
def nR (cls:List cB) (t:Nat) (v:Nat):Bool:=decide ((cls.getD v default).kind=1)&&decide ((cls.getD v default).rp=t)
def fx (cls:List cB) (t:Nat) (n:Node) (v:Nat):Bool:=nR cls t v&&(decide (n.kind=9)||decide (n.kind=5)||(decide (n.kind=2∨n.kind=4)&&decide (n.cP=v)))
def gO (cls:List cB) (t:Nat) (n:Node) (v:Nat):Bool:=nR cls t v&& !(decide (n.kind=3)&&decide (n.cP=v))
noncomputable def kA (g:bo) (cls:List cB) (t:Nat):hX:=na g (fx cls t) (gO cls t) cls.length
end Go.Proofs.YtmonponfppdgfaaGreatDoor
end
section
/- The locks that are held, in plain data. -/
namespace Go.Proofs.YtmonponfppdgfaaGreatDoor
open Go Go.ck Go.Proofs
set_option linter.unusedSimpArgs false
set_option linter.unusedVariables false
structure M1 (now:List Int) (l:List Int) (s s':HS):Prop where
 kJ:s'.bx.length=s.bx.length
 lV:s'.found.length=s.found.length
 ju:∀k:Int,s.f k=true→s'.f k=true∧s'.l k=s.l k
 new:∀k:Int,0≤k→s'.f k=true→s.f k=true∨k∈l
 all:∀k∈l,s'.f k=true∧s'.l k=now
 bare:∀k:Int,0≤k→s'.f k=false→s'.l k=s.l k
 more:∃t,s'.todo=s.todo++t∧(∀k∈t,k∈l∧s'.f k=true)∧(∀k:Int,0≤k→s'.f k=true→s.f k=true∨k∈t)∧s'.found.count false+t.length=s.found.count false
theorem HS.qh {s:HS} {i:Nat} {L:List (List Int)} {td:List Int} (h:i<s.found.length) (k:Int):HS.f ⟨L,s.found.set i true,td⟩ k=if k.toNat=i then true else s.f k:=jn h k
theorem HS.DA {s:HS} {i:Nat} {now:List Int} {F:List Bool} {td:List Int} (h:i<s.bx.length) (k:Int):HS.l ⟨s.bx.set i now,F,td⟩ k=if k.toNat=i then now else s.l k:=by
 unfold HS.l
 simp only
 rw[dE]
 by_cases e:i=k.toNat
 ·rw[if_pos ⟨e,h⟩,if_pos e.symm]
 ·rw[if_neg (fun x=>e x.1),if_neg (fun x=>e x.symm)]
theorem nF (now:List Int):∀(l:List Int) (s s':HS),s.bx.length=s.found.length→(∀k∈l,0≤k∧k.toNat<s.found.length)→cm now l s= .inl s'→M1 now l s s'
 |[],s,s',_,_,h=>by
  rw[cm] at h;cases h
  exact⟨rfl,rfl,fun _ h=>⟨h,rfl⟩,fun _ _ h=> .inl h,fun _ h=>by simp at h,fun _ _ _=>rfl,[],by simp,fun _ h=>by simp at h,fun _ _ h=> .inl h,by simp⟩
 |k::r,s,s',hl,hr,h=>by
  obtain⟨hk0,hk⟩:=hr k (by simp)
  have hr2:=fun x hx=>hr x (List.mem_cons_of_mem _ hx)
  rw[cm] at h
  by_cases hf:s.f k=false
  ·rw[if_pos hf] at h
   have ih:=nF now r _ s' (by simp[hl]) (fun x hx=>by simpa using hr2 x hx) h
   have fs:=fun x=>HS.qh (s:=s) (i:=k.toNat) (L:=s.bx.set k.toNat now) (td:=s.todo++[k]) hk x
   have ls:=fun x=>HS.DA (s:=s) (i:=k.toNat) (now:=now) (F:=s.found.set k.toNat true) (td:=s.todo++[k]) (by rw[hl];exact hk) x
   obtain⟨t,t1,t2,t3,t4⟩:=ih.more
   have hkk:=ih.ju k (by rw[fs,if_pos rfl])
   refine⟨ih.kJ.trans (by simp),ih.lV.trans (by simp),fun x hx=> ?_,fun x hx0 hx=> ?_,fun x hx=> ?_,fun x hx0 hx=> ?_,k::t,by rw[t1];simp,fun x hx=> ?_,fun x hx0 hx=> ?_, ?_⟩
   ·have hne:x.toNat≠k.toNat:=fun e=>by unfold HS.f at hx hf;rw[e] at hx;rw[hx] at hf;cases hf
    have:=ih.ju x (by rw[fs,if_neg hne];exact hx)
    rw[ls,if_neg hne] at this
    exact this
   ·rcases ih.new x hx0 hx with h2|h2
    ·rw[fs] at h2
     split at h2
     ·rename_i e;exact .inr (by rw[show x=k by omega];simp)
     ·exact .inl h2
    ·exact .inr (List.mem_cons_of_mem _ h2)
   ·rcases List.mem_cons.1 hx with rfl|hx
    ·rw[ls,if_pos rfl] at hkk;exact hkk
    ·exact ih.all x hx
   ·have hne:x.toNat≠k.toNat:=fun e=>by
     have:=hkk.1
     rw[show k=x by omega,hx] at this;cases this
    have:=ih.bare x hx0 hx
    rw[ls,if_neg hne] at this
    exact this
   ·rcases List.mem_cons.1 hx with rfl|hx
    ·exact⟨by simp,hkk.1⟩
    ·exact⟨List.mem_cons_of_mem _ (t2 x hx).1,(t2 x hx).2⟩
   ·rcases t3 x hx0 hx with h2|h2
    ·rw[fs] at h2
     split at h2
     ·rename_i e;exact .inr (by rw[show x=k by omega];simp)
     ·exact .inl h2
    ·exact .inr (List.mem_cons_of_mem _ h2)
   ·have:=count_set hk hf
    rw[List.length_cons]
    dsimp only at t4
    omega
  ·rw[if_neg hf] at h
   have hkt:s.f k=true:=by simpa using hf
   by_cases hn:s.l k=now
   ·rw[if_pos hn] at h
    have ih:=nF now r s s' hl hr2 h
    obtain⟨t,t1,t2,t3,t4⟩:=ih.more
    refine⟨ih.kJ,ih.lV,ih.ju,fun x hx0 hx=>(ih.new x hx0 hx).imp id (List.mem_cons_of_mem _),fun x hx=> ?_,ih.bare,t,t1,fun x hx=>⟨List.mem_cons_of_mem _ (t2 x hx).1,(t2 x hx).2⟩,t3,t4⟩
    rcases List.mem_cons.1 hx with rfl|hx
    ·have:=ih.ju _ hkt;rw[hn] at this;exact this
    ·exact ih.all x hx
   ·rw[if_neg hn] at h;cases h
theorem oj {now:List Int} {lk:Nat→List Int}:∀(l:List Int) (s:HS),s.bx.length=s.found.length→(∀k∈l,0≤k∧k.toNat<s.found.length)→(∀k:Int,0≤k→s.f k=true→s.l k=lk k.toNat)→(∀k∈l,lk k.toNat=now)→
 ∃s',cm now l s= .inl s'∧∀k:Int,0≤k→s'.f k=true→s'.l k=lk k.toNat
 |[],s,_,_,hs,_=>⟨s,rfl,hs⟩
 |k::r,s,hl,hr,hs,hn=>by
  obtain⟨hk0,hk⟩:=hr k (by simp)
  have hr2:=fun x hx=>hr x (List.mem_cons_of_mem _ hx)
  rw[cm]
  by_cases hf:s.f k=false
  ·rw[if_pos hf]
   refine oj r _ (by simp[hl]) (fun x hx=>by simpa using hr2 x hx) (fun x hx0 hx=> ?_) fun x hx=>hn x (List.mem_cons_of_mem _ hx)
   rw[HS.qh hk] at hx
   rw[HS.DA (by rw[hl];exact hk)]
   split
   ·rename_i e
    rw[show x=k by omega]
    exact(hn k (by simp)).symm
   ·rename_i e
    rw[if_neg e] at hx
    exact hs x hx0 hx
  ·rw[if_neg hf]
   have hkt:s.f k=true:=by simpa using hf
   rw[if_pos ((hs k hk0 hkt).trans (hn k (by simp)))]
   exact oj r s hl hr2 hs fun x hx=>hn x (List.mem_cons_of_mem _ hx)
structure HI (g:bo) (s:HS) (k:Nat):Prop where
 kJ:s.bx.length=g.nodes.length
 lV:s.found.length=g.nodes.length
 zero:s.f 0=true
 first:s.l 0=[]
 uA:∀i:Int,0≤i→s.f i=true→fY g (-1) i
 bare:∀i:Int,0≤i→s.f i=false→s.l i=[]
 inr:∀i∈s.todo,0≤i∧i.toNat<g.nodes.length∧s.f i=true
 all:∀i:Int,0≤i→s.f i=true→i∈s.todo
 done:∀j,j<k→j<s.todo.length→∃now,cr (g.nd (s.todo.getD j 0).toNat) (s.l (s.todo.getD j 0))=some now∧∀to∈(g.nd (s.todo.getD j 0).toNat).dJ,s.f to=true∧s.l to=now
 count:s.todo.length+s.found.count false=g.nodes.length
theorem HI.start {g:bo} (h:Whole g):HI g (om g) 0:=by
 have hl:=h.1
 have hf:∀k,HS.f (om g) k=decide (k.toNat=0):=fun k=>by
  have:=jn (l:=List.replicate g.nodes.length false) (i:=0) (by simp;omega) k
  unfold HS.f om
  simp only
  unfold gh at this
  rw[this]
  by_cases e:k.toNat=0
  ·simp[e]
  ·rw[if_neg e,decide_eq_false e]
   simp only[List.getD,List.getElem?_replicate];split<;>rfl
 have hk:∀k,HS.l (om g) k=[]:=fun k=>by
  unfold HS.l om;simp only[List.getD,List.getElem?_replicate];split<;>rfl
 refine⟨by simp[om],by simp[om],by rw[hf];simp,hk 0,fun i h0 hi=> ?_,fun i _ _=>hk i,fun i hi=> ?_,fun i h0 hi=> ?_,fun j hj=>by omega, ?_⟩
 ·rw[hf] at hi
  rw[show i=0 by have:=of_decide_eq_true hi;omega];exact .zero
 ·simp only[om,List.mem_cons,List.not_mem_nil,or_false] at hi
  subst hi
  exact⟨by omega,by simp;omega,by rw[hf];simp⟩
 ·rw[hf] at hi
  rw[show i=0 by have:=of_decide_eq_true hi;omega];simp[om]
 ·have:=count_set (l:=List.replicate g.nodes.length false) (i:=0) (by simp;omega) (by simp[List.getD,List.getElem?_replicate];split<;>rfl)
  simp only[List.count_replicate_self] at this
  simp only[om,List.length_cons,List.length_nil]
  omega
theorem HI.next {g:bo} (hw:Whole g) {s s':HS} {k:Nat} (h:HI g s k) (hk:k<s.todo.length) {now:List Int} (hn:cr (g.nd (s.todo.getD k 0).toNat) (s.l (s.todo.getD k 0))=some now) (ht:cm now (g.nd (s.todo.getD k 0).toNat).dJ s= .inl s'):HI g s' (k+1):=by
 have hm:=cC (0:Int) hk
 obtain⟨i1,i2,i3⟩:=h.inr _ hm
 have hfol:=(hw.2.2 _ i2).2.2
 have sp:=nF now _ s s' (by rw[h.kJ,h.lV]) (fun x hx=>by rw[h.lV];exact hfol x hx) ht
 obtain⟨t,t1,t2,t3,t4⟩:=sp.more
 have hget:∀j,j<s.todo.length→s'.todo.getD j 0=s.todo.getD j 0:=fun j hj=>by
  rw[t1];simp[List.getD,List.getElem?_append,hj]
 refine⟨sp.kJ.trans h.kJ,sp.lV.trans h.lV,(sp.ju 0 h.zero).1,(sp.ju 0 h.zero).2.trans h.first,fun i h0 hi=> ?_,fun i h0 hi=> ?_,fun i hi=> ?_,fun i h0 hi=> ?_,fun j hj hjl=> ?_, ?_⟩
 ·rcases sp.new i h0 hi with h1|h1
  ·exact h.uA i h0 h1
  ·exact .step (h.uA _ i1 i3) (by omega) h1
 ·rw[sp.bare i h0 hi]
  refine h.bare i h0 ?_
  cases hq:s.f i with
  |false=>rfl
  |true=>rw[(sp.ju i hq).1] at hi;cases hi
 ·rw[t1] at hi
  rcases List.mem_append.1 hi with hi|hi
  ·obtain⟨a,b,c⟩:=h.inr i hi
   exact⟨a,b,(sp.ju i c).1⟩
  ·have:=hfol i (t2 i hi).1
   exact⟨this.1,this.2,(t2 i hi).2⟩
 ·rw[t1]
  rcases t3 i h0 hi with h1|h1
  ·exact List.mem_append_left _ (h.all i h0 h1)
  ·exact List.mem_append_right _ h1
 ·by_cases hjk:j=k
  ·subst hjk
   rw[hget _ hk]
   refine⟨now, ?_,sp.all⟩
   rw[(sp.ju _ i3).2]
   exact hn
  ·have hj2:j<s.todo.length:=by omega
   rw[hget _ hj2]
   obtain⟨now2,d1,d2⟩:=h.done j (by omega) hj2
   have hjm:=h.inr _ (cC (0:Int) hj2)
   refine⟨now2,by rw[(sp.ju _ hjm.2.2).2];exact d1,fun to hto=> ?_⟩
   obtain⟨e1,e2⟩:=d2 to hto
   rw[(sp.ju _ e1).2]
   exact⟨(sp.ju _ e1).1,e2⟩
 ·have:=h.count
  rw[t1,List.length_append]
  omega
structure xJ (g:bo) (lk:Nat→List Int):Prop where
 zero:lk 0=[]
 on:∀i:Int,fY g (-1) i→∃now,cr (g.nd i.toNat) (lk i.toNat)=some now∧∀k∈(g.nd i.toNat).dJ,lk k.toNat=now
theorem HI.fin {g:bo} {s:HS} {k:Nat} (hw:Whole g) (h:HI g s k) (hk:s.todo.length≤k):xJ g (fun i=>s.bx.getD i [])∧∀i,i<g.nodes.length→(s.found.getD i false=true↔fY g (-1) i):=by
 have hall:∀i:Int,fY g (-1) i→0≤i∧s.f i=true:=fun i hi=>by
  induction hi with
  |zero=>exact⟨by omega,h.zero⟩
  |@step i j hi _ hj ih=>
   obtain⟨i0,hif⟩:=ih
   have hm:=h.all i i0 hif
   obtain⟨q,hq,e⟩:=List.getElem_of_mem hm
   have e2:s.todo.getD q 0=i:=by simp[List.getD,hq,e]
   obtain⟨now,_,d⟩:=h.done q (by omega) hq
   rw[e2] at d
   have h2:=(hw.2.2 i.toNat (h.inr i hm).2.1).2.2 j hj
   exact⟨h2.1,(d j hj).1⟩
 refine⟨⟨h.first,fun i hi=> ?_⟩,fun i hi=>⟨fun hf=>h.uA i (by omega) hf,fun hc=>(hall i hc).2⟩⟩
 obtain⟨i0,hif⟩:=hall i hi
 have hm:=h.all i i0 hif
 obtain⟨q,hq,e⟩:=List.getElem_of_mem hm
 have e2:s.todo.getD q 0=i:=by simp[List.getD,hq,e]
 obtain⟨now,d1,d⟩:=h.done q (by omega) hq
 rw[e2] at d1 d
 exact⟨now,d1,fun k hk=>(d k hk).2⟩
theorem rA {g:bo} (hw:Whole g):∀(f:Nat) (s:HS) (k:Nat),HI g s k→k+f=g.nodes.length+1→(fA g f s k).2<0→(fA g f s k).2=-1∧∃s' k',HI g s' k'∧s'.todo.length≤k'∧(fA g f s k).1=s'.bx
 |0,s,k,h,he,_=>by
  have:=h.count
  exact⟨rfl,s,k,h,by omega,rfl⟩
 |f+1,s,k,h,he,hneg=>by
  rw[fA] at hneg ⊢
  by_cases hk:k<s.todo.length
  ·rw[if_pos hk] at hneg ⊢
   have hm:=(h.inr _ (cC (0:Int) hk))
   cases hn:cr (g.nd (s.todo.getD k 0).toNat) (s.l (s.todo.getD k 0)) with
   |none=>rw[hn] at hneg;simp only at hneg;omega
   |some now=>
    rw[hn] at hneg
    simp only at hneg ⊢
    cases ht:cm now (g.nd (s.todo.getD k 0).toNat).dJ s with
    |inl s'=>
     rw[ht] at hneg
     exact rA hw f s' (k+1) (h.next hw hk hn ht) (by omega) hneg
    |inr a=>
     rw[ht] at hneg
     simp only at hneg
     exfalso
     have hfol:=(hw.2.2 _ hm.2.1).2.2
     have:∀(l:List Int) (s:HS),(∀x∈l,0≤x)→cm now l s= .inr a→0≤a:=by
      intro l
      induction l with
      |nil=>intro s _ h;rw[cm] at h;cases h
      |cons x r ih=>
       intro s hx h
       rw[cm] at h
       split at h
       ·exact ih _ (fun y hy=>hx y (List.mem_cons_of_mem _ hy)) h
       ·split at h
        ·exact ih _ (fun y hy=>hx y (List.mem_cons_of_mem _ hy)) h
        ·cases h;exact hx _ (by simp)
     have:=this _ _ (fun x hx=>(hfol x hx).1) ht
     omega
  ·rw[if_neg hk]
   exact⟨rfl,s,k,h,by omega,rfl⟩
theorem rB {g:bo} (hw:Whole g) {lk:Nat→List Int} (hlk:xJ g lk):∀(f:Nat) (s:HS) (k:Nat),HI g s k→(∀i:Int,0≤i→s.f i=true→s.l i=lk i.toNat)→(fA g f s k).2=-1
 |0,s,k,h,_=>rfl
 |f+1,s,k,h,hs=>by
  rw[fA]
  by_cases hk:k<s.todo.length
  ·rw[if_pos hk]
   have hm:=(h.inr _ (cC (0:Int) hk))
   obtain⟨now,d1,d2⟩:=hlk.on _ (h.uA _ hm.1 hm.2.2)
   rw[hs _ hm.1 hm.2.2,d1]
   simp only
   have hfol:=(hw.2.2 _ hm.2.1).2.2
   obtain⟨s',h1,h2⟩:=oj (now:=now) (lk:=lk) _ s (by rw[h.kJ,h.lV]) (fun x hx=>by rw[h.lV];exact hfol x hx) hs d2
   rw[h1]
   exact rB hw hlk f s' (k+1) (h.next hw hk (by rw[hs _ hm.1 hm.2.2];exact d1) h1) h2
  ·rw[if_neg hk]
theorem kV {g:bo} (hw:Whole g) (h:(ct g).2<0):(ct g).2=-1∧(ct g).1.length=g.nodes.length∧xJ g (fun i=>(ct g).1.getD i [])∧∀i,i<g.nodes.length→¬fY g (-1) i→(ct g).1.getD i []=[]:=by
 obtain⟨h1,s,k,hi,hk,e⟩:=rA hw _ _ _ (HI.start hw) (by omega) h
 refine⟨h1, ?_, ?_,fun i hl hc=> ?_⟩
 ·unfold ct;rw[e];exact hi.kJ
 ·unfold ct;rw[e];exact(hi.fin hw hk).1
 ·unfold ct;rw[e]
  have hf:=mt ((hi.fin hw hk).2 i hl).1 hc
  have:=hi.bare i (by omega) (by simpa[HS.f] using hf)
  exact this
theorem CZ {g:bo} (hw:Whole g) {lk:Nat→List Int} (hlk:xJ g lk):(ct g).2=-1:=by
 refine rB hw hlk _ _ _ (HI.start hw) fun i h0 hf=> ?_
 have hl:=hw.1
 have hz:i.toNat=0:=by
  have:=jn (l:=List.replicate g.nodes.length false) (i:=0) (by simp;omega) i
  unfold HS.f om at hf
  simp only at hf
  unfold gh at this
  rw[this] at hf
  split at hf
  ·assumption
  ·simp only[List.getD,List.getElem?_replicate] at hf
   split at hf<;>cases hf
 rw[hz,hlk.zero]
 unfold HS.l om;simp only[List.getD,List.getElem?_replicate];split<;>rfl
end Go.Proofs.YtmonponfppdgfaaGreatDoor
end
