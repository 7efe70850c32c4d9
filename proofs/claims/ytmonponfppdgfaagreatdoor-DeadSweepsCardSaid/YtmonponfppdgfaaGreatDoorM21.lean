import Derived.Test.YtmonponfppdgfaaGreatDoorM13
import Derived.Test.YtmonponfppdgfaaGreatDoorM18
import Derived.Test.YtmonponfppdgfaaGreatDoorM19
import Derived.Test.YtmonponfppdgfaaGreatDoorM20
import Derived.Test.YtmonponfppdgfaaGreatDoorM15
import Derived.Test.YtmonponfppdgfaaGreatDoorRows
import Derived.Test.YtmonponfppdgfaaGreatDoorTie
import Derived.Test.YtmonponfppdgfaaGreatDoorCards
import Derived.LaidMore
import Derived.OpenShut
import Derived.SevenTiedAt
section
/- Units as plain data. -/
namespace Go.Proofs.YtmonponfppdgfaaGreatDoor
open Go Go.ch Go.Proofs
set_option linter.unusedSimpArgs false
set_option linter.unusedVariables false
abbrev i64 (n:Int):AV:= .sc (.int .i64 n)
abbrev u8 (n:Int):AV:= .sc (.int .u8 n)
abbrev bl (b:Bool):AV:= .sc (.bool b)
abbrev st (s:ByteArray):AV:= .sc (.string s)
def jE (n:Int):Prop:=-9223372036854775808≤n∧n<9223372036854775808
structure lL where
 dr:Bool
 slot:Int
 word:Int
 deriving Inhabited,DecidableEq
def lL.cells (v:lL):List AV:=[bl v.dr,i64 v.slot,i64 v.word]
abbrev lL.av (v:lL):AV:= .agg v.cells
structure lL.Wf (v:lL):Prop where
 slot:jE v.slot
 word:jE v.word
structure Node where
 kind:Int
 op:Int
 slot:Int
 cP:Int
 a:lL
 b:lL
 next:Int
 jT:Int
 origin:Int
 deriving Inhabited,DecidableEq
def Node.cells (n:Node):List AV:=[u8 n.kind,u8 n.op,i64 n.slot,i64 n.cP,bl n.a.dr,i64 n.a.slot,i64 n.a.word,bl n.b.dr,i64 n.b.slot,i64 n.b.word,i64 n.next,i64 n.jT,i64 n.origin]
abbrev Node.av (n:Node):AV:= .agg n.cells
structure Node.Wf (n:Node):Prop where
 kind:0≤n.kind∧n.kind<256
 op:0≤n.op∧n.op<256
 slot:jE n.slot
 cP:jE n.cP
 a:n.a.Wf
 b:n.b.Wf
 next:jE n.next
 jT:jE n.jT
 origin:jE n.origin
structure Decl where
 name:ByteArray
 word:Int
 at_:Int
 deriving Inhabited,DecidableEq
def Decl.cells (d:Decl):List AV:=[st d.name,i64 d.word,i64 d.at_]
abbrev Decl.av (d:Decl):AV:= .agg d.cells
structure Decl.Wf (d:Decl):Prop where
 name:d.name.size≤140737488351232
 word:jE d.word
 at_:jE d.at_
structure bo where
 name:ByteArray
 locals:Int
 cf:Int
 nodes:List Node
 deriving Inhabited,DecidableEq
abbrev eU (l:List Node):AV:= .im 13 .any (l.map Node.av)
def bo.cells (g:bo):List AV:=[st g.name,i64 g.locals,i64 g.cf,eU g.nodes]
abbrev bo.av (g:bo):AV:= .agg g.cells
structure bo.Wf (g:bo):Prop where
 name:g.name.size≤140737488351232
 locals:jE g.locals
 cf:jE g.cf
 nodes:∀n∈g.nodes,n.Wf
 len:g.nodes.length * 88≤140737488351232
structure bp where
 shared:List Decl
 bx:List Decl
 bq:List bo
 deriving Inhabited,DecidableEq
abbrev dM (l:List Decl):AV:= .im 3 .any (l.map Decl.av)
abbrev fG (l:List bo):AV:= .im 4 .any (l.map bo.av)
def bp.cells (u:bp):List AV:=[dM u.shared,dM u.bx,fG u.bq]
abbrev bp.av (u:bp):AV:= .agg u.cells
structure bp.Wf (u:bp):Prop where
 shared:∀d∈u.shared,d.Wf
 gL:u.shared.length * 32≤140737488351232
 bx:∀d∈u.bx,d.Wf
 gw:u.bx.length * 32≤140737488351232
 bq:∀g∈u.bq,g.Wf
 gb:u.bq.length * 56≤140737488351232
@[simp] theorem MA (n:Nat) (v:lL):cL n v.cells:=by simp[lL.cells,cL,cG]
@[simp] theorem vQ (n:Nat) (v:Node):cL n v.cells:=by simp[Node.cells,cL,cG]
@[simp] theorem K9 (n:Nat) (v:Decl):cL n v.cells:=by simp[Decl.cells,cL,cG]
@[simp] theorem KP (n:Nat) (v:bo):cL n v.cells:=by simp[bo.cells,cL,cG,cJ]
@[simp] theorem vR (n:Nat) (v:bp):cL n v.cells:=by simp[bp.cells,cL,cG,cJ]
abbrev bo.nd (g:bo) (i:Nat):Node:=g.nodes.getD i default
abbrev bp.gr (u:bp) (t:Nat):bo:=u.bq.getD t default
theorem tH {α β:Type} (f:α→β) (l:List α) (i:Nat) (a:α):(l.map f).getD i (f a)=f (l.getD i a):=by
 simp only[List.getD,List.getElem?_map]
 cases l[i]?<;>rfl
theorem JR {l:List bo} {i:Nat}:(l.map bo.av).getD i (bo.av default)=(l.getD i default).av:=tH _ _ _ _
theorem B6 {l:List Decl} {i:Nat}:(l.map Decl.av).getD i (Decl.av default)=(l.getD i default).av:=tH _ _ _ _
theorem cg {a b:Bool} (h:a=b):AV.sc (.bool a)=bl b:=by rw[h]
theorem cC {α:Type} {l:List α} {j:Nat} (d:α) (h:j<l.length):l.getD j d∈l:=by
 simp only[List.getD,List.getElem?_eq_getElem h,Option.getD_some];exact List.getElem_mem h
end Go.Proofs.YtmonponfppdgfaaGreatDoor
end
section
/- What units read as; the table that the library lays. -/
namespace Go.Proofs.YtmonponfppdgfaaGreatDoor
open Go Go.ch Go.Proofs Go.RowKit Go.ChangeShapes Go.WideShapes Go.ChangeAt
set_option linter.unusedSimpArgs false
set_option linter.unusedVariables false
theorem own:ownKnob Tryz.prog.godebug=none:=by kernel_rfl
theorem laidOut:laidOutB Tryz.prog=true:=by kernel_rfl
theorem FM {n:Int} (h:(Lit.int .i64 n).wf=true):jE n:=by
 simp only[Lit.wf,Bool.and_eq_true,decide_eq_true_eq] at h
 have e1:IntKind.i64.min=-9223372036854775808:=by decide
 have e2:IntKind.i64.max=9223372036854775807:=by decide
 unfold jE
 omega
theorem zG {n:Int} (h:(Lit.int .u8 n).wf=true):0≤n∧n<256:=by
 simp only[Lit.wf,Bool.and_eq_true,decide_eq_true_eq] at h
 have e1:IntKind.u8.min=0:=by decide
 have e2:IntKind.u8.max=255:=by decide
 omega
theorem eD {t:TypeId} (ht:Tryz.prog.underlying t=some (.int .i64)):eI Tryz.prog t (fun n:Int=>[i64 n]) jE:=(oz ht).map (fun n=>n) (fun _ _=>rfl) fun _ h=>FM h
theorem tZ:eI Tryz.prog 44 lL.cells lL.Wf:=by
 refine eI.map (α:=Bool×Int×Int×Unit) (fun p=>(⟨p.1,p.2.1,p.2.2.1⟩:lL))
  (hD (k:=3) Tryz.underlying44 (by kernel_rfl) (cn (k:=1) rfl (by kernel_rfl) (yI Tryz.underlying4) (cn (k:=1) rfl (by kernel_rfl) (eD Tryz.underlying3) (cn (k:=1) rfl (by kernel_rfl) (eD Tryz.underlying2) j6)))) ?_ ?_
 ·intro a _;rfl
 ·intro a h;exact⟨h.2.1,h.2.2.1⟩
theorem yK:eI Tryz.prog 46 Node.cells Node.Wf:=by
 refine eI.map (α:=Int×Int×Int×Int×lL×lL×Int×Int×Int×Unit) (fun p=>(⟨p.1,p.2.1,p.2.2.1,p.2.2.2.1,p.2.2.2.2.1,p.2.2.2.2.2.1,p.2.2.2.2.2.2.1,p.2.2.2.2.2.2.2.1,p.2.2.2.2.2.2.2.2.1⟩:Node))
  (hD (k:=13) Tryz.underlying46 (by kernel_rfl) (cn (k:=1) rfl (by kernel_rfl) (oz Tryz.underlying41) (cn (k:=1) rfl (by kernel_rfl) (oz Tryz.underlying42) (cn (k:=1) rfl (by kernel_rfl) (eD Tryz.underlying3) (cn (k:=1) rfl (by kernel_rfl) (eD Tryz.underlying3) (cn (k:=3) rfl (by kernel_rfl) tZ (cn (k:=3) rfl (by kernel_rfl) tZ (cn (k:=1) rfl (by kernel_rfl) (eD Tryz.underlying3) (cn (k:=1) rfl (by kernel_rfl) (eD Tryz.underlying3) (cn (k:=1) rfl (by kernel_rfl) (eD Tryz.underlying3) j6)))))))))) ?_ ?_
 ·intro a _;rfl
 ·intro a h
  obtain⟨h1,h2,h3,h4,h5,h6,h7,h8,h9,_⟩:=h
  exact⟨zG h1,zG h2,h3,h4,h5,h6,h7,h8,h9⟩
theorem yJ:eI Tryz.prog 48 Decl.cells Decl.Wf:=by
 refine eI.map (α:=ByteArray×Int×Int×Unit) (fun p=>(⟨p.1,p.2.1,p.2.2.1⟩:Decl))
  (hD (k:=3) Tryz.underlying48 (by kernel_rfl) (cn (k:=1) rfl (by kernel_rfl) (oI Tryz.underlying9) (cn (k:=1) rfl (by kernel_rfl) (eD Tryz.underlying2) (cn (k:=1) rfl (by kernel_rfl) (eD Tryz.underlying3) j6)))) ?_ ?_
 ·intro a _;rfl
 ·intro a h;exact⟨h.1,h.2.1,h.2.2.1⟩
theorem p8:eI Tryz.prog 22 (fun l:List Decl=>[dM l]) (fun l=>(∀x∈l,x.Wf)∧l.length * 32≤140737488351232):=by
 have hb:Tryz.prog.bytesOf 48=32:=by kernel_rfl
 refine(lz (ag:=true) (sz:=3) .any Tryz.underlying22 (by kernel_rfl) (by omega) yJ (fun _=>rfl) (fun _ _=>rfl) (fun h=>by cases h)).map (fun l=>l) (fun _ _=>rfl) ?_
 rintro l ⟨h1,h2⟩
 rw[hb] at h2
 exact⟨h1,h2⟩
abbrev vt:List (String×DataW Unit):=[("math/bits.deBruijn32tab",Rows.laid_math_bits_deBruijn32tab)]
def xA:List Nat:=[0,1,28,2,29,14,24,3,30,22,20,15,25,17,4,8,31,27,13,23,21,19,16,7,26,12,18,6,11,5,10,9]
theorem MM:Tryz.prog.globalNamed "math/bits.deBruijn32tab" =some 0:=by kernel_rfl
theorem MV:(Tryz.prog.globals[0]?).map (·.type)=some 158:=by kernel_rfl
theorem B7 (os:Os) (args:Array Value):laidMetH Tryz.prog vt ((World.doorLaid Tryz.prog 400 os).forCall (fun _ _=>0) ⟨#[],args,[]⟩).memory:=
 laidMetH_of_parts3 (fuel:=8) (laidMet_of_run' 8 (by kernel_rfl) (by kernel_rfl)) (by kernel_rfl) (by kernel_rfl)
theorem ID {W:World} (h:laidMetH Tryz.prog vt W):zN W emp:=by
 rw[MakeChecks.laidMetH_plain _ _ _ (by kernel_rfl)] at h
 obtain⟨ps,⟨g0,t0,cs0,f0,p0,q0,hg0,ht0,hv0,hd0,_⟩,_,_⟩:=h
 obtain rfl:=Option.some.inj (MM.symm.trans hg0)
 obtain rfl:=Option.some.inj (MV.symm.trans ht0)
 obtain⟨xs,m1,rfl,hx1,hlen,hn3,hel⟩:=DataW.trod_array Tryz.underlying158 hd0
 have c5:Tryz.prog.cellsOf 5=1:=by kernel_rfl
 simp only[Prod.mk.injEq] at hx1
 obtain⟨hx1,_⟩:=hx1
 have hx2:xs.map (·.1)=xA.map fun n:Nat=>DataW.lit (Lit.int .u8 (n:Int)):=by
  have h9:(DataW.agg (xA.map fun n:Nat=>DataW.lit (Lit.int .u8 (n:Int))):DataW Unit)= .agg (xs.map (·.1)):=hx1
  exact(DataW.agg.inj h9).symm
 have key:∀j,j<32→W.cell? ⟨0,j,none⟩=some (.int .u8 (([0,1,28,2,29,14,24,3,30,22,20,15,25,17,4,8,31,27,13,23,21,19,16,7,26,12,18,6,11,5,10,9]:List Nat).getD j 0)):=by
  intro j hj
  have hjx:j<xs.length:=by omega
  have h0:=hel j hj
  rw[List.getElem?_eq_getElem hjx,c5] at h0
  obtain⟨k,e1,e2,_⟩:=DataW.trod_int Tryz.underlying5 h0
  have hc:=World.var?_cell hg0 hv0 j
  have cD:cs0.toList[j]?=some (.int .u8 k):=by
   have:((cs0.toList.drop (j * 1)).take 1)[0]?=some (.int .u8 k):=by rw[e1];rfl
   simpa[List.getElem?_take,List.getElem?_drop] using this
  rw[hc,←Array.getElem?_toList,cD]
  have hxj:(xs.map (·.1))[j]?=some (.lit (.int .u8 k)):=by
   rw[List.getElem?_map,List.getElem?_eq_getElem hjx,e2];rfl
  have htl:xA.length=32:=rfl
  rw[hx2,List.getElem?_map,List.getElem?_eq_getElem (by omega)] at hxj
  simp only[Option.map_some,Option.some.injEq,DataW.lit.injEq,Lit.int.injEq,true_and] at hxj
  rw[←hxj,List.getD,List.getElem?_eq_getElem (by omega)];rfl
 refine⟨fun _ h=>h.elim,fun t ht=> ?_⟩
 have ht:t=(0,xA):=by simpa[KF,xA] using ht
 subst ht
 refine⟨fun h=>h.elim,World.block_lt_of_cell? W ⟨0,0,none⟩ (key 0 (by omega)),fun j hj=>key j hj⟩
end Go.Proofs.YtmonponfppdgfaaGreatDoor
end
section
/- A unit that came in, its nodes' bytes told as they are. -/
namespace Go.Proofs.YtmonponfppdgfaaGreatDoor
open Go Go.ch Go.Proofs Go.RowKit Go.ChangeShapes Go.WideShapes Go.ChangeAt
set_option linter.unusedSimpArgs false
set_option linter.unusedVariables false
theorem sS:eI Tryz.prog 38 (fun l:List Node=>[eU l]) (fun l=>(∀x∈l,x.Wf)∧l.length * 96≤140737488351232):=by
 have hb:Tryz.prog.bytesOf 46=96:=by kernel_rfl
 refine(lz (ag:=true) (sz:=13) .any Tryz.underlying38 (by kernel_rfl) (by omega) yK (fun _=>rfl) (fun _ _=>rfl) (fun h=>by cases h)).map (fun l=>l) (fun _ _=>rfl) ?_
 rintro l ⟨h1,h2⟩
 rw[hb] at h2
 exact⟨h1,h2⟩
def bo.Fit (g:bo):Prop:=g.Wf∧g.nodes.length * 96≤140737488351232
def bp.Fit (u:bp):Prop:=u.Wf∧∀g∈u.bq,g.nodes.length * 96≤140737488351232
theorem sR:eI Tryz.prog 40 bo.cells bo.Fit:=by
 refine eI.map (α:=ByteArray×Int×Int×List Node×Unit) (fun p=>(⟨p.1,p.2.1,p.2.2.1,p.2.2.2.1⟩:bo))
  (hD (k:=4) Tryz.underlying40 (by kernel_rfl) (cn (k:=1) rfl (by kernel_rfl) (oI Tryz.underlying9) (cn (k:=1) rfl (by kernel_rfl) (eD Tryz.underlying3) (cn (k:=1) rfl (by kernel_rfl) (eD Tryz.underlying3) (cn (k:=1) rfl (by kernel_rfl) sS j6))))) ?_ ?_
 ·intro a _;rfl
 ·intro a h
  obtain⟨h1,h2,h3,⟨h4,h5⟩,_⟩:=h
  exact⟨⟨h1,h2,h3,h4,Nat.le_trans (Nat.mul_le_mul_left _ (by omega)) h5⟩,h5⟩
theorem rW:eI Tryz.prog 23 (fun l:List bo=>[fG l]) (fun l=>(∀x∈l,x.Fit)∧l.length * 56≤140737488351232):=by
 have hb:Tryz.prog.bytesOf 40=56:=by kernel_rfl
 refine(lz (ag:=true) (sz:=4) .any Tryz.underlying23 (by kernel_rfl) (by omega) sR (fun _=>rfl) (fun _ _=>rfl) (fun h=>by cases h)).map (fun l=>l) (fun _ _=>rfl) ?_
 rintro l ⟨h1,h2⟩
 rw[hb] at h2
 exact⟨h1,h2⟩
theorem uY:eI Tryz.prog 25 bp.cells bp.Fit:=by
 refine eI.map (α:=List Decl×List Decl×List bo×Unit) (fun p=>(⟨p.1,p.2.1,p.2.2.1⟩:bp))
  (hD (k:=3) Tryz.underlying25 (by kernel_rfl) (cn (k:=1) rfl (by kernel_rfl) p8 (cn (k:=1) rfl (by kernel_rfl) p8 (cn (k:=1) rfl (by kernel_rfl) rW j6)))) ?_ ?_
 ·intro a _;rfl
 ·intro a h
  obtain⟨⟨h1,h2⟩,⟨h3,h4⟩,⟨h5,h6⟩,_⟩:=h
  exact⟨⟨h1,h2,h3,h4,fun g hg=>(h5 g hg).1,h6⟩,fun g hg=>(h5 g hg).2⟩
end Go.Proofs.YtmonponfppdgfaaGreatDoor
end
section
/- What a unit must be, in plain data. -/
namespace Go.Proofs.YtmonponfppdgfaaGreatDoor
open Go Go.ch Go.Proofs
set_option linter.unusedSimpArgs false
set_option linter.unusedVariables false
def Node.dK (n:Node):List Int:=if n.kind=9 then[] else if n.kind=8 then[n.next,n.jT] else[n.next]
def Node.fold (n:Node):List Int:=if n.kind=9 then[] else if n.kind=8∧n.jT≠n.next then[n.next,n.jT] else[n.next]
def fg {α:Type} (p:α→Bool):List α→Nat→Option Nat
 |[],_=>none
 |x::r,i=>if p x=true then fg p r (i+1) else some i
theorem vW {α:Type} (p:α→Bool) (l:List α) (d:α) {i:Nat} (h:i<l.length):fg p (l.drop i) i=if p (l.getD i d)=true then fg p (l.drop (i+1)) (i+1) else some i:=by
 rw[List.drop_eq_getElem_cons h,fg]
 simp[List.getD,h]
theorem qu {α:Type} (p:α→Bool) (l:List α) {i:Nat} (h:l.length≤i):fg p (l.drop i) i=none:=by
 rw[List.drop_eq_nil_of_le h,fg]
def du (op:Int):Bool:=decide (1≤op)&&decide (op≤16)
def gH (k:Int):Bool:=decide (k=1∨k=2∨k=4)
def fX (k:Int):Bool:=decide (k=2∨k=3∨k=4∨k=5∨k=6)
def lS (k:Int):Bool:=decide (k=1∨k=3∨k=4∨k=7∨k=8)
def eF (k:Int):Bool:=decide (1≤k∧k≤8)
def pG (v:lL) (used:Bool) (cf:Int):Bool:=if used=true then(if v.dr=true then decide (0≤v.slot)&&decide (v.slot<cf)&&decide (v.word=0) else decide (v.slot=0)) else decide (v=default)
def nM (n:Int) (used:Bool) (most:Int):Bool:=if used=true then decide (0≤n)&&decide (n<most) else decide (n=0)
def iE (u:bp) (g:bo) (n:Node):Bool:=
 decide (1≤n.kind∧n.kind<10∧0≤n.origin∧n.origin<4096)&&(if n.kind=1 then decide (n.op<19) else decide (n.op=0))&&
 nM n.slot (gH n.kind) g.cf&&nM n.cP (fX n.kind) (if n.kind=5∨n.kind=6 then u.bx.length else u.shared.length)&&pG n.a (lS n.kind) g.cf&&pG n.b (decide (n.kind=1)&&du n.op) g.cf&&nM n.next (eF n.kind) g.nodes.length&&nM n.jT (decide (n.kind=8)) g.nodes.length
def rp (m:Nat) (n:Node):Bool:=decide (1≤n.kind)&&decide (n.kind<10)&&n.dK.all fun k=>decide (0≤k)&&decide (k<m)
def lI (g:bo):Bool:=decide (1≤g.nodes.length)&&decide (g.nodes.length≤4096)&&g.nodes.all (rp g.nodes.length)
structure HS where
 bx:List (List Int)
 found:List Bool
 todo:List Int
def HS.l (s:HS) (k:Int):List Int:=s.bx.getD k.toNat []
def HS.f (s:HS) (k:Int):Bool:=s.found.getD k.toNat false
def cq (n:Node) (l:List Int):Option (List Int):=
 if n.kind=5 then some (l++[n.cP]) else if n.kind=6 then(if l≠[]∧l.getLast?=some n.cP then some l.dropLast else none) else if n.kind=9 then(if l=[] then some l else none) else some l
def cm (now:List Int):List Int→HS→HS ⊕ Int
 |[],s=> .inl s
 |k::r,s=>if s.f k=false then cm now r ⟨s.bx.set k.toNat now,s.found.set k.toNat true,s.todo++[k]⟩ else if s.l k=now then cm now r s else .inr k
def fA (g:bo):Nat→HS→Nat→List (List Int)×Int
 |0,s,_=>(s.bx,-1)
 |f+1,s,k=>if k<s.todo.length then(match cq (g.nd (s.todo.getD k 0).toNat) (s.l (s.todo.getD k 0)) with
  |none=>([],s.todo.getD k 0)
  |some now=>match cm now (g.nd (s.todo.getD k 0).toNat).dK s with
   | .inl s'=>fA g f s' (k+1)
   | .inr at_=>([],at_)) else(s.bx,-1)
def oo (g:bo):HS:=⟨List.replicate g.nodes.length [],(List.replicate g.nodes.length false).set 0 true,[0]⟩
def cr (g:bo):List (List Int)×Int:=fA g (g.nodes.length+1) (oo g) 0
def lj (u:bp) (g:bo):Option Int:=
 if g.locals<0∨g.locals>64∨g.cf<g.locals∨g.cf>4160∨g.nodes.length<1∨g.nodes.length>4096 then some 0 else
 match fg (iE u g) g.nodes 0 with
 |some i=>some (i:Int)
 |none=>if 0≤(cr g).2 then some (cr g).2 else none
def eR (u:bp):List bo→Nat→Int×Int×Int
 |[],_=>(0,0,0)
 |g::r,t=>match lj u g with
  |some k=>(60,t,k)
  |none=>eR u r (t+1)
end Go.Proofs.YtmonponfppdgfaaGreatDoor
end
section
/- What is reached, in plain data. -/
namespace Go.Proofs.YtmonponfppdgfaaGreatDoor
open Go Go.ch Go.Proofs
set_option linter.unusedSimpArgs false
set_option linter.unusedVariables false
theorem zp {α:Type} (F:List Int→α) (n:Node) (h:∀a,F [a,a]=F [a]):F n.fold=F n.dK:=by
 unfold Node.fold Node.dK
 by_cases h9:n.kind=9
 ·rw[if_pos h9,if_pos h9]
 ·rw[if_neg h9,if_neg h9]
  by_cases h8:n.kind=8
  ·rw[if_pos h8]
   by_cases he:n.jT=n.next
   ·rw[if_neg (fun h=>h.2 he),he,h]
   ·rw[if_pos ⟨h8,he⟩]
  ·rw[if_neg h8,if_neg (fun h=>h8 h.1)]
abbrev gl (out:List Bool) (k:Int):Bool:=out.getD k.toNat false
def jO:List Int→List Bool×List Int→List Bool×List Int
 |[],s=>s
 |k::r,s=>if gl s.1 k=false then jO r (s.1.set k.toNat true,s.2++[k]) else jO r s
theorem yd (a:Int) (s:List Bool×List Int) (h:a.toNat<s.1.length):jO [a,a] s=jO [a] s:=by
 simp only[jO]
 by_cases h1:gl s.1 a=false
 ·rw[if_pos h1,if_pos h1,if_neg (by simp[gl,List.getD,h])]
 ·simp only[if_neg h1]
structure JC (l:List Int) (s s':List Bool×List Int):Prop where
 len:s'.1.length=s.1.length
 ju:∀k,gl s.1 k=true→gl s'.1 k=true
 new:∀k,0≤k→gl s'.1 k=true→gl s.1 k=true∨k∈l
 all:∀k∈l,gl s'.1 k=true
 more:∃t,s'.2=s.2++t∧(∀k∈t,k∈l∧gl s'.1 k=true)∧(∀k,0≤k→gl s'.1 k=true→gl s.1 k=true∨k∈t)∧s'.1.count false+t.length=s.1.count false
theorem count_set {l:List Bool} {i:Nat} (h:i<l.length) (hf:l.getD i false=false):(l.set i true).count false+1=l.count false:=by
 have h1:l[i]=false:=by simpa[List.getD,h] using hf
 rw[List.count_set h,h1]
 have:0<l.count false:=List.count_pos_iff.2 (h1▸List.getElem_mem h)
 simp
 omega
theorem jn {l:List Bool} {i:Nat} (h:i<l.length) (k:Int):gl (l.set i true) k=if k.toNat=i then true else gl l k:=by
 unfold gl
 simp only[List.getD,List.getElem?_set]
 by_cases hk:k.toNat=i
 ·rw[if_pos hk.symm,if_pos hk];simp[h]
 ·rw[if_neg (fun e=>hk e.symm),if_neg hk]
theorem ij:∀(l:List Int) (s:List Bool×List Int),(∀k∈l,0≤k∧k.toNat<s.1.length)→JC l s (jO l s)
 |[],s,_=>⟨rfl,fun _ h=>h,fun _ _ h=> .inl h,fun _ h=>by simp at h,[],by simp[jO],fun _ h=>by simp at h,fun _ _ h=> .inl h,by simp[jO]⟩
 |k::r,s,h=>by
  obtain⟨hk0,hk⟩:=h k (by simp)
  have hr:=fun x hx=>h x (List.mem_cons_of_mem _ hx)
  rw[jO]
  by_cases h1:gl s.1 k=false
  ·rw[if_pos h1]
   have ih:=ij r (s.1.set k.toNat true,s.2++[k]) (fun x hx=>by simpa using hr x hx)
   have hset:=jn (l:=s.1) hk
   obtain⟨t,t1,t2,t3,t4⟩:=ih.more
   have hkk:gl (jO r (s.1.set k.toNat true,s.2++[k])).1 k=true:=ih.ju k (by rw[hset,if_pos rfl])
   refine⟨ih.len.trans (by simp),fun x hx=>ih.ju x (by rw[hset];split<;>first|rfl|exact hx),fun x hx0 hx=> ?_,fun x hx=> ?_,k::t,by rw[t1];simp,fun x hx=> ?_,fun x hx0 hx=> ?_, ?_⟩
   ·rcases ih.new x hx0 hx with h2|h2
    ·rw[hset] at h2
     split at h2
     ·rename_i e;exact .inr (by rw[show x=k by omega];simp)
     ·exact .inl h2
    ·exact .inr (List.mem_cons_of_mem _ h2)
   ·rcases List.mem_cons.1 hx with rfl|hx
    ·exact hkk
    ·exact ih.all x hx
   ·rcases List.mem_cons.1 hx with rfl|hx
    ·exact⟨by simp,hkk⟩
    ·exact⟨List.mem_cons_of_mem _ (t2 x hx).1,(t2 x hx).2⟩
   ·rcases t3 x hx0 hx with h2|h2
    ·rw[hset] at h2
     split at h2
     ·rename_i e;exact .inr (by rw[show x=k by omega];simp)
     ·exact .inl h2
    ·exact .inr (List.mem_cons_of_mem _ h2)
   ·have:=count_set hk h1
    rw[List.length_cons]
    dsimp only at t4
    omega
  ·rw[if_neg h1]
   have hkt:gl s.1 k=true:=by simpa using h1
   have ih:=ij r s hr
   obtain⟨t,t1,t2,t3,t4⟩:=ih.more
   refine⟨ih.len,ih.ju,fun x hx0 hx=>(ih.new x hx0 hx).imp id (List.mem_cons_of_mem _),fun x hx=> ?_,t,t1,fun x hx=>⟨List.mem_cons_of_mem _ (t2 x hx).1,(t2 x hx).2⟩,t3,t4⟩
   rcases List.mem_cons.1 hx with rfl|hx
   ·exact ih.ju _ hkt
   ·exact ih.all x hx
inductive fc (g:bo) (cut:Int):Int→Prop where
 |zero:fc g cut 0
 |step {i k:Int}:fc g cut i→i≠cut→k∈(g.nd i.toNat).dK→fc g cut k
structure jg (g:bo) (cut:Int) (out:List Bool) (pend:List Int):Prop where
 len:out.length=g.nodes.length
 zero:gl out 0=true
 uG:∀k,0≤k→gl out k=true→fc g cut k
 inr:∀k∈pend,0≤k∧k.toNat<out.length∧gl out k=true
 done:∀k,0≤k→k.toNat<out.length→gl out k=true→k∉pend→k≠cut→∀j∈(g.nd k.toNat).dK,gl out j=true
open Classical in
noncomputable def cd (g:bo) (cut:Int):List Bool:=(List.range g.nodes.length).map fun(i:Nat)=>decide (fc g cut (i:Int))
theorem dP (g:bo) (cut:Int):(cd g cut).length=g.nodes.length:=by simp[cd]
theorem nR (g:bo) (cut:Int) {i:Nat} (h:i<g.nodes.length):(cd g cut).getD i false=true↔fc g cut i:=by simp[cd,List.getD,h]
def Whole (g:bo):Prop:=1≤g.nodes.length∧g.nodes.length≤4096∧∀i,i<g.nodes.length→1≤(g.nd i).kind∧(g.nd i).kind<10∧∀k∈(g.nd i).dK,0≤k∧k.toNat<g.nodes.length
theorem BL {g:bo}:lI g=true↔Whole g:=by
 unfold lI Whole rp
 simp only[Bool.and_eq_true,decide_eq_true_eq,List.all_eq_true,and_assoc]
 refine and_congr Iff.rfl (and_congr Iff.rfl ⟨fun h i hi=> ?_,fun h n hn=> ?_⟩)
 ·have:=h (g.nd i) (cC _ hi)
  exact⟨this.1,this.2.1,fun k hk=>by have:=this.2.2 k hk;omega⟩
 ·obtain⟨i,hi,rfl⟩:=List.getElem_of_mem hn
  have:=h i hi
  rw[show g.nd i=g.nodes[i] by simp[List.getD,hi]] at this
  exact⟨this.1,this.2.1,fun k hk=>by have:=this.2.2 k hk;omega⟩
theorem jg.start {g:bo} {cut:Int} (h:Whole g):jg g cut ((List.replicate g.nodes.length false).set 0 true) [0]:=by
 have hl:=h.1
 have hz:∀k,gl ((List.replicate g.nodes.length false).set 0 true) k=true→k.toNat=0:=fun k hk=>by
  rw[jn (by simp;omega)] at hk
  split at hk
  ·assumption
  ·simp only[gl,List.getD,List.getElem?_replicate] at hk
   split at hk<;>simp at hk
 refine⟨by simp,by rw[jn (by simp;omega)];simp,fun k h0 hk=> ?_,fun k hk=> ?_,fun k h0 h1 hk hn=> ?_⟩
 ·rw[show k=0 by have:=hz k hk;omega];exact .zero
 ·simp only[List.mem_cons,List.not_mem_nil,or_false] at hk
  subst hk
  exact⟨by omega,by simp;omega,by rw[jn (by simp;omega)];simp⟩
 ·exact absurd (by rw[show k=0 by have:=hz k hk;omega];simp) hn
theorem jg.on {g:bo} {cut:Int} (h:Whole g) {out:List Bool} {pend:List Int} {at_:Int} {a b:List Int} (hp:pend=a++at_::b) (hg:jg g cut out pend) (hc:at_≠cut) {t:List Int} {s:List Bool×List Int} (hs:jO (g.nd at_.toNat).dK (out,t)=s) {t2:List Int} (ht2:s.2=t++t2):jg g cut s.1 (a++b++t2):=by
 obtain⟨i1,i2,i3⟩:=hg.inr at_ (by rw[hp];simp)
 have hfol:=(h.2.2 at_.toNat (by rw[←hg.len];exact i2)).2.2
 have sp:=ij (g.nd at_.toNat).dK (out,t) (fun k hk=>by have:=hfol k hk;rw[←hg.len] at this;exact this)
 rw[hs] at sp
 obtain⟨t3,e1,e2,e3,e4⟩:=sp.more
 have:t2=t3:=by rw[ht2] at e1;exact List.append_cancel_left e1
 subst this
 have hl:s.1.length=out.length:=sp.len
 refine⟨hl.trans hg.len,sp.ju _ hg.zero,fun k h0 hk=> ?_,fun k hk=> ?_,fun k h0 h1 hk hn hkc j hj=> ?_⟩
 ·rcases sp.new k h0 hk with h1|h1
  ·exact hg.uG k h0 h1
  ·exact .step (hg.uG at_ i1 i3) hc h1
 ·rcases List.mem_append.1 hk with hk|hk
  ·have h1:=hg.inr k (by rw[hp];rcases List.mem_append.1 hk with h|h<;>simp[h])
   exact⟨h1.1,by rw[hl];exact h1.2.1,sp.ju _ h1.2.2⟩
  ·have h1:=hfol k (e2 k hk).1
   exact⟨h1.1,by rw[hl,hg.len];exact h1.2,(e2 k hk).2⟩
 ·by_cases hka:k=at_
  ·subst hka;exact sp.all j hj
  ·rcases e3 k h0 hk with h2|h2
   ·refine sp.ju _ (hg.done k h0 (by rw[←hl];exact h1) h2 (fun hm=> ?_) hkc j hj)
    rw[hp] at hm
    simp only[List.mem_append,List.mem_cons] at hm
    rcases hm with hm|hm|hm
    ·exact hn (by simp[hm])
    ·exact hka hm
    ·exact hn (by simp[hm])
   ·exact absurd (List.mem_append_right _ h2) hn
theorem jg.cut {g:bo} {cut:Int} {out:List Bool} {pend a b:List Int} (hp:pend=a++cut::b) (hg:jg g cut out pend):jg g cut out (a++b):=by
 refine⟨hg.len,hg.zero,hg.uG,fun k hk=>hg.inr k (by rw[hp];rcases List.mem_append.1 hk with h|h<;>simp[h]),fun k h0 h1 hk hn hkc=>hg.done k h0 h1 hk (fun hm=> ?_) hkc⟩
 rw[hp] at hm
 simp only[List.mem_append,List.mem_cons] at hm
 rcases hm with hm|hm|hm
 ·exact hn (by simp[hm])
 ·exact hkc hm
 ·exact hn (by simp[hm])
theorem jg.fin {g:bo} {cut:Int} (h:Whole g) {out:List Bool} (hg:jg g cut out []):out=cd g cut:=by
 have hall:∀k,fc g cut k→0≤k∧k.toNat<g.nodes.length∧gl out k=true:=fun k hk=>by
  induction hk with
  |zero=>exact⟨by omega,by have:=h.1;simp;omega,hg.zero⟩
  |@step i k hi hc hk ih=>
   obtain⟨i1,i2,i3⟩:=ih
   have h1:=(h.2.2 i.toNat i2).2.2 k hk
   exact⟨h1.1,h1.2,hg.done i i1 (by rw[hg.len];exact i2) i3 (by simp) hc k hk⟩
 apply List.ext_getElem
 ·rw[hg.len,dP]
 ·intro i h1 h2
  have hi:i<g.nodes.length:=by rw[←hg.len];exact h1
  have e1:out[i]=gl out (i:Int):=by simp[gl,List.getD,h1]
  have e2:(cd g cut)[i]=(cd g cut).getD i false:=by simp[List.getD,h2]
  rw[e1,e2,Bool.eq_iff_iff,nR g cut hi]
  exact⟨fun hf=>hg.uG _ (by omega) hf,fun hf=>(hall _ hf).2.2⟩
end Go.Proofs.YtmonponfppdgfaaGreatDoor
end
section
/- Tables that grow till nothing changes, in plain data. -/
namespace Go.Proofs.YtmonponfppdgfaaGreatDoor
open Go Go.ch Go.Proofs
set_option linter.unusedSimpArgs false
set_option linter.unusedVariables false
abbrev hZ:=List (List Bool)
def dY (T:hZ) (i k:Nat):Bool:=(T.getD i []).getD k false
def ka (T:hZ) (i k:Nat):hZ:=T.set i ((T.getD i []).set k true)
def e8 (T:hZ):Nat:=(T.map (·.count false)).sum
structure Shape (T:hZ) (m n:Nat):Prop where
 len:T.length=m
 row:∀i,i<m→(T.getD i []).length=n
theorem dE {α:Type} (l:List α) (i j:Nat) (v d:α):(l.set i v).getD j d=if i=j∧i<l.length then v else l.getD j d:=by
 simp only[List.getD,List.getElem?_set]
 by_cases h:i=j
 ·subst h
  by_cases h2:i<l.length
  ·simp[h2]
  ·simp[h2]
 ·simp[h]
theorem GR {T:hZ} {m n i k:Nat} (h:Shape T m n) (hi:i<m) (hk:k<n) (i' k':Nat):dY (ka T i k) i' k'=if i=i'∧k=k' then true else dY T i' k':=by
 unfold dY ka
 rw[dE]
 by_cases h1:i=i'
 ·subst h1
  rw[if_pos ⟨rfl,by rw[h.len];exact hi⟩,dE]
  by_cases h2:k=k'
  ·subst h2;rw[if_pos ⟨rfl,by rw[h.row i hi];exact hk⟩,if_pos ⟨rfl,rfl⟩]
  ·rw[if_neg (fun h=>h2 h.1),if_neg (fun h=>h2 h.2)]
 ·rw[if_neg (fun h=>h1 h.1),if_neg (fun h=>h1 h.1)]
theorem Shape.set {T:hZ} {m n:Nat} (h:Shape T m n) (i k:Nat):Shape (ka T i k) m n:=by
 refine⟨by simp[ka,h.len],fun j hj=> ?_⟩
 unfold ka
 rw[dE]
 split
 ·rename_i e;rw[List.length_set,e.1];exact h.row j hj
 ·exact h.row j hj
theorem zK:∀{l:List Nat} {i:Nat} (_:i<l.length) (x:Nat),(l.set i x).sum+l.getD i 0=l.sum+x
 |[],i,h,_=>absurd h (by simp)
 |a::l,0,_,x=>by simp;omega
 |a::l,i+1,h,x=>by
  have:=zK (l:=l) (i:=i) (by simpa using h) x
  simp only[List.set_cons_succ,List.sum_cons,List.getD_cons_succ]
  omega
theorem kp {T:hZ} {m n i k:Nat} (h:Shape T m n) (hi:i<m) (hk:k<n) (hf:dY T i k=false):e8 (ka T i k)+1=e8 T:=by
 have h1:=count_set (l:=T.getD i []) (i:=k) (by rw[h.row i hi];exact hk) hf
 have hil:i<T.length:=by rw[h.len];exact hi
 unfold e8 ka
 rw[List.map_set]
 have h2:=zK (l:=T.map (·.count false)) (i:=i) (by simpa using hil) (((T.getD i []).set k true).count false)
 have h3:(T.map (·.count false)).getD i 0=(T.getD i []).count false:=by
  simp[List.getD,hil]
 rw[h3] at h2
 omega
inductive KM (g:bo) (iY cE:Node→Nat→Bool) (k:Nat):Nat→Prop where
 |iY {i:Nat}:iY (g.nd i) k=true→KM g iY cE k i
 |on {i:Nat} {j:Int}:cE (g.nd i) k=true→j∈(g.nd i).dK→KM g iY cE k j.toNat→KM g iY cE k i
def kC (T:hZ) (n:Node) (k:Nat):Bool:=n.dK.any fun j=>dY T j.toNat k
theorem vA (f:Int→Bool) (n:Node):n.fold.any f=n.dK.any f:=zp (fun l=>l.any f) n (fun a=>by simp)
def eO (g:bo) (iY cE:Node→Nat→Bool) (T:hZ) (i k:Nat):Bool:=iY (g.nd i) k||(cE (g.nd i) k&&kC T (g.nd i) k)
structure iw (g:bo) (iY cE:Node→Nat→Bool) (n:Nat) (T:hZ):Prop where
 shape:Shape T g.nodes.length n
 sound:∀i k,dY T i k=true→KM g iY cE k i
def ke (m n:Nat):hZ:=List.replicate m (List.replicate n false)
theorem yf (m n i k:Nat):dY (ke m n) i k=false:=by
 unfold dY ke
 simp only[List.getD,List.getElem?_replicate]
 by_cases h:i<m
 ·simp only[h,if_true,Option.getD_some,List.getElem?_replicate];split<;>rfl
 ·simp[h]
theorem wu (m n:Nat):Shape (ke m n) m n:=⟨by simp[ke],fun i hi=>by simp[ke,List.getD,List.getElem?_replicate,hi]⟩
theorem iw.start (g:bo) (iY cE:Node→Nat→Bool) (n:Nat):iw g iY cE n (ke g.nodes.length n):=
 ⟨wu _ _,fun i k h=>by rw[yf] at h;cases h⟩
theorem qc {T:hZ} {n:Node} {k:Nat}:kC T n k=true↔∃j∈n.dK,dY T j.toNat k=true:=by
 unfold kC;rw[List.any_eq_true]
theorem iw.step {g:bo} {iY cE:Node→Nat→Bool} {n:Nat} {T:hZ} (h:iw g iY cE n T) {i k:Nat} (hi:i<g.nodes.length) (hk:k<n) (hc:eO g iY cE T i k=true):iw g iY cE n (ka T i k):=by
 refine⟨h.shape.set i k,fun i' k' ht=> ?_⟩
 rw[GR h.shape hi hk] at ht
 split at ht
 ·rename_i e
  obtain⟨rfl,rfl⟩:=e
  unfold eO at hc
  rw[Bool.or_eq_true,Bool.and_eq_true] at hc
  rcases hc with h1|⟨h1,h2⟩
  ·exact .iY h1
  ·obtain⟨j,hj,h3⟩:=qc.1 h2
   exact .on h1 hj (h.sound _ _ h3)
 ·exact h.sound _ _ ht
open Classical in
noncomputable def nb (g:bo) (iY cE:Node→Nat→Bool) (n:Nat):hZ:=(List.range g.nodes.length).map fun i=>(List.range n).map fun k=>decide (KM g iY cE k i)
theorem iU (g:bo) (iY cE:Node→Nat→Bool) (n:Nat):Shape (nb g iY cE n) g.nodes.length n:=⟨by simp[nb],fun i hi=>by simp[nb,List.getD,hi]⟩
theorem BF (g:bo) (iY cE:Node→Nat→Bool) (n:Nat) {i k:Nat} (hi:i<g.nodes.length) (hk:k<n):dY (nb g iY cE n) i k=true↔KM g iY cE k i:=by
 simp[dY,nb,List.getD,hi,hk]
theorem IP {T S:hZ} {m n:Nat} (hT:Shape T m n) (hS:Shape S m n) (h:∀i k,i<m→k<n→dY T i k=dY S i k):T=S:=by
 apply List.ext_getElem (hT.len.trans hS.len.symm)
 intro i h1 h2
 have hi:i<m:=by rw[←hT.len];exact h1
 have e1:T.getD i []=T[i]:=by simp[List.getD,h1]
 have e2:S.getD i []=S[i]:=by simp[List.getD,h2]
 rw[←e1,←e2]
 apply List.ext_getElem ((hT.row i hi).trans (hS.row i hi).symm)
 intro k h3 h4
 have:=h i k hi (by rw[←hT.row i hi];exact h3)
 unfold dY at this
 have g:∀(l:List Bool) (h:k<l.length),l[k]=l.getD k false:=fun l h=>by simp[List.getD,h]
 rw[g _ h3,g _ h4]
 exact this
theorem iw.fin {g:bo} {iY cE:Node→Nat→Bool} {n:Nat} {T:hZ} (hw:Whole g) (h:iw g iY cE n T) (hc:∀i k,i<g.nodes.length→k<n→eO g iY cE T i k=true→dY T i k=true):T=nb g iY cE n:=by
 refine IP h.shape (iU _ _ _ _) fun i k hi hk=> ?_
 rw[Bool.eq_iff_iff,BF g iY cE n hi hk]
 refine⟨h.sound i k,fun ha=> ?_⟩
 induction ha with
 |iY hb=>exact hc _ _ hi hk (by unfold eO;rw[hb];rfl)
 |@on i j hkp hj _ ih=>
  have hj2:=(hw.2.2 i hi).2.2 j hj
  have:=ih hj2.2
  refine hc _ _ hi hk ?_
  unfold eO
  rw[hkp,qc.2 ⟨j,hj,this⟩]
  simp
def eE (n:Node) (s:Nat):Bool:=(decide (n.kind=1∨n.kind=3∨n.kind=4∨n.kind=7∨n.kind=8)&&n.a.dr&&decide (n.a.slot=s))||(decide (n.kind=1)&&du n.op&&n.b.dr&&decide (n.b.slot=s))
def rh (n:Node):Bool:=decide (n.kind=1∨n.kind=2∨n.kind=4)
def fN (n:Node) (s:Nat):Bool:= !rh n||decide (n.slot≠s)
noncomputable def fq (g:bo):hZ:=nb g eE fN g.cf.toNat
structure cB where
 kind:Int
 rz:Int
 lock:Int
 deriving Inhabited,DecidableEq
def cB.cells (c:cB):List AV:=[u8 c.kind,i64 c.rz,i64 c.lock]
abbrev cB.av (c:cB):AV:= .agg c.cells
def nQ (cls:List cB) (t:Nat) (v:Nat):Bool:=decide ((cls.getD v default).kind=1)&&decide ((cls.getD v default).rz=t)
def fy (cls:List cB) (t:Nat) (n:Node) (v:Nat):Bool:=nQ cls t v&&(decide (n.kind=9)||decide (n.kind=5)||(decide (n.kind=2∨n.kind=4)&&decide (n.cP=v)))
def gN (cls:List cB) (t:Nat) (n:Node) (v:Nat):Bool:=nQ cls t v&& !(decide (n.kind=3)&&decide (n.cP=v))
noncomputable def jz (g:bo) (cls:List cB) (t:Nat):hZ:=nb g (fy cls t) (gN cls t) cls.length
end Go.Proofs.YtmonponfppdgfaaGreatDoor
end
section
/- The locks that are held, in plain data. -/
namespace Go.Proofs.YtmonponfppdgfaaGreatDoor
open Go Go.ch Go.Proofs
set_option linter.unusedSimpArgs false
set_option linter.unusedVariables false
structure M5 (now:List Int) (l:List Int) (s s':HS):Prop where
 kH:s'.bx.length=s.bx.length
 lW:s'.found.length=s.found.length
 ju:∀k:Int,s.f k=true→s'.f k=true∧s'.l k=s.l k
 new:∀k:Int,0≤k→s'.f k=true→s.f k=true∨k∈l
 all:∀k∈l,s'.f k=true∧s'.l k=now
 bare:∀k:Int,0≤k→s'.f k=false→s'.l k=s.l k
 more:∃t,s'.todo=s.todo++t∧(∀k∈t,k∈l∧s'.f k=true)∧(∀k:Int,0≤k→s'.f k=true→s.f k=true∨k∈t)∧s'.found.count false+t.length=s.found.count false
theorem HS.qk {s:HS} {i:Nat} {L:List (List Int)} {td:List Int} (h:i<s.found.length) (k:Int):HS.f ⟨L,s.found.set i true,td⟩ k=if k.toNat=i then true else s.f k:=jn h k
theorem HS.DF {s:HS} {i:Nat} {now:List Int} {F:List Bool} {td:List Int} (h:i<s.bx.length) (k:Int):HS.l ⟨s.bx.set i now,F,td⟩ k=if k.toNat=i then now else s.l k:=by
 unfold HS.l
 simp only
 rw[dE]
 by_cases e:i=k.toNat
 ·rw[if_pos ⟨e,h⟩,if_pos e.symm]
 ·rw[if_neg (fun x=>e x.1),if_neg (fun x=>e x.symm)]
theorem nF (now:List Int):∀(l:List Int) (s s':HS),s.bx.length=s.found.length→(∀k∈l,0≤k∧k.toNat<s.found.length)→cm now l s= .inl s'→M5 now l s s'
 |[],s,s',_,_,h=>by
  rw[cm] at h;cases h
  exact⟨rfl,rfl,fun _ h=>⟨h,rfl⟩,fun _ _ h=> .inl h,fun _ h=>by simp at h,fun _ _ _=>rfl,[],by simp,fun _ h=>by simp at h,fun _ _ h=> .inl h,by simp⟩
 |k::r,s,s',hl,hr,h=>by
  obtain⟨hk0,hk⟩:=hr k (by simp)
  have hr2:=fun x hx=>hr x (List.mem_cons_of_mem _ hx)
  rw[cm] at h
  by_cases hf:s.f k=false
  ·rw[if_pos hf] at h
   have ih:=nF now r _ s' (by simp[hl]) (fun x hx=>by simpa using hr2 x hx) h
   have fs:=fun x=>HS.qk (s:=s) (i:=k.toNat) (L:=s.bx.set k.toNat now) (td:=s.todo++[k]) hk x
   have ls:=fun x=>HS.DF (s:=s) (i:=k.toNat) (now:=now) (F:=s.found.set k.toNat true) (td:=s.todo++[k]) (by rw[hl];exact hk) x
   obtain⟨t,t1,t2,t3,t4⟩:=ih.more
   have hkk:=ih.ju k (by rw[fs,if_pos rfl])
   refine⟨ih.kH.trans (by simp),ih.lW.trans (by simp),fun x hx=> ?_,fun x hx0 hx=> ?_,fun x hx=> ?_,fun x hx0 hx=> ?_,k::t,by rw[t1];simp,fun x hx=> ?_,fun x hx0 hx=> ?_, ?_⟩
   ·have hne:x.toNat≠k.toNat:=fun e=>by unfold HS.f at hx hf;rw[e] at hx;rw[hx] at hf;cases hf
    have:=ih.ju x (by rw[fs,if_neg hne];exact hx)
    rw[ls,if_neg hne] at this
    exact this
   ·rcases ih.new x hx0 hx with h2|h2
    ·rw[fs] at h2
     split at h2
     ·rename_i e;exact .inr (by rw[show x=k by omega];simp)
     ·exact .inl h2
    ·exact .inr (List.mem_cons_of_mem _ h2)
   ·rcases List.mem_cons.1 hx with rfl|hx
    ·rw[ls,if_pos rfl] at hkk;exact hkk
    ·exact ih.all x hx
   ·have hne:x.toNat≠k.toNat:=fun e=>by
     have:=hkk.1
     rw[show k=x by omega,hx] at this;cases this
    have:=ih.bare x hx0 hx
    rw[ls,if_neg hne] at this
    exact this
   ·rcases List.mem_cons.1 hx with rfl|hx
    ·exact⟨by simp,hkk.1⟩
    ·exact⟨List.mem_cons_of_mem _ (t2 x hx).1,(t2 x hx).2⟩
   ·rcases t3 x hx0 hx with h2|h2
    ·rw[fs] at h2
     split at h2
     ·rename_i e;exact .inr (by rw[show x=k by omega];simp)
     ·exact .inl h2
    ·exact .inr (List.mem_cons_of_mem _ h2)
   ·have:=count_set hk hf
    rw[List.length_cons]
    dsimp only at t4
    omega
  ·rw[if_neg hf] at h
   have hkt:s.f k=true:=by simpa using hf
   by_cases hn:s.l k=now
   ·rw[if_pos hn] at h
    have ih:=nF now r s s' hl hr2 h
    obtain⟨t,t1,t2,t3,t4⟩:=ih.more
    refine⟨ih.kH,ih.lW,ih.ju,fun x hx0 hx=>(ih.new x hx0 hx).imp id (List.mem_cons_of_mem _),fun x hx=> ?_,ih.bare,t,t1,fun x hx=>⟨List.mem_cons_of_mem _ (t2 x hx).1,(t2 x hx).2⟩,t3,t4⟩
    rcases List.mem_cons.1 hx with rfl|hx
    ·have:=ih.ju _ hkt;rw[hn] at this;exact this
    ·exact ih.all x hx
   ·rw[if_neg hn] at h;cases h
theorem om {now:List Int} {lk:Nat→List Int}:∀(l:List Int) (s:HS),s.bx.length=s.found.length→(∀k∈l,0≤k∧k.toNat<s.found.length)→(∀k:Int,0≤k→s.f k=true→s.l k=lk k.toNat)→(∀k∈l,lk k.toNat=now)→
 ∃s',cm now l s= .inl s'∧∀k:Int,0≤k→s'.f k=true→s'.l k=lk k.toNat
 |[],s,_,_,hs,_=>⟨s,rfl,hs⟩
 |k::r,s,hl,hr,hs,hn=>by
  obtain⟨hk0,hk⟩:=hr k (by simp)
  have hr2:=fun x hx=>hr x (List.mem_cons_of_mem _ hx)
  rw[cm]
  by_cases hf:s.f k=false
  ·rw[if_pos hf]
   refine om r _ (by simp[hl]) (fun x hx=>by simpa using hr2 x hx) (fun x hx0 hx=> ?_) fun x hx=>hn x (List.mem_cons_of_mem _ hx)
   rw[HS.qk hk] at hx
   rw[HS.DF (by rw[hl];exact hk)]
   split
   ·rename_i e
    rw[show x=k by omega]
    exact(hn k (by simp)).symm
   ·rename_i e
    rw[if_neg e] at hx
    exact hs x hx0 hx
  ·rw[if_neg hf]
   have hkt:s.f k=true:=by simpa using hf
   rw[if_pos ((hs k hk0 hkt).trans (hn k (by simp)))]
   exact om r s hl hr2 hs fun x hx=>hn x (List.mem_cons_of_mem _ hx)
structure HI (g:bo) (s:HS) (k:Nat):Prop where
 kH:s.bx.length=g.nodes.length
 lW:s.found.length=g.nodes.length
 zero:s.f 0=true
 first:s.l 0=[]
 uG:∀i:Int,0≤i→s.f i=true→fc g (-1) i
 bare:∀i:Int,0≤i→s.f i=false→s.l i=[]
 inr:∀i∈s.todo,0≤i∧i.toNat<g.nodes.length∧s.f i=true
 all:∀i:Int,0≤i→s.f i=true→i∈s.todo
 done:∀j,j<k→j<s.todo.length→∃now,cq (g.nd (s.todo.getD j 0).toNat) (s.l (s.todo.getD j 0))=some now∧∀to∈(g.nd (s.todo.getD j 0).toNat).dK,s.f to=true∧s.l to=now
 count:s.todo.length+s.found.count false=g.nodes.length
theorem HI.start {g:bo} (h:Whole g):HI g (oo g) 0:=by
 have hl:=h.1
 have hf:∀k,HS.f (oo g) k=decide (k.toNat=0):=fun k=>by
  have:=jn (l:=List.replicate g.nodes.length false) (i:=0) (by simp;omega) k
  unfold HS.f oo
  simp only
  unfold gl at this
  rw[this]
  by_cases e:k.toNat=0
  ·simp[e]
  ·rw[if_neg e,decide_eq_false e]
   simp only[List.getD,List.getElem?_replicate];split<;>rfl
 have hk:∀k,HS.l (oo g) k=[]:=fun k=>by
  unfold HS.l oo;simp only[List.getD,List.getElem?_replicate];split<;>rfl
 refine⟨by simp[oo],by simp[oo],by rw[hf];simp,hk 0,fun i h0 hi=> ?_,fun i _ _=>hk i,fun i hi=> ?_,fun i h0 hi=> ?_,fun j hj=>by omega, ?_⟩
 ·rw[hf] at hi
  rw[show i=0 by have:=of_decide_eq_true hi;omega];exact .zero
 ·simp only[oo,List.mem_cons,List.not_mem_nil,or_false] at hi
  subst hi
  exact⟨by omega,by simp;omega,by rw[hf];simp⟩
 ·rw[hf] at hi
  rw[show i=0 by have:=of_decide_eq_true hi;omega];simp[oo]
 ·have:=count_set (l:=List.replicate g.nodes.length false) (i:=0) (by simp;omega) (by simp[List.getD,List.getElem?_replicate];split<;>rfl)
  simp only[List.count_replicate_self] at this
  simp only[oo,List.length_cons,List.length_nil]
  omega
theorem HI.next {g:bo} (hw:Whole g) {s s':HS} {k:Nat} (h:HI g s k) (hk:k<s.todo.length) {now:List Int} (hn:cq (g.nd (s.todo.getD k 0).toNat) (s.l (s.todo.getD k 0))=some now) (ht:cm now (g.nd (s.todo.getD k 0).toNat).dK s= .inl s'):HI g s' (k+1):=by
 have hm:=cC (0:Int) hk
 obtain⟨i1,i2,i3⟩:=h.inr _ hm
 have hfol:=(hw.2.2 _ i2).2.2
 have sp:=nF now _ s s' (by rw[h.kH,h.lW]) (fun x hx=>by rw[h.lW];exact hfol x hx) ht
 obtain⟨t,t1,t2,t3,t4⟩:=sp.more
 have hget:∀j,j<s.todo.length→s'.todo.getD j 0=s.todo.getD j 0:=fun j hj=>by
  rw[t1];simp[List.getD,List.getElem?_append,hj]
 refine⟨sp.kH.trans h.kH,sp.lW.trans h.lW,(sp.ju 0 h.zero).1,(sp.ju 0 h.zero).2.trans h.first,fun i h0 hi=> ?_,fun i h0 hi=> ?_,fun i hi=> ?_,fun i h0 hi=> ?_,fun j hj hjl=> ?_, ?_⟩
 ·rcases sp.new i h0 hi with h1|h1
  ·exact h.uG i h0 h1
  ·exact .step (h.uG _ i1 i3) (by omega) h1
 ·rw[sp.bare i h0 hi]
  refine h.bare i h0 ?_
  cases hq:s.f i with
  |false=>rfl
  |true=>rw[(sp.ju i hq).1] at hi;cases hi
 ·rw[t1] at hi
  rcases List.mem_append.1 hi with hi|hi
  ·obtain⟨a,b,c⟩:=h.inr i hi
   exact⟨a,b,(sp.ju i c).1⟩
  ·have:=hfol i (t2 i hi).1
   exact⟨this.1,this.2,(t2 i hi).2⟩
 ·rw[t1]
  rcases t3 i h0 hi with h1|h1
  ·exact List.mem_append_left _ (h.all i h0 h1)
  ·exact List.mem_append_right _ h1
 ·by_cases hjk:j=k
  ·subst hjk
   rw[hget _ hk]
   refine⟨now, ?_,sp.all⟩
   rw[(sp.ju _ i3).2]
   exact hn
  ·have hj2:j<s.todo.length:=by omega
   rw[hget _ hj2]
   obtain⟨now2,d1,d2⟩:=h.done j (by omega) hj2
   have hjm:=h.inr _ (cC (0:Int) hj2)
   refine⟨now2,by rw[(sp.ju _ hjm.2.2).2];exact d1,fun to hto=> ?_⟩
   obtain⟨e1,e2⟩:=d2 to hto
   rw[(sp.ju _ e1).2]
   exact⟨(sp.ju _ e1).1,e2⟩
 ·have:=h.count
  rw[t1,List.length_append]
  omega
structure xL (g:bo) (lk:Nat→List Int):Prop where
 zero:lk 0=[]
 on:∀i:Int,fc g (-1) i→∃now,cq (g.nd i.toNat) (lk i.toNat)=some now∧∀k∈(g.nd i.toNat).dK,lk k.toNat=now
theorem HI.fin {g:bo} {s:HS} {k:Nat} (hw:Whole g) (h:HI g s k) (hk:s.todo.length≤k):xL g (fun i=>s.bx.getD i [])∧∀i,i<g.nodes.length→(s.found.getD i false=true↔fc g (-1) i):=by
 have hall:∀i:Int,fc g (-1) i→0≤i∧s.f i=true:=fun i hi=>by
  induction hi with
  |zero=>exact⟨by omega,h.zero⟩
  |@step i j hi _ hj ih=>
   obtain⟨i0,hif⟩:=ih
   have hm:=h.all i i0 hif
   obtain⟨q,hq,e⟩:=List.getElem_of_mem hm
   have e2:s.todo.getD q 0=i:=by simp[List.getD,hq,e]
   obtain⟨now,_,d⟩:=h.done q (by omega) hq
   rw[e2] at d
   have h2:=(hw.2.2 i.toNat (h.inr i hm).2.1).2.2 j hj
   exact⟨h2.1,(d j hj).1⟩
 refine⟨⟨h.first,fun i hi=> ?_⟩,fun i hi=>⟨fun hf=>h.uG i (by omega) hf,fun hc=>(hall i hc).2⟩⟩
 obtain⟨i0,hif⟩:=hall i hi
 have hm:=h.all i i0 hif
 obtain⟨q,hq,e⟩:=List.getElem_of_mem hm
 have e2:s.todo.getD q 0=i:=by simp[List.getD,hq,e]
 obtain⟨now,d1,d⟩:=h.done q (by omega) hq
 rw[e2] at d1 d
 exact⟨now,d1,fun k hk=>(d k hk).2⟩
theorem rD {g:bo} (hw:Whole g):∀(f:Nat) (s:HS) (k:Nat),HI g s k→k+f=g.nodes.length+1→(fA g f s k).2<0→(fA g f s k).2=-1∧∃s' k',HI g s' k'∧s'.todo.length≤k'∧(fA g f s k).1=s'.bx
 |0,s,k,h,he,_=>by
  have:=h.count
  exact⟨rfl,s,k,h,by omega,rfl⟩
 |f+1,s,k,h,he,hneg=>by
  rw[fA] at hneg ⊢
  by_cases hk:k<s.todo.length
  ·rw[if_pos hk] at hneg ⊢
   have hm:=(h.inr _ (cC (0:Int) hk))
   cases hn:cq (g.nd (s.todo.getD k 0).toNat) (s.l (s.todo.getD k 0)) with
   |none=>rw[hn] at hneg;simp only at hneg;omega
   |some now=>
    rw[hn] at hneg
    simp only at hneg ⊢
    cases ht:cm now (g.nd (s.todo.getD k 0).toNat).dK s with
    |inl s'=>
     rw[ht] at hneg
     exact rD hw f s' (k+1) (h.next hw hk hn ht) (by omega) hneg
    |inr a=>
     rw[ht] at hneg
     simp only at hneg
     exfalso
     have hfol:=(hw.2.2 _ hm.2.1).2.2
     have:∀(l:List Int) (s:HS),(∀x∈l,0≤x)→cm now l s= .inr a→0≤a:=by
      intro l
      induction l with
      |nil=>intro s _ h;rw[cm] at h;cases h
      |cons x r ih=>
       intro s hx h
       rw[cm] at h
       split at h
       ·exact ih _ (fun y hy=>hx y (List.mem_cons_of_mem _ hy)) h
       ·split at h
        ·exact ih _ (fun y hy=>hx y (List.mem_cons_of_mem _ hy)) h
        ·cases h;exact hx _ (by simp)
     have:=this _ _ (fun x hx=>(hfol x hx).1) ht
     omega
  ·rw[if_neg hk]
   exact⟨rfl,s,k,h,by omega,rfl⟩
theorem rE {g:bo} (hw:Whole g) {lk:Nat→List Int} (hlk:xL g lk):∀(f:Nat) (s:HS) (k:Nat),HI g s k→(∀i:Int,0≤i→s.f i=true→s.l i=lk i.toNat)→(fA g f s k).2=-1
 |0,s,k,h,_=>rfl
 |f+1,s,k,h,hs=>by
  rw[fA]
  by_cases hk:k<s.todo.length
  ·rw[if_pos hk]
   have hm:=(h.inr _ (cC (0:Int) hk))
   obtain⟨now,d1,d2⟩:=hlk.on _ (h.uG _ hm.1 hm.2.2)
   rw[hs _ hm.1 hm.2.2,d1]
   simp only
   have hfol:=(hw.2.2 _ hm.2.1).2.2
   obtain⟨s',h1,h2⟩:=om (now:=now) (lk:=lk) _ s (by rw[h.kH,h.lW]) (fun x hx=>by rw[h.lW];exact hfol x hx) hs d2
   rw[h1]
   exact rE hw hlk f s' (k+1) (h.next hw hk (by rw[hs _ hm.1 hm.2.2];exact d1) h1) h2
  ·rw[if_neg hk]
theorem kU {g:bo} (hw:Whole g) (h:(cr g).2<0):(cr g).2=-1∧(cr g).1.length=g.nodes.length∧xL g (fun i=>(cr g).1.getD i [])∧∀i,i<g.nodes.length→¬fc g (-1) i→(cr g).1.getD i []=[]:=by
 obtain⟨h1,s,k,hi,hk,e⟩:=rD hw _ _ _ (HI.start hw) (by omega) h
 refine⟨h1, ?_, ?_,fun i hl hc=> ?_⟩
 ·unfold cr;rw[e];exact hi.kH
 ·unfold cr;rw[e];exact(hi.fin hw hk).1
 ·unfold cr;rw[e]
  have hf:=mt ((hi.fin hw hk).2 i hl).1 hc
  have:=hi.bare i (by omega) (by simpa[HS.f] using hf)
  exact this
theorem C4 {g:bo} (hw:Whole g) {lk:Nat→List Int} (hlk:xL g lk):(cr g).2=-1:=by
 refine rE hw hlk _ _ _ (HI.start hw) fun i h0 hf=> ?_
 have hl:=hw.1
 have hz:i.toNat=0:=by
  have:=jn (l:=List.replicate g.nodes.length false) (i:=0) (by simp;omega) i
  unfold HS.f oo at hf
  simp only at hf
  unfold gl at this
  rw[this] at hf
  split at hf
  ·assumption
  ·simp only[List.getD,List.getElem?_replicate] at hf
   split at hf<;>cases hf
 rw[hz,hlk.zero]
 unfold HS.l oo;simp only[List.getD,List.getElem?_replicate];split<;>rfl
end Go.Proofs.YtmonponfppdgfaaGreatDoor
end
