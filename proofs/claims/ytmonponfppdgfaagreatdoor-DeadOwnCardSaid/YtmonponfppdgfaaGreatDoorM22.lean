import Derived.Test.YtmonponfppdgfaaGreatDoorM14
import Derived.Test.YtmonponfppdgfaaGreatDoorM19
import Derived.Test.YtmonponfppdgfaaGreatDoorM20
import Derived.Test.YtmonponfppdgfaaGreatDoorM21
import Derived.Test.YtmonponfppdgfaaGreatDoorM16
import Derived.Test.YtmonponfppdgfaaGreatDoorRows
import Derived.Test.YtmonponfppdgfaaGreatDoorTie
import Derived.Test.YtmonponfppdgfaaGreatDoorCards
import Derived.LaidMore
import Derived.OpenShut
import Derived.SevenTiedAt
namespace Go.Proofs.YtmonponfppdgfaaGreatDoor
open Go Go.dD Go.Proofs
set_option linter.unusedSimpArgs false
set_option linter.unusedVariables false
abbrev i64 (n:Int):AV:= .sc (.int .i64 n)
abbrev u8 (n:Int):AV:= .sc (.int .u8 n)
abbrev bl (b:Bool):AV:= .sc (.bool b)
abbrev st (s:ByteArray):AV:= .sc (.string s)
def jE (n:Int):Prop:=-9223372036854775808<=n/\n<9223372036854775808
structure l7 where
 eA:Bool
 slot:Int
 word:Int
 deriving Inhabited,DecidableEq
def l7.cells (v:l7):List AV:=[bl v.eA,i64 v.slot,i64 v.word]
abbrev l7.av (v:l7):AV:= .agg v.cells
structure l7.Wf (v:l7):Prop where
 slot:jE v.slot
 word:jE v.word
structure Node where
 kind:Int
 op:Int
 slot:Int
 cT:Int
 a:l7
 b:l7
 next:Int
 jc:Int
 origin:Int
 deriving Inhabited,DecidableEq
def Node.cells (n:Node):List AV:=[u8 n.kind,u8 n.op,i64 n.slot,i64 n.cT,bl n.a.eA,i64 n.a.slot,i64 n.a.word,bl n.b.eA,i64 n.b.slot,i64 n.b.word,i64 n.next,i64 n.jc,i64 n.origin]
abbrev Node.av (n:Node):AV:= .agg n.cells
structure Node.Wf (n:Node):Prop where
 kind:0<=n.kind/\n.kind<256
 op:0<=n.op/\n.op<256
 slot:jE n.slot
 cT:jE n.cT
 a:n.a.Wf
 b:n.b.Wf
 next:jE n.next
 jc:jE n.jc
 origin:jE n.origin
structure Decl where
 name:ByteArray
 word:Int
 at_:Int
 deriving Inhabited,DecidableEq
def Decl.cells (d:Decl):List AV:=[st d.name,i64 d.word,i64 d.at_]
abbrev Decl.av (d:Decl):AV:= .agg d.cells
structure Decl.Wf (d:Decl):Prop where
 name:d.name.size<=140737488351232
 word:jE d.word
 at_:jE d.at_
structure br where
 name:ByteArray
 locals:Int
 cZ:Int
 nodes:List Node
 deriving Inhabited,DecidableEq
abbrev ee (l:List Node):AV:= .im 13 .any (l.map Node.av)
def br.cells (g:br):List AV:=[st g.name,i64 g.locals,i64 g.cZ,ee g.nodes]
abbrev br.av (g:br):AV:= .agg g.cells
structure br.Wf (g:br):Prop where
 name:g.name.size<=140737488351232
 locals:jE g.locals
 cZ:jE g.cZ
 nodes:∀n∈g.nodes,n.Wf
 len:g.nodes.length * 88<=140737488351232
structure bq where
 shared:List Decl
 bz:List Decl
 bo:List br
 deriving Inhabited,DecidableEq
abbrev dN (l:List Decl):AV:= .im 3 .any (l.map Decl.av)
abbrev fR (l:List br):AV:= .im 4 .any (l.map br.av)
def bq.cells (u:bq):List AV:=[dN u.shared,dN u.bz,fR u.bo]
abbrev bq.av (u:bq):AV:= .agg u.cells
structure bq.Wf (u:bq):Prop where
 shared:∀d∈u.shared,d.Wf
 gJ:u.shared.length * 32<=140737488351232
 bz:∀d∈u.bz,d.Wf
 gz:u.bz.length * 32<=140737488351232
 bo:∀g∈u.bo,g.Wf
 gp:u.bo.length * 56<=140737488351232
@[simp] theorem OV (n:Nat) (v:l7):cL n v.cells:=by simp[l7.cells,cL,cJ]
@[simp] theorem wM (n:Nat) (v:Node):cL n v.cells:=by simp[Node.cells,cL,cJ]
@[simp] theorem N2 (n:Nat) (v:Decl):cL n v.cells:=by simp[Decl.cells,cL,cJ]
@[simp] theorem NJ (n:Nat) (v:br):cL n v.cells:=by simp[br.cells,cL,cJ,cK]
@[simp] theorem wN (n:Nat) (v:bq):cL n v.cells:=by simp[bq.cells,cL,cJ,cK]
abbrev br.nd (g:br) (i:Nat):Node:=g.nodes.getD i default
abbrev bq.gr (u:bq) (t:Nat):br:=u.bo.getD t default
theorem uH {α β:Type} (f:α->β) (l:List α) (i:Nat) (a:α):(l.map f).getD i (f a)=f (l.getD i a):=by
 simp only[List.getD,List.getElem?_map]
 cases l[i]?<;>rfl
theorem ME {l:List br} {i:Nat}:(l.map br.av).getD i (br.av default)=(l.getD i default).av:=uH _ _ _ _
theorem EC {l:List Decl} {i:Nat}:(l.map Decl.av).getD i (Decl.av default)=(l.getD i default).av:=uH _ _ _ _
theorem cn {a b:Bool} (h:a=b):AV.sc (.bool a)=bl b:=by rw[h]
theorem cE {α:Type} {l:List α} {j:Nat} (d:α) (h:j<l.length):l.getD j d∈l:=by
 simp only[List.getD,List.getElem?_eq_getElem h,Option.getD_some];exact List.getElem_mem h
end Go.Proofs.YtmonponfppdgfaaGreatDoor
namespace Go.Proofs.YtmonponfppdgfaaGreatDoor
open Go Go.dD Go.Proofs Go.RowKit Go.ChangeShapes Go.WideShapes Go.ChangeAt
set_option linter.unusedSimpArgs false
set_option linter.unusedVariables false
theorem own:ownKnob Tryz.prog.godebug=none:=by kernel_rfl
theorem laidOut:laidOutB Tryz.prog=true:=by kernel_rfl
theorem IA {n:Int} (h:(Lit.int .i64 n).wf=true):jE n:=by
 simp only[Lit.wf,Bool.and_eq_true,decide_eq_true_eq] at h
 have e1:IntKind.i64.min=-9223372036854775808:=by decide
 have e2:IntKind.i64.max=9223372036854775807:=by decide
 unfold jE
 omega
theorem A1 {n:Int} (h:(Lit.int .u8 n).wf=true):0<=n/\n<256:=by
 simp only[Lit.wf,Bool.and_eq_true,decide_eq_true_eq] at h
 have e1:IntKind.u8.min=0:=by decide
 have e2:IntKind.u8.max=255:=by decide
 omega
theorem eI {t:TypeId} (ht:Tryz.prog.underlying t=some (.int .i64)):eS Tryz.prog t (fun n:Int=>[i64 n]) jE:=(p9 ht).map (fun n=>n) (fun _ _=>rfl) fun _ h=>IA h
theorem u0:eS Tryz.prog 44 l7.cells l7.Wf:=by
 refine eS.map (α:=Bool×Int×Int×Unit) (fun p=>(⟨p.1,p.2.1,p.2.2.1⟩:l7))
  (iR (k:=3) Tryz.underlying44 (by kernel_rfl) (cq (k:=1) rfl (by kernel_rfl) (zR Tryz.underlying4) (cq (k:=1) rfl (by kernel_rfl) (eI Tryz.underlying3) (cq (k:=1) rfl (by kernel_rfl) (eI Tryz.underlying2) js)))) ?_ ?_
 ·intro a _;rfl
 ·intro a h;exact⟨h.2.1,h.2.2.1⟩
theorem zW:eS Tryz.prog 46 Node.cells Node.Wf:=by
 refine eS.map (α:=Int×Int×Int×Int×l7×l7×Int×Int×Int×Unit) (fun p=>(⟨p.1,p.2.1,p.2.2.1,p.2.2.2.1,p.2.2.2.2.1,p.2.2.2.2.2.1,p.2.2.2.2.2.2.1,p.2.2.2.2.2.2.2.1,p.2.2.2.2.2.2.2.2.1⟩:Node))
  (iR (k:=13) Tryz.underlying46 (by kernel_rfl) (cq (k:=1) rfl (by kernel_rfl) (p9 Tryz.underlying41) (cq (k:=1) rfl (by kernel_rfl) (p9 Tryz.underlying42) (cq (k:=1) rfl (by kernel_rfl) (eI Tryz.underlying3) (cq (k:=1) rfl (by kernel_rfl) (eI Tryz.underlying3) (cq (k:=3) rfl (by kernel_rfl) u0 (cq (k:=3) rfl (by kernel_rfl) u0 (cq (k:=1) rfl (by kernel_rfl) (eI Tryz.underlying3) (cq (k:=1) rfl (by kernel_rfl) (eI Tryz.underlying3) (cq (k:=1) rfl (by kernel_rfl) (eI Tryz.underlying3) js)))))))))) ?_ ?_
 ·intro a _;rfl
 ·intro a h
  obtain⟨h1,h2,h3,h4,h5,h6,h7,h8,h9,_⟩:=h
  exact⟨A1 h1,A1 h2,h3,h4,h5,h6,h7,h8,h9⟩
theorem zV:eS Tryz.prog 48 Decl.cells Decl.Wf:=by
 refine eS.map (α:=ByteArray×Int×Int×Unit) (fun p=>(⟨p.1,p.2.1,p.2.2.1⟩:Decl))
  (iR (k:=3) Tryz.underlying48 (by kernel_rfl) (cq (k:=1) rfl (by kernel_rfl) (oe Tryz.underlying9) (cq (k:=1) rfl (by kernel_rfl) (eI Tryz.underlying2) (cq (k:=1) rfl (by kernel_rfl) (eI Tryz.underlying3) js)))) ?_ ?_
 ·intro a _;rfl
 ·intro a h;exact⟨h.1,h.2.1,h.2.2.1⟩
theorem xe:eS Tryz.prog 38 (fun l:List Node=>[ee l]) (fun l=>(∀x∈l,x.Wf)/\l.length * 88<=140737488351232):=by
 have hb:Tryz.prog.bytesOf 46=96:=by kernel_rfl
 refine(mY (ag:=true) (sz:=13) .any Tryz.underlying38 (by kernel_rfl) (by omega) zW (fun _=>rfl) (fun _ _=>rfl) (fun h=>by cases h)).map (fun l=>l) (fun _ _=>rfl) ?_
 rintro l ⟨h1,h2⟩
 rw[hb] at h2
 have hr:reachBytes=140737488351232:=rfl
 exact⟨h1,by omega⟩
theorem xd:eS Tryz.prog 40 br.cells br.Wf:=by
 refine eS.map (α:=ByteArray×Int×Int×List Node×Unit) (fun p=>(⟨p.1,p.2.1,p.2.2.1,p.2.2.2.1⟩:br))
  (iR (k:=4) Tryz.underlying40 (by kernel_rfl) (cq (k:=1) rfl (by kernel_rfl) (oe Tryz.underlying9) (cq (k:=1) rfl (by kernel_rfl) (eI Tryz.underlying3) (cq (k:=1) rfl (by kernel_rfl) (eI Tryz.underlying3) (cq (k:=1) rfl (by kernel_rfl) xe js))))) ?_ ?_
 ·intro a _;rfl
 ·intro a h
  obtain⟨h1,h2,h3,⟨h4,h5⟩,_⟩:=h
  exact⟨h1,h2,h3,h4,h5⟩
theorem qJ:eS Tryz.prog 22 (fun l:List Decl=>[dN l]) (fun l=>(∀x∈l,x.Wf)/\l.length * 32<=140737488351232):=by
 have hb:Tryz.prog.bytesOf 48=32:=by kernel_rfl
 refine(mY (ag:=true) (sz:=3) .any Tryz.underlying22 (by kernel_rfl) (by omega) zV (fun _=>rfl) (fun _ _=>rfl) (fun h=>by cases h)).map (fun l=>l) (fun _ _=>rfl) ?_
 rintro l ⟨h1,h2⟩
 rw[hb] at h2
 exact⟨h1,h2⟩
theorem vR:eS Tryz.prog 23 (fun l:List br=>[fR l]) (fun l=>(∀x∈l,x.Wf)/\l.length * 56<=140737488351232):=by
 have hb:Tryz.prog.bytesOf 40=56:=by kernel_rfl
 refine(mY (ag:=true) (sz:=4) .any Tryz.underlying23 (by kernel_rfl) (by omega) xd (fun _=>rfl) (fun _ _=>rfl) (fun h=>by cases h)).map (fun l=>l) (fun _ _=>rfl) ?_
 rintro l ⟨h1,h2⟩
 rw[hb] at h2
 exact⟨h1,h2⟩
theorem zX:eS Tryz.prog 25 bq.cells bq.Wf:=by
 refine eS.map (α:=List Decl×List Decl×List br×Unit) (fun p=>(⟨p.1,p.2.1,p.2.2.1⟩:bq))
  (iR (k:=3) Tryz.underlying25 (by kernel_rfl) (cq (k:=1) rfl (by kernel_rfl) qJ (cq (k:=1) rfl (by kernel_rfl) qJ (cq (k:=1) rfl (by kernel_rfl) vR js)))) ?_ ?_
 ·intro a _;rfl
 ·intro a h
  obtain⟨⟨h1,h2⟩,⟨h3,h4⟩,⟨h5,h6⟩,_⟩:=h
  exact⟨h1,h2,h3,h4,h5,h6⟩
abbrev wu:List (String×DataW Unit):=[("math/bits.deBruijn32tab",Rows.laid_math_bits_deBruijn32tab)]
def yE:List Nat:=[0,1,28,2,29,14,24,3,30,22,20,15,25,17,4,8,31,27,13,23,21,19,16,7,26,12,18,6,11,5,10,9]
theorem O8:Tryz.prog.globalNamed "math/bits.deBruijn32tab" =some 0:=by kernel_rfl
theorem PI:(Tryz.prog.globals[0]?).map (·.type)=some 158:=by kernel_rfl
theorem ED (os:Os) (args:Array Value):laidMetH Tryz.prog wu ((World.doorLaid Tryz.prog 400 os).forCall (fun _ _=>0) ⟨#[],args,[]⟩).memory:=
 laidMetH_of_parts3 (fuel:=8) (laidMet_of_run' 8 (by kernel_rfl) (by kernel_rfl)) (by kernel_rfl) (by kernel_rfl)
theorem KP {W:World} (h:laidMetH Tryz.prog wu W):A8 W emp:=by
 rw[MakeChecks.laidMetH_plain _ _ _ (by kernel_rfl)] at h
 obtain⟨ps,⟨g0,t0,cs0,f0,p0,q0,hg0,ht0,hv0,hd0,_⟩,_,_⟩:=h
 obtain rfl:=Option.some.inj (O8.symm.trans hg0)
 obtain rfl:=Option.some.inj (PI.symm.trans ht0)
 obtain⟨xs,m1,rfl,hx1,hlen,hn3,hel⟩:=DataW.trod_array Tryz.underlying158 hd0
 have c5:Tryz.prog.cellsOf 5=1:=by kernel_rfl
 simp only[Prod.mk.injEq] at hx1
 obtain⟨hx1,_⟩:=hx1
 have hx2:xs.map (·.1)=yE.map fun n:Nat=>DataW.lit (Lit.int .u8 (n:Int)):=by
  have h9:(DataW.agg (yE.map fun n:Nat=>DataW.lit (Lit.int .u8 (n:Int))):DataW Unit)= .agg (xs.map (·.1)):=hx1
  exact(DataW.agg.inj h9).symm
 have key:∀j,j<32->W.cell? ⟨0,j,none⟩=some (.int .u8 (([0,1,28,2,29,14,24,3,30,22,20,15,25,17,4,8,31,27,13,23,21,19,16,7,26,12,18,6,11,5,10,9]:List Nat).getD j 0)):=by
  intro j hj
  have hjx:j<xs.length:=by omega
  have h0:=hel j hj
  rw[List.getElem?_eq_getElem hjx,c5] at h0
  obtain⟨k,e1,e2,_⟩:=DataW.trod_int Tryz.underlying5 h0
  have hc:=World.var?_cell hg0 hv0 j
  have yO:cs0.toList[j]?=some (.int .u8 k):=by
   have:((cs0.toList.drop (j * 1)).take 1)[0]?=some (.int .u8 k):=by rw[e1];rfl
   simpa[List.getElem?_take,List.getElem?_drop] using this
  rw[hc,<-Array.getElem?_toList,yO]
  have hxj:(xs.map (·.1))[j]?=some (.lit (.int .u8 k)):=by
   rw[List.getElem?_map,List.getElem?_eq_getElem hjx,e2];rfl
  have htl:yE.length=32:=rfl
  rw[hx2,List.getElem?_map,List.getElem?_eq_getElem (by omega)] at hxj
  simp only[Option.map_some,Option.some.injEq,DataW.lit.injEq,Lit.int.injEq,true_and] at hxj
  rw[<-hxj,List.getD,List.getElem?_eq_getElem (by omega)];rfl
 refine⟨fun _ h=>h.elim,fun t ht=> ?_⟩
 have ht:t=(0,yE):=by simpa[M7,yE] using ht
 subst ht
 refine⟨fun h=>h.elim,World.block_lt_of_cell? W ⟨0,0,none⟩ (key 0 (by omega)),fun j hj=>key j hj⟩
end Go.Proofs.YtmonponfppdgfaaGreatDoor
namespace Go.Proofs.YtmonponfppdgfaaGreatDoor
open Go Go.dD Go.Proofs
set_option linter.unusedSimpArgs false
set_option linter.unusedVariables false
def Node.dQ (n:Node):List Int:=if n.kind=9 then[] else if n.kind=8 then[n.next,n.jc] else[n.next]
def Node.fold (n:Node):List Int:=if n.kind=9 then[] else if n.kind=8/\n.jc≠n.next then[n.next,n.jc] else[n.next]
def gB {α:Type} (p:α->Bool):List α->Nat->Option Nat
 |[],_=>none
 |x::r,i=>if p x=true then gB p r (i+1) else some i
theorem wS {α:Type} (p:α->Bool) (l:List α) (d:α) {i:Nat} (h:i<l.length):gB p (l.drop i) i=if p (l.getD i d)=true then gB p (l.drop (i+1)) (i+1) else some i:=by
 rw[List.drop_eq_getElem_cons h,gB]
 simp[List.getD,h]
theorem rY {α:Type} (p:α->Bool) (l:List α) {i:Nat} (h:l.length<=i):gB p (l.drop i) i=none:=by
 rw[List.drop_eq_nil_of_le h,gB]
def eB (op:Int):Bool:=decide (1<=op)&&decide (op<=16)
def gb (k:Int):Bool:=decide (k=1\/k=2\/k=4)
def fp (k:Int):Bool:=decide (k=2\/k=3\/k=4\/k=5\/k=6)
def lj (k:Int):Bool:=decide (k=1\/k=3\/k=4\/k=7\/k=8)
def eQ (k:Int):Bool:=decide (1<=k/\k<=8)
def pf (v:l7) (used:Bool) (cZ:Int):Bool:=if used=true then(if v.eA=true then decide (0<=v.slot)&&decide (v.slot<cZ)&&decide (v.word=0) else decide (v.slot=0)) else decide (v=default)
def nq (n:Int) (used:Bool) (most:Int):Bool:=if used=true then decide (0<=n)&&decide (n<most) else decide (n=0)
def iW (u:bq) (g:br) (n:Node):Bool:=
 decide (1<=n.kind/\n.kind<10/\0<=n.origin/\n.origin<4096)&&(if n.kind=1 then decide (n.op<19) else decide (n.op=0))&&
 nq n.slot (gb n.kind) g.cZ&&nq n.cT (fp n.kind) (if n.kind=5\/n.kind=6 then u.bz.length else u.shared.length)&&pf n.a (lj n.kind) g.cZ&&pf n.b (decide (n.kind=1)&&eB n.op) g.cZ&&nq n.next (eQ n.kind) g.nodes.length&&nq n.jc (decide (n.kind=8)) g.nodes.length
def sa (m:Nat) (n:Node):Bool:=decide (1<=n.kind)&&decide (n.kind<10)&&n.dQ.all fun k=>decide (0<=k)&&decide (k<m)
def l5 (g:br):Bool:=decide (1<=g.nodes.length)&&decide (g.nodes.length<=4096)&&g.nodes.all (sa g.nodes.length)
structure HS where
 bz:List (List Int)
 found:List Bool
 todo:List Int
def HS.l (s:HS) (k:Int):List Int:=s.bz.getD k.toNat []
def HS.f (s:HS) (k:Int):Bool:=s.found.getD k.toNat false
def ct (n:Node) (l:List Int):Option (List Int):=
 if n.kind=5 then some (l++[n.cT]) else if n.kind=6 then(if l≠[]/\l.getLast?=some n.cT then some l.dropLast else none) else if n.kind=9 then(if l=[] then some l else none) else some l
def cp (now:List Int):List Int->HS->HS ⊕ Int
 |[],s=> .inl s
 |k::r,s=>if s.f k=false then cp now r ⟨s.bz.set k.toNat now,s.found.set k.toNat true,s.todo++[k]⟩ else if s.l k=now then cp now r s else .inr k
def fI (g:br):Nat->HS->Nat->List (List Int)×Int
 |0,s,_=>(s.bz,-1)
 |f+1,s,k=>if k<s.todo.length then(match ct (g.nd (s.todo.getD k 0).toNat) (s.l (s.todo.getD k 0)) with
  |none=>([],s.todo.getD k 0)
  |some now=>match cp now (g.nd (s.todo.getD k 0).toNat).dQ s with
   | .inl s'=>fI g f s' (k+1)
   | .inr at_=>([],at_)) else(s.bz,-1)
def pB (g:br):HS:=⟨List.replicate g.nodes.length [],(List.replicate g.nodes.length false).set 0 true,[0]⟩
def cx (g:br):List (List Int)×Int:=fI g (g.nodes.length+1) (pB g) 0
def mN (u:bq) (g:br):Option Int:=
 if g.locals<0\/g.locals>64\/g.cZ<g.locals\/g.cZ>4160\/g.nodes.length<1\/g.nodes.length>4096 then some 0 else
 match gB (iW u g) g.nodes 0 with
 |some i=>some (i:Int)
 |none=>if 0<=(cx g).2 then some (cx g).2 else none
def e8 (u:bq):List br->Nat->Int×Int×Int
 |[],_=>(0,0,0)
 |g::r,t=>match mN u g with
  |some k=>(60,t,k)
  |none=>e8 u r (t+1)
section
theorem B0 {α:Type} (F:List Int->α) (n:Node) (h:∀a,F [a,a]=F [a]):F n.fold=F n.dQ:=by
 unfold Node.fold Node.dQ
 by_cases h9:n.kind=9
 ·rw[if_pos h9,if_pos h9]
 ·rw[if_neg h9,if_neg h9]
  by_cases h8:n.kind=8
  ·rw[if_pos h8]
   by_cases he:n.jc=n.next
   ·rw[if_neg (fun h=>h.2 he),he,h]
   ·rw[if_pos ⟨h8,he⟩]
  ·rw[if_neg h8,if_neg (fun h=>h8 h.1)]
abbrev iF (out:List Bool) (k:Int):Bool:=out.getD k.toNat false
def j8:List Int->List Bool×List Int->List Bool×List Int
 |[],s=>s
 |k::r,s=>if iF s.1 k=false then j8 r (s.1.set k.toNat true,s.2++[k]) else j8 r s
theorem zy (a:Int) (s:List Bool×List Int) (h:a.toNat<s.1.length):j8 [a,a] s=j8 [a] s:=by
 simp only[j8]
 by_cases h1:iF s.1 a=false
 ·rw[if_pos h1,if_pos h1,if_neg (by simp[iF,List.getD,h])]
 ·simp only[if_neg h1]
structure LV (l:List Int) (s s':List Bool×List Int):Prop where
 len:s'.1.length=s.1.length
 iD:∀k,iF s.1 k=true->iF s'.1 k=true
 new:∀k,0<=k->iF s'.1 k=true->iF s.1 k=true\/k∈l
 all:∀k∈l,iF s'.1 k=true
 more:∃t,s'.2=s.2++t/\(∀k∈t,k∈l/\iF s'.1 k=true)/\(∀k,0<=k->iF s'.1 k=true->iF s.1 k=true\/k∈t)/\s'.1.count false+t.length=s.1.count false
theorem count_set {l:List Bool} {i:Nat} (h:i<l.length) (hf:l.getD i false=false):(l.set i true).count false+1=l.count false:=by
 have h1:l[i]=false:=by simpa[List.getD,h] using hf
 rw[List.count_set h,h1]
 have:0<l.count false:=List.count_pos_iff.2 (h1▸List.getElem_mem h)
 simp
 omega
theorem kH {l:List Bool} {i:Nat} (h:i<l.length) (k:Int):iF (l.set i true) k=if k.toNat=i then true else iF l k:=by
 unfold iF
 simp only[List.getD,List.getElem?_set]
 by_cases hk:k.toNat=i
 ·rw[if_pos hk.symm,if_pos hk];simp[h]
 ·rw[if_neg (fun e=>hk e.symm),if_neg hk]
theorem jN:∀(l:List Int) (s:List Bool×List Int),(∀k∈l,0<=k/\k.toNat<s.1.length)->LV l s (j8 l s)
 |[],s,_=>⟨rfl,fun _ h=>h,fun _ _ h=> .inl h,fun _ h=>by simp at h,[],by simp[j8],fun _ h=>by simp at h,fun _ _ h=> .inl h,by simp[j8]⟩
 |k::r,s,h=>by
  obtain⟨hk0,hk⟩:=h k (by simp)
  have hr:=fun x hx=>h x (List.mem_cons_of_mem _ hx)
  rw[j8]
  by_cases h1:iF s.1 k=false
  ·rw[if_pos h1]
   have ih:=jN r (s.1.set k.toNat true,s.2++[k]) (fun x hx=>by simpa using hr x hx)
   have hset:=kH (l:=s.1) hk
   obtain⟨t,t1,t2,t3,t4⟩:=ih.more
   have hkk:iF (j8 r (s.1.set k.toNat true,s.2++[k])).1 k=true:=ih.iD k (by rw[hset,if_pos rfl])
   refine⟨ih.len.trans (by simp),fun x hx=>ih.iD x (by rw[hset];split<;>first|rfl|exact hx),fun x hx0 hx=> ?_,fun x hx=> ?_,k::t,by rw[t1];simp,fun x hx=> ?_,fun x hx0 hx=> ?_, ?_⟩
   ·rcases ih.new x hx0 hx with h2|h2
    ·rw[hset] at h2
     split at h2
     ·rename_i e;exact .inr (by rw[show x=k by omega];simp)
     ·exact .inl h2
    ·exact .inr (List.mem_cons_of_mem _ h2)
   ·rcases List.mem_cons.1 hx with rfl|hx
    ·exact hkk
    ·exact ih.all x hx
   ·rcases List.mem_cons.1 hx with rfl|hx
    ·exact⟨by simp,hkk⟩
    ·exact⟨List.mem_cons_of_mem _ (t2 x hx).1,(t2 x hx).2⟩
   ·rcases t3 x hx0 hx with h2|h2
    ·rw[hset] at h2
     split at h2
     ·rename_i e;exact .inr (by rw[show x=k by omega];simp)
     ·exact .inl h2
    ·exact .inr (List.mem_cons_of_mem _ h2)
   ·have:=count_set hk h1
    rw[List.length_cons]
    dsimp only at t4
    omega
  ·rw[if_neg h1]
   have hkt:iF s.1 k=true:=by simpa using h1
   have ih:=jN r s hr
   obtain⟨t,t1,t2,t3,t4⟩:=ih.more
   refine⟨ih.len,ih.iD,fun x hx0 hx=>(ih.new x hx0 hx).imp id (List.mem_cons_of_mem _),fun x hx=> ?_,t,t1,fun x hx=>⟨List.mem_cons_of_mem _ (t2 x hx).1,(t2 x hx).2⟩,t3,t4⟩
   rcases List.mem_cons.1 hx with rfl|hx
   ·exact ih.iD _ hkt
   ·exact ih.all x hx
inductive fw (g:br) (cut:Int):Int->Prop where
 |zero:fw g cut 0
 |step {i k:Int}:fw g cut i->i≠cut->k∈(g.nd i.toNat).dQ->fw g cut k
structure kB (g:br) (cut:Int) (out:List Bool) (pend:List Int):Prop where
 len:out.length=g.nodes.length
 zero:iF out 0=true
 uz:∀k,0<=k->iF out k=true->fw g cut k
 inr:∀k∈pend,0<=k/\k.toNat<out.length/\iF out k=true
 done:∀k,0<=k->k.toNat<out.length->iF out k=true->k∉pend->k≠cut->∀j∈(g.nd k.toNat).dQ,iF out j=true
open Classical in
noncomputable def cj (g:br) (cut:Int):List Bool:=(List.range g.nodes.length).map fun(i:Nat)=>decide (fw g cut (i:Int))
theorem dW (g:br) (cut:Int):(cj g cut).length=g.nodes.length:=by simp[cj]
theorem nz (g:br) (cut:Int) {i:Nat} (h:i<g.nodes.length):(cj g cut).getD i false=true↔fw g cut i:=by simp[cj,List.getD,h]
def Whole (g:br):Prop:=1<=g.nodes.length/\g.nodes.length<=4096/\∀i,i<g.nodes.length->1<=(g.nd i).kind/\(g.nd i).kind<10/\∀k∈(g.nd i).dQ,0<=k/\k.toNat<g.nodes.length
theorem DS {g:br}:l5 g=true↔Whole g:=by
 unfold l5 Whole sa
 simp only[Bool.and_eq_true,decide_eq_true_eq,List.all_eq_true,and_assoc]
 refine and_congr Iff.rfl (and_congr Iff.rfl ⟨fun h i hi=> ?_,fun h n hn=> ?_⟩)
 ·have:=h (g.nd i) (cE _ hi)
  exact⟨this.1,this.2.1,fun k hk=>by have:=this.2.2 k hk;omega⟩
 ·obtain⟨i,hi,rfl⟩:=List.getElem_of_mem hn
  have:=h i hi
  rw[show g.nd i=g.nodes[i] by simp[List.getD,hi]] at this
  exact⟨this.1,this.2.1,fun k hk=>by have:=this.2.2 k hk;omega⟩
theorem kB.start {g:br} {cut:Int} (h:Whole g):kB g cut ((List.replicate g.nodes.length false).set 0 true) [0]:=by
 have hl:=h.1
 have hz:∀k,iF ((List.replicate g.nodes.length false).set 0 true) k=true->k.toNat=0:=fun k hk=>by
  rw[kH (by simp;omega)] at hk
  split at hk
  ·assumption
  ·simp only[iF,List.getD,List.getElem?_replicate] at hk
   split at hk<;>simp at hk
 refine⟨by simp,by rw[kH (by simp;omega)];simp,fun k h0 hk=> ?_,fun k hk=> ?_,fun k h0 h1 hk hn=> ?_⟩
 ·rw[show k=0 by have:=hz k hk;omega];exact .zero
 ·simp only[List.mem_cons,List.not_mem_nil,or_false] at hk
  subst hk
  exact⟨by omega,by simp;omega,by rw[kH (by simp;omega)];simp⟩
 ·exact absurd (by rw[show k=0 by have:=hz k hk;omega];simp) hn
theorem kB.on {g:br} {cut:Int} (h:Whole g) {out:List Bool} {pend:List Int} {at_:Int} {a b:List Int} (hp:pend=a++at_::b) (hg:kB g cut out pend) (hc:at_≠cut) {t:List Int} {s:List Bool×List Int} (hs:j8 (g.nd at_.toNat).dQ (out,t)=s) {t2:List Int} (ht2:s.2=t++t2):kB g cut s.1 (a++b++t2):=by
 obtain⟨i1,i2,i3⟩:=hg.inr at_ (by rw[hp];simp)
 have hfol:=(h.2.2 at_.toNat (by rw[<-hg.len];exact i2)).2.2
 have sp:=jN (g.nd at_.toNat).dQ (out,t) (fun k hk=>by have:=hfol k hk;rw[<-hg.len] at this;exact this)
 rw[hs] at sp
 obtain⟨t3,e1,e2,e3,e4⟩:=sp.more
 have:t2=t3:=by rw[ht2] at e1;exact List.append_cancel_left e1
 subst this
 have hl:s.1.length=out.length:=sp.len
 refine⟨hl.trans hg.len,sp.iD _ hg.zero,fun k h0 hk=> ?_,fun k hk=> ?_,fun k h0 h1 hk hn hkc j hj=> ?_⟩
 ·rcases sp.new k h0 hk with h1|h1
  ·exact hg.uz k h0 h1
  ·exact .step (hg.uz at_ i1 i3) hc h1
 ·rcases List.mem_append.1 hk with hk|hk
  ·have h1:=hg.inr k (by rw[hp];rcases List.mem_append.1 hk with h|h<;>simp[h])
   exact⟨h1.1,by rw[hl];exact h1.2.1,sp.iD _ h1.2.2⟩
  ·have h1:=hfol k (e2 k hk).1
   exact⟨h1.1,by rw[hl,hg.len];exact h1.2,(e2 k hk).2⟩
 ·by_cases hka:k=at_
  ·subst hka;exact sp.all j hj
  ·rcases e3 k h0 hk with h2|h2
   ·refine sp.iD _ (hg.done k h0 (by rw[<-hl];exact h1) h2 (fun hm=> ?_) hkc j hj)
    rw[hp] at hm
    simp only[List.mem_append,List.mem_cons] at hm
    rcases hm with hm|hm|hm
    ·exact hn (by simp[hm])
    ·exact hka hm
    ·exact hn (by simp[hm])
   ·exact absurd (List.mem_append_right _ h2) hn
theorem kB.cut {g:br} {cut:Int} {out:List Bool} {pend a b:List Int} (hp:pend=a++cut::b) (hg:kB g cut out pend):kB g cut out (a++b):=by
 refine⟨hg.len,hg.zero,hg.uz,fun k hk=>hg.inr k (by rw[hp];rcases List.mem_append.1 hk with h|h<;>simp[h]),fun k h0 h1 hk hn hkc=>hg.done k h0 h1 hk (fun hm=> ?_) hkc⟩
 rw[hp] at hm
 simp only[List.mem_append,List.mem_cons] at hm
 rcases hm with hm|hm|hm
 ·exact hn (by simp[hm])
 ·exact hkc hm
 ·exact hn (by simp[hm])
theorem kB.fin {g:br} {cut:Int} (h:Whole g) {out:List Bool} (hg:kB g cut out []):out=cj g cut:=by
 have hall:∀k,fw g cut k->0<=k/\k.toNat<g.nodes.length/\iF out k=true:=fun k hk=>by
  induction hk with
  |zero=>exact⟨by omega,by have:=h.1;simp;omega,hg.zero⟩
  |@step i k hi hc hk ih=>
   obtain⟨i1,i2,i3⟩:=ih
   have h1:=(h.2.2 i.toNat i2).2.2 k hk
   exact⟨h1.1,h1.2,hg.done i i1 (by rw[hg.len];exact i2) i3 (by simp) hc k hk⟩
 apply List.ext_getElem
 ·rw[hg.len,dW]
 ·intro i h1 h2
  have hi:i<g.nodes.length:=by rw[<-hg.len];exact h1
  have e1:out[i]=iF out (i:Int):=by simp[iF,List.getD,h1]
  have e2:(cj g cut)[i]=(cj g cut).getD i false:=by simp[List.getD,h2]
  rw[e1,e2,Bool.eq_iff_iff,nz g cut hi]
  exact⟨fun hf=>hg.uz _ (by omega) hf,fun hf=>(hall _ hf).2.2⟩
end
section
abbrev gx:=List (List Bool)
def dj (T:gx) (i k:Nat):Bool:=(T.getD i []).getD k false
def lA (T:gx) (i k:Nat):gx:=T.set i ((T.getD i []).set k true)
def fC (T:gx):Nat:=(T.map (·.count false)).sum
structure Shape (T:gx) (m n:Nat):Prop where
 len:T.length=m
 row:∀i,i<m->(T.getD i []).length=n
theorem cw {α:Type} (l:List α) (i j:Nat) (v d:α):(l.set i v).getD j d=if i=j/\i<l.length then v else l.getD j d:=by
 simp only[List.getD,List.getElem?_set]
 by_cases h:i=j
 ·subst h
  by_cases h2:i<l.length
  ·simp[h2]
  ·simp[h2]
 ·simp[h]
theorem JE {T:gx} {m n i k:Nat} (h:Shape T m n) (hi:i<m) (hk:k<n) (i' k':Nat):dj (lA T i k) i' k'=if i=i'/\k=k' then true else dj T i' k':=by
 unfold dj lA
 rw[cw]
 by_cases h1:i=i'
 ·subst h1
  rw[if_pos ⟨rfl,by rw[h.len];exact hi⟩,cw]
  by_cases h2:k=k'
  ·subst h2;rw[if_pos ⟨rfl,by rw[h.row i hi];exact hk⟩,if_pos ⟨rfl,rfl⟩]
  ·rw[if_neg (fun h=>h2 h.1),if_neg (fun h=>h2 h.2)]
 ·rw[if_neg (fun h=>h1 h.1),if_neg (fun h=>h1 h.1)]
theorem Shape.set {T:gx} {m n:Nat} (h:Shape T m n) (i k:Nat):Shape (lA T i k) m n:=by
 refine⟨by simp[lA,h.len],fun j hj=> ?_⟩
 unfold lA
 rw[cw]
 split
 ·rename_i e;rw[List.length_set,e.1];exact h.row j hj
 ·exact h.row j hj
theorem A6:∀{l:List Nat} {i:Nat} (_:i<l.length) (x:Nat),(l.set i x).sum+l.getD i 0=l.sum+x
 |[],i,h,_=>absurd h (by simp)
 |a::l,0,_,x=>by simp;omega
 |a::l,i+1,h,x=>by
  have:=A6 (l:=l) (i:=i) (by simpa using h) x
  simp only[List.set_cons_succ,List.sum_cons,List.getD_cons_succ]
  omega
theorem lO {T:gx} {m n i k:Nat} (h:Shape T m n) (hi:i<m) (hk:k<n) (hf:dj T i k=false):fC (lA T i k)+1=fC T:=by
 have h1:=count_set (l:=T.getD i []) (i:=k) (by rw[h.row i hi];exact hk) hf
 have hil:i<T.length:=by rw[h.len];exact hi
 unfold fC lA
 rw[List.map_set]
 have h2:=A6 (l:=T.map (·.count false)) (i:=i) (by simpa using hil) (((T.getD i []).set k true).count false)
 have h3:(T.map (·.count false)).getD i 0=(T.getD i []).count false:=by
  simp[List.getD,hil]
 rw[h3] at h2
 omega
inductive NG (g:br) (jJ cH:Node->Nat->Bool) (k:Nat):Nat->Prop where
 |jJ {i:Nat}:jJ (g.nd i) k=true->NG g jJ cH k i
 |on {i:Nat} {j:Int}:cH (g.nd i) k=true->j∈(g.nd i).dQ->NG g jJ cH k j.toNat->NG g jJ cH k i
def kX (T:gx) (n:Node) (k:Nat):Bool:=n.dQ.any fun j=>dj T j.toNat k
theorem vr (f:Int->Bool) (n:Node):n.fold.any f=n.dQ.any f:=B0 (fun l=>l.any f) n (fun a=>by simp)
def eY (g:br) (jJ cH:Node->Nat->Bool) (T:gx) (i k:Nat):Bool:=jJ (g.nd i) k||(cH (g.nd i) k&&kX T (g.nd i) k)
structure jR (g:br) (jJ cH:Node->Nat->Bool) (n:Nat) (T:gx):Prop where
 shape:Shape T g.nodes.length n
 sound:∀i k,dj T i k=true->NG g jJ cH k i
def lD (m n:Nat):gx:=List.replicate m (List.replicate n false)
theorem AB (m n i k:Nat):dj (lD m n) i k=false:=by
 unfold dj lD
 simp only[List.getD,List.getElem?_replicate]
 by_cases h:i<m
 ·simp only[h,if_true,Option.getD_some,List.getElem?_replicate];split<;>rfl
 ·simp[h]
theorem xz (m n:Nat):Shape (lD m n) m n:=⟨by simp[lD],fun i hi=>by simp[lD,List.getD,List.getElem?_replicate,hi]⟩
theorem jR.start (g:br) (jJ cH:Node->Nat->Bool) (n:Nat):jR g jJ cH n (lD g.nodes.length n):=
 ⟨xz _ _,fun i k h=>by rw[AB] at h;cases h⟩
theorem rI {T:gx} {n:Node} {k:Nat}:kX T n k=true↔∃j∈n.dQ,dj T j.toNat k=true:=by
 unfold kX;rw[List.any_eq_true]
theorem jR.step {g:br} {jJ cH:Node->Nat->Bool} {n:Nat} {T:gx} (h:jR g jJ cH n T) {i k:Nat} (hi:i<g.nodes.length) (hk:k<n) (hc:eY g jJ cH T i k=true):jR g jJ cH n (lA T i k):=by
 refine⟨h.shape.set i k,fun i' k' ht=> ?_⟩
 rw[JE h.shape hi hk] at ht
 split at ht
 ·rename_i e
  obtain⟨rfl,rfl⟩:=e
  unfold eY at hc
  rw[Bool.or_eq_true,Bool.and_eq_true] at hc
  rcases hc with h1|⟨h1,h2⟩
  ·exact .jJ h1
  ·obtain⟨j,hj,h3⟩:=rI.1 h2
   exact .on h1 hj (h.sound _ _ h3)
 ·exact h.sound _ _ ht
open Classical in
noncomputable def oL (g:br) (jJ cH:Node->Nat->Bool) (n:Nat):gx:=(List.range g.nodes.length).map fun i=>(List.range n).map fun k=>decide (NG g jJ cH k i)
theorem gZ (g:br) (jJ cH:Node->Nat->Bool) (n:Nat):Shape (oL g jJ cH n) g.nodes.length n:=⟨by simp[oL],fun i hi=>by simp[oL,List.getD,hi]⟩
theorem DM (g:br) (jJ cH:Node->Nat->Bool) (n:Nat) {i k:Nat} (hi:i<g.nodes.length) (hk:k<n):dj (oL g jJ cH n) i k=true↔NG g jJ cH k i:=by
 simp[dj,oL,List.getD,hi,hk]
theorem K2 {T S:gx} {m n:Nat} (hT:Shape T m n) (hS:Shape S m n) (h:∀i k,i<m->k<n->dj T i k=dj S i k):T=S:=by
 apply List.ext_getElem (hT.len.trans hS.len.symm)
 intro i h1 h2
 have hi:i<m:=by rw[<-hT.len];exact h1
 have e1:T.getD i []=T[i]:=by simp[List.getD,h1]
 have e2:S.getD i []=S[i]:=by simp[List.getD,h2]
 rw[<-e1,<-e2]
 apply List.ext_getElem ((hT.row i hi).trans (hS.row i hi).symm)
 intro k h3 h4
 have:=h i k hi (by rw[<-hT.row i hi];exact h3)
 unfold dj at this
 have g:∀(l:List Bool) (h:k<l.length),l[k]=l.getD k false:=fun l h=>by simp[List.getD,h]
 rw[g _ h3,g _ h4]
 exact this
theorem jR.fin {g:br} {jJ cH:Node->Nat->Bool} {n:Nat} {T:gx} (hw:Whole g) (h:jR g jJ cH n T) (hc:∀i k,i<g.nodes.length->k<n->eY g jJ cH T i k=true->dj T i k=true):T=oL g jJ cH n:=by
 refine K2 h.shape (gZ _ _ _ _) fun i k hi hk=> ?_
 rw[Bool.eq_iff_iff,DM g jJ cH n hi hk]
 refine⟨h.sound i k,fun ha=> ?_⟩
 induction ha with
 |jJ hb=>exact hc _ _ hi hk (by unfold eY;rw[hb];rfl)
 |@on i j hkp hj _ ih=>
  have hj2:=(hw.2.2 i hi).2.2 j hj
  have:=ih hj2.2
  refine hc _ _ hi hk ?_
  unfold eY
  rw[hkp,rI.2 ⟨j,hj,this⟩]
  simp
def eM (n:Node) (s:Nat):Bool:=(decide (n.kind=1\/n.kind=3\/n.kind=4\/n.kind=7\/n.kind=8)&&n.a.eA&&decide (n.a.slot=s))||(decide (n.kind=1)&&eB n.op&&n.b.eA&&decide (n.b.slot=s))
def sY (n:Node):Bool:=decide (n.kind=1\/n.kind=2\/n.kind=4)
def fN (n:Node) (s:Nat):Bool:= !sY n||decide (n.slot≠s)
noncomputable def eN (g:br):gx:=oL g eM fN g.cZ.toNat
structure cF where
 kind:Int
 si:Int
 lock:Int
 deriving Inhabited,DecidableEq
def cF.cells (c:cF):List AV:=[u8 c.kind,i64 c.si,i64 c.lock]
abbrev cF.av (c:cF):AV:= .agg c.cells
def ny (cls:List cF) (t:Nat) (v:Nat):Bool:=decide ((cls.getD v default).kind=1)&&decide ((cls.getD v default).si=t)
def gN (cls:List cF) (t:Nat) (n:Node) (v:Nat):Bool:=ny cls t v&&(decide (n.kind=9)||decide (n.kind=5)||(decide (n.kind=2\/n.kind=4)&&decide (n.cT=v)))
def gu (cls:List cF) (t:Nat) (n:Node) (v:Nat):Bool:=ny cls t v&& !(decide (n.kind=3)&&decide (n.cT=v))
noncomputable def kU (g:br) (cls:List cF) (t:Nat):gx:=oL g (gN cls t) (gu cls t) cls.length
end
structure PS (now:List Int) (l:List Int) (s s':HS):Prop where
 k7:s'.bz.length=s.bz.length
 lr:s'.found.length=s.found.length
 iD:∀k:Int,s.f k=true->s'.f k=true/\s'.l k=s.l k
 new:∀k:Int,0<=k->s'.f k=true->s.f k=true\/k∈l
 all:∀k∈l,s'.f k=true/\s'.l k=now
 bare:∀k:Int,0<=k->s'.f k=false->s'.l k=s.l k
 more:∃t,s'.todo=s.todo++t/\(∀k∈t,k∈l/\s'.f k=true)/\(∀k:Int,0<=k->s'.f k=true->s.f k=true\/k∈t)/\s'.found.count false+t.length=s.found.count false
theorem HS.rQ {s:HS} {i:Nat} {L:List (List Int)} {td:List Int} (h:i<s.found.length) (k:Int):HS.f ⟨L,s.found.set i true,td⟩ k=if k.toNat=i then true else s.f k:=kH h k
theorem HS.FQ {s:HS} {i:Nat} {now:List Int} {F:List Bool} {td:List Int} (h:i<s.bz.length) (k:Int):HS.l ⟨s.bz.set i now,F,td⟩ k=if k.toNat=i then now else s.l k:=by
 unfold HS.l
 simp only
 rw[cw]
 by_cases e:i=k.toNat
 ·rw[if_pos ⟨e,h⟩,if_pos e.symm]
 ·rw[if_neg (fun x=>e x.1),if_neg (fun x=>e x.symm)]
theorem nh (now:List Int):∀(l:List Int) (s s':HS),s.bz.length=s.found.length->(∀k∈l,0<=k/\k.toNat<s.found.length)->cp now l s= .inl s'->PS now l s s'
 |[],s,s',_,_,h=>by
  rw[cp] at h;cases h
  exact⟨rfl,rfl,fun _ h=>⟨h,rfl⟩,fun _ _ h=> .inl h,fun _ h=>by simp at h,fun _ _ _=>rfl,[],by simp,fun _ h=>by simp at h,fun _ _ h=> .inl h,by simp⟩
 |k::r,s,s',hl,hr,h=>by
  obtain⟨hk0,hk⟩:=hr k (by simp)
  have hr2:=fun x hx=>hr x (List.mem_cons_of_mem _ hx)
  rw[cp] at h
  by_cases hf:s.f k=false
  ·rw[if_pos hf] at h
   have ih:=nh now r _ s' (by simp[hl]) (fun x hx=>by simpa using hr2 x hx) h
   have fs:=fun x=>HS.rQ (s:=s) (i:=k.toNat) (L:=s.bz.set k.toNat now) (td:=s.todo++[k]) hk x
   have ls:=fun x=>HS.FQ (s:=s) (i:=k.toNat) (now:=now) (F:=s.found.set k.toNat true) (td:=s.todo++[k]) (by rw[hl];exact hk) x
   obtain⟨t,t1,t2,t3,t4⟩:=ih.more
   have hkk:=ih.iD k (by rw[fs,if_pos rfl])
   refine⟨ih.k7.trans (by simp),ih.lr.trans (by simp),fun x hx=> ?_,fun x hx0 hx=> ?_,fun x hx=> ?_,fun x hx0 hx=> ?_,k::t,by rw[t1];simp,fun x hx=> ?_,fun x hx0 hx=> ?_, ?_⟩
   ·have hne:x.toNat≠k.toNat:=fun e=>by unfold HS.f at hx hf;rw[e] at hx;rw[hx] at hf;cases hf
    have:=ih.iD x (by rw[fs,if_neg hne];exact hx)
    rw[ls,if_neg hne] at this
    exact this
   ·rcases ih.new x hx0 hx with h2|h2
    ·rw[fs] at h2
     split at h2
     ·rename_i e;exact .inr (by rw[show x=k by omega];simp)
     ·exact .inl h2
    ·exact .inr (List.mem_cons_of_mem _ h2)
   ·rcases List.mem_cons.1 hx with rfl|hx
    ·rw[ls,if_pos rfl] at hkk;exact hkk
    ·exact ih.all x hx
   ·have hne:x.toNat≠k.toNat:=fun e=>by
     have:=hkk.1
     rw[show k=x by omega,hx] at this;cases this
    have:=ih.bare x hx0 hx
    rw[ls,if_neg hne] at this
    exact this
   ·rcases List.mem_cons.1 hx with rfl|hx
    ·exact⟨by simp,hkk.1⟩
    ·exact⟨List.mem_cons_of_mem _ (t2 x hx).1,(t2 x hx).2⟩
   ·rcases t3 x hx0 hx with h2|h2
    ·rw[fs] at h2
     split at h2
     ·rename_i e;exact .inr (by rw[show x=k by omega];simp)
     ·exact .inl h2
    ·exact .inr (List.mem_cons_of_mem _ h2)
   ·have:=count_set hk hf
    rw[List.length_cons]
    dsimp only at t4
    omega
  ·rw[if_neg hf] at h
   have hkt:s.f k=true:=by simpa using hf
   by_cases hn:s.l k=now
   ·rw[if_pos hn] at h
    have ih:=nh now r s s' hl hr2 h
    obtain⟨t,t1,t2,t3,t4⟩:=ih.more
    refine⟨ih.k7,ih.lr,ih.iD,fun x hx0 hx=>(ih.new x hx0 hx).imp id (List.mem_cons_of_mem _),fun x hx=> ?_,ih.bare,t,t1,fun x hx=>⟨List.mem_cons_of_mem _ (t2 x hx).1,(t2 x hx).2⟩,t3,t4⟩
    rcases List.mem_cons.1 hx with rfl|hx
    ·have:=ih.iD _ hkt;rw[hn] at this;exact this
    ·exact ih.all x hx
   ·rw[if_neg hn] at h;cases h
theorem pT {now:List Int} {lk:Nat->List Int}:∀(l:List Int) (s:HS),s.bz.length=s.found.length->(∀k∈l,0<=k/\k.toNat<s.found.length)->(∀k:Int,0<=k->s.f k=true->s.l k=lk k.toNat)->(∀k∈l,lk k.toNat=now)->
 ∃s',cp now l s= .inl s'/\∀k:Int,0<=k->s'.f k=true->s'.l k=lk k.toNat
 |[],s,_,_,hs,_=>⟨s,rfl,hs⟩
 |k::r,s,hl,hr,hs,hn=>by
  obtain⟨hk0,hk⟩:=hr k (by simp)
  have hr2:=fun x hx=>hr x (List.mem_cons_of_mem _ hx)
  rw[cp]
  by_cases hf:s.f k=false
  ·rw[if_pos hf]
   refine pT r _ (by simp[hl]) (fun x hx=>by simpa using hr2 x hx) (fun x hx0 hx=> ?_) fun x hx=>hn x (List.mem_cons_of_mem _ hx)
   rw[HS.rQ hk] at hx
   rw[HS.FQ (by rw[hl];exact hk)]
   split
   ·rename_i e
    rw[show x=k by omega]
    exact(hn k (by simp)).symm
   ·rename_i e
    rw[if_neg e] at hx
    exact hs x hx0 hx
  ·rw[if_neg hf]
   have hkt:s.f k=true:=by simpa using hf
   rw[if_pos ((hs k hk0 hkt).trans (hn k (by simp)))]
   exact pT r s hl hr2 hs fun x hx=>hn x (List.mem_cons_of_mem _ hx)
structure HI (g:br) (s:HS) (k:Nat):Prop where
 k7:s.bz.length=g.nodes.length
 lr:s.found.length=g.nodes.length
 zero:s.f 0=true
 first:s.l 0=[]
 uz:∀i:Int,0<=i->s.f i=true->fw g (-1) i
 bare:∀i:Int,0<=i->s.f i=false->s.l i=[]
 inr:∀i∈s.todo,0<=i/\i.toNat<g.nodes.length/\s.f i=true
 all:∀i:Int,0<=i->s.f i=true->i∈s.todo
 done:∀j,j<k->j<s.todo.length->∃now,ct (g.nd (s.todo.getD j 0).toNat) (s.l (s.todo.getD j 0))=some now/\∀to∈(g.nd (s.todo.getD j 0).toNat).dQ,s.f to=true/\s.l to=now
 count:s.todo.length+s.found.count false=g.nodes.length
theorem HI.start {g:br} (h:Whole g):HI g (pB g) 0:=by
 have hl:=h.1
 have hf:∀k,HS.f (pB g) k=decide (k.toNat=0):=fun k=>by
  have:=kH (l:=List.replicate g.nodes.length false) (i:=0) (by simp;omega) k
  unfold HS.f pB
  simp only
  unfold iF at this
  rw[this]
  by_cases e:k.toNat=0
  ·simp[e]
  ·rw[if_neg e,decide_eq_false e]
   simp only[List.getD,List.getElem?_replicate];split<;>rfl
 have hk:∀k,HS.l (pB g) k=[]:=fun k=>by
  unfold HS.l pB;simp only[List.getD,List.getElem?_replicate];split<;>rfl
 refine⟨by simp[pB],by simp[pB],by rw[hf];simp,hk 0,fun i h0 hi=> ?_,fun i _ _=>hk i,fun i hi=> ?_,fun i h0 hi=> ?_,fun j hj=>by omega, ?_⟩
 ·rw[hf] at hi
  rw[show i=0 by have:=of_decide_eq_true hi;omega];exact .zero
 ·simp only[pB,List.mem_cons,List.not_mem_nil,or_false] at hi
  subst hi
  exact⟨by omega,by simp;omega,by rw[hf];simp⟩
 ·rw[hf] at hi
  rw[show i=0 by have:=of_decide_eq_true hi;omega];simp[pB]
 ·have:=count_set (l:=List.replicate g.nodes.length false) (i:=0) (by simp;omega) (by simp[List.getD,List.getElem?_replicate];split<;>rfl)
  simp only[List.count_replicate_self] at this
  simp only[pB,List.length_cons,List.length_nil]
  omega
theorem HI.next {g:br} (hw:Whole g) {s s':HS} {k:Nat} (h:HI g s k) (hk:k<s.todo.length) {now:List Int} (hn:ct (g.nd (s.todo.getD k 0).toNat) (s.l (s.todo.getD k 0))=some now) (ht:cp now (g.nd (s.todo.getD k 0).toNat).dQ s= .inl s'):HI g s' (k+1):=by
 have hm:=cE (0:Int) hk
 obtain⟨i1,i2,i3⟩:=h.inr _ hm
 have hfol:=(hw.2.2 _ i2).2.2
 have sp:=nh now _ s s' (by rw[h.k7,h.lr]) (fun x hx=>by rw[h.lr];exact hfol x hx) ht
 obtain⟨t,t1,t2,t3,t4⟩:=sp.more
 have hget:∀j,j<s.todo.length->s'.todo.getD j 0=s.todo.getD j 0:=fun j hj=>by
  rw[t1];simp[List.getD,List.getElem?_append,hj]
 refine⟨sp.k7.trans h.k7,sp.lr.trans h.lr,(sp.iD 0 h.zero).1,(sp.iD 0 h.zero).2.trans h.first,fun i h0 hi=> ?_,fun i h0 hi=> ?_,fun i hi=> ?_,fun i h0 hi=> ?_,fun j hj hjl=> ?_, ?_⟩
 ·rcases sp.new i h0 hi with h1|h1
  ·exact h.uz i h0 h1
  ·exact .step (h.uz _ i1 i3) (by omega) h1
 ·rw[sp.bare i h0 hi]
  refine h.bare i h0 ?_
  cases hq:s.f i with
  |false=>rfl
  |true=>rw[(sp.iD i hq).1] at hi;cases hi
 ·rw[t1] at hi
  rcases List.mem_append.1 hi with hi|hi
  ·obtain⟨a,b,c⟩:=h.inr i hi
   exact⟨a,b,(sp.iD i c).1⟩
  ·have:=hfol i (t2 i hi).1
   exact⟨this.1,this.2,(t2 i hi).2⟩
 ·rw[t1]
  rcases t3 i h0 hi with h1|h1
  ·exact List.mem_append_left _ (h.all i h0 h1)
  ·exact List.mem_append_right _ h1
 ·by_cases hjk:j=k
  ·subst hjk
   rw[hget _ hk]
   refine⟨now, ?_,sp.all⟩
   rw[(sp.iD _ i3).2]
   exact hn
  ·have hj2:j<s.todo.length:=by omega
   rw[hget _ hj2]
   obtain⟨now2,d1,d2⟩:=h.done j (by omega) hj2
   have hjm:=h.inr _ (cE (0:Int) hj2)
   refine⟨now2,by rw[(sp.iD _ hjm.2.2).2];exact d1,fun to hto=> ?_⟩
   obtain⟨e1,e2⟩:=d2 to hto
   rw[(sp.iD _ e1).2]
   exact⟨(sp.iD _ e1).1,e2⟩
 ·have:=h.count
  rw[t1,List.length_append]
  omega
structure yQ (g:br) (lk:Nat->List Int):Prop where
 zero:lk 0=[]
 on:∀i:Int,fw g (-1) i->∃now,ct (g.nd i.toNat) (lk i.toNat)=some now/\∀k∈(g.nd i.toNat).dQ,lk k.toNat=now
theorem HI.fin {g:br} {s:HS} {k:Nat} (hw:Whole g) (h:HI g s k) (hk:s.todo.length<=k):yQ g (fun i=>s.bz.getD i [])/\∀i,i<g.nodes.length->(s.found.getD i false=true↔fw g (-1) i):=by
 have hall:∀i:Int,fw g (-1) i->0<=i/\s.f i=true:=fun i hi=>by
  induction hi with
  |zero=>exact⟨by omega,h.zero⟩
  |@step i j hi _ hj ih=>
   obtain⟨i0,hif⟩:=ih
   have hm:=h.all i i0 hif
   obtain⟨q,hq,e⟩:=List.getElem_of_mem hm
   have e2:s.todo.getD q 0=i:=by simp[List.getD,hq,e]
   obtain⟨now,_,d⟩:=h.done q (by omega) hq
   rw[e2] at d
   have h2:=(hw.2.2 i.toNat (h.inr i hm).2.1).2.2 j hj
   exact⟨h2.1,(d j hj).1⟩
 refine⟨⟨h.first,fun i hi=> ?_⟩,fun i hi=>⟨fun hf=>h.uz i (by omega) hf,fun hc=>(hall i hc).2⟩⟩
 obtain⟨i0,hif⟩:=hall i hi
 have hm:=h.all i i0 hif
 obtain⟨q,hq,e⟩:=List.getElem_of_mem hm
 have e2:s.todo.getD q 0=i:=by simp[List.getD,hq,e]
 obtain⟨now,d1,d⟩:=h.done q (by omega) hq
 rw[e2] at d1 d
 exact⟨now,d1,fun k hk=>(d k hk).2⟩
theorem rl {g:br} (hw:Whole g):∀(f:Nat) (s:HS) (k:Nat),HI g s k->k+f=g.nodes.length+1->(fI g f s k).2<0->(fI g f s k).2=-1/\∃s' k',HI g s' k'/\s'.todo.length<=k'/\(fI g f s k).1=s'.bz
 |0,s,k,h,he,_=>by
  have:=h.count
  exact⟨rfl,s,k,h,by omega,rfl⟩
 |f+1,s,k,h,he,hneg=>by
  rw[fI] at hneg ⊢
  by_cases hk:k<s.todo.length
  ·rw[if_pos hk] at hneg ⊢
   have hm:=(h.inr _ (cE (0:Int) hk))
   cases hn:ct (g.nd (s.todo.getD k 0).toNat) (s.l (s.todo.getD k 0)) with
   |none=>rw[hn] at hneg;simp only at hneg;omega
   |some now=>
    rw[hn] at hneg
    simp only at hneg ⊢
    cases ht:cp now (g.nd (s.todo.getD k 0).toNat).dQ s with
    |inl s'=>
     rw[ht] at hneg
     exact rl hw f s' (k+1) (h.next hw hk hn ht) (by omega) hneg
    |inr a=>
     rw[ht] at hneg
     simp only at hneg
     exfalso
     have hfol:=(hw.2.2 _ hm.2.1).2.2
     have:∀(l:List Int) (s:HS),(∀x∈l,0<=x)->cp now l s= .inr a->0<=a:=by
      intro l
      induction l with
      |nil=>intro s _ h;rw[cp] at h;cases h
      |cons x r ih=>
       intro s hx h
       rw[cp] at h
       split at h
       ·exact ih _ (fun y hy=>hx y (List.mem_cons_of_mem _ hy)) h
       ·split at h
        ·exact ih _ (fun y hy=>hx y (List.mem_cons_of_mem _ hy)) h
        ·cases h;exact hx _ (by simp)
     have:=this _ _ (fun x hx=>(hfol x hx).1) ht
     omega
  ·rw[if_neg hk]
   exact⟨rfl,s,k,h,by omega,rfl⟩
theorem rp {g:br} (hw:Whole g) {lk:Nat->List Int} (hlk:yQ g lk):∀(f:Nat) (s:HS) (k:Nat),HI g s k->(∀i:Int,0<=i->s.f i=true->s.l i=lk i.toNat)->(fI g f s k).2=-1
 |0,s,k,h,_=>rfl
 |f+1,s,k,h,hs=>by
  rw[fI]
  by_cases hk:k<s.todo.length
  ·rw[if_pos hk]
   have hm:=(h.inr _ (cE (0:Int) hk))
   obtain⟨now,d1,d2⟩:=hlk.on _ (h.uz _ hm.1 hm.2.2)
   rw[hs _ hm.1 hm.2.2,d1]
   simp only
   have hfol:=(hw.2.2 _ hm.2.1).2.2
   obtain⟨s',h1,h2⟩:=pT (now:=now) (lk:=lk) _ s (by rw[h.k7,h.lr]) (fun x hx=>by rw[h.lr];exact hfol x hx) hs d2
   rw[h1]
   exact rp hw hlk f s' (k+1) (h.next hw hk (by rw[hs _ hm.1 hm.2.2];exact d1) h1) h2
  ·rw[if_neg hk]
theorem ko {g:br} (hw:Whole g) (h:(cx g).2<0):(cx g).2=-1/\(cx g).1.length=g.nodes.length/\yQ g (fun i=>(cx g).1.getD i [])/\∀i,i<g.nodes.length->¬fw g (-1) i->(cx g).1.getD i []=[]:=by
 obtain⟨h1,s,k,hi,hk,e⟩:=rl hw _ _ _ (HI.start hw) (by omega) h
 refine⟨h1, ?_, ?_,fun i hl hc=> ?_⟩
 ·unfold cx;rw[e];exact hi.k7
 ·unfold cx;rw[e];exact(hi.fin hw hk).1
 ·unfold cx;rw[e]
  have hf:=mt ((hi.fin hw hk).2 i hl).1 hc
  have:=hi.bare i (by omega) (by simpa[HS.f] using hf)
  exact this
theorem FF {g:br} (hw:Whole g) {lk:Nat->List Int} (hlk:yQ g lk):(cx g).2=-1:=by
 refine rp hw hlk _ _ _ (HI.start hw) fun i h0 hf=> ?_
 have hl:=hw.1
 have hz:i.toNat=0:=by
  have:=kH (l:=List.replicate g.nodes.length false) (i:=0) (by simp;omega) i
  unfold HS.f pB at hf
  simp only at hf
  unfold iF at this
  rw[this] at hf
  split at hf
  ·assumption
  ·simp only[List.getD,List.getElem?_replicate] at hf
   split at hf<;>cases hf
 rw[hz,hlk.zero]
 unfold HS.l pB;simp only[List.getD,List.getElem?_replicate];split<;>rfl
end Go.Proofs.YtmonponfppdgfaaGreatDoor
