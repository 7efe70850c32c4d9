import Derived.Test.YtekfmjjmihomlaaGreatDoorM14
import Derived.Test.YtekfmjjmihomlaaGreatDoorM19
import Derived.Test.YtekfmjjmihomlaaGreatDoorM20
import Derived.Test.YtekfmjjmihomlaaGreatDoorM21
import Derived.Test.YtekfmjjmihomlaaGreatDoorM16
import Derived.Test.YtekfmjjmihomlaaGreatDoorRows
import Derived.Test.YtekfmjjmihomlaaGreatDoorTie
import Derived.Test.YtekfmjjmihomlaaGreatDoorCards
import Derived.LaidMore
import Derived.OpenShut
import Derived.SevenTiedAt
namespace Go.Proofs.YtekfmjjmihomlaaGreatDoor
open Go Go.cw Go.Proofs
set_option linter.unusedSimpArgs false
set_option linter.unusedVariables false
abbrev i64 (n:Int):AV:= .sc (.int .i64 n)
abbrev u8 (n:Int):AV:= .sc (.int .u8 n)
abbrev bl (b:Bool):AV:= .sc (.bool b)
abbrev st (s:ByteArray):AV:= .sc (.string s)
def eW (n:Int):Prop:=-9223372036854775808<=n/\n<9223372036854775808
structure kq where
 ee:Bool
 slot:Int
 word:Int
 deriving Inhabited,DecidableEq
def kq.cells (v:kq):List AV:=[bl v.ee,i64 v.slot,i64 v.word]
abbrev kq.av (v:kq):AV:= .agg v.cells
structure kq.Wf (v:kq):Prop where
 slot:eW v.slot
 word:eW v.word
structure Node where
 kind:Int
 op:Int
 slot:Int
 cB:Int
 a:kq
 b:kq
 next:Int
 iu:Int
 origin:Int
 deriving Inhabited,DecidableEq
def Node.cells (n:Node):List AV:=[u8 n.kind,u8 n.op,i64 n.slot,i64 n.cB,bl n.a.ee,i64 n.a.slot,i64 n.a.word,bl n.b.ee,i64 n.b.slot,i64 n.b.word,i64 n.next,i64 n.iu,i64 n.origin]
abbrev Node.av (n:Node):AV:= .agg n.cells
structure Node.Wf (n:Node):Prop where
 kind:0<=n.kind/\n.kind<256
 op:0<=n.op/\n.op<256
 slot:eW n.slot
 cB:eW n.cB
 a:n.a.Wf
 b:n.b.Wf
 next:eW n.next
 iu:eW n.iu
 origin:eW n.origin
structure Decl where
 name:ByteArray
 word:Int
 at_:Int
 deriving Inhabited,DecidableEq
def Decl.cells (d:Decl):List AV:=[st d.name,i64 d.word,i64 d.at_]
abbrev Decl.av (d:Decl):AV:= .agg d.cells
structure Decl.Wf (d:Decl):Prop where
 name:d.name.size<=140737488351232
 word:eW d.word
 at_:eW d.at_
structure bu where
 name:ByteArray
 locals:Int
 bw:Int
 nodes:List Node
 deriving Inhabited,DecidableEq
abbrev gE (l:List Node):AV:= .im 13 .any (l.map Node.av)
def bu.cells (g:bu):List AV:=[st g.name,i64 g.locals,i64 g.bw,gE g.nodes]
abbrev bu.av (g:bu):AV:= .agg g.cells
structure bu.Wf (g:bu):Prop where
 name:g.name.size<=140737488351232
 locals:eW g.locals
 bw:eW g.bw
 nodes:∀n∈g.nodes,n.Wf
 len:g.nodes.length * 88<=140737488351232
structure bq where
 shared:List Decl
 cE:List Decl
 br:List bu
 deriving Inhabited,DecidableEq
abbrev cg (l:List Decl):AV:= .im 3 .any (l.map Decl.av)
abbrev dS (l:List bu):AV:= .im 4 .any (l.map bu.av)
def bq.cells (u:bq):List AV:=[cg u.shared,cg u.cE,dS u.br]
abbrev bq.av (u:bq):AV:= .agg u.cells
structure bq.Wf (u:bq):Prop where
 shared:∀d∈u.shared,d.Wf
 jb:u.shared.length * 32<=140737488351232
 cE:∀d∈u.cE,d.Wf
 lL:u.cE.length * 32<=140737488351232
 br:∀g∈u.br,g.Wf
 nf:u.br.length * 56<=140737488351232
@[simp] theorem YW (n:Nat) (v:kq):cT n v.cells:=by simp[kq.cells,cT,cF]
@[simp] theorem yy (n:Nat) (v:Node):cT n v.cells:=by simp[Node.cells,cT,cF]
@[simp] theorem XN (n:Nat) (v:Decl):cT n v.cells:=by simp[Decl.cells,cT,cF]
@[simp] theorem WZ (n:Nat) (v:bu):cT n v.cells:=by simp[bu.cells,cT,cF,cI]
@[simp] theorem MD (n:Nat) (v:bq):cT n v.cells:=by simp[bq.cells,cT,cF,cI]
abbrev bu.nd (g:bu) (i:Nat):Node:=g.nodes.getD i default
abbrev bq.gr (u:bq) (t:Nat):bu:=u.br.getD t default
theorem wP {α β:Type} (f:α->β) (l:List α) (i:Nat) (a:α):(l.map f).getD i (f a)=f (l.getD i a):=by
 simp only[List.getD,List.getElem?_map]
 cases l[i]?<;>rfl
theorem VN {l:List bu} {i:Nat}:(l.map bu.av).getD i (bu.av default)=(l.getD i default).av:=wP _ _ _ _
theorem LX {l:List Decl} {i:Nat}:(l.map Decl.av).getD i (Decl.av default)=(l.getD i default).av:=wP _ _ _ _
theorem dZ {a b:Bool} (h:a=b):AV.sc (.bool a)=bl b:=by rw[h]
theorem cR {α:Type} {l:List α} {j:Nat} (d:α) (h:j<l.length):l.getD j d∈l:=by
 simp only[List.getD,List.getElem?_eq_getElem h,Option.getD_some];exact List.getElem_mem h
end Go.Proofs.YtekfmjjmihomlaaGreatDoor
namespace Go.Proofs.YtekfmjjmihomlaaGreatDoor
open Go Go.cw Go.Proofs Go.RowKit Go.ChangeShapes Go.WideShapes Go.ChangeAt
set_option linter.unusedSimpArgs false
set_option linter.unusedVariables false
theorem own:ownKnob Tryz.prog.godebug=none:=by kernel_rfl
theorem laidOut:laidOutB Tryz.prog=true:=by kernel_rfl
theorem O8 {n:Int} (h:(Lit.int .i64 n).wf=true):eW n:=by
 simp only[Lit.wf,Bool.and_eq_true,decide_eq_true_eq] at h
 have e1:IntKind.i64.min=-9223372036854775808:=by decide
 have e2:IntKind.i64.max=9223372036854775807:=by decide
 unfold eW
 omega
theorem GQ {n:Int} (h:(Lit.int .u8 n).wf=true):0<=n/\n<256:=by
 simp only[Lit.wf,Bool.and_eq_true,decide_eq_true_eq] at h
 have e1:IntKind.u8.min=0:=by decide
 have e2:IntKind.u8.max=255:=by decide
 omega
theorem eY {t:TypeId} (ht:Tryz.prog.underlying t=some (.int .i64)):eu Tryz.prog t (fun n:Int=>[i64 n]) eW:=(rD ht).map (fun n=>n) (fun _ _=>rfl) fun _ h=>O8 h
theorem wh:eu Tryz.prog 49 kq.cells kq.Wf:=by
 refine eu.map (α:=Bool×Int×Int×Unit) (fun p=>(⟨p.1,p.2.1,p.2.2.1⟩:kq))
  (iR (k:=3) Tryz.underlying49 (by kernel_rfl) (cx (k:=1) rfl (by kernel_rfl) (EI Tryz.underlying4) (cx (k:=1) rfl (by kernel_rfl) (eY Tryz.underlying3) (cx (k:=1) rfl (by kernel_rfl) (eY Tryz.underlying2) jq)))) ?_ ?_
 ·intro a _;rfl
 ·intro a h;exact⟨h.2.1,h.2.2.1⟩
theorem EK:eu Tryz.prog 51 Node.cells Node.Wf:=by
 refine eu.map (α:=Int×Int×Int×Int×kq×kq×Int×Int×Int×Unit) (fun p=>(⟨p.1,p.2.1,p.2.2.1,p.2.2.2.1,p.2.2.2.2.1,p.2.2.2.2.2.1,p.2.2.2.2.2.2.1,p.2.2.2.2.2.2.2.1,p.2.2.2.2.2.2.2.2.1⟩:Node))
  (iR (k:=13) Tryz.underlying51 (by kernel_rfl) (cx (k:=1) rfl (by kernel_rfl) (rD Tryz.underlying46) (cx (k:=1) rfl (by kernel_rfl) (rD Tryz.underlying47) (cx (k:=1) rfl (by kernel_rfl) (eY Tryz.underlying3) (cx (k:=1) rfl (by kernel_rfl) (eY Tryz.underlying3) (cx (k:=3) rfl (by kernel_rfl) wh (cx (k:=3) rfl (by kernel_rfl) wh (cx (k:=1) rfl (by kernel_rfl) (eY Tryz.underlying3) (cx (k:=1) rfl (by kernel_rfl) (eY Tryz.underlying3) (cx (k:=1) rfl (by kernel_rfl) (eY Tryz.underlying3) jq)))))))))) ?_ ?_
 ·intro a _;rfl
 ·intro a h
  obtain⟨h1,h2,h3,h4,h5,h6,h7,h8,h9,_⟩:=h
  exact⟨GQ h1,GQ h2,h3,h4,h5,h6,h7,h8,h9⟩
theorem EJ:eu Tryz.prog 79 Decl.cells Decl.Wf:=by
 refine eu.map (α:=ByteArray×Int×Int×Unit) (fun p=>(⟨p.1,p.2.1,p.2.2.1⟩:Decl))
  (iR (k:=3) Tryz.underlying79 (by kernel_rfl) (cx (k:=1) rfl (by kernel_rfl) (qH Tryz.underlying9) (cx (k:=1) rfl (by kernel_rfl) (eY Tryz.underlying2) (cx (k:=1) rfl (by kernel_rfl) (eY Tryz.underlying3) jq)))) ?_ ?_
 ·intro a _;rfl
 ·intro a h;exact⟨h.1,h.2.1,h.2.2.1⟩
theorem rz:eu Tryz.prog 22 (fun l:List Decl=>[cg l]) (fun l=>(∀x∈l,x.Wf)/\l.length * 32<=140737488351232):=by
 have hb:Tryz.prog.bytesOf 79=32:=by kernel_rfl
 refine(nE (ag:=true) (sz:=3) .any Tryz.underlying22 (by kernel_rfl) (by omega) EJ (fun _=>rfl) (fun _ _=>rfl) (fun h=>by cases h)).map (fun l=>l) (fun _ _=>rfl) ?_
 rintro l ⟨h1,h2⟩
 rw[hb] at h2
 exact⟨h1,h2⟩
abbrev zf:List (String×DataW Unit):=[("math/bits.deBruijn32tab",Rows.laid_math_bits_deBruijn32tab)]
def CB:List Nat:=[0,1,28,2,29,14,24,3,30,22,20,15,25,17,4,8,31,27,13,23,21,19,16,7,26,12,18,6,11,5,10,9]
theorem ZB:Tryz.prog.globalNamed "math/bits.deBruijn32tab" =some 0:=by kernel_rfl
theorem ZN:(Tryz.prog.globals[0]?).map (·.type)=some 237:=by kernel_rfl
theorem L0 (os:Os) (args:Array Value):laidMetH Tryz.prog zf ((World.doorLaid Tryz.prog 400 os).forCall (fun _ _=>0) ⟨#[],args,[]⟩).memory:=
 laidMetH_of_parts3 (fuel:=8) (laidMet_of_run' 8 (by kernel_rfl) (by kernel_rfl)) (by kernel_rfl) (by kernel_rfl)
theorem S3 {W:World} (h:laidMetH Tryz.prog zf W):yW W emp:=by
 rw[MakeChecks.laidMetH_plain _ _ _ (by kernel_rfl)] at h
 obtain⟨ps,⟨g0,t0,cs0,f0,p0,q0,hg0,ht0,hv0,hd0,_⟩,_,_⟩:=h
 obtain rfl:=Option.some.inj (ZB.symm.trans hg0)
 obtain rfl:=Option.some.inj (ZN.symm.trans ht0)
 obtain⟨xs,m1,rfl,hx1,hlen,hn3,hel⟩:=DataW.trod_array Tryz.underlying237 hd0
 have c5:Tryz.prog.cellsOf 5=1:=by kernel_rfl
 simp only[Prod.mk.injEq] at hx1
 obtain⟨hx1,_⟩:=hx1
 have hx2:xs.map (·.1)=CB.map fun n:Nat=>DataW.lit (Lit.int .u8 (n:Int)):=by
  have h9:(DataW.agg (CB.map fun n:Nat=>DataW.lit (Lit.int .u8 (n:Int))):DataW Unit)= .agg (xs.map (·.1)):=hx1
  exact(DataW.agg.inj h9).symm
 have key:∀j,j<32->W.cell? ⟨0,j,none⟩=some (.int .u8 (([0,1,28,2,29,14,24,3,30,22,20,15,25,17,4,8,31,27,13,23,21,19,16,7,26,12,18,6,11,5,10,9]:List Nat).getD j 0)):=by
  intro j hj
  have hjx:j<xs.length:=by omega
  have h0:=hel j hj
  rw[List.getElem?_eq_getElem hjx,c5] at h0
  obtain⟨k,e1,e2,_⟩:=DataW.trod_int Tryz.underlying5 h0
  have hc:=World.var?_cell hg0 hv0 j
  have zV:cs0.toList[j]?=some (.int .u8 k):=by
   have:((cs0.toList.drop (j * 1)).take 1)[0]?=some (.int .u8 k):=by rw[e1];rfl
   simpa[List.getElem?_take,List.getElem?_drop] using this
  rw[hc,<-Array.getElem?_toList,zV]
  have hxj:(xs.map (·.1))[j]?=some (.lit (.int .u8 k)):=by
   rw[List.getElem?_map,List.getElem?_eq_getElem hjx,e2];rfl
  have htl:CB.length=32:=rfl
  rw[hx2,List.getElem?_map,List.getElem?_eq_getElem (by omega)] at hxj
  simp only[Option.map_some,Option.some.injEq,DataW.lit.injEq,Lit.int.injEq,true_and] at hxj
  rw[<-hxj,List.getD,List.getElem?_eq_getElem (by omega)];rfl
 refine⟨fun _ h=>h.elim,fun t ht=> ?_⟩
 have ht:t=(0,CB):=by simpa[WK,CB] using ht
 subst ht
 refine⟨fun h=>h.elim,World.block_lt_of_cell? W ⟨0,0,none⟩ (key 0 (by omega)),fun j hj=>key j hj⟩
theorem vX:eu Tryz.prog 43 (fun l:List Node=>[gE l]) (fun l=>(∀x∈l,x.Wf)/\l.length * 96<=140737488351232):=by
 have hb:Tryz.prog.bytesOf 51=96:=by kernel_rfl
 refine(nE (ag:=true) (sz:=13) .any Tryz.underlying43 (by kernel_rfl) (by omega) EK (fun _=>rfl) (fun _ _=>rfl) (fun h=>by cases h)).map (fun l=>l) (fun _ _=>rfl) ?_
 rintro l ⟨h1,h2⟩
 rw[hb] at h2
 exact⟨h1,h2⟩
def bu.Fit (g:bu):Prop:=g.Wf/\g.nodes.length * 96<=140737488351232
def bq.Fit (u:bq):Prop:=u.Wf/\∀g∈u.br,g.nodes.length * 96<=140737488351232
theorem vW:eu Tryz.prog 45 bu.cells bu.Fit:=by
 refine eu.map (α:=ByteArray×Int×Int×List Node×Unit) (fun p=>(⟨p.1,p.2.1,p.2.2.1,p.2.2.2.1⟩:bu))
  (iR (k:=4) Tryz.underlying45 (by kernel_rfl) (cx (k:=1) rfl (by kernel_rfl) (qH Tryz.underlying9) (cx (k:=1) rfl (by kernel_rfl) (eY Tryz.underlying3) (cx (k:=1) rfl (by kernel_rfl) (eY Tryz.underlying3) (cx (k:=1) rfl (by kernel_rfl) vX jq))))) ?_ ?_
 ·intro a _;rfl
 ·intro a h
  obtain⟨h1,h2,h3,⟨h4,h5⟩,_⟩:=h
  exact⟨⟨h1,h2,h3,h4,Nat.le_trans (Nat.mul_le_mul_left _ (by omega)) h5⟩,h5⟩
theorem u5:eu Tryz.prog 23 (fun l:List bu=>[dS l]) (fun l=>(∀x∈l,x.Fit)/\l.length * 56<=140737488351232):=by
 have hb:Tryz.prog.bytesOf 45=56:=by kernel_rfl
 refine(nE (ag:=true) (sz:=4) .any Tryz.underlying23 (by kernel_rfl) (by omega) vW (fun _=>rfl) (fun _ _=>rfl) (fun h=>by cases h)).map (fun l=>l) (fun _ _=>rfl) ?_
 rintro l ⟨h1,h2⟩
 rw[hb] at h2
 exact⟨h1,h2⟩
theorem xy:eu Tryz.prog 25 bq.cells bq.Fit:=by
 refine eu.map (α:=List Decl×List Decl×List bu×Unit) (fun p=>(⟨p.1,p.2.1,p.2.2.1⟩:bq))
  (iR (k:=3) Tryz.underlying25 (by kernel_rfl) (cx (k:=1) rfl (by kernel_rfl) rz (cx (k:=1) rfl (by kernel_rfl) rz (cx (k:=1) rfl (by kernel_rfl) u5 jq)))) ?_ ?_
 ·intro a _;rfl
 ·intro a h
  obtain⟨⟨h1,h2⟩,⟨h3,h4⟩,⟨h5,h6⟩,_⟩:=h
  exact⟨⟨h1,h2,h3,h4,fun g hg=>(h5 g hg).1,h6⟩,fun g hg=>(h5 g hg).2⟩
end Go.Proofs.YtekfmjjmihomlaaGreatDoor
namespace Go.Proofs.YtekfmjjmihomlaaGreatDoor
open Go Go.cw Go.Proofs
set_option linter.unusedSimpArgs false
set_option linter.unusedVariables false
def Node.iA (n:Node):List Int:=if n.kind=9 then[] else if n.kind=8 then[n.next,n.iu] else[n.next]
def Node.fold (n:Node):List Int:=if n.kind=9 then[] else if n.kind=8/\n.iu≠n.next then[n.next,n.iu] else[n.next]
def gJ {α:Type} (p:α->Bool):List α->Nat->Option Nat
 |[],_=>none
 |x::r,i=>if p x=true then gJ p r (i+1) else some i
theorem zG {α:Type} (p:α->Bool) (l:List α) (d:α) {i:Nat} (h:i<l.length):gJ p (l.drop i) i=if p (l.getD i d)=true then gJ p (l.drop (i+1)) (i+1) else some i:=by
 rw[List.drop_eq_getElem_cons h,gJ]
 simp[List.getD,h]
theorem DM {α:Type} (p:α->Bool) (l:List α) {i:Nat} (h:l.length<=i):gJ p (l.drop i) i=none:=by
 rw[List.drop_eq_nil_of_le h,gJ]
def dY (op:Int):Bool:=decide (1<=op)&&decide (op<=16)
def gQ (k:Int):Bool:=decide (k=1\/k=2\/k=4)
def fD (k:Int):Bool:=decide (k=2\/k=3\/k=4\/k=5\/k=6)
def oT (k:Int):Bool:=decide (k=1\/k=3\/k=4\/k=7\/k=8)
def fK (k:Int):Bool:=decide (1<=k/\k<=8)
def sU (v:kq) (used:Bool) (bw:Int):Bool:=if used=true then(if v.ee=true then decide (0<=v.slot)&&decide (v.slot<bw)&&decide (v.word=0) else decide (v.slot=0)) else decide (v=default)
def rC (n:Int) (used:Bool) (most:Int):Bool:=if used=true then decide (0<=n)&&decide (n<most) else decide (n=0)
def nB (u:bq) (g:bu) (n:Node):Bool:=
 decide (1<=n.kind/\n.kind<10/\0<=n.origin/\n.origin<4096)&&(if n.kind=1 then decide (n.op<19) else decide (n.op=0))&&
 rC n.slot (gQ n.kind) g.bw&&rC n.cB (fD n.kind) (if n.kind=5\/n.kind=6 then u.cE.length else u.shared.length)&&sU n.a (oT n.kind) g.bw&&sU n.b (decide (n.kind=1)&&dY n.op) g.bw&&rC n.next (fK n.kind) g.nodes.length&&rC n.iu (decide (n.kind=8)) g.nodes.length
def uq (m:Nat) (n:Node):Bool:=decide (1<=n.kind)&&decide (n.kind<10)&&n.iA.all fun k=>decide (0<=k)&&decide (k<m)
def mH (g:bu):Bool:=decide (1<=g.nodes.length)&&decide (g.nodes.length<=4096)&&g.nodes.all (uq g.nodes.length)
structure HS where
 cE:List (List Int)
 found:List Bool
 todo:List Int
def HS.l (s:HS) (k:Int):List Int:=s.cE.getD k.toNat []
def HS.f (s:HS) (k:Int):Bool:=s.found.getD k.toNat false
def eK (n:Node) (l:List Int):Option (List Int):=
 if n.kind=5 then some (l++[n.cB]) else if n.kind=6 then(if l≠[]/\l.getLast?=some n.cB then some l.dropLast else none) else if n.kind=9 then(if l=[] then some l else none) else some l
def dV (now:List Int):List Int->HS->HS ⊕ Int
 |[],s=> .inl s
 |k::r,s=>if s.f k=false then dV now r ⟨s.cE.set k.toNat now,s.found.set k.toNat true,s.todo++[k]⟩ else if s.l k=now then dV now r s else .inr k
def fX (g:bu):Nat->HS->Nat->List (List Int)×Int
 |0,s,_=>(s.cE,-1)
 |f+1,s,k=>if k<s.todo.length then(match eK (g.nd (s.todo.getD k 0).toNat) (s.l (s.todo.getD k 0)) with
  |none=>([],s.todo.getD k 0)
  |some now=>match dV now (g.nd (s.todo.getD k 0).toNat).iA s with
   | .inl s'=>fX g f s' (k+1)
   | .inr at_=>([],at_)) else(s.cE,-1)
def kg (g:bu):HS:=⟨List.replicate g.nodes.length [],(List.replicate g.nodes.length false).set 0 true,[0]⟩
def eP (g:bu):List (List Int)×Int:=fX g (g.nodes.length+1) (kg g) 0
def oi (u:bq) (g:bu):Option Int:=
 if g.locals<0\/g.locals>64\/g.bw<g.locals\/g.bw>4160\/g.nodes.length<1\/g.nodes.length>4096 then some 0 else
 match gJ (nB u g) g.nodes 0 with
 |some i=>some (i:Int)
 |none=>if 0<=(eP g).2 then some (eP g).2 else none
def ft (u:bq):List bu->Nat->Int×Int×Int
 |[],_=>(0,0,0)
 |g::r,t=>match oi u g with
  |some k=>(60,t,k)
  |none=>ft u r (t+1)
section
theorem IP {α:Type} (F:List Int->α) (n:Node) (h:∀a,F [a,a]=F [a]):F n.fold=F n.iA:=by
 unfold Node.fold Node.iA
 by_cases h9:n.kind=9
 ·rw[if_pos h9,if_pos h9]
 ·rw[if_neg h9,if_neg h9]
  by_cases h8:n.kind=8
  ·rw[if_pos h8]
   by_cases he:n.iu=n.next
   ·rw[if_neg (fun h=>h.2 he),he,h]
   ·rw[if_pos ⟨h8,he⟩]
  ·rw[if_neg h8,if_neg (fun h=>h8 h.1)]
abbrev ji (out:List Bool) (k:Int):Bool:=out.getD k.toNat false
def kb:List Int->List Bool×List Int->List Bool×List Int
 |[],s=>s
 |k::r,s=>if ji s.1 k=false then kb r (s.1.set k.toNat true,s.2++[k]) else kb r s
theorem FD (a:Int) (s:List Bool×List Int) (h:a.toNat<s.1.length):kb [a,a] s=kb [a] s:=by
 simp only[kb]
 by_cases h1:ji s.1 a=false
 ·rw[if_pos h1,if_pos h1,if_neg (by simp[ji,List.getD,h])]
 ·simp only[if_neg h1]
structure UY (l:List Int) (s s':List Bool×List Int):Prop where
 len:s'.1.length=s.1.length
 gW:∀k,ji s.1 k=true->ji s'.1 k=true
 new:∀k,0<=k->ji s'.1 k=true->ji s.1 k=true\/k∈l
 all:∀k∈l,ji s'.1 k=true
 more:∃t,s'.2=s.2++t/\(∀k∈t,k∈l/\ji s'.1 k=true)/\(∀k,0<=k->ji s'.1 k=true->ji s.1 k=true\/k∈t)/\s'.1.count false+t.length=s.1.count false
theorem count_set {l:List Bool} {i:Nat} (h:i<l.length) (hf:l.getD i false=false):(l.set i true).count false+1=l.count false:=by
 have h1:l[i]=false:=by simpa[List.getD,h] using hf
 rw[List.count_set h,h1]
 have:0<l.count false:=List.count_pos_iff.2 (h1▸List.getElem_mem h)
 simp
 omega
theorem kD {l:List Bool} {i:Nat} (h:i<l.length) (k:Int):ji (l.set i true) k=if k.toNat=i then true else ji l k:=by
 unfold ji
 simp only[List.getD,List.getElem?_set]
 by_cases hk:k.toNat=i
 ·rw[if_pos hk.symm,if_pos hk];simp[h]
 ·rw[if_neg (fun e=>hk e.symm),if_neg hk]
theorem kP:∀(l:List Int) (s:List Bool×List Int),(∀k∈l,0<=k/\k.toNat<s.1.length)->UY l s (kb l s)
 |[],s,_=>⟨rfl,fun _ h=>h,fun _ _ h=> .inl h,fun _ h=>by simp at h,[],by simp[kb],fun _ h=>by simp at h,fun _ _ h=> .inl h,by simp[kb]⟩
 |k::r,s,h=>by
  obtain⟨hk0,hk⟩:=h k (by simp)
  have hr:=fun x hx=>h x (List.mem_cons_of_mem _ hx)
  rw[kb]
  by_cases h1:ji s.1 k=false
  ·rw[if_pos h1]
   have ih:=kP r (s.1.set k.toNat true,s.2++[k]) (fun x hx=>by simpa using hr x hx)
   have hset:=kD (l:=s.1) hk
   obtain⟨t,t1,t2,t3,t4⟩:=ih.more
   have hkk:ji (kb r (s.1.set k.toNat true,s.2++[k])).1 k=true:=ih.gW k (by rw[hset,if_pos rfl])
   refine⟨ih.len.trans (by simp),fun x hx=>ih.gW x (by rw[hset];split<;>first|rfl|exact hx),fun x hx0 hx=> ?_,fun x hx=> ?_,k::t,by rw[t1];simp,fun x hx=> ?_,fun x hx0 hx=> ?_, ?_⟩
   ·rcases ih.new x hx0 hx with h2|h2
    ·rw[hset] at h2
     split at h2
     ·rename_i e;exact .inr (by rw[show x=k by omega];simp)
     ·exact .inl h2
    ·exact .inr (List.mem_cons_of_mem _ h2)
   ·rcases List.mem_cons.1 hx with rfl|hx
    ·exact hkk
    ·exact ih.all x hx
   ·rcases List.mem_cons.1 hx with rfl|hx
    ·exact⟨by simp,hkk⟩
    ·exact⟨List.mem_cons_of_mem _ (t2 x hx).1,(t2 x hx).2⟩
   ·rcases t3 x hx0 hx with h2|h2
    ·rw[hset] at h2
     split at h2
     ·rename_i e;exact .inr (by rw[show x=k by omega];simp)
     ·exact .inl h2
    ·exact .inr (List.mem_cons_of_mem _ h2)
   ·have:=count_set hk h1
    rw[List.length_cons]
    dsimp only at t4
    omega
  ·rw[if_neg h1]
   have hkt:ji s.1 k=true:=by simpa using h1
   have ih:=kP r s hr
   obtain⟨t,t1,t2,t3,t4⟩:=ih.more
   refine⟨ih.len,ih.gW,fun x hx0 hx=>(ih.new x hx0 hx).imp id (List.mem_cons_of_mem _),fun x hx=> ?_,t,t1,fun x hx=>⟨List.mem_cons_of_mem _ (t2 x hx).1,(t2 x hx).2⟩,t3,t4⟩
   rcases List.mem_cons.1 hx with rfl|hx
   ·exact ih.gW _ hkt
   ·exact ih.all x hx
inductive e8 (g:bu) (cut:Int):Int->Prop where
 |zero:e8 g cut 0
 |step {i k:Int}:e8 g cut i->i≠cut->k∈(g.nd i.toNat).iA->e8 g cut k
structure mJ (g:bu) (cut:Int) (out:List Bool) (pend:List Int):Prop where
 len:out.length=g.nodes.length
 zero:ji out 0=true
 pZ:∀k,0<=k->ji out k=true->e8 g cut k
 inr:∀k∈pend,0<=k/\k.toNat<out.length/\ji out k=true
 done:∀k,0<=k->k.toNat<out.length->ji out k=true->k∉pend->k≠cut->∀j∈(g.nd k.toNat).iA,ji out j=true
open Classical in
noncomputable def dW (g:bu) (cut:Int):List Bool:=(List.range g.nodes.length).map fun(i:Nat)=>decide (e8 g cut (i:Int))
theorem fy (g:bu) (cut:Int):(dW g cut).length=g.nodes.length:=by simp[dW]
theorem pC (g:bu) (cut:Int) {i:Nat} (h:i<g.nodes.length):(dW g cut).getD i false=true↔e8 g cut i:=by simp[dW,List.getD,h]
def Whole (g:bu):Prop:=1<=g.nodes.length/\g.nodes.length<=4096/\∀i,i<g.nodes.length->1<=(g.nd i).kind/\(g.nd i).kind<10/\∀k∈(g.nd i).iA,0<=k/\k.toNat<g.nodes.length
theorem KQ {g:bu}:mH g=true↔Whole g:=by
 unfold mH Whole uq
 simp only[Bool.and_eq_true,decide_eq_true_eq,List.all_eq_true,and_assoc]
 refine and_congr Iff.rfl (and_congr Iff.rfl ⟨fun h i hi=> ?_,fun h n hn=> ?_⟩)
 ·have:=h (g.nd i) (cR _ hi)
  exact⟨this.1,this.2.1,fun k hk=>by have:=this.2.2 k hk;omega⟩
 ·obtain⟨i,hi,rfl⟩:=List.getElem_of_mem hn
  have:=h i hi
  rw[show g.nd i=g.nodes[i] by simp[List.getD,hi]] at this
  exact⟨this.1,this.2.1,fun k hk=>by have:=this.2.2 k hk;omega⟩
theorem mJ.start {g:bu} {cut:Int} (h:Whole g):mJ g cut ((List.replicate g.nodes.length false).set 0 true) [0]:=by
 have hl:=h.1
 have hz:∀k,ji ((List.replicate g.nodes.length false).set 0 true) k=true->k.toNat=0:=fun k hk=>by
  rw[kD (by simp;omega)] at hk
  split at hk
  ·assumption
  ·simp only[ji,List.getD,List.getElem?_replicate] at hk
   split at hk<;>simp at hk
 refine⟨by simp,by rw[kD (by simp;omega)];simp,fun k h0 hk=> ?_,fun k hk=> ?_,fun k h0 h1 hk hn=> ?_⟩
 ·rw[show k=0 by have:=hz k hk;omega];exact .zero
 ·simp only[List.mem_cons,List.not_mem_nil,or_false] at hk
  subst hk
  exact⟨by omega,by simp;omega,by rw[kD (by simp;omega)];simp⟩
 ·exact absurd (by rw[show k=0 by have:=hz k hk;omega];simp) hn
theorem mJ.on {g:bu} {cut:Int} (h:Whole g) {out:List Bool} {pend:List Int} {at_:Int} {a b:List Int} (hp:pend=a++at_::b) (hg:mJ g cut out pend) (hc:at_≠cut) {t:List Int} {s:List Bool×List Int} (hs:kb (g.nd at_.toNat).iA (out,t)=s) {t2:List Int} (ht2:s.2=t++t2):mJ g cut s.1 (a++b++t2):=by
 obtain⟨i1,i2,i3⟩:=hg.inr at_ (by rw[hp];simp)
 have hfol:=(h.2.2 at_.toNat (by rw[<-hg.len];exact i2)).2.2
 have sp:=kP (g.nd at_.toNat).iA (out,t) (fun k hk=>by have:=hfol k hk;rw[<-hg.len] at this;exact this)
 rw[hs] at sp
 obtain⟨t3,e1,e2,e3,e4⟩:=sp.more
 have:t2=t3:=by rw[ht2] at e1;exact List.append_cancel_left e1
 subst this
 have hl:s.1.length=out.length:=sp.len
 refine⟨hl.trans hg.len,sp.gW _ hg.zero,fun k h0 hk=> ?_,fun k hk=> ?_,fun k h0 h1 hk hn hkc j hj=> ?_⟩
 ·rcases sp.new k h0 hk with h1|h1
  ·exact hg.pZ k h0 h1
  ·exact .step (hg.pZ at_ i1 i3) hc h1
 ·rcases List.mem_append.1 hk with hk|hk
  ·have h1:=hg.inr k (by rw[hp];rcases List.mem_append.1 hk with h|h<;>simp[h])
   exact⟨h1.1,by rw[hl];exact h1.2.1,sp.gW _ h1.2.2⟩
  ·have h1:=hfol k (e2 k hk).1
   exact⟨h1.1,by rw[hl,hg.len];exact h1.2,(e2 k hk).2⟩
 ·by_cases hka:k=at_
  ·subst hka;exact sp.all j hj
  ·rcases e3 k h0 hk with h2|h2
   ·refine sp.gW _ (hg.done k h0 (by rw[<-hl];exact h1) h2 (fun hm=> ?_) hkc j hj)
    rw[hp] at hm
    simp only[List.mem_append,List.mem_cons] at hm
    rcases hm with hm|hm|hm
    ·exact hn (by simp[hm])
    ·exact hka hm
    ·exact hn (by simp[hm])
   ·exact absurd (List.mem_append_right _ h2) hn
theorem mJ.cut {g:bu} {cut:Int} {out:List Bool} {pend a b:List Int} (hp:pend=a++cut::b) (hg:mJ g cut out pend):mJ g cut out (a++b):=by
 refine⟨hg.len,hg.zero,hg.pZ,fun k hk=>hg.inr k (by rw[hp];rcases List.mem_append.1 hk with h|h<;>simp[h]),fun k h0 h1 hk hn hkc=>hg.done k h0 h1 hk (fun hm=> ?_) hkc⟩
 rw[hp] at hm
 simp only[List.mem_append,List.mem_cons] at hm
 rcases hm with hm|hm|hm
 ·exact hn (by simp[hm])
 ·exact hkc hm
 ·exact hn (by simp[hm])
theorem mJ.fin {g:bu} {cut:Int} (h:Whole g) {out:List Bool} (hg:mJ g cut out []):out=dW g cut:=by
 have hall:∀k,e8 g cut k->0<=k/\k.toNat<g.nodes.length/\ji out k=true:=fun k hk=>by
  induction hk with
  |zero=>exact⟨by omega,by have:=h.1;simp;omega,hg.zero⟩
  |@step i k hi hc hk ih=>
   obtain⟨i1,i2,i3⟩:=ih
   have h1:=(h.2.2 i.toNat i2).2.2 k hk
   exact⟨h1.1,h1.2,hg.done i i1 (by rw[hg.len];exact i2) i3 (by simp) hc k hk⟩
 apply List.ext_getElem
 ·rw[hg.len,fy]
 ·intro i h1 h2
  have hi:i<g.nodes.length:=by rw[<-hg.len];exact h1
  have e1:out[i]=ji out (i:Int):=by simp[ji,List.getD,h1]
  have e2:(dW g cut)[i]=(dW g cut).getD i false:=by simp[List.getD,h2]
  rw[e1,e2,Bool.eq_iff_iff,pC g cut hi]
  exact⟨fun hf=>hg.pZ _ (by omega) hf,fun hf=>(hall _ hf).2.2⟩
end
section
abbrev jw:=List (List Bool)
def fg (T:jw) (i k:Nat):Bool:=(T.getD i []).getD k false
def mT (T:jw) (i k:Nat):jw:=T.set i ((T.getD i []).set k true)
def iw (T:jw):Nat:=(T.map (·.count false)).sum
structure Shape (T:jw) (m n:Nat):Prop where
 len:T.length=m
 row:∀i,i<m->(T.getD i []).length=n
theorem ct {α:Type} (l:List α) (i j:Nat) (v d:α):(l.set i v).getD j d=if i=j/\i<l.length then v else l.getD j d:=by
 simp only[List.getD,List.getElem?_set]
 by_cases h:i=j
 ·subst h
  by_cases h2:i<l.length
  ·simp[h2]
  ·simp[h2]
 ·simp[h]
theorem QO {T:jw} {m n i k:Nat} (h:Shape T m n) (hi:i<m) (hk:k<n) (i' k':Nat):fg (mT T i k) i' k'=if i=i'/\k=k' then true else fg T i' k':=by
 unfold fg mT
 rw[ct]
 by_cases h1:i=i'
 ·subst h1
  rw[if_pos ⟨rfl,by rw[h.len];exact hi⟩,ct]
  by_cases h2:k=k'
  ·subst h2;rw[if_pos ⟨rfl,by rw[h.row i hi];exact hk⟩,if_pos ⟨rfl,rfl⟩]
  ·rw[if_neg (fun h=>h2 h.1),if_neg (fun h=>h2 h.2)]
 ·rw[if_neg (fun h=>h1 h.1),if_neg (fun h=>h1 h.1)]
theorem Shape.set {T:jw} {m n:Nat} (h:Shape T m n) (i k:Nat):Shape (mT T i k) m n:=by
 refine⟨by simp[mT,h.len],fun j hj=> ?_⟩
 unfold mT
 rw[ct]
 split
 ·rename_i e;rw[List.length_set,e.1];exact h.row j hj
 ·exact h.row j hj
theorem HA:∀{l:List Nat} {i:Nat} (_:i<l.length) (x:Nat),(l.set i x).sum+l.getD i 0=l.sum+x
 |[],i,h,_=>absurd h (by simp)
 |a::l,0,_,x=>by simp;omega
 |a::l,i+1,h,x=>by
  have:=HA (l:=l) (i:=i) (by simpa using h) x
  simp only[List.set_cons_succ,List.sum_cons,List.getD_cons_succ]
  omega
theorem tc {T:jw} {m n i k:Nat} (h:Shape T m n) (hi:i<m) (hk:k<n) (hf:fg T i k=false):iw (mT T i k)+1=iw T:=by
 have h1:=count_set (l:=T.getD i []) (i:=k) (by rw[h.row i hi];exact hk) hf
 have hil:i<T.length:=by rw[h.len];exact hi
 unfold iw mT
 rw[List.map_set]
 have h2:=HA (l:=T.map (·.count false)) (i:=i) (by simpa using hil) (((T.getD i []).set k true).count false)
 have h3:(T.map (·.count false)).getD i 0=(T.getD i []).count false:=by
  simp[List.getD,hil]
 rw[h3] at h2
 omega
inductive Q7 (g:bu) (beg keep:Node->Nat->Bool) (k:Nat):Nat->Prop where
 |beg {i:Nat}:beg (g.nd i) k=true->Q7 g beg keep k i
 |on {i:Nat} {j:Int}:keep (g.nd i) k=true->j∈(g.nd i).iA->Q7 g beg keep k j.toNat->Q7 g beg keep k i
def mb (T:jw) (n:Node) (k:Nat):Bool:=n.iA.any fun j=>fg T j.toNat k
theorem yb (f:Int->Bool) (n:Node):n.fold.any f=n.iA.any f:=IP (fun l=>l.any f) n (fun a=>by simp)
def iM (g:bu) (beg keep:Node->Nat->Bool) (T:jw) (i k:Nat):Bool:=beg (g.nd i) k||(keep (g.nd i) k&&mb T (g.nd i) k)
structure Grow (g:bu) (beg keep:Node->Nat->Bool) (n:Nat) (T:jw):Prop where
 shape:Shape T g.nodes.length n
 sound:∀i k,fg T i k=true->Q7 g beg keep k i
def nT (m n:Nat):jw:=List.replicate m (List.replicate n false)
theorem FH (m n i k:Nat):fg (nT m n) i k=false:=by
 unfold fg nT
 simp only[List.getD,List.getElem?_replicate]
 by_cases h:i<m
 ·simp only[h,if_true,Option.getD_some,List.getElem?_replicate];split<;>rfl
 ·simp[h]
theorem B3 (m n:Nat):Shape (nT m n) m n:=⟨by simp[nT],fun i hi=>by simp[nT,List.getD,List.getElem?_replicate,hi]⟩
theorem Grow.start (g:bu) (beg keep:Node->Nat->Bool) (n:Nat):Grow g beg keep n (nT g.nodes.length n):=
 ⟨B3 _ _,fun i k h=>by rw[FH] at h;cases h⟩
theorem tK {T:jw} {n:Node} {k:Nat}:mb T n k=true↔∃j∈n.iA,fg T j.toNat k=true:=by
 unfold mb;rw[List.any_eq_true]
theorem Grow.step {g:bu} {beg keep:Node->Nat->Bool} {n:Nat} {T:jw} (h:Grow g beg keep n T) {i k:Nat} (hi:i<g.nodes.length) (hk:k<n) (hc:iM g beg keep T i k=true):Grow g beg keep n (mT T i k):=by
 refine⟨h.shape.set i k,fun i' k' ht=> ?_⟩
 rw[QO h.shape hi hk] at ht
 split at ht
 ·rename_i e
  obtain⟨rfl,rfl⟩:=e
  unfold iM at hc
  rw[Bool.or_eq_true,Bool.and_eq_true] at hc
  rcases hc with h1|⟨h1,h2⟩
  ·exact .beg h1
  ·obtain⟨j,hj,h3⟩:=tK.1 h2
   exact .on h1 hj (h.sound _ _ h3)
 ·exact h.sound _ _ ht
open Classical in
noncomputable def qb (g:bu) (beg keep:Node->Nat->Bool) (n:Nat):jw:=(List.range g.nodes.length).map fun i=>(List.range n).map fun k=>decide (Q7 g beg keep k i)
theorem mE (g:bu) (beg keep:Node->Nat->Bool) (n:Nat):Shape (qb g beg keep n) g.nodes.length n:=⟨by simp[qb],fun i hi=>by simp[qb,List.getD,hi]⟩
theorem rJ (g:bu) (beg keep:Node->Nat->Bool) (n:Nat) {i k:Nat} (hi:i<g.nodes.length) (hk:k<n):fg (qb g beg keep n) i k=true↔Q7 g beg keep k i:=by
 simp[fg,qb,List.getD,hi,hk]
theorem TS {T S:jw} {m n:Nat} (hT:Shape T m n) (hS:Shape S m n) (h:∀i k,i<m->k<n->fg T i k=fg S i k):T=S:=by
 apply List.ext_getElem (hT.len.trans hS.len.symm)
 intro i h1 h2
 have hi:i<m:=by rw[<-hT.len];exact h1
 have e1:T.getD i []=T[i]:=by simp[List.getD,h1]
 have e2:S.getD i []=S[i]:=by simp[List.getD,h2]
 rw[<-e1,<-e2]
 apply List.ext_getElem ((hT.row i hi).trans (hS.row i hi).symm)
 intro k h3 h4
 have:=h i k hi (by rw[<-hT.row i hi];exact h3)
 unfold fg at this
 have g:∀(l:List Bool) (h:k<l.length),l[k]=l.getD k false:=fun l h=>by simp[List.getD,h]
 rw[g _ h3,g _ h4]
 exact this
theorem Grow.fin {g:bu} {beg keep:Node->Nat->Bool} {n:Nat} {T:jw} (hw:Whole g) (h:Grow g beg keep n T) (hc:∀i k,i<g.nodes.length->k<n->iM g beg keep T i k=true->fg T i k=true):T=qb g beg keep n:=by
 refine TS h.shape (mE _ _ _ _) fun i k hi hk=> ?_
 rw[Bool.eq_iff_iff,rJ g beg keep n hi hk]
 refine⟨h.sound i k,fun ha=> ?_⟩
 induction ha with
 |beg hb=>exact hc _ _ hi hk (by unfold iM;rw[hb];rfl)
 |@on i j hkp hj _ ih=>
  have hj2:=(hw.2.2 i hi).2.2 j hj
  have:=ih hj2.2
  refine hc _ _ hi hk ?_
  unfold iM
  rw[hkp,tK.2 ⟨j,hj,this⟩]
  simp
def ZY (g:bu) (beg keep:Node->Nat->Bool) (k:Nat) (n:Node):Prop:=∃j∈n.iA,Q7 g beg keep k j.toNat
theorem vo {g:bu} {beg keep:Node->Nat->Bool} {n:Nat} (hw:Whole g) {i k:Nat} (hi:i<g.nodes.length) (hk:k<n):mb (qb g beg keep n) (g.nd i) k=true↔ZY g beg keep k (g.nd i):=by
 rw[tK]
 constructor
 ·rintro⟨j,hj,h⟩
  exact⟨j,hj,(rJ g beg keep n ((hw.2.2 i hi).2.2 j hj).2 hk).1 h⟩
 ·rintro⟨j,hj,h⟩
  exact⟨j,hj,(rJ g beg keep n ((hw.2.2 i hi).2.2 j hj).2 hk).2 h⟩
def hP (n:Node) (s:Nat):Bool:=(decide (n.kind=1\/n.kind=3\/n.kind=4\/n.kind=7\/n.kind=8)&&n.a.ee&&decide (n.a.slot=s))||(decide (n.kind=1)&&dY n.op&&n.b.ee&&decide (n.b.slot=s))
def kO (n:Node):Bool:=decide (n.kind=1\/n.kind=2\/n.kind=4)
def kZ (n:Node) (s:Nat):Bool:= !kO n||decide (n.slot≠s)
noncomputable def iO (g:bu):jw:=qb g hP kZ g.bw.toNat
structure cY where
 kind:Int
 cn:Int
 lock:Int
 deriving Inhabited,DecidableEq
def cY.cells (c:cY):List AV:=[u8 c.kind,i64 c.cn,i64 c.lock]
abbrev cY.av (c:cY):AV:= .agg c.cells
def jr (cls:List cY) (t:Nat) (v:Nat):Bool:=decide ((cls.getD v default).kind=1)&&decide ((cls.getD v default).cn=t)
def qX (cls:List cY) (t:Nat) (n:Node) (v:Nat):Bool:=jr cls t v&&(decide (n.kind=9)||decide (n.kind=5)||(decide (n.kind=2\/n.kind=4)&&decide (n.cB=v)))
def rp (cls:List cY) (t:Nat) (n:Node) (v:Nat):Bool:=jr cls t v&& !(decide (n.kind=3)&&decide (n.cB=v))
noncomputable def oU (g:bu) (cls:List cY) (t:Nat):jw:=qb g (qX cls t) (rp cls t) cls.length
end
structure ZZ (now:List Int) (l:List Int) (s s':HS):Prop where
 ow:s'.cE.length=s.cE.length
 pa:s'.found.length=s.found.length
 gW:∀k:Int,s.f k=true->s'.f k=true/\s'.l k=s.l k
 new:∀k:Int,0<=k->s'.f k=true->s.f k=true\/k∈l
 all:∀k∈l,s'.f k=true/\s'.l k=now
 bare:∀k:Int,0<=k->s'.f k=false->s'.l k=s.l k
 more:∃t,s'.todo=s.todo++t/\(∀k∈t,k∈l/\s'.f k=true)/\(∀k:Int,0<=k->s'.f k=true->s.f k=true\/k∈t)/\s'.found.count false+t.length=s.found.count false
theorem HS.ta {s:HS} {i:Nat} {L:List (List Int)} {td:List Int} (h:i<s.found.length) (k:Int):HS.f ⟨L,s.found.set i true,td⟩ k=if k.toNat=i then true else s.f k:=kD h k
theorem HS.NJ {s:HS} {i:Nat} {now:List Int} {F:List Bool} {td:List Int} (h:i<s.cE.length) (k:Int):HS.l ⟨s.cE.set i now,F,td⟩ k=if k.toNat=i then now else s.l k:=by
 unfold HS.l
 simp only
 rw[ct]
 by_cases e:i=k.toNat
 ·rw[if_pos ⟨e,h⟩,if_pos e.symm]
 ·rw[if_neg (fun x=>e x.1),if_neg (fun x=>e x.symm)]
theorem om (now:List Int):∀(l:List Int) (s s':HS),s.cE.length=s.found.length->(∀k∈l,0<=k/\k.toNat<s.found.length)->dV now l s= .inl s'->ZZ now l s s'
 |[],s,s',_,_,h=>by
  rw[dV] at h;cases h
  exact⟨rfl,rfl,fun _ h=>⟨h,rfl⟩,fun _ _ h=> .inl h,fun _ h=>by simp at h,fun _ _ _=>rfl,[],by simp,fun _ h=>by simp at h,fun _ _ h=> .inl h,by simp⟩
 |k::r,s,s',hl,hr,h=>by
  obtain⟨hk0,hk⟩:=hr k (by simp)
  have hr2:=fun x hx=>hr x (List.mem_cons_of_mem _ hx)
  rw[dV] at h
  by_cases hf:s.f k=false
  ·rw[if_pos hf] at h
   have ih:=om now r _ s' (by simp[hl]) (fun x hx=>by simpa using hr2 x hx) h
   have fs:=fun x=>HS.ta (s:=s) (i:=k.toNat) (L:=s.cE.set k.toNat now) (td:=s.todo++[k]) hk x
   have ls:=fun x=>HS.NJ (s:=s) (i:=k.toNat) (now:=now) (F:=s.found.set k.toNat true) (td:=s.todo++[k]) (by rw[hl];exact hk) x
   obtain⟨t,t1,t2,t3,t4⟩:=ih.more
   have hkk:=ih.gW k (by rw[fs,if_pos rfl])
   refine⟨ih.ow.trans (by simp),ih.pa.trans (by simp),fun x hx=> ?_,fun x hx0 hx=> ?_,fun x hx=> ?_,fun x hx0 hx=> ?_,k::t,by rw[t1];simp,fun x hx=> ?_,fun x hx0 hx=> ?_, ?_⟩
   ·have hne:x.toNat≠k.toNat:=fun e=>by unfold HS.f at hx hf;rw[e] at hx;rw[hx] at hf;cases hf
    have:=ih.gW x (by rw[fs,if_neg hne];exact hx)
    rw[ls,if_neg hne] at this
    exact this
   ·rcases ih.new x hx0 hx with h2|h2
    ·rw[fs] at h2
     split at h2
     ·rename_i e;exact .inr (by rw[show x=k by omega];simp)
     ·exact .inl h2
    ·exact .inr (List.mem_cons_of_mem _ h2)
   ·rcases List.mem_cons.1 hx with rfl|hx
    ·rw[ls,if_pos rfl] at hkk;exact hkk
    ·exact ih.all x hx
   ·have hne:x.toNat≠k.toNat:=fun e=>by
     have:=hkk.1
     rw[show k=x by omega,hx] at this;cases this
    have:=ih.bare x hx0 hx
    rw[ls,if_neg hne] at this
    exact this
   ·rcases List.mem_cons.1 hx with rfl|hx
    ·exact⟨by simp,hkk.1⟩
    ·exact⟨List.mem_cons_of_mem _ (t2 x hx).1,(t2 x hx).2⟩
   ·rcases t3 x hx0 hx with h2|h2
    ·rw[fs] at h2
     split at h2
     ·rename_i e;exact .inr (by rw[show x=k by omega];simp)
     ·exact .inl h2
    ·exact .inr (List.mem_cons_of_mem _ h2)
   ·have:=count_set hk hf
    rw[List.length_cons]
    dsimp only at t4
    omega
  ·rw[if_neg hf] at h
   have hkt:s.f k=true:=by simpa using hf
   by_cases hn:s.l k=now
   ·rw[if_pos hn] at h
    have ih:=om now r s s' hl hr2 h
    obtain⟨t,t1,t2,t3,t4⟩:=ih.more
    refine⟨ih.ow,ih.pa,ih.gW,fun x hx0 hx=>(ih.new x hx0 hx).imp id (List.mem_cons_of_mem _),fun x hx=> ?_,ih.bare,t,t1,fun x hx=>⟨List.mem_cons_of_mem _ (t2 x hx).1,(t2 x hx).2⟩,t3,t4⟩
    rcases List.mem_cons.1 hx with rfl|hx
    ·have:=ih.gW _ hkt;rw[hn] at this;exact this
    ·exact ih.all x hx
   ·rw[if_neg hn] at h;cases h
theorem qp {now:List Int} {lk:Nat->List Int}:∀(l:List Int) (s:HS),s.cE.length=s.found.length->(∀k∈l,0<=k/\k.toNat<s.found.length)->(∀k:Int,0<=k->s.f k=true->s.l k=lk k.toNat)->(∀k∈l,lk k.toNat=now)->
 ∃s',dV now l s= .inl s'/\∀k:Int,0<=k->s'.f k=true->s'.l k=lk k.toNat
 |[],s,_,_,hs,_=>⟨s,rfl,hs⟩
 |k::r,s,hl,hr,hs,hn=>by
  obtain⟨hk0,hk⟩:=hr k (by simp)
  have hr2:=fun x hx=>hr x (List.mem_cons_of_mem _ hx)
  rw[dV]
  by_cases hf:s.f k=false
  ·rw[if_pos hf]
   refine qp r _ (by simp[hl]) (fun x hx=>by simpa using hr2 x hx) (fun x hx0 hx=> ?_) fun x hx=>hn x (List.mem_cons_of_mem _ hx)
   rw[HS.ta hk] at hx
   rw[HS.NJ (by rw[hl];exact hk)]
   split
   ·rename_i e
    rw[show x=k by omega]
    exact(hn k (by simp)).symm
   ·rename_i e
    rw[if_neg e] at hx
    exact hs x hx0 hx
  ·rw[if_neg hf]
   have hkt:s.f k=true:=by simpa using hf
   rw[if_pos ((hs k hk0 hkt).trans (hn k (by simp)))]
   exact qp r s hl hr2 hs fun x hx=>hn x (List.mem_cons_of_mem _ hx)
structure HI (g:bu) (s:HS) (k:Nat):Prop where
 ow:s.cE.length=g.nodes.length
 pa:s.found.length=g.nodes.length
 zero:s.f 0=true
 first:s.l 0=[]
 pZ:∀i:Int,0<=i->s.f i=true->e8 g (-1) i
 bare:∀i:Int,0<=i->s.f i=false->s.l i=[]
 inr:∀i∈s.todo,0<=i/\i.toNat<g.nodes.length/\s.f i=true
 all:∀i:Int,0<=i->s.f i=true->i∈s.todo
 done:∀j,j<k->j<s.todo.length->∃now,eK (g.nd (s.todo.getD j 0).toNat) (s.l (s.todo.getD j 0))=some now/\∀to∈(g.nd (s.todo.getD j 0).toNat).iA,s.f to=true/\s.l to=now
 count:s.todo.length+s.found.count false=g.nodes.length
theorem HI.start {g:bu} (h:Whole g):HI g (kg g) 0:=by
 have hl:=h.1
 have hf:∀k,HS.f (kg g) k=decide (k.toNat=0):=fun k=>by
  have:=kD (l:=List.replicate g.nodes.length false) (i:=0) (by simp;omega) k
  unfold HS.f kg
  simp only
  unfold ji at this
  rw[this]
  by_cases e:k.toNat=0
  ·simp[e]
  ·rw[if_neg e,decide_eq_false e]
   simp only[List.getD,List.getElem?_replicate];split<;>rfl
 have hk:∀k,HS.l (kg g) k=[]:=fun k=>by
  unfold HS.l kg;simp only[List.getD,List.getElem?_replicate];split<;>rfl
 refine⟨by simp[kg],by simp[kg],by rw[hf];simp,hk 0,fun i h0 hi=> ?_,fun i _ _=>hk i,fun i hi=> ?_,fun i h0 hi=> ?_,fun j hj=>by omega, ?_⟩
 ·rw[hf] at hi
  rw[show i=0 by have:=of_decide_eq_true hi;omega];exact .zero
 ·simp only[kg,List.mem_cons,List.not_mem_nil,or_false] at hi
  subst hi
  exact⟨by omega,by simp;omega,by rw[hf];simp⟩
 ·rw[hf] at hi
  rw[show i=0 by have:=of_decide_eq_true hi;omega];simp[kg]
 ·have:=count_set (l:=List.replicate g.nodes.length false) (i:=0) (by simp;omega) (by simp[List.getD,List.getElem?_replicate];split<;>rfl)
  simp only[List.count_replicate_self] at this
  simp only[kg,List.length_cons,List.length_nil]
  omega
theorem HI.next {g:bu} (hw:Whole g) {s s':HS} {k:Nat} (h:HI g s k) (hk:k<s.todo.length) {now:List Int} (hn:eK (g.nd (s.todo.getD k 0).toNat) (s.l (s.todo.getD k 0))=some now) (ht:dV now (g.nd (s.todo.getD k 0).toNat).iA s= .inl s'):HI g s' (k+1):=by
 have hm:=cR (0:Int) hk
 obtain⟨i1,i2,i3⟩:=h.inr _ hm
 have hfol:=(hw.2.2 _ i2).2.2
 have sp:=om now _ s s' (by rw[h.ow,h.pa]) (fun x hx=>by rw[h.pa];exact hfol x hx) ht
 obtain⟨t,t1,t2,t3,t4⟩:=sp.more
 have hget:∀j,j<s.todo.length->s'.todo.getD j 0=s.todo.getD j 0:=fun j hj=>by
  rw[t1];simp[List.getD,List.getElem?_append,hj]
 refine⟨sp.ow.trans h.ow,sp.pa.trans h.pa,(sp.gW 0 h.zero).1,(sp.gW 0 h.zero).2.trans h.first,fun i h0 hi=> ?_,fun i h0 hi=> ?_,fun i hi=> ?_,fun i h0 hi=> ?_,fun j hj hjl=> ?_, ?_⟩
 ·rcases sp.new i h0 hi with h1|h1
  ·exact h.pZ i h0 h1
  ·exact .step (h.pZ _ i1 i3) (by omega) h1
 ·rw[sp.bare i h0 hi]
  refine h.bare i h0 ?_
  cases hq:s.f i with
  |false=>rfl
  |true=>rw[(sp.gW i hq).1] at hi;cases hi
 ·rw[t1] at hi
  rcases List.mem_append.1 hi with hi|hi
  ·obtain⟨a,b,c⟩:=h.inr i hi
   exact⟨a,b,(sp.gW i c).1⟩
  ·have:=hfol i (t2 i hi).1
   exact⟨this.1,this.2,(t2 i hi).2⟩
 ·rw[t1]
  rcases t3 i h0 hi with h1|h1
  ·exact List.mem_append_left _ (h.all i h0 h1)
  ·exact List.mem_append_right _ h1
 ·by_cases hjk:j=k
  ·subst hjk
   rw[hget _ hk]
   refine⟨now, ?_,sp.all⟩
   rw[(sp.gW _ i3).2]
   exact hn
  ·have hj2:j<s.todo.length:=by omega
   rw[hget _ hj2]
   obtain⟨now2,d1,d2⟩:=h.done j (by omega) hj2
   have hjm:=h.inr _ (cR (0:Int) hj2)
   refine⟨now2,by rw[(sp.gW _ hjm.2.2).2];exact d1,fun to hto=> ?_⟩
   obtain⟨e1,e2⟩:=d2 to hto
   rw[(sp.gW _ e1).2]
   exact⟨(sp.gW _ e1).1,e2⟩
 ·have:=h.count
  rw[t1,List.length_append]
  omega
structure q9 (g:bu) (lk:Nat->List Int):Prop where
 zero:lk 0=[]
 on:∀i:Int,e8 g (-1) i->∃now,eK (g.nd i.toNat) (lk i.toNat)=some now/\∀k∈(g.nd i.toNat).iA,lk k.toNat=now
theorem HI.fin {g:bu} {s:HS} {k:Nat} (hw:Whole g) (h:HI g s k) (hk:s.todo.length<=k):q9 g (fun i=>s.cE.getD i [])/\∀i,i<g.nodes.length->(s.found.getD i false=true↔e8 g (-1) i):=by
 have hall:∀i:Int,e8 g (-1) i->0<=i/\s.f i=true:=fun i hi=>by
  induction hi with
  |zero=>exact⟨by omega,h.zero⟩
  |@step i j hi _ hj ih=>
   obtain⟨i0,hif⟩:=ih
   have hm:=h.all i i0 hif
   obtain⟨q,hq,e⟩:=List.getElem_of_mem hm
   have e2:s.todo.getD q 0=i:=by simp[List.getD,hq,e]
   obtain⟨now,_,d⟩:=h.done q (by omega) hq
   rw[e2] at d
   have h2:=(hw.2.2 i.toNat (h.inr i hm).2.1).2.2 j hj
   exact⟨h2.1,(d j hj).1⟩
 refine⟨⟨h.first,fun i hi=> ?_⟩,fun i hi=>⟨fun hf=>h.pZ i (by omega) hf,fun hc=>(hall i hc).2⟩⟩
 obtain⟨i0,hif⟩:=hall i hi
 have hm:=h.all i i0 hif
 obtain⟨q,hq,e⟩:=List.getElem_of_mem hm
 have e2:s.todo.getD q 0=i:=by simp[List.getD,hq,e]
 obtain⟨now,d1,d⟩:=h.done q (by omega) hq
 rw[e2] at d1 d
 exact⟨now,d1,fun k hk=>(d k hk).2⟩
theorem uE {g:bu} (hw:Whole g):∀(f:Nat) (s:HS) (k:Nat),HI g s k->k+f=g.nodes.length+1->(fX g f s k).2<0->(fX g f s k).2=-1/\∃s' k',HI g s' k'/\s'.todo.length<=k'/\(fX g f s k).1=s'.cE
 |0,s,k,h,he,_=>by
  have:=h.count
  exact⟨rfl,s,k,h,by omega,rfl⟩
 |f+1,s,k,h,he,hneg=>by
  rw[fX] at hneg ⊢
  by_cases hk:k<s.todo.length
  ·rw[if_pos hk] at hneg ⊢
   have hm:=(h.inr _ (cR (0:Int) hk))
   cases hn:eK (g.nd (s.todo.getD k 0).toNat) (s.l (s.todo.getD k 0)) with
   |none=>rw[hn] at hneg;simp only at hneg;omega
   |some now=>
    rw[hn] at hneg
    simp only at hneg ⊢
    cases ht:dV now (g.nd (s.todo.getD k 0).toNat).iA s with
    |inl s'=>
     rw[ht] at hneg
     exact uE hw f s' (k+1) (h.next hw hk hn ht) (by omega) hneg
    |inr a=>
     rw[ht] at hneg
     simp only at hneg
     exfalso
     have hfol:=(hw.2.2 _ hm.2.1).2.2
     have:∀(l:List Int) (s:HS),(∀x∈l,0<=x)->dV now l s= .inr a->0<=a:=by
      intro l
      induction l with
      |nil=>intro s _ h;rw[dV] at h;cases h
      |cons x r ih=>
       intro s hx h
       rw[dV] at h
       split at h
       ·exact ih _ (fun y hy=>hx y (List.mem_cons_of_mem _ hy)) h
       ·split at h
        ·exact ih _ (fun y hy=>hx y (List.mem_cons_of_mem _ hy)) h
        ·cases h;exact hx _ (by simp)
     have:=this _ _ (fun x hx=>(hfol x hx).1) ht
     omega
  ·rw[if_neg hk]
   exact⟨rfl,s,k,h,by omega,rfl⟩
theorem uF {g:bu} (hw:Whole g) {lk:Nat->List Int} (hlk:q9 g lk):∀(f:Nat) (s:HS) (k:Nat),HI g s k->(∀i:Int,0<=i->s.f i=true->s.l i=lk i.toNat)->(fX g f s k).2=-1
 |0,s,k,h,_=>rfl
 |f+1,s,k,h,hs=>by
  rw[fX]
  by_cases hk:k<s.todo.length
  ·rw[if_pos hk]
   have hm:=(h.inr _ (cR (0:Int) hk))
   obtain⟨now,d1,d2⟩:=hlk.on _ (h.pZ _ hm.1 hm.2.2)
   rw[hs _ hm.1 hm.2.2,d1]
   simp only
   have hfol:=(hw.2.2 _ hm.2.1).2.2
   obtain⟨s',h1,h2⟩:=qp (now:=now) (lk:=lk) _ s (by rw[h.ow,h.pa]) (fun x hx=>by rw[h.pa];exact hfol x hx) hs d2
   rw[h1]
   exact uF hw hlk f s' (k+1) (h.next hw hk (by rw[hs _ hm.1 hm.2.2];exact d1) h1) h2
  ·rw[if_neg hk]
theorem A5 {g:bu} {a b:Nat->List Int} (ha:q9 g a) (hb:q9 g b):∀i:Int,e8 g (-1) i->a i.toNat=b i.toNat:=by
 intro i hi
 induction hi with
 |zero=>exact ha.zero.trans hb.zero.symm
 |@step i k hi _ hk ih=>
  obtain⟨n1,a1,a2⟩:=ha.on i hi
  obtain⟨n2,b1,b2⟩:=hb.on i hi
  rw[ih,b1] at a1
  cases a1
  rw[a2 k hk,b2 k hk]
theorem lI {g:bu} (hw:Whole g) (h:(eP g).2<0):(eP g).2=-1/\(eP g).1.length=g.nodes.length/\q9 g (fun i=>(eP g).1.getD i [])/\∀i,i<g.nodes.length->¬e8 g (-1) i->(eP g).1.getD i []=[]:=by
 obtain⟨h1,s,k,hi,hk,e⟩:=uE hw _ _ _ (HI.start hw) (by omega) h
 refine⟨h1, ?_, ?_,fun i hl hc=> ?_⟩
 ·unfold eP;rw[e];exact hi.ow
 ·unfold eP;rw[e];exact(hi.fin hw hk).1
 ·unfold eP;rw[e]
  have hf:=mt ((hi.fin hw hk).2 i hl).1 hc
  have:=hi.bare i (by omega) (by simpa[HS.f] using hf)
  exact this
theorem NA {g:bu} (hw:Whole g) {lk:Nat->List Int} (hlk:q9 g lk):(eP g).2=-1:=by
 refine uF hw hlk _ _ _ (HI.start hw) fun i h0 hf=> ?_
 have hl:=hw.1
 have hz:i.toNat=0:=by
  have:=kD (l:=List.replicate g.nodes.length false) (i:=0) (by simp;omega) i
  unfold HS.f kg at hf
  simp only at hf
  unfold ji at this
  rw[this] at hf
  split at hf
  ·assumption
  ·simp only[List.getD,List.getElem?_replicate] at hf
   split at hf<;>cases hf
 rw[hz,hlk.zero]
 unfold HS.l kg;simp only[List.getD,List.getElem?_replicate];split<;>rfl
end Go.Proofs.YtekfmjjmihomlaaGreatDoor
