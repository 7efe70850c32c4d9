import Derived.Shelf.SlSortCmp.WholeK
import Derived.Test.YtjopoheligmmoaaGreatDoorProg
import Derived.Test.YtjopoheligmmoaaGreatDoorM39
import Derived.Test.YtjopoheligmmoaaGreatDoorM40
import Derived.Test.YtjopoheligmmoaaGreatDoorM38
import Derived.Shelf.SlSortCmp.NoneTotal
import Derived.Test.YtjopoheligmmoaaGreatDoorM17
import Derived.Test.YtjopoheligmmoaaGreatDoorRows
import Derived.Test.YtjopoheligmmoaaGreatDoorTie
import Derived.Test.YtjopoheligmmoaaGreatDoorCards
import Derived.LaidMore
import Derived.OpenShut
import Derived.SevenTiedAt
import Derived.Test.YtjopoheligmmoaaGreatDoorM33
section
/- The library's sort by a comparison at this program, as a tool of the kit laid it in plain words. -/
namespace Go.Proofs
open Go.Shelf
def Tryz.KT:Go.Shelf.Ren:=⟨fun|6=>95|15=>82|14=>149|28=>141|29=>142|20=>186|21=>187|22=>188|23=>189|24=>190|25=>191|26=>192|27=>193|46=>202|47=>173|48=>174|49=>203|50=>204|57=>225|n=>n,fun|22=>41|24=>105|25=>112|3=>3|39=>142|0=>0|53=>132|55=>206|4=>4|46=>198|45=>197|50=>203|5=>5|9=>9|66=>231|70=>235|76=>266|77=>267|n=>n,fun|n=>n⟩
theorem Tryz.U4:Go.Proofs.SlLaysF0.n6 Tryz.prog Tryz.KT:={
 mixed:=by kernel_rfl
 f6:=⟨Tryz.f95.name,by decide,Tryz.func95.trans (congrArg some (by kernel_rfl))⟩
 f14:=⟨Tryz.f149.name,by decide,Tryz.func149.trans (congrArg some (by kernel_rfl))⟩
 f15:=Tryz.func82.trans (congrArg some (by kernel_rfl))
 f20:=⟨Tryz.f186.name,by decide,Tryz.func186.trans (congrArg some (by kernel_rfl))⟩
 f21:=⟨Tryz.f187.name,by decide,Tryz.func187.trans (congrArg some (by kernel_rfl))⟩
 f22:=⟨Tryz.f188.name,by decide,Tryz.func188.trans (congrArg some (by kernel_rfl))⟩
 f23:=⟨Tryz.f189.name,by decide,Tryz.func189.trans (congrArg some (by kernel_rfl))⟩
 f24:=⟨Tryz.f190.name,by decide,Tryz.func190.trans (congrArg some (by kernel_rfl))⟩
 f25:=⟨Tryz.f191.name,by decide,Tryz.func191.trans (congrArg some (by kernel_rfl))⟩
 f26:=⟨Tryz.f192.name,by decide,Tryz.func192.trans (congrArg some (by kernel_rfl))⟩
 f27:=⟨Tryz.f193.name,by decide,Tryz.func193.trans (congrArg some (by kernel_rfl))⟩
 f28:=Tryz.func141.trans (congrArg some (by kernel_rfl))
 f29:=Tryz.func142.trans (congrArg some (by kernel_rfl))
 f46:=⟨Tryz.f202.name,by decide,Tryz.func202.trans (congrArg some (by kernel_rfl))⟩
 f47:=Tryz.func173.trans (congrArg some (by kernel_rfl))
 f48:=Tryz.func174.trans (congrArg some (by kernel_rfl))
 f49:=⟨Tryz.f203.name,by decide,Tryz.func203.trans (congrArg some (by kernel_rfl))⟩
 f50:=⟨Tryz.f204.name,by decide,Tryz.func204.trans (congrArg some (by kernel_rfl))⟩
 f57:=⟨Tryz.f225.name,by decide,Tryz.func225.trans (congrArg some (by kernel_rfl))⟩
 t0:=Tryz.underlying0
 a0:=Tryz.isAgg0
 z0:=Tryz.sizeOf0
 v0:=Tryz.zeroValue0
 t3:=Tryz.underlying3
 a3:=Tryz.isAgg3
 z3:=Tryz.sizeOf3
 v3:=Tryz.zeroValue3
 t4:=Tryz.underlying4
 a4:=Tryz.isAgg4
 z4:=Tryz.sizeOf4
 v4:=Tryz.zeroValue4
 t5:=Tryz.underlying5
 a5:=Tryz.isAgg5
 z5:=Tryz.sizeOf5
 v5:=Tryz.zeroValue5
 t9:=Tryz.underlying9
 a9:=Tryz.isAgg9
 z9:=Tryz.sizeOf9
 v9:=Tryz.zeroValue9
 t22:=Tryz.underlying41
 a22:=Tryz.isAgg41
 z22:=Tryz.sizeOf41
 v22:=Tryz.zeroValue41
 t25:=Tryz.underlying112
 a25:=Tryz.isAgg112
 z25:=Tryz.sizeOf112
 v25:=Tryz.zeroValue112
 t39:=Tryz.underlying142
 a39:=Tryz.isAgg142
 z39:=Tryz.sizeOf142
 v39:=Tryz.zeroValue142
 t45:=Tryz.underlying197
 a45:=Tryz.isAgg197
 z45:=Tryz.sizeOf197
 v45:=Tryz.zeroValue197
 t46:=Tryz.underlying198
 a46:=Tryz.isAgg198
 z46:=Tryz.sizeOf198
 v46:=Tryz.zeroValue198
 t50:=Tryz.underlying203
 a50:=Tryz.isAgg203
 z50:=Tryz.sizeOf203
 v50:=Tryz.zeroValue203
 t53:=Tryz.underlying132
 a53:=Tryz.isAgg132
 z53:=Tryz.sizeOf132
 v53:=Tryz.zeroValue132
 t55:=Tryz.underlying206
 a55:=Tryz.isAgg206
 z55:=Tryz.sizeOf206
 v55:=Tryz.zeroValue206
 t66:=Tryz.underlying231
 a66:=Tryz.isAgg231
 z66:=Tryz.sizeOf231
 v66:=Tryz.zeroValue231
 t70:=Tryz.underlying235
 a70:=Tryz.isAgg235
 z70:=Tryz.sizeOf235
 v70:=Tryz.zeroValue235
 t76:=Tryz.underlying266
 a76:=Tryz.isAgg266
 z76:=Tryz.sizeOf266
 v76:=Tryz.zeroValue266
 t77:=Tryz.underlying267
 a77:=Tryz.isAgg267
 z77:=Tryz.sizeOf267
 v77:=Tryz.zeroValue267 }
end Go.Proofs
end
section
/- The library's sort by a comparison, as the walks take it: whatever the struct. -/
namespace Go.Proofs.YtjopoheligmmoaaGreatDoor
open Go Go.cZ Go.Proofs Go.RowKit Go.Sort
set_option linter.unusedSimpArgs false
set_option linter.unusedVariables false
theorem BR {w w':World} (h:Go.RowKit.Below w.heap.size w w') (hd:w.drawn≤w'.drawn):∃q os',w'=grow (w.drewN q) os':=by
 refine⟨w'.drawn - w.drawn,w'.heap.extract w.heap.size w'.heap.size, ?_⟩
 obtain⟨hp,tp,dr,os,ou⟩:=w
 obtain⟨hp',tp',dr',os',ou'⟩:=w'
 have h1:=h.os
 have h2:=h.tape
 have h3:=h.output
 have h4:=h.size
 have h5:=h.block
 dsimp only at *
 subst h1 h2 h3
 simp only[grow,World.drewN,World.mk.injEq,true_and,and_true]
 refine⟨?_,by omega⟩
 apply Array.ext_getElem?
 intro i
 rw[Array.getElem?_append]
 split
 ·rename_i hi;exact h5 i hi
 ·rename_i hi
  rw[Array.getElem?_extract]
  split
  ·congr 1;omega
  ·rw[Array.getElem?_eq_none (by omega)]
def El {S:Type} (cells:S→List AV) (ok:S→Prop) (w:World) (M:Nat→Prop):Type:={ x:S×List Value //ok x.1∧cg (base w M) (cells x.1) x.2 }
section
variable {S:Type} {cells:S→List AV} {ok:S→Prop} {k:Nat} {cf:S→S→Int}
structure BJ (P:Program) (g:Nat) (cells:S→List AV) (k:Nat) (ok:S→Prop) (cf:S→S→Int):Prop where
 len:∀s,(cells s).length=k
 pos:0<k
 fit:∀s,cX 0 (cells s)
 one:∀s,iE (cells s)=true
 cmp:∀a b,ok a→ok b→Pure P g [.agg (cells a), .agg (cells b)] (fun r=>r= .sc (.int .i64 (cf a b)))
 ord:kJ cf
theorem W5 (h:kJ cf) {α:Type} (f:α→S):SWO (ltOf fun x y:α=>cf (f x) (f y)) where
 irrefl x:=by
  have:=(h.zero (f x) (f x)).2 rfl
  simp[ltOf,this]
 trans x y z h1 h2:=by
  simp only[ltOf,decide_eq_true_eq] at *
  exact h.tr _ _ _ h1 h2
 ntrans x y z h1 h2:=by
  simp only[ltOf,decide_eq_false_iff_not] at *
  have n1:=h.neg (f x) (f y)
  have n2:=h.neg (f y) (f z)
  have n3:=h.neg (f x) (f z)
  by_cases e1:cf (f x) (f y)=0
  ·rw[(h.zero _ _).1 e1];exact h2
  ·by_cases e2:cf (f y) (f z)=0
   ·rw[←(h.zero _ _).1 e2];exact h1
   ·have:=h.tr (f z) (f y) (f x) (by omega) (by omega)
    omega
variable {w:World} {M:Nat→Prop} {blk off:Nat}
theorem mR {α:Type} [Inhabited α] {enc:α→List Value} {n i:Nat} {os:Array Obj} (d:Array α) (hi:i<w.heap.size) (hne:i≠blk):(sortWorldK enc k w blk off n d os).heap[i]?=w.heap[i]?:=by
 unfold sortWorldK putRowK
 rw[heap_grow_old _ _ (by simpa[putRow,mapBlock,Sort.ahead] using hi)]
 simp[putRow,mapBlock,Sort.ahead,Array.getElem?_modify,Ne.symm hne]
theorem tQ {α:Type} [Inhabited α] {enc:α→List Value} {n:Nat} {os:Array Obj} {cur:Array Value} {e:TypeId} {fr:Nat×Nat} (d:Array α) (hb:w.heap[blk]?=some (.cells cur e fr)):
 (sortWorldK enc k w blk off n d os).heap[blk]?=some (.cells (putCells id off (flatK enc k d) cur) e fr):=by
 have hg:blk<w.heap.size:=(Array.getElem?_eq_some_iff.1 hb).1
 unfold sortWorldK putRowK
 rw[heap_grow_old _ _ (by simpa[putRow,mapBlock,Sort.ahead] using hg)]
 simp[putRow,mapBlock,Sort.ahead,Array.getElem?_modify,hb,onCells]
theorem BX {P:Program} {g:Nat} (h:BJ P g cells k ok cf) (hM:xJ w M) (hblk:M blk) (size:Nat) [Inhabited (El cells ok w M)]:
 CmpLays P g #[] (fun x:El cells ok w M=>x.1.2) k (fun x y=>cf x.1.1 y.1.1) blk off size w:=by
 intro m os dk _ x y
 have hsz:w.heap.size≤(sortWorldK (fun x:El cells ok w M=>x.1.2) k w blk off m dk os).heap.size:=size_sortWorldK_c _ _ _ _ _ _ _ _
 have hne:=fun(i:Nat) (hi:i<w.heap.size) (hn:i≠blk)=>mR (k:=k) (off:=off) (enc:=fun x:El cells ok w M=>x.1.2) (n:=m) (os:=os) dk hi hn
 generalize sortWorldK (fun x:El cells ok w M=>x.1.2) k w blk off m dk os=W at *
 have hle:(base w M).le (base W M):=by
  refine⟨fun _ h=>h,hsz,fun b hb hlt=> ?_,fun b hb=>hb.elim⟩
  rw[lp] at hb ⊢
  exact⟨hne b hlt fun e=>hb (e▸hblk),hb⟩
 have hF:xJ W M:=by
  refine⟨fun b hb=>Nat.lt_of_lt_of_le (hM.lt b hb) hsz,fun t ht=> ?_⟩
  obtain⟨t1,t2,t3⟩:=hM.Y6 t ht
  refine⟨t1,Nat.lt_of_lt_of_le t2 hsz,fun j hj=> ?_⟩
  rw[←t3 j hj]
  exact World.cell?_of_block (a:=⟨t.1,j,none⟩) (hne _ t2 fun e=>t1 (by rw[show t.1=blk from e];exact hblk))
 obtain⟨⟨xs,xv⟩,x1,x2⟩:=x
 obtain⟨⟨ys,yv⟩,y1,y2⟩:=y
 have hc:=Q3 ((h.cmp xs ys x1 y1).2 M W [.agg xv.toArray, .agg yv.toArray] hF (by
  rw[cg]
  refine⟨_,_,rfl,by rw[VR];exact⟨_,rfl,by simpa using cg.cU hle x2⟩, ?_⟩
  rw[cg]
  refine⟨_,_,rfl,by rw[VR];exact⟨_,rfl,by simpa using cg.cU hle y2⟩, ?_⟩
  rw[cg]))
 refine hc.mono ?_
 rintro e w' ⟨⟨v,r,rfl,rfl,_,hv,hb⟩,hd⟩
 rw[VR] at hv
 exact⟨by rw[hv],BR hb (hd v rfl)⟩
theorem yN {α:Type} [Inhabited α] {enc:α→List Value} {d:Array α} (hk:∀x,(enc x).length=k) (hpos:0<k) (h:∀i c,i<d.size→c<k→w.cell? ⟨blk,off+i * k+c,none⟩=some (enc d[i]!)[c]!∧w.frozen? ⟨blk,off+i * k+c,none⟩=false):HoldsK enc k w blk off d:=by
 intro t ht
 rw[size_flatK] at ht
 have e1:t /k<d.size:=(Nat.div_lt_iff_lt_mul hpos).2 ht
 have e2:t%k<k:=Nat.mod_lt _ hpos
 have:=h (t /k) (t%k) e1 e2
 rw[Nat.add_assoc,show t /k * k+t%k=t by rw[Nat.mul_comm];exact Nat.div_add_mod t k] at this
 rw[get_flatK _ _ _ _ ht]
 exact this
set_option maxHeartbeats 2000000 in
theorem D9 {P:Program} {ρ:Go.Shelf.Ren} (L:SlLaysF0.n6 P ρ) (aE:∀w,(isAgg (ρ.t 24)).run P w= .ok true w) (zE:∀w,(Go.sizeOf (ρ.t 24)).run P w= .ok k w) (hen:jD P (ρ.f 6)) {g:Nat} (eg:∀args w,(callFunc g args).run P w= .ok (.enter g args) w)
 (h:BJ P g cells k ok cf) [Inhabited S] (b:Nat) (l:List S) (hok:∀s∈l,ok s) (e:TypeId) (d:AV) (H:Hp) (nx:Nat) (hb:bu H b=some (.row e k d (l.map fun s=> .agg (cells s)))) (hlt:b<nx) (hl:l.length<4611686018427387904) (h0:l≠[]):
 cG P (ρ.f 6) [.sl b l.length, .fn (.func g) [] []] H nx (fun r H' n=>r= .dK []∧n=nx∧H'=(b,some (.row e k d ((ff cf l).map fun s=> .agg (cells s))))::H):=by
 refine⟨hen,fun w0 c vs hS hH hU hv=> ?_⟩
 rw[cg] at hv
 obtain⟨v,vs',rfl,hv,hv2⟩:=hv
 rw[cg] at hv2
 obtain⟨v2,vs2,rfl,hv2,hv3⟩:=hv2
 rw[cg] at hv3
 subst hv3
 rw[VR] at hv2
 obtain⟨ps,qs,rfl,hp1,hp2⟩:=hv2
 rw[cg] at hp1 hp2
 obtain rfl:ps=#[]:=Array.toList_eq_nil_iff.1 hp1
 obtain rfl:qs=#[]:=Array.toList_eq_nil_iff.1 hp2
 rw[VR] at hv
 obtain⟨hUb,a,cap,rfl,hr⟩:=hv
 have hcb:c.H b=some (.row e k d (l.map fun s=> .agg (cells s))):=by rw[hH];exact hb
 obtain⟨_,hr2⟩:=hr _ _ _ _ hcb
 have hr3:=hr2 (by simp)
 have hpos:=h.pos
 obtain⟨_,_,hor⟩:=hS.j4 b _ _ _ _ hcb (.inr hpos)
 have hln:0<l.length:=List.length_pos_iff.2 h0
 rcases hor with⟨_,hes⟩|⟨blk,o,z,hρ,hlow,⟨arr,harr,hsz⟩,hlz,hrow⟩
 ·exact absurd (List.map_eq_nil_iff.1 hes) h0
 rcases hr3 with⟨h1,_,_⟩|⟨blk',o',z',h1,rfl,hc1,hc2,hc3,_⟩
 ·rw[hρ] at h1;cases h1
 rw[hρ] at h1
 cases h1
 have hblk:blk<c.w.heap.size:=(Array.getElem?_eq_some_iff.1 harr).1
 rw[List.length_map] at hlz
 have hMb:c.M blk:= .inr ⟨b,_,o,z,hcb,hρ⟩
 -- the elements as they stand
 have hel:∀i,i<l.length→∃x:El cells ok c.w c.M,x.1.1=l.getD i default∧∀j,j<k→c.w.cell? ⟨blk,o+i * k+j,none⟩=x.1.2[j]?:=fun i hi=>by
  obtain⟨v,⟨hv1,hv2,_⟩,hv3⟩:=dh hrow i (by simpa using hi)
  rw[dQ (f:=fun s=>AV.agg (cells s)) (h:=hi)] at hv3
  rw[VR] at hv3
  obtain⟨us,rfl,hus⟩:=hv3
  refine⟨⟨(l.getD i default,us.toList),hok _ (cR default hi),cg.mT (fun _ hb=>hb) (h.fit _) hus⟩,rfl,fun j hj=> ?_⟩
  rw[hv2 j hj]
  simp[Value.cells]
 haveI:Inhabited (El cells ok c.w c.M):=⟨(hel 0 hln).choose⟩
 obtain⟨dl,hdl,hdr⟩:=lu (List.range l.length) (R:=fun i (x:El cells ok c.w c.M)=>x.1.1=l.getD i default∧∀j,j<k→c.w.cell? ⟨blk,o+i * k+j,none⟩=x.1.2[j]?) (fun i hi=>hel i (by simpa using hi))
 simp only[List.length_range] at hdl
 have hdg:∀i (hi:i<dl.length),dl[i].1.1=l.getD i default∧∀j,j<k→c.w.cell? ⟨blk,o+i * k+j,none⟩=dl[i].1.2[j]?:=fun i hi=>hdr i i _ (by rw[List.getElem?_range (by omega)]) (List.getElem?_eq_getElem hi)
 have hxl:∀x:El cells ok c.w c.M,x.1.2.length=k:=fun x=>by rw[x.2.2.length,h.len]
 have hHolds:HoldsK (fun x:El cells ok c.w c.M=>x.1.2) k c.w blk o dl.toArray:=by
  refine yN hxl hpos fun i j hi hj=> ?_
  have hi':i<dl.length:=by simpa using hi
  have:=(hdg i hi').2 j hj
  refine⟨?_, ?_⟩
  ·rw[this]
   have hj':j<dl[i].1.2.length:=by rw[hxl];exact hj
   simp[hi',hj']
  ·simp only[World.frozen?,harr]
   simp
 have hones:∀x:El cells ok c.w c.M,∀v∈x.1.2,v.oneCell'=true:=fun x=>x.2.2.PC (h.one _)
 have hcon:=AnyQ.slices_SortFunc L k aE zE (fun x:El cells ok c.w c.M=>x.1.2) hxl hones (fun x y=>cf x.1.1 y.1.1) (W5 h.ord fun x:El cells ok c.w c.M=>x.1.1) g #[] blk o cap dl.toArray c.w eg (BX h hS.fit hMb _) hHolds hblk (by simp;omega)
 rw[show dl.toArray.size=l.length by simp[hdl]] at hcon
 refine hcon.mono ?_
 rintro en w' ⟨rfl,d',n,os,⟨hpz,_,hpp⟩,hss,hw'⟩
 have hdz:d'.size=l.length:=by rw[hpz];simp[hdl]
 -- what stands in the row now
 have hl1:dl.map (fun x=>x.1.1)=l:=by
  apply List.ext_getElem (by simp[hdl])
  intro i q1 q2
  have:=(hdg i (by simpa using q1)).1
  rw[List.getElem_map,this]
  simp[List.getD,q2]
 have hperm:(d'.toList.map fun x=>x.1.1).Perm l:=by
  have h2:d'.toList.Perm dl:=by
   have e1:d'.extract 0 l.length=d':=by rw[←hdz];exact Array.extract_size
   have e2:dl.toArray.extract 0 l.length=dl.toArray:=by rw[←hdl,←List.size_toArray];exact Array.extract_size
   rw[e1,e2] at hpp
   simpa using hpp
  have h3:=h2.map (fun x:El cells ok c.w c.M=>x.1.1)
  rwa[hl1] at h3
 have hsort:(d'.toList.map fun x=>x.1.1).Pairwise fun x y=>vB cf x y=true:=by
  rw[List.pairwise_iff_getElem]
  intro i j hi hj hij
  have hj':j<d'.size:=by simpa using hj
  have:=hss i j (Nat.zero_le _) hij (by omega)
  rw[getElem!_pos d' j hj',getElem!_pos d' i (by omega)] at this
  simp only[ltOf,decide_eq_false_iff_not] at this
  have hneg:=h.ord.neg d'[i].1.1 d'[j].1.1
  simp only[List.getElem_map,Array.getElem_toList,vB,decide_eq_true_eq]
  omega
 have hres:=h.ord.TX hperm hsort
 have hlen:(ff cf l).length=l.length:=nJ cf l
 have hHn:HoldsK (fun x:El cells ok c.w c.M=>x.1.2) k w' blk o d':=by
  rw[hw']
  exact holdsK_sortWorldK_c _ _ _ _ _ dl.toArray d' n os hHolds hblk (by rw[hpz])
 have hput:=hS.pO (b:=b) (e:=e) (sz:=k) d (es:=(ff cf l).map fun s=> .agg (cells s)) (w':=w') (blk:=blk) (o:=o) (z:=z) (arr:=putCells id o (flatK (fun x:El cells ok c.w c.M=>x.1.2) k d') arr) hpos
  (.inr ⟨_,_,_,hcb, .inl ⟨by simp[hlen],hρ⟩⟩) (.inr ⟨_,_,_,hcb,hρ⟩) (by rw[hw'];rfl) (by rw[hw'];rfl) (by rw[hw'];rfl) (by rw[hw'];exact size_sortWorldK_c _ _ _ _ _ _ _ _) (fun q hq hne=>by rw[hw'];exact mR d' hq hne) (by rw[hw'];exact tQ d' harr) (by simp[putCells];exact hsz) (by simp[hlen];exact hlz) (fun hle i hi=>by
   have hi':i<d'.size:=by simpa[hlen,hdz] using hi
   have hx:=d'[i].2.2
   refine⟨.agg d'[i].1.2.toArray,⟨by simp[Value.cells,hxl],fun j hj=> ?_,fun j u hu=> ?_⟩, ?_⟩
   ·have:=(hHn.cell (i:=i) (c:=j) hi' hj).1
    rw[getElem!_pos d' i hi'] at this
    rw[this]
    have hj':j<d'[i].1.2.length:=by rw[hxl];exact hj
    simp[Value.cells,hj']
   ·simp only[Value.cells,List.getElem?_toArray] at hu
    exact hones d'[i] u (List.mem_of_getElem? hu)
   ·have e4:((ff cf l).map fun s=>AV.agg (cells s)).getD i .any= .agg (cells d'[i].1.1):=by
     rw[←hres]
     simp[List.getD,hi']
    rw[e4,VR]
    exact⟨_,rfl,by simpa using cg.cU (vv.trans hle) hx⟩)
 obtain⟨p1,p2⟩:=hput
 have hHeq:bu ((b,some (.row e k d ((ff cf l).map fun s=> .agg (cells s))))::H)=ep c.H b (some (.row e k d ((ff cf l).map fun s=> .agg (cells s)))):=by
  have:=dU H b (.row e k d ((ff cf l).map fun s=> .agg (cells s)))
  rw[hH];exact this
 refine⟨.tuple #[], .dK [],_,nx,ep c.ρ b (some (blk,o,z)),fun x=>c.U x∨x=b,rfl,⟨rfl,rfl,rfl⟩,fun x hx=>hx.elim (hU x) (fun e=>by omega), ?_, ?_, ?_⟩
 ·rw[hHeq];exact p1
 ·rw[hHeq];exact p2
 ·rw[VR];exact⟨#[],rfl,by rw[cg]⟩
end
end Go.Proofs.YtjopoheligmmoaaGreatDoor
end
section
/- Ends sorted; each once. -/
namespace Go.Proofs.YtjopoheligmmoaaGreatDoor
open Go Go.cZ Go.Proofs Go.RowKit Go.Sort
set_option linter.unusedSimpArgs false
set_option linter.unusedVariables false
set_option maxRecDepth 8000
theorem D8 {P:Program} {ρ:Go.Shelf.Ren} (L:SlLaysF0.n6 P ρ) (hen:jD P (ρ.f 6)) (b:Nat) (fv:AV) (H:Hp) (nx:Nat):
 cG P (ρ.f 6) [.sl b 0,fv] H nx (fun r H' n=>r= .dK []∧n=nx∧H'=H):=by
 refine⟨hen,fun w0 c vs hS hH hU hv=> ?_⟩
 rw[cg] at hv
 obtain⟨v,vs',rfl,hv,hv2⟩:=hv
 rw[cg] at hv2
 obtain⟨v2,vs2,rfl,hv2,hv3⟩:=hv2
 rw[cg] at hv3
 subst hv3
 rw[VR] at hv
 obtain⟨hUb,a,cap,rfl,hr⟩:=hv
 refine(AnyF.slices_SortFunc_none L a cap v2 c.w).mono ?_
 rintro e w' ⟨rfl,rfl⟩
 obtain⟨ρ',Hc,U,w,M0⟩:=c
 simp only at hH
 subst hH
 exact⟨.tuple #[], .dK [],H,nx,ρ',U,rfl,⟨rfl,rfl,rfl⟩,hU,hS,Cx.le.refl _,by rw[VR];exact⟨#[],rfl,by rw[cg]⟩⟩
def LJ (e:cn):Prop:=e.cP.length<9223372036854775807∧e.mem.length<9223372036854775807
theorem D7:BJ Tryz.prog 96 cn.cells 3 LJ fw where
 len:=fun _=>rfl
 pos:=by omega
 fit:=fun _=>by simp
 one:=fun _=>rfl
 cmp:=fun a b ha hb=>uU a b ha.1 ha.2
 ord:=ja
theorem tP:jD Tryz.prog 95:=⟨Tryz.f95,Tryz.func95,by kernel_rfl,by kernel_rfl⟩
theorem vR (b:Nat) (l:List cn) (hok:∀e∈l,LJ e) (hl:l.length≤65536) (H:Hp) (nx:Nat) (hb:∃d,bu H b=some (.row 105 3 d (l.map cn.av))) (hlt:b<nx):
 cG Tryz.prog 95 [.sl b l.length, .fn (.func 96) [] []] H nx (fun r H' n=>(∃d,bu H' b=some (.row 105 3 d ((ff fw l).map cn.av)))∧nx≤n∧∀y,y<nx→y≠b→bu H' y=bu H y):=by
 obtain⟨d,hb⟩:=hb
 by_cases h0:l=[]
 ·subst h0
  refine(D8 Tryz.U4 tP b _ H nx).mono ?_
  rintro r H' n ⟨rfl,rfl,rfl⟩
  exact⟨⟨d,by rw[hb];simp[ff]⟩,Nat.le_refl _,fun _ _ _=>rfl⟩
 ·refine(D9 Tryz.U4 (k:=3) (fun w=>cZ.nI (by kernel_rfl) w) (fun w=>cZ.run_sizeOf (by kernel_rfl) w) tP (enters_of Tryz.func96 (by kernel_rfl) rfl) D7 b l hok 105 d H nx hb hlt (by omega) h0).mono ?_
  rintro r H' n ⟨rfl,rfl,rfl⟩
  exact⟨⟨d,cq _ _ _⟩,Nat.le_refl _,fun y _ hne=>c8 hne⟩
end Go.Proofs.YtjopoheligmmoaaGreatDoor
end
section
/- Neighbours that are one go: the walk of the library's CompactFunc. -/
namespace Go.Proofs.YtjopoheligmmoaaGreatDoor
open Go Go.cZ Go.Proofs
set_option linter.unusedSimpArgs false
set_option linter.unusedVariables false
set_option maxRecDepth 8000
def lE (l:List cn):Nat→List cn
 |0=>[]
 |1=>[l.getD 0 default]
 |k+2=>if l.getD (k+1) default=l.getD k default then lE l (k+1) else lE l (k+1)++[l.getD (k+1) default]
theorem E0 (l:List cn):∀k,(lE l k).length≤k
 |0=>Nat.le_refl _
 |1=>Nat.le_refl _
 |k+2=>by
  rw[lE]
  have:=E0 l (k+1)
  split
  ·omega
  ·rw[List.length_append,List.length_cons,List.length_nil];omega
theorem od (l:List cn) {k:Nat} (hk:1≤k):lE l (k+1)=if l.getD k default=l.getD (k - 1) default then lE l k else lE l k++[l.getD k default]:=by
 obtain⟨j,rfl⟩:∃j,k=j+1:=⟨k - 1,by omega⟩
 rw[lE]
 rfl
theorem gl {l:List cn} {i:Nat} (h:i<l.length) (d:AV):(l.map cn.av).getD i d=(l.getD i default).av:=dQ cn.av l i d h
abbrev iY (l:List cn):AV:= .im 3 .any (l.map cn.av)
theorem gm (l:List cn):cX 0 (l.map cn.av):=(cB _ _).2 fun _ _=>by simp[cI]
theorem kG {α:Type} {l:List α} {i:Nat} {x:α} (h:i<l.length):(l.set i x).take (i+1)=l.take i++[x]:=by
 rw[List.take_succ_eq_append_getElem (by simpa using h),List.take_set_of_le (Nat.le_refl _)]
 simp
theorem M4 {H:Hp} {k b len lo n:Nat} {e:TypeId} {sz:Nat} {d:AV} {es:List AV} (h:bu H b=some (.row e sz d es)) (hl:es.length=len):cZ.dV H (k+1) (.sv b len lo n)= .im sz .any (((es.drop lo).take n).map (cZ.dV H k)):=by
 simp only[cZ.dV,h];rw[if_pos hl]
set_option maxHeartbeats 4000000 in
theorem wF (o:Nat) (l:List cn) (hl:l.length≤65536) (hok:∀e∈l,e.cP.length<9223372036854775807∧e.mem.length<9223372036854775807) (H:Hp) (nx:Nat) (ho:o<nx) (hr:∃d,bu H o=some (.row 105 3 d (l.map cn.av))):
 cG Tryz.prog 97 [.sl o l.length, .fn (.func 98) [] []] H nx (fun r H' n=>(r= .sl o l.length∨∃m,r= .sv o l.length 0 m)∧cZ.dV H' 5 r=iY (lE l l.length)):=by
 obtain⟨d0,r0'⟩:=hr
 have a0:(l.map cn.av).length=l.length:=by simp
 have same:∀i j,i<l.length→j<l.length→Pure Tryz.prog 98 [(l.getD i default).av,(l.getD j default).av] (fun r=>r=bl (decide (l.getD i default=l.getD j default))):=fun i j hi hj=>by
  obtain⟨p1,p2⟩:=hok _ (cR default hi)
  have:=oH (l.getD i default) (l.getD j default) p1 p2
  simpa only[pq] using this
 refine aM JW rfl ?_
 by_cases h2:l.length<2
 ·refine cV ?_
  refine⟨.inl rfl, ?_⟩
  show cZ.dV H 5 (.sl o l.length)=_
  rw[dc (k:=4) r0' (by simp),cy _ (gm l)]
  have:lE l l.length=l:=by
   match l,h2 with
   |[],_=>rfl
   |[x],_=>rfl
  rw[this]
 ·refine cV ?_
  refine aN (fun i:Nat=>[(0, .sl o l.length),(1, .fn (.func 98) [] []),(5,i64 i)]) (fun i H2 n=>1≤i∧i≤l.length∧nx≤n∧bu H2 o=some (.row 105 3 d0 (l.map cn.av))∧lE l i=l.take i) (fun i=>l.length - i) 1 cK ⟨Nat.le_refl _,by omega,ca,bw,by rw[lE];cases l with|nil=>simp at h2|cons x t=>rfl⟩ ?_
  clear r0'
  rintro i H2 n ⟨hi1,hi,hn,r0',hdd⟩
  by_cases hil:i<l.length
  ·have e0:∀d,(l.map cn.av).getD ((i:Int)).toNat d=(l.getD i default).av:=fun d=>by rw[Int.toNat_natCast];exact gl hil d
   have e1:∀d,(l.map cn.av).getD ((i:Int) - 1).toNat d=(l.getD (i - 1) default).av:=fun d=>by rw[show((i:Int) - 1).toNat=i - 1 by omega];exact gl (by omega) d
   have c0:=same i (i - 1) hil (by omega)
   have hsu:=od l hi1
   by_cases he:l.getD i default=l.getD (i - 1) default
   ·rw[decide_eq_true he] at c0
    rw[if_pos he] at hsu
    refine cV ?_
    refine aN (fun σ:Nat×Nat×List cn=>[(0, .sl o l.length),(1, .fn (.func 98) [] []),(5,i64 σ.1),(6, .sv o l.length i (l.length - i)),(7,i64 σ.2.1)])
     (fun σ H2 n=>1≤σ.2.1∧i+σ.2.1≤l.length∧i≤σ.1∧σ.1+1≤i+σ.2.1∧σ.2.2.length=l.length∧(∀q,σ.1≤q→σ.2.2.getD q default=l.getD q default)∧σ.2.2.take σ.1=lE l (i+σ.2.1)∧nx≤n∧∃d,bu H2 o=some (.row 105 3 d (σ.2.2.map cn.av))) (fun σ=>l.length - σ.2.1) (i,1,l) cK
     ⟨Nat.le_refl _,by show i+1≤l.length;omega,Nat.le_refl _,Nat.le_refl _,rfl,fun _ _=>rfl,by dsimp only;rw[hsu,hdd],ca,⟨_,bw⟩⟩ ?_
    clear c0 e0 e1 hsu hdd r0' hn
    rintro⟨k,j,es⟩ H3 n ⟨hj1,hj,hik,hkj,hel,hsame,hdd,hn,⟨d1,r1'⟩⟩
    dsimp only at hj1 hj hik hkj hel hsame hdd r1' ⊢
    have a1:(es.map cn.av).length=l.length:=by simp[hel]
    by_cases hjl:j<l.length - i
    ·have e0:∀d,(es.map cn.av).getD (i+((j:Int)).toNat) d=(l.getD (i+j) default).av:=fun d=>by rw[Int.toNat_natCast,gl (by omega) d,hsame _ (by omega)]
     have e1:∀d,(es.map cn.av).getD (i+((j:Int) - 1).toNat) d=(l.getD (i+j - 1) default).av:=fun d=>by rw[show i+((j:Int) - 1).toNat=i+j - 1 by omega,gl (by omega) d,hsame _ (by omega)]
     have e2:∀d,(es.map cn.av).getD ((k:Int)).toNat d=(es.getD k default).av:=fun d=>by rw[Int.toNat_natCast];exact gl (by omega) d
     have c0:=same (i+j) (i+j - 1) (by omega) (by omega)
     have hsu:=od l (k:=i+j) (by omega)
     by_cases he2:l.getD (i+j) default=l.getD (i+j - 1) default
     ·rw[decide_eq_true he2] at c0
      rw[if_pos he2] at hsu
      refine cV ?_
      exact⟨(k,j+1,es),by dsimp only;omega,cK,by dsimp only;omega,by dsimp only;omega,hik,by dsimp only;omega,hel,hsame,by dsimp only;rw[←Nat.add_assoc,hsu];exact hdd,ca,⟨d1,bw⟩⟩
     ·rw[decide_eq_false he2] at c0
      rw[if_neg he2] at hsu
      refine cV ?_
      refine⟨(k+1,j+1,es.set k (l.getD (i+j) default)),by dsimp only;omega,cK,by dsimp only;omega,by dsimp only;omega,by dsimp only;omega,by dsimp only;omega,by simp[hel],fun q hq=> ?_, ?_,ca,⟨d1,by dsimp only;rw[List.map_set];exact bw⟩⟩
      ·have hq:k+1≤q:=hq
       dsimp only
       rw[getD_set_ne (by omega)];exact hsame q (by omega)
      ·dsimp only
       rw[←Nat.add_assoc,hsu,kG (by omega),hdd]
    ·obtain rfl:j=l.length - i:=by omega
     rw[show i+(l.length - i)=l.length by omega] at hdd
     refine cV ?_
     refine⟨.inr ⟨_,rfl⟩, ?_⟩
     rw[Int.toNat_natCast]
     have hkl:k≤l.length:=by omega
     generalize hZ:List.replicate (l.length - k) (gM true [Value.slice none 0 0,Value.slice none 0 0,Value.bool false])=Z
     have hZl:Z.length=l.length - k:=by rw[←hZ];simp
     show cZ.dV ((o,some (.row 105 3 d1 ((es.map cn.av).take k++Z++(es.map cn.av).drop (k+(l.length - k)))))::H3) 5 (.sv o l.length 0 (k - 0))=_
     rw[M4 (k:=4) (cq _ _ _) (by simp[hZl,hel];omega),List.drop_zero,Nat.sub_zero,List.append_assoc,List.take_append_of_le_length (by simp;omega),List.take_take,Nat.min_self,←List.map_take,hdd,cy _ (gm _)]
   ·rw[decide_eq_false he] at c0
    rw[if_neg he] at hsu
    refine cV ?_
    refine⟨i+1,by omega,cK,by omega,by omega,ca,bw, ?_⟩
    rw[hsu,hdd,List.take_succ_eq_append_getElem hil,show l.getD i default=l[i] by simp[List.getD,hil]]
  ·obtain rfl:i=l.length:=by omega
   rw[List.take_length] at hdd
   refine cV ?_
   refine⟨.inl rfl, ?_⟩
   show cZ.dV H2 5 (.sl o l.length)=_
   rw[dc (k:=4) r0' (by simp),cy _ (gm l),hdd]
end Go.Proofs.YtjopoheligmmoaaGreatDoor
end
section
/- Ends: the walk. -/
namespace Go.Proofs.YtjopoheligmmoaaGreatDoor
open Go Go.cZ Go.Proofs
set_option linter.unusedSimpArgs false
set_option linter.unusedVariables false
set_option maxRecDepth 8000
def gz (u:bx) (l:List cW):List cn:=lE (ff fw (dS u l l.length)) (dS u l l.length).length
noncomputable def uY (u:bx) (most:Int):AV:=if(eI u most).1=0 then .dK [iY (gz u (eI u most).2),i64 0] else .dK [.sc (.slice none 0 0),i64 (eI u most).1]
theorem u0 {u:bx} {l:List cW} (hr:cT u) (hf:iU u l) (hl:l.length≤65536) (k:Nat):∀e∈dS u l k,LJ e:=by
 intro e he
 unfold dS at he
 obtain⟨f,hf1,hf2⟩:=List.mem_filterMap.1 he
 split at hf2
 ·cases hf2
  obtain⟨i,hi,rfl⟩:=List.mem_iff_getElem.1 (List.mem_of_mem_take hf1)
  obtain⟨h1,h2⟩:=hf.ok i hi
  rw[show l.getD i default=l[i] by simp[List.getD,hi]] at h1 h2
  have:=h1.ml
  have:=hr.pz
  refine⟨?_, ?_⟩
  ·show l[i].m.cP.length<_;omega
  ·show l[i].m.mem.length<_;omega
 ·cases hf2
set_option maxHeartbeats 2000000 in
theorem IN (u:bx) (hu:u.Wf) (most:Int):Pure Tryz.prog 54 [u.av,i64 most] (fun r=>r=uY u most):=by
 refine cx ?_ (by unfold uY;split<;>simp[cI,cX,cB])
 refine aM JS rfl ?_
 by_cases hr:cT u
 ·by_cases hm:1≤most∧most≤65536
  ·unfold uY
   rw[oV hr hm]
   refine cV ?_
   let l:=(gZ u most.toNat).getD []
   let I:Nat→Hp→Prop:=fun k H=>(∃d,bu H 0=some (.row 25 3 d [u.av]))∧(∃d,bu H 3=some (.row 41 1 d [.sl 7 (dS u l k).length]))∧(∃d,bu H 7=some (.row 105 3 d ((dS u l k).map cn.av)))
   refine aL (R:=fun r H n=>8≤n∧xH u most I r H) (L7 (b:=3) 105 3 (by omega) (by omega) (d:=gM false [.slice none 0 0]) (te:=41) ?_ fun H2 q1 q2 q3=> ?_) ?_
   ·exact bw
   ·refine(rh u hu hr most hm _ [.pt 0 1 0 0, .pt 3 1 0 0] H2 8 I ?_ ?_ ?_).mono fun r H n h=>⟨h.1,h.short⟩
    ·exact⟨⟨_,(q3 0 (by omega) (by omega)).trans bw⟩,⟨_,q1⟩,⟨_,q2⟩⟩
    ·rintro k H H' ⟨⟨d0,p0⟩,⟨d1,p1⟩,⟨d2,p2⟩⟩ hk
     exact⟨⟨d0,(hk 0 (by omega)).trans p0⟩,⟨d1,(hk 3 (by omega)).trans p1⟩,⟨d2,(hk 7 (by omega)).trans p2⟩⟩
    ·intro l' hl' k H n hk hn ⟨p0,p1,p2⟩
     have hll:l=l':=by show(gZ u most.toNat).getD []=l';rw[hl'];rfl
     rw[hll] at p1 p2
     obtain⟨hf,hlm,_⟩:=lC hu hr (by omega) hl'
     refine(E4 hr hf (by omega) hk (ub:=0) (ob:=3) (o:=7) (by omega) (by omega) (by omega) (by omega) p0 p1 p2).mono ?_
     rintro _ H' n' ⟨s1,s2,s3,s4⟩
     obtain⟨d0,p0⟩:=p0
     refine⟨⟨⟨d0,(s4 0 (by omega) (by omega) (by omega)).trans p0⟩, ?_, ?_⟩,s3,fun y y1 y2=>s4 y y2 (by omega) (by omega)⟩
     ·rw[hll];exact s1
     ·rw[hll];exact s2
   rintro r H' n' ⟨hn,hA⟩
   revert hA
   unfold xH
   cases hs:gZ u most.toNat with
   |none=>
    rintro rfl
    refine cV ?_
    exact⟨rfl⟩
   |some l'=>
    rintro⟨rfl,⟨d0,p0⟩,⟨d1,p1⟩,p2⟩
    have hll:l=l':=by show(gZ u most.toNat).getD []=l';rw[hs];rfl
    rw[hll] at p1 p2
    obtain⟨hf,hlm,_⟩:=lC hu hr (by omega) hs
    have hin:=u0 hr hf (by omega) l'.length
    have hlen:=lH u l' l'.length
    refine cV ?_
    refine aL (vR 7 (dS u l' l'.length) hin (by omega) _ _ p2 ca) ?_
    rintro r H3 n3 ⟨⟨d5,r5⟩,hn3,hk3⟩
    have r6:=(hk3 3 ca (by omega)).trans p1
    have hsl:(ff fw (dS u l' l'.length)).length=(dS u l' l'.length).length:=nJ _ _
    refine cV ?_
    rw[←hsl]
    refine aL (wF 7 (ff fw (dS u l' l'.length)) (by omega) (fun e he=>hin e ((lS _ _).mem_iff.1 he)) _ _ ca ⟨d5,r5⟩) ?_
    rintro r H4 n4 ⟨hform,hfz⟩
    rcases hform with rfl|⟨m,rfl⟩
    all_goals
     refine cV ?_
     refine⟨?_⟩
     dsimp only
     rw[if_pos rfl]
     show AV.dK [cZ.dV H4 5 _,i64 0]=_
     rw[hfz,hsl]
     rfl
  ·unfold uY
   rw[lB hr hm]
   refine cV ?_
   refine aL (uK u hu hr most hm _ _ _ _) ?_
   rintro r H' n' ⟨rfl,hn,hk⟩
   refine cV ?_
   exact⟨rfl⟩
 ·unfold uY
  rw[oU hr]
  refine cV ?_
  refine aL (ET u hu hr most _ _ _ _) ?_
  rintro r H' n' ⟨rfl,hn,hk⟩
  refine cV ?_
  exact⟨rfl⟩
end Go.Proofs.YtjopoheligmmoaaGreatDoor
end
section
/- The unit that takes its lock twice; begins. -/
namespace Go.Proofs.YtjopoheligmmoaaGreatDoor
open Go Go.cZ Go.Proofs
set_option linter.unusedSimpArgs false
set_option linter.unusedVariables false
set_option maxRecDepth 8000
instance ZL (n:Int):Decidable (eQ n):=inferInstanceAs (Decidable (_∧_))
end Go.Proofs.YtjopoheligmmoaaGreatDoor
end
section
/- What units and ends read as. -/
namespace Go.Proofs.YtjopoheligmmoaaGreatDoor
open Go Go.cZ Go.Proofs Go.RowKit Go.ChangeShapes Go.WideShapes Go.ChangeAt
set_option linter.unusedSimpArgs false
set_option linter.unusedVariables false
theorem own:ownKnob Tryz.prog.godebug=none:=by kernel_rfl
theorem laidOut:laidOutB Tryz.prog=true:=by kernel_rfl
theorem OZ {n:Int} (h:(Lit.int .i64 n).wf=true):eQ n:=by
 simp only[Lit.wf,Bool.and_eq_true,decide_eq_true_eq] at h
 have e1:IntKind.i64.min=-9223372036854775808:=by decide
 have e2:IntKind.i64.max=9223372036854775807:=by decide
 unfold eQ
 omega
theorem G7 {n:Int} (h:(Lit.int .u8 n).wf=true):0≤n∧n<256:=by
 simp only[Lit.wf,Bool.and_eq_true,decide_eq_true_eq] at h
 have e1:IntKind.u8.min=0:=by decide
 have e2:IntKind.u8.max=255:=by decide
 omega
theorem eK {t:TypeId} (ht:Tryz.prog.underlying t=some (.int .i64)):eS Tryz.prog t (fun n:Int=>[i64 n]) eQ:=(qU ht).map (fun n=>n) (fun _ _=>rfl) fun _ h=>OZ h
theorem vI:eS Tryz.prog 63 l8.cells l8.Wf:=by
 refine eS.map (α:=Bool×Int×Int×Unit) (fun p=>(⟨p.1,p.2.1,p.2.2.1⟩:l8))
  (gp (k:=3) Tryz.underlying63 (by kernel_rfl) (dA (k:=1) rfl (by kernel_rfl) (DB Tryz.underlying4) (dA (k:=1) rfl (by kernel_rfl) (eK Tryz.underlying3) (dA (k:=1) rfl (by kernel_rfl) (eK Tryz.underlying2) jX)))) ?_ ?_
 ·intro a _;rfl
 ·intro a h;exact⟨h.2.1,h.2.2.1⟩
theorem DE:eS Tryz.prog 65 Node.cells Node.Wf:=by
 refine eS.map (α:=Int×Int×Int×Int×l8×l8×Int×Int×Int×Unit) (fun p=>(⟨p.1,p.2.1,p.2.2.1,p.2.2.2.1,p.2.2.2.2.1,p.2.2.2.2.2.1,p.2.2.2.2.2.2.1,p.2.2.2.2.2.2.2.1,p.2.2.2.2.2.2.2.2.1⟩:Node))
  (gp (k:=13) Tryz.underlying65 (by kernel_rfl) (dA (k:=1) rfl (by kernel_rfl) (qU Tryz.underlying51) (dA (k:=1) rfl (by kernel_rfl) (qU Tryz.underlying61) (dA (k:=1) rfl (by kernel_rfl) (eK Tryz.underlying3) (dA (k:=1) rfl (by kernel_rfl) (eK Tryz.underlying3) (dA (k:=3) rfl (by kernel_rfl) vI (dA (k:=3) rfl (by kernel_rfl) vI (dA (k:=1) rfl (by kernel_rfl) (eK Tryz.underlying3) (dA (k:=1) rfl (by kernel_rfl) (eK Tryz.underlying3) (dA (k:=1) rfl (by kernel_rfl) (eK Tryz.underlying3) jX)))))))))) ?_ ?_
 ·intro a _;rfl
 ·intro a h
  obtain⟨h1,h2,h3,h4,h5,h6,h7,h8,h9,_⟩:=h
  exact⟨G7 h1,G7 h2,h3,h4,h5,h6,h7,h8,h9⟩
theorem DC:eS Tryz.prog 85 Decl.cells Decl.Wf:=by
 refine eS.map (α:=ByteArray×Int×Int×Unit) (fun p=>(⟨p.1,p.2.1,p.2.2.1⟩:Decl))
  (gp (k:=3) Tryz.underlying85 (by kernel_rfl) (dA (k:=1) rfl (by kernel_rfl) (pK Tryz.underlying9) (dA (k:=1) rfl (by kernel_rfl) (eK Tryz.underlying2) (dA (k:=1) rfl (by kernel_rfl) (eK Tryz.underlying3) jX)))) ?_ ?_
 ·intro a _;rfl
 ·intro a h;exact⟨h.1,h.2.1,h.2.2.1⟩
theorem AF:eS Tryz.prog 58 (fun l:List Node=>[iz l]) (fun l=>(∀x∈l,x.Wf)∧l.length * 88≤140737488351232):=by
 have hb:Tryz.prog.bytesOf 65=96:=by kernel_rfl
 refine(jl (ag:=true) (sz:=13) .any Tryz.underlying58 (by kernel_rfl) (by omega) DE (fun _=>rfl) (fun _ _=>rfl) (fun h=>by cases h)).map (fun l=>l) (fun _ _=>rfl) ?_
 rintro l ⟨h1,h2⟩
 rw[hb] at h2
 have hr:reachBytes=140737488351232:=rfl
 exact⟨h1,by omega⟩
theorem AE:eS Tryz.prog 60 cF.cells cF.Wf:=by
 refine eS.map (α:=ByteArray×Int×Int×List Node×Unit) (fun p=>(⟨p.1,p.2.1,p.2.2.1,p.2.2.2.1⟩:cF))
  (gp (k:=4) Tryz.underlying60 (by kernel_rfl) (dA (k:=1) rfl (by kernel_rfl) (pK Tryz.underlying9) (dA (k:=1) rfl (by kernel_rfl) (eK Tryz.underlying3) (dA (k:=1) rfl (by kernel_rfl) (eK Tryz.underlying3) (dA (k:=1) rfl (by kernel_rfl) AF jX))))) ?_ ?_
 ·intro a _;rfl
 ·intro a h
  obtain⟨h1,h2,h3,⟨h4,h5⟩,_⟩:=h
  exact⟨h1,h2,h3,h4,h5⟩
theorem qm:eS Tryz.prog 22 (fun l:List Decl=>[ct l]) (fun l=>(∀x∈l,x.Wf)∧l.length * 32≤140737488351232):=by
 have hb:Tryz.prog.bytesOf 85=32:=by kernel_rfl
 refine(jl (ag:=true) (sz:=3) .any Tryz.underlying22 (by kernel_rfl) (by omega) DC (fun _=>rfl) (fun _ _=>rfl) (fun h=>by cases h)).map (fun l=>l) (fun _ _=>rfl) ?_
 rintro l ⟨h1,h2⟩
 rw[hb] at h2
 exact⟨h1,h2⟩
theorem w9:eS Tryz.prog 23 (fun l:List cF=>[di l]) (fun l=>(∀x∈l,x.Wf)∧l.length * 56≤140737488351232):=by
 have hb:Tryz.prog.bytesOf 60=56:=by kernel_rfl
 refine(jl (ag:=true) (sz:=4) .any Tryz.underlying23 (by kernel_rfl) (by omega) AE (fun _=>rfl) (fun _ _=>rfl) (fun h=>by cases h)).map (fun l=>l) (fun _ _=>rfl) ?_
 rintro l ⟨h1,h2⟩
 rw[hb] at h2
 exact⟨h1,h2⟩
theorem DF:eS Tryz.prog 25 bx.cells bx.Wf:=by
 refine eS.map (α:=List Decl×List Decl×List cF×Unit) (fun p=>(⟨p.1,p.2.1,p.2.2.1⟩:bx))
  (gp (k:=3) Tryz.underlying25 (by kernel_rfl) (dA (k:=1) rfl (by kernel_rfl) qm (dA (k:=1) rfl (by kernel_rfl) qm (dA (k:=1) rfl (by kernel_rfl) w9 jX)))) ?_ ?_
 ·intro a _;rfl
 ·intro a h
  obtain⟨⟨h1,h2⟩,⟨h3,h4⟩,⟨h5,h6⟩,_⟩:=h
  exact⟨h1,h2,h3,h4,h5,h6⟩
theorem DD {t e:TypeId} (ht:Tryz.prog.underlying t=some (.slice e)) (he:Tryz.prog.underlying e=some (.int .i64)) (hsz:Tryz.prog.cellsOf e=1) (hb:Tryz.prog.bytesOf e=8):eS Tryz.prog t (fun l:List Int=>[cM l]) (fun l=>(∀x∈l,eQ x)∧l.length * 8≤140737488351232):=by
 refine(jl (ag:=false) (sz:=1) .any ht hsz (by omega) (eK he) (fun _=>rfl) (fun _ _=>rfl) (fun _=>rfl)).map (fun l=>l) (fun _ _=>rfl) ?_
 rintro l ⟨h1,h2⟩
 rw[hb] at h2
 exact⟨h1,h2⟩
structure cn.Wf (e:cn):Prop where
 cP:(∀p∈e.cP,eQ p.df∧eQ p.word)∧e.cP.length * 16≤140737488351232
 mem:(∀x∈e.mem,eQ x)∧e.mem.length * 8≤140737488351232
end Go.Proofs.YtjopoheligmmoaaGreatDoor
end
section
/- What the table reads as that the paths may read, and what comes in. -/
namespace Go.Proofs.YtjopoheligmmoaaGreatDoor
open Go Go.cZ Go.Proofs Go.RowKit Go.ChangeShapes Go.WideShapes Go.ChangeAt
abbrev yY:List (String×DataW Unit):=[("math/bits.deBruijn32tab",Rows.laid_math_bits_deBruijn32tab)]
def A0:List Nat:=[0,1,28,2,29,14,24,3,30,22,20,15,25,17,4,8,31,27,13,23,21,19,16,7,26,12,18,6,11,5,10,9]
theorem Z8:Tryz.prog.globalNamed "math/bits.deBruijn32tab" =some 0:=by kernel_rfl
theorem aAJ:(Tryz.prog.globals[0]?).map (·.type)=some 229:=by kernel_rfl
theorem MN (os:Os) (args:Array Value):laidMetH Tryz.prog yY ((World.doorLaid Tryz.prog 400 os).forCall (fun _ _=>0) ⟨#[],args,[]⟩).memory:=
 laidMetH_of_parts3 (fuel:=8) (laidMet_of_run' 8 (by kernel_rfl) (by kernel_rfl)) (by kernel_rfl) (by kernel_rfl)
theorem TE {W:World} (h:laidMetH Tryz.prog yY W):xJ W emp:=by
 rw[MakeChecks.laidMetH_plain _ _ _ (by kernel_rfl)] at h
 obtain⟨ps,⟨g0,t0,cs0,f0,p0,q0,hg0,ht0,hv0,hd0,_⟩,_,_⟩:=h
 obtain rfl:=Option.some.inj (Z8.symm.trans hg0)
 obtain rfl:=Option.some.inj (aAJ.symm.trans ht0)
 obtain⟨xs,m1,rfl,hx1,hlen,hn3,hel⟩:=DataW.trod_array Tryz.underlying229 hd0
 have c5:Tryz.prog.cellsOf 5=1:=by kernel_rfl
 simp only[Prod.mk.injEq] at hx1
 obtain⟨hx1,_⟩:=hx1
 have hx2:xs.map (·.1)=A0.map fun n:Nat=>DataW.lit (Lit.int .u8 (n:Int)):=by
  have h9:(DataW.agg (A0.map fun n:Nat=>DataW.lit (Lit.int .u8 (n:Int))):DataW Unit)= .agg (xs.map (·.1)):=hx1
  exact(DataW.agg.inj h9).symm
 have key:∀j,j<32→W.cell? ⟨0,j,none⟩=some (.int .u8 (([0,1,28,2,29,14,24,3,30,22,20,15,25,17,4,8,31,27,13,23,21,19,16,7,26,12,18,6,11,5,10,9]:List Nat).getD j 0)):=by
  intro j hj
  have hjx:j<xs.length:=by omega
  have h0:=hel j hj
  rw[List.getElem?_eq_getElem hjx,c5] at h0
  obtain⟨k,e1,e2,_⟩:=DataW.trod_int Tryz.underlying5 h0
  have hc:=World.var?_cell hg0 hv0 j
  have db:cs0.toList[j]?=some (.int .u8 k):=by
   have:((cs0.toList.drop (j * 1)).take 1)[0]?=some (.int .u8 k):=by rw[e1];rfl
   simpa[List.getElem?_take,List.getElem?_drop] using this
  rw[hc,←Array.getElem?_toList,db]
  have hxj:(xs.map (·.1))[j]?=some (.lit (.int .u8 k)):=by
   rw[List.getElem?_map,List.getElem?_eq_getElem hjx,e2];rfl
  have htl:A0.length=32:=rfl
  rw[hx2,List.getElem?_map,List.getElem?_eq_getElem (by omega)] at hxj
  simp only[Option.map_some,Option.some.injEq,DataW.lit.injEq,Lit.int.injEq,true_and] at hxj
  rw[←hxj,List.getD,List.getElem?_eq_getElem (by omega)];rfl
 refine⟨fun _ h=>h.elim,fun t ht=> ?_⟩
 have ht:t=(0,A0):=by simpa[W6,A0] using ht
 subst ht
 refine⟨fun h=>h.elim,World.block_lt_of_cell? W ⟨0,0,none⟩ (key 0 (by omega)),fun j hj=>key j hj⟩
end Go.Proofs.YtjopoheligmmoaaGreatDoor
end
section
/- Who holds which lock in each situation to which a machine comes: plain. -/
namespace Go.Proofs.YtjopoheligmmoaaGreatDoor
open Go Go.cZ Go.Proofs
set_option linter.unusedSimpArgs false
set_option linter.unusedVariables false
def O1 (g:cF) (i:Nat):List Int:=(eO g).1.getD i []
structure mW (u:bx) (m:MS):Prop where
 oZ:∀t,t<u.bz.length→la (u.gr t) (-1) (m.at_.getD t 0)
 nd:∀t,t<u.bz.length→(O1 (u.gr t) (m.at_.getD t 0).toNat).Nodup
 own:∀t,t<u.bz.length→∀x:Int,0≤x→x<u.cE.length→(m.hold.getD x.toNat 0=t↔x∈O1 (u.gr t) (m.at_.getD t 0).toNat)
theorem sq {u:bx} {g:cF} (hk:eL u g):QN g (O1 g):=(kZ hk.whole hk.held).2.2.1
theorem w3 {u:bx} {g:cF} (hk:eL u g) (i:Nat):∀x∈O1 g i,0≤x∧x<u.cE.length:=FD hk i
theorem w6 (u:bx) {t:Nat} (ht:t<u.bz.length):(dY u).at_.getD t 0=0:=by simp[dY,List.getD,ht]
theorem J6 (u:bx) {x:Nat} (hx:x<u.cE.length):(dY u).hold.getD x 0=-1:=by simp[dY,List.getD,hx]
theorem mW.new {u:bx} (hr:cT u):mW u (dY u) where
 oZ:=fun t ht=>by rw[w6 u ht];exact .zero
 nd:=fun t ht=>by
  rw[w6 u ht,show(0:Int).toNat=0 from rfl,(sq (hr.gr ht)).zero];exact List.nodup_nil
 own:=fun t ht x h0 h1=>by
  rw[w6 u ht,show(0:Int).toNat=0 from rfl,(sq (hr.gr ht)).zero,J6 u (by omega)]
  constructor
  ·intro h;omega
  ·intro h;cases h
theorem vm {m:MS} {t:Nat} {n:Node} (hk:1≤n.kind∧n.kind<10) (h9:n.kind≠9):(m.act t n).2.1∈n.oO:=by
 unfold Node.oO
 rw[if_neg h9]
 by_cases h8:n.kind=8
 ·rw[if_pos h8]
  unfold MS.act
  rw[if_neg (by omega),if_neg (by omega),if_neg (by omega),if_neg (by omega),if_neg (by omega),if_neg (by omega),if_neg (by omega)]
  dsimp only
  split<;>simp
 ·rw[if_neg h8]
  have:(m.act t n).2.1=n.next:=by
   unfold MS.act
   by_cases h1:n.kind=1
   ·rw[if_pos h1]
   rw[if_neg h1]
   by_cases h2:n.kind=2
   ·rw[if_pos h2]
   rw[if_neg h2]
   by_cases h3:n.kind=3
   ·rw[if_pos h3]
   rw[if_neg h3]
   by_cases h4:n.kind=4
   ·rw[if_pos h4]
   rw[if_neg h4]
   by_cases h5:n.kind=5
   ·rw[if_pos h5]
   rw[if_neg h5]
   by_cases h6:n.kind=6
   ·rw[if_pos h6]
   rw[if_neg h6]
   rw[if_pos (by omega)]
  rw[this];simp
theorem xV (m:MS) (t:Nat) (n:Node):(m.act t n).1.hold=if n.kind=5 then m.hold.set n.cQ.toNat t else if n.kind=6 then m.hold.set n.cQ.toNat (-1) else m.hold:=by
 unfold MS.act
 by_cases h1:n.kind=1
 ·rw[if_pos h1,if_neg (by omega),if_neg (by omega)];rfl
 rw[if_neg h1]
 by_cases h2:n.kind=2
 ·rw[if_pos h2,if_neg (by omega),if_neg (by omega)];rfl
 rw[if_neg h2]
 by_cases h3:n.kind=3
 ·rw[if_pos h3,if_neg (by omega),if_neg (by omega)]
 rw[if_neg h3]
 by_cases h4:n.kind=4
 ·rw[if_pos h4,if_neg (by omega),if_neg (by omega)];rfl
 rw[if_neg h4]
 by_cases h5:n.kind=5
 ·rw[if_pos h5,if_pos h5]
 rw[if_neg h5,if_neg h5]
 by_cases h6:n.kind=6
 ·rw[if_pos h6,if_pos h6]
 rw[if_neg h6,if_neg h6]
 split<;>rfl
theorem fV {u:bx} {g:cF} {n:Node} (h:nY u g n) (hk:n.kind=5∨n.kind=6):0≤n.cQ∧n.cQ<u.cE.length:=by
 have:=h.cQ.1 (by unfold gA;exact decide_eq_true (by omega))
 rw[if_pos hk] at this
 exact this
theorem k7 {u:bx} {m:MS} (h:eN u m) {k:Int} (hk:0≤k∧k<u.cE.length) (w:Int) {x:Int} (hx:0≤x):(m.hold.set k.toNat w).getD x.toNat 0=if x=k then w else m.hold.getD x.toNat 0:=by
 by_cases e:x=k
 ·subst e
  rw[if_pos rfl,ec (by rw[h.hl];omega)]
 ·rw[if_neg e,getD_set_ne (by omega)]
theorem mW.step {u:bx} {m:MS} {t:Nat} (hr:cT u) (h:eN u m) (hi:mW u m) (ht:t<u.bz.length) (hb:m.kx u t=0):mW u (m.step u t).1:=by
 obtain⟨h9,hbar⟩:=kO h ht hb
 have hno:=h.node hr ht
 have hc:=hi.oZ t ht
 have hlk:=sq (hr.gr ht)
 have hj:=vm (m:=m) (t:=t) hno.kind h9
 have hhold:(m.step u t).1.hold=(m.act t (m.node u t)).1.hold:=rfl
 have hat:(m.step u t).1.at_=m.at_.set t (m.act t (m.node u t)).2.1:=rfl
 rw[xV] at hhold
 obtain⟨now,n1,n2⟩:=hlk.on _ hc
 have hnx:=n2 _ hj
 have hcj:la (u.gr t) (-1) (m.act t (m.node u t)).2.1:= .step hc (by have:=(h.gb t ht).1;omega) hj
 generalize (m.act t (m.node u t)).2.1=j at *
 have a1:(m.step u t).1.at_.getD t 0=j:=by rw[hat,ec (by rw[h.pk];exact ht)]
 have a2:∀s,s≠t→(m.step u t).1.at_.getD s 0=m.at_.getD s 0:=fun s hs=>by rw[hat,getD_set_ne (fun e=>hs e.symm)]
 change dj (m.node u t) _=_ at n1
 have ho:=hi.own t ht
 have hnd:=hi.nd t ht
 generalize hl:O1 (u.gr t) (m.at_.getD t 0).toNat=l at *
 have key:(O1 (u.gr t) j.toNat).Nodup∧(∀x:Int,0≤x→x<u.cE.length→((m.step u t).1.hold.getD x.toNat 0=t↔x∈O1 (u.gr t) j.toNat))∧∀s:Nat,s≠t→s<u.bz.length→∀x:Int,0≤x→x<u.cE.length→((m.step u t).1.hold.getD x.toNat 0=s↔m.hold.getD x.toNat 0=s):=by
  rw[hnx,hhold]
  generalize m.node u t=n at *
  unfold dj at n1
  by_cases h5:n.kind=5
  ·obtain⟨x0,x1⟩:=fV hno (.inl h5)
   have hfree:m.hold.getD n.cQ.toNat 0<0:=by
    have:=fun e=>hbar ⟨h5,e⟩
    omega
   rw[if_pos h5] at n1
   cases n1
   rw[if_pos h5]
   have hnot:n.cQ∉l:=fun e=>by
    have:=(ho _ x0 x1).2 e
    omega
   refine⟨List.nodup_append.2 ⟨hnd,by simp,fun a ha b hb=>by
    simp only[List.mem_cons,List.not_mem_nil,or_false] at hb
    subst hb
    exact fun e=>hnot (e▸ha)⟩,fun x hx0 hx1=> ?_,fun s hs hsl x hx0 hx1=> ?_⟩
   ·rw[k7 h ⟨x0,x1⟩ _ hx0]
    by_cases e:x=n.cQ
    ·rw[if_pos e];simp[e]
    ·rw[if_neg e,ho x hx0 hx1];simp[e]
   ·rw[k7 h ⟨x0,x1⟩ _ hx0]
    by_cases e:x=n.cQ
    ·rw[if_pos e,e]
     constructor
     ·intro h2;exfalso;omega
     ·intro h2;exfalso;omega
    ·rw[if_neg e]
  ·rw[if_neg h5] at n1 ⊢
   by_cases h6:n.kind=6
   ·obtain⟨x0,x1⟩:=fV hno (.inr h6)
    rw[if_pos h6] at n1 ⊢
    split at n1
    ·rename_i hc2
     obtain⟨ys,rfl⟩:=List.getLast?_eq_some_iff.1 hc2.2
     cases n1
     rw[List.dropLast_concat]
     have hnd2:=List.nodup_append.1 hnd
     have hnot:n.cQ∉ys:=fun e=>hnd2.2.2 _ e _ (by simp) rfl
     have hmine:=(ho _ x0 x1).2 (by simp)
     refine⟨hnd2.1,fun x hx0 hx1=> ?_,fun s hs hsl x hx0 hx1=> ?_⟩
     ·rw[k7 h ⟨x0,x1⟩ _ hx0]
      by_cases e:x=n.cQ
      ·rw[if_pos e]
       constructor
       ·intro h2;omega
       ·intro h2;rw[e] at h2;exact absurd h2 hnot
      ·rw[if_neg e,ho x hx0 hx1];simp[e]
     ·rw[k7 h ⟨x0,x1⟩ _ hx0]
      by_cases e:x=n.cQ
      ·rw[if_pos e,e]
       constructor
       ·intro h2;omega
       ·intro h2;exfalso;omega
      ·rw[if_neg e]
    ·cases n1
   ·rw[if_neg h6,if_neg h9] at n1
    rw[if_neg h6]
    cases n1
    exact⟨hnd,ho,fun _ _ _ _ _ _=>Iff.rfl⟩
 obtain⟨k1,k2,k3⟩:=key
 refine⟨fun s hs=> ?_,fun s hs=> ?_,fun s hs x hx0 hx1=> ?_⟩
 ·by_cases e:s=t
  ·rw[e,a1];exact hcj
  ·rw[a2 s e];exact hi.oZ s hs
 ·by_cases e:s=t
  ·rw[e,a1];exact k1
  ·rw[a2 s e];exact hi.nd s hs
 ·by_cases e:s=t
  ·rw[e,a1];exact k2 x hx0 hx1
  ·rw[a2 s e,k3 s e hs x hx0 hx1];exact hi.own s hs x hx0 hx1
def fO (u:bx) (m:MS):List Int→MS
 |[]=>m
 |t::r=>fO u (if m.kx u t=0 then(m.step u t.toNat).1 else m) r
structure uJ (u:bx) (m:MS):Prop where
 ok:eN u m
 inv:mW u m
theorem uJ.step {u:bx} {m:MS} (hu:u.Wf) (hr:cT u) (h:uJ u m) {t:Nat} (ht:t<u.bz.length) (hb:m.kx u t=0):uJ u (m.step u t).1:=
 ⟨wy hu hr h.ok ht (kO h.ok ht hb).1,h.inv.step hr h.ok ht hb⟩
theorem BP {u:bx} {m:MS} (h:eN u m) {t:Int} (hb:m.kx u t=0):∃k:Nat,t=k∧k<u.bz.length:=by
 by_cases e:t<0∨(m.at_.length:Int)≤t
 ·rw[EW e] at hb;cases hb
 ·rw[h.pk] at e
  exact⟨t.toNat,by omega,by omega⟩
theorem uJ.one {u:bx} {m:MS} (hu:u.Wf) (hr:cT u) (h:uJ u m) (t:Int):uJ u (if m.kx u t=0 then(m.step u t.toNat).1 else m):=by
 split
 ·rename_i hb
  obtain⟨k,rfl,hk⟩:=BP h.ok hb
  exact h.step hu hr hk hb
 ·exact h
theorem uJ.KD {u:bx} (hu:u.Wf) (hr:cT u):∀{w:List Int} {m:MS},uJ u m→uJ u (fO u m w)
 |[],m,h=>h
 |t::r,m,h=>uJ.KD hu hr (w:=r) (h.one hu hr t)
theorem vK (u:bx):∀(a b:List Int) (m:MS),fO u m (a++b)=fO u (fO u m a) b
 |[],b,m=>rfl
 |t::r,b,m=>vK u r b _
theorem uJ.new {u:bx} (hu:u.Wf) (hr:cT u):uJ u (dY u):=⟨HB u hr (fun d hd=>(hu.shared d hd).word) fun t ht=>(hr.gr ht).len.1, .new hr⟩
end Go.Proofs.YtjopoheligmmoaaGreatDoor
end
