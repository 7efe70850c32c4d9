import Derived.Shelf.SlSortCmp.WholeK
import Derived.Test.YtjopoheligmmoaaGreatDoorProg
import Derived.Test.YtjopoheligmmoaaGreatDoorM35
import Derived.Test.YtjopoheligmmoaaGreatDoorM36
import Derived.Shelf.SlSortCmp.NoneTotal
import Derived.Test.YtjopoheligmmoaaGreatDoorM17
import Derived.Test.YtjopoheligmmoaaGreatDoorRows
import Derived.Test.YtjopoheligmmoaaGreatDoorTie
import Derived.Test.YtjopoheligmmoaaGreatDoorCards
import Derived.LaidMore
import Derived.OpenShut
import Derived.SevenTiedAt
import Derived.Test.YtjopoheligmmoaaGreatDoorM30
import Derived.Test.YtjopoheligmmoaaGreatDoorM27
namespace Go.Proofs
open Go.Shelf
def Tryz.HY:Go.Shelf.Ren:=⟨fun|6=>95|15=>82|14=>149|28=>141|29=>142|20=>186|21=>187|22=>188|23=>189|24=>190|25=>191|26=>192|27=>193|46=>202|47=>173|48=>174|49=>203|50=>204|57=>225|n=>n,fun|22=>41|24=>105|25=>112|3=>3|39=>142|0=>0|53=>132|55=>206|4=>4|46=>198|45=>197|50=>203|5=>5|9=>9|66=>231|70=>235|76=>266|77=>267|n=>n,fun|n=>n⟩
theorem Tryz.QC:Go.Proofs.SlLaysF0.n6 Tryz.prog Tryz.HY:={
 mixed:=by kernel_rfl
 f6:=⟨Tryz.f95.name,by decide,Tryz.func95.trans (congrArg some (by kernel_rfl))⟩
 f14:=⟨Tryz.f149.name,by decide,Tryz.func149.trans (congrArg some (by kernel_rfl))⟩
 f15:=Tryz.func82.trans (congrArg some (by kernel_rfl))
 f20:=⟨Tryz.f186.name,by decide,Tryz.func186.trans (congrArg some (by kernel_rfl))⟩
 f21:=⟨Tryz.f187.name,by decide,Tryz.func187.trans (congrArg some (by kernel_rfl))⟩
 f22:=⟨Tryz.f188.name,by decide,Tryz.func188.trans (congrArg some (by kernel_rfl))⟩
 f23:=⟨Tryz.f189.name,by decide,Tryz.func189.trans (congrArg some (by kernel_rfl))⟩
 f24:=⟨Tryz.f190.name,by decide,Tryz.func190.trans (congrArg some (by kernel_rfl))⟩
 f25:=⟨Tryz.f191.name,by decide,Tryz.func191.trans (congrArg some (by kernel_rfl))⟩
 f26:=⟨Tryz.f192.name,by decide,Tryz.func192.trans (congrArg some (by kernel_rfl))⟩
 f27:=⟨Tryz.f193.name,by decide,Tryz.func193.trans (congrArg some (by kernel_rfl))⟩
 f28:=Tryz.func141.trans (congrArg some (by kernel_rfl))
 f29:=Tryz.func142.trans (congrArg some (by kernel_rfl))
 f46:=⟨Tryz.f202.name,by decide,Tryz.func202.trans (congrArg some (by kernel_rfl))⟩
 f47:=Tryz.func173.trans (congrArg some (by kernel_rfl))
 f48:=Tryz.func174.trans (congrArg some (by kernel_rfl))
 f49:=⟨Tryz.f203.name,by decide,Tryz.func203.trans (congrArg some (by kernel_rfl))⟩
 f50:=⟨Tryz.f204.name,by decide,Tryz.func204.trans (congrArg some (by kernel_rfl))⟩
 f57:=⟨Tryz.f225.name,by decide,Tryz.func225.trans (congrArg some (by kernel_rfl))⟩
 t0:=Tryz.underlying0
 a0:=Tryz.isAgg0
 z0:=Tryz.sizeOf0
 v0:=Tryz.zeroValue0
 t3:=Tryz.underlying3
 a3:=Tryz.isAgg3
 z3:=Tryz.sizeOf3
 v3:=Tryz.zeroValue3
 t4:=Tryz.underlying4
 a4:=Tryz.isAgg4
 z4:=Tryz.sizeOf4
 v4:=Tryz.zeroValue4
 t5:=Tryz.underlying5
 a5:=Tryz.isAgg5
 z5:=Tryz.sizeOf5
 v5:=Tryz.zeroValue5
 t9:=Tryz.underlying9
 a9:=Tryz.isAgg9
 z9:=Tryz.sizeOf9
 v9:=Tryz.zeroValue9
 t22:=Tryz.underlying41
 a22:=Tryz.isAgg41
 z22:=Tryz.sizeOf41
 v22:=Tryz.zeroValue41
 t25:=Tryz.underlying112
 a25:=Tryz.isAgg112
 z25:=Tryz.sizeOf112
 v25:=Tryz.zeroValue112
 t39:=Tryz.underlying142
 a39:=Tryz.isAgg142
 z39:=Tryz.sizeOf142
 v39:=Tryz.zeroValue142
 t45:=Tryz.underlying197
 a45:=Tryz.isAgg197
 z45:=Tryz.sizeOf197
 v45:=Tryz.zeroValue197
 t46:=Tryz.underlying198
 a46:=Tryz.isAgg198
 z46:=Tryz.sizeOf198
 v46:=Tryz.zeroValue198
 t50:=Tryz.underlying203
 a50:=Tryz.isAgg203
 z50:=Tryz.sizeOf203
 v50:=Tryz.zeroValue203
 t53:=Tryz.underlying132
 a53:=Tryz.isAgg132
 z53:=Tryz.sizeOf132
 v53:=Tryz.zeroValue132
 t55:=Tryz.underlying206
 a55:=Tryz.isAgg206
 z55:=Tryz.sizeOf206
 v55:=Tryz.zeroValue206
 t66:=Tryz.underlying231
 a66:=Tryz.isAgg231
 z66:=Tryz.sizeOf231
 v66:=Tryz.zeroValue231
 t70:=Tryz.underlying235
 a70:=Tryz.isAgg235
 z70:=Tryz.sizeOf235
 v70:=Tryz.zeroValue235
 t76:=Tryz.underlying266
 a76:=Tryz.isAgg266
 z76:=Tryz.sizeOf266
 v76:=Tryz.zeroValue266
 t77:=Tryz.underlying267
 a77:=Tryz.isAgg267
 z77:=Tryz.sizeOf267
 v77:=Tryz.zeroValue267 }
end Go.Proofs
namespace Go.Proofs.YtjopoheligmmoaaGreatDoor
open Go Go.cu Go.Proofs Go.RowKit Go.Sort
set_option linter.unusedSimpArgs false
set_option linter.unusedVariables false
set_option maxRecDepth 8000
section
theorem AP {w w':World} (h:Go.RowKit.Below w.heap.size w w') (hd:w.drawn<=w'.drawn):∃q os',w'=grow (w.drewN q) os':=by
 refine⟨w'.drawn - w.drawn,w'.heap.extract w.heap.size w'.heap.size, ?_⟩
 obtain⟨hp,tp,dr,os,ou⟩:=w
 obtain⟨hp',tp',dr',os',ou'⟩:=w'
 have h1:=h.os
 have h2:=h.tape
 have h3:=h.output
 have h4:=h.size
 have h5:=h.block
 dsimp only at *
 subst h1 h2 h3
 simp only[grow,World.drewN,World.mk.injEq,true_and,and_true]
 refine⟨?_,by omega⟩
 apply Array.ext_getElem?
 intro i
 rw[Array.getElem?_append]
 split
 ·rename_i hi;exact h5 i hi
 ·rename_i hi
  rw[Array.getElem?_extract]
  split
  ·congr 1;omega
  ·rw[Array.getElem?_eq_none (by omega)]
def El {S:Type} (cells:S->List AV) (ok:S->Prop) (w:World) (M:Nat->Prop):Type:={ x:S×List Value //ok x.1/\ct (base w M) (cells x.1) x.2 }
section
variable {S:Type} {cells:S->List AV} {ok:S->Prop} {k:Nat} {cf:S->S->Int}
structure AH (P:Program) (g:Nat) (cells:S->List AV) (k:Nat) (ok:S->Prop) (cf:S->S->Int):Prop where
 len:∀s,(cells s).length=k
 pos:0<k
 fit:∀s,cX 0 (cells s)
 one:∀s,iu (cells s)=true
 cmp:∀a b,ok a->ok b->Pure P g [.agg (cells a), .agg (cells b)] (fun r=>r= .sc (.int .i64 (cf a b)))
 ord:kn cf
theorem SC (h:kn cf) {α:Type} (f:α->S):SWO (ltOf fun x y:α=>cf (f x) (f y)) where
 irrefl x:=by
  have:=(h.zero (f x) (f x)).2 rfl
  simp[ltOf,this]
 trans x y z h1 h2:=by
  simp only[ltOf,decide_eq_true_eq] at *
  exact h.tr _ _ _ h1 h2
 ntrans x y z h1 h2:=by
  simp only[ltOf,decide_eq_false_iff_not] at *
  have n1:=h.neg (f x) (f y)
  have n2:=h.neg (f y) (f z)
  have n3:=h.neg (f x) (f z)
  by_cases e1:cf (f x) (f y)=0
  ·rw[(h.zero _ _).1 e1];exact h2
  ·by_cases e2:cf (f y) (f z)=0
   ·rw[<-(h.zero _ _).1 e2];exact h1
   ·have:=h.tr (f z) (f y) (f x) (by omega) (by omega)
    omega
variable {w:World} {M:Nat->Prop} {blk off:Nat}
theorem nG {α:Type} [Inhabited α] {enc:α->List Value} {n i:Nat} {os:Array Obj} (d:Array α) (hi:i<w.heap.size) (hne:i≠blk):(sortWorldK enc k w blk off n d os).heap[i]?=w.heap[i]?:=by
 unfold sortWorldK putRowK
 rw[heap_grow_old _ _ (by simpa[putRow,mapBlock,Sort.ahead] using hi)]
 simp[putRow,mapBlock,Sort.ahead,Array.getElem?_modify,Ne.symm hne]
theorem uE {α:Type} [Inhabited α] {enc:α->List Value} {n:Nat} {os:Array Obj} {cur:Array Value} {e:TypeId} {fr:Nat×Nat} (d:Array α) (hb:w.heap[blk]?=some (.cells cur e fr)):
 (sortWorldK enc k w blk off n d os).heap[blk]?=some (.cells (putCells id off (flatK enc k d) cur) e fr):=by
 have hg:blk<w.heap.size:=(Array.getElem?_eq_some_iff.1 hb).1
 unfold sortWorldK putRowK
 rw[heap_grow_old _ _ (by simpa[putRow,mapBlock,Sort.ahead] using hg)]
 simp[putRow,mapBlock,Sort.ahead,Array.getElem?_modify,hb,onCells]
theorem AX {P:Program} {g:Nat} (h:AH P g cells k ok cf) (hM:xb w M) (hblk:M blk) (size:Nat) [Inhabited (El cells ok w M)]:
 CmpLays P g #[] (fun x:El cells ok w M=>x.1.2) k (fun x y=>cf x.1.1 y.1.1) blk off size w:=by
 intro m os dk _ x y
 have hsz:w.heap.size<=(sortWorldK (fun x:El cells ok w M=>x.1.2) k w blk off m dk os).heap.size:=size_sortWorldK_c _ _ _ _ _ _ _ _
 have hne:=fun(i:Nat) (hi:i<w.heap.size) (hn:i≠blk)=>nG (k:=k) (off:=off) (enc:=fun x:El cells ok w M=>x.1.2) (n:=m) (os:=os) dk hi hn
 generalize sortWorldK (fun x:El cells ok w M=>x.1.2) k w blk off m dk os=W at *
 have hle:(base w M).le (base W M):=by
  refine⟨fun _ h=>h,hsz,fun b hb hlt=> ?_,fun b hb=>hb.elim⟩
  rw[mT] at hb ⊢
  exact⟨hne b hlt fun e=>hb (e▸hblk),hb⟩
 have hF:xb W M:=by
  refine⟨fun b hb=>Nat.lt_of_lt_of_le (hM.lt b hb) hsz,fun t ht=> ?_⟩
  obtain⟨t1,t2,t3⟩:=hM.W0 t ht
  refine⟨t1,Nat.lt_of_lt_of_le t2 hsz,fun j hj=> ?_⟩
  rw[<-t3 j hj]
  exact World.cell?_of_block (a:=⟨t.1,j,none⟩) (hne _ t2 fun e=>t1 (by rw[show t.1=blk from e];exact hblk))
 obtain⟨⟨xs,xv⟩,x1,x2⟩:=x
 obtain⟨⟨ys,yv⟩,y1,y2⟩:=y
 have hc:=NF ((h.cmp xs ys x1 y1).2 M W [.agg xv.toArray, .agg yv.toArray] hF (by
  rw[ct]
  refine⟨_,_,rfl,by rw[VR];exact⟨_,rfl,by simpa using ct.c8 hle x2⟩, ?_⟩
  rw[ct]
  refine⟨_,_,rfl,by rw[VR];exact⟨_,rfl,by simpa using ct.c8 hle y2⟩, ?_⟩
  rw[ct]))
 refine hc.mono ?_
 rintro e w' ⟨⟨v,r,rfl,rfl,_,hv,hb⟩,hd⟩
 rw[VR] at hv
 exact⟨by rw[hv],AP hb (hd v rfl)⟩
theorem yj {α:Type} [Inhabited α] {enc:α->List Value} {d:Array α} (hk:∀x,(enc x).length=k) (hpos:0<k) (h:∀i c,i<d.size->c<k->w.cell? ⟨blk,off+i * k+c,none⟩=some (enc d[i]!)[c]!/\w.frozen? ⟨blk,off+i * k+c,none⟩=false):HoldsK enc k w blk off d:=by
 intro t ht
 rw[size_flatK] at ht
 have e1:t /k<d.size:=(Nat.div_lt_iff_lt_mul hpos).2 ht
 have e2:t%k<k:=Nat.mod_lt _ hpos
 have:=h (t /k) (t%k) e1 e2
 rw[Nat.add_assoc,show t /k * k+t%k=t by rw[Nat.mul_comm];exact Nat.div_add_mod t k] at this
 rw[get_flatK _ _ _ _ ht]
 exact this
set_option maxHeartbeats 2000000 in
theorem DE {P:Program} {ρ:Go.Shelf.Ren} (L:SlLaysF0.n6 P ρ) (aE:∀w,(isAgg (ρ.t 24)).run P w= .ok true w) (zE:∀w,(Go.sizeOf (ρ.t 24)).run P w= .ok k w) (hen:j7 P (ρ.f 6)) {g:Nat} (eg:∀args w,(callFunc g args).run P w= .ok (.enter g args) w)
 (h:AH P g cells k ok cf) [Inhabited S] (b:Nat) (l:List S) (hok:∀s∈l,ok s) (e:TypeId) (d:AV) (H:Hp) (nx:Nat) (hb:bu H b=some (.row e k d (l.map fun s=> .agg (cells s)))) (hlt:b<nx) (hl:l.length<4611686018427387904) (h0:l≠[]):
 cS P (ρ.f 6) [.sl b l.length, .fn (.func g) [] []] H nx (fun r H' n=>r= .dD []/\n=nx/\H'=(b,some (.row e k d ((gI cf l).map fun s=> .agg (cells s))))::H):=by
 refine⟨hen,fun w0 c vs hS hH hU hv=> ?_⟩
 rw[ct] at hv
 obtain⟨v,vs',rfl,hv,hv2⟩:=hv
 rw[ct] at hv2
 obtain⟨v2,vs2,rfl,hv2,hv3⟩:=hv2
 rw[ct] at hv3
 subst hv3
 rw[VR] at hv2
 obtain⟨ps,qs,rfl,hp1,hp2⟩:=hv2
 rw[ct] at hp1 hp2
 obtain rfl:ps=#[]:=Array.toList_eq_nil_iff.1 hp1
 obtain rfl:qs=#[]:=Array.toList_eq_nil_iff.1 hp2
 rw[VR] at hv
 obtain⟨hUb,a,cap,rfl,hr⟩:=hv
 have hcb:c.H b=some (.row e k d (l.map fun s=> .agg (cells s))):=by rw[hH];exact hb
 obtain⟨_,hr2⟩:=hr _ _ _ _ hcb
 have hr3:=hr2 (by simp)
 have hpos:=h.pos
 obtain⟨_,_,hor⟩:=hS.jz b _ _ _ _ hcb (.inr hpos)
 have hln:0<l.length:=List.length_pos_iff.2 h0
 rcases hor with⟨_,hes⟩|⟨blk,o,z,hρ,hlow,⟨arr,harr,hsz⟩,hlz,hrow⟩
 ·exact absurd (List.map_eq_nil_iff.1 hes) h0
 rcases hr3 with⟨h1,_,_⟩|⟨blk',o',z',h1,rfl,hc1,hc2,hc3,_⟩
 ·rw[hρ] at h1;cases h1
 rw[hρ] at h1
 cases h1
 have hblk:blk<c.w.heap.size:=(Array.getElem?_eq_some_iff.1 harr).1
 rw[List.length_map] at hlz
 have hMb:c.M blk:= .inr ⟨b,_,o,z,hcb,hρ⟩
 -- the elements as they stand
 have hel:∀i,i<l.length->∃x:El cells ok c.w c.M,x.1.1=l.getD i default/\∀j,j<k->c.w.cell? ⟨blk,o+i * k+j,none⟩=x.1.2[j]?:=fun i hi=>by
  obtain⟨v,⟨hv1,hv2,_⟩,hv3⟩:=dz hrow i (by simpa using hi)
  rw[dN (f:=fun s=>AV.agg (cells s)) (h:=hi)] at hv3
  rw[VR] at hv3
  obtain⟨us,rfl,hus⟩:=hv3
  refine⟨⟨(l.getD i default,us.toList),hok _ (cT default hi),ct.nI (fun _ hb=>hb) (h.fit _) hus⟩,rfl,fun j hj=> ?_⟩
  rw[hv2 j hj]
  simp[Value.cells]
 haveI:Inhabited (El cells ok c.w c.M):=⟨(hel 0 hln).choose⟩
 obtain⟨dl,hdl,hdr⟩:=mW (List.range l.length) (R:=fun i (x:El cells ok c.w c.M)=>x.1.1=l.getD i default/\∀j,j<k->c.w.cell? ⟨blk,o+i * k+j,none⟩=x.1.2[j]?) (fun i hi=>hel i (by simpa using hi))
 simp only[List.length_range] at hdl
 have hdg:∀i (hi:i<dl.length),dl[i].1.1=l.getD i default/\∀j,j<k->c.w.cell? ⟨blk,o+i * k+j,none⟩=dl[i].1.2[j]?:=fun i hi=>hdr i i _ (by rw[List.getElem?_range (by omega)]) (List.getElem?_eq_getElem hi)
 have hxl:∀x:El cells ok c.w c.M,x.1.2.length=k:=fun x=>by rw[x.2.2.length,h.len]
 have hHolds:HoldsK (fun x:El cells ok c.w c.M=>x.1.2) k c.w blk o dl.toArray:=by
  refine yj hxl hpos fun i j hi hj=> ?_
  have hi':i<dl.length:=by simpa using hi
  have:=(hdg i hi').2 j hj
  refine⟨?_, ?_⟩
  ·rw[this]
   have hj':j<dl[i].1.2.length:=by rw[hxl];exact hj
   simp[hi',hj']
  ·simp only[World.frozen?,harr]
   simp
 have hones:∀x:El cells ok c.w c.M,∀v∈x.1.2,v.oneCell'=true:=fun x=>x.2.2.LM (h.one _)
 have hcon:=AnyQ.slices_SortFunc L k aE zE (fun x:El cells ok c.w c.M=>x.1.2) hxl hones (fun x y=>cf x.1.1 y.1.1) (SC h.ord fun x:El cells ok c.w c.M=>x.1.1) g #[] blk o cap dl.toArray c.w eg (AX h hS.fit hMb _) hHolds hblk (by simp;omega)
 rw[show dl.toArray.size=l.length by simp[hdl]] at hcon
 refine hcon.mono ?_
 rintro en w' ⟨rfl,d',n,os,⟨hpz,_,hpp⟩,hss,hw'⟩
 have hdz:d'.size=l.length:=by rw[hpz];simp[hdl]
 -- what stands in the row now
 have hl1:dl.map (fun x=>x.1.1)=l:=by
  apply List.ext_getElem (by simp[hdl])
  intro i q1 q2
  have:=(hdg i (by simpa using q1)).1
  rw[List.getElem_map,this]
  simp[List.getD,q2]
 have hperm:(d'.toList.map fun x=>x.1.1).Perm l:=by
  have h2:d'.toList.Perm dl:=by
   have e1:d'.extract 0 l.length=d':=by rw[<-hdz];exact Array.extract_size
   have e2:dl.toArray.extract 0 l.length=dl.toArray:=by rw[<-hdl,<-List.size_toArray];exact Array.extract_size
   rw[e1,e2] at hpp
   simpa using hpp
  have h3:=h2.map (fun x:El cells ok c.w c.M=>x.1.1)
  rwa[hl1] at h3
 have hsort:(d'.toList.map fun x=>x.1.1).Pairwise fun x y=>vk cf x y=true:=by
  rw[List.pairwise_iff_getElem]
  intro i j hi hj hij
  have hj':j<d'.size:=by simpa using hj
  have:=hss i j (Nat.zero_le _) hij (by omega)
  rw[getElem!_pos d' j hj',getElem!_pos d' i (by omega)] at this
  simp only[ltOf,decide_eq_false_iff_not] at this
  have hneg:=h.ord.neg d'[i].1.1 d'[j].1.1
  simp only[List.getElem_map,Array.getElem_toList,vk,decide_eq_true_eq]
  omega
 have hres:=h.ord.O2 hperm hsort
 have hlen:(gI cf l).length=l.length:=nr cf l
 have hHn:HoldsK (fun x:El cells ok c.w c.M=>x.1.2) k w' blk o d':=by
  rw[hw']
  exact holdsK_sortWorldK_c _ _ _ _ _ dl.toArray d' n os hHolds hblk (by rw[hpz])
 have hput:=hS.py (b:=b) (e:=e) (sz:=k) d (es:=(gI cf l).map fun s=> .agg (cells s)) (w':=w') (blk:=blk) (o:=o) (z:=z) (arr:=putCells id o (flatK (fun x:El cells ok c.w c.M=>x.1.2) k d') arr) hpos
  (.inr ⟨_,_,_,hcb, .inl ⟨by simp[hlen],hρ⟩⟩) (.inr ⟨_,_,_,hcb,hρ⟩) (by rw[hw'];rfl) (by rw[hw'];rfl) (by rw[hw'];rfl) (by rw[hw'];exact size_sortWorldK_c _ _ _ _ _ _ _ _) (fun q hq hne=>by rw[hw'];exact nG d' hq hne) (by rw[hw'];exact uE d' harr) (by simp[putCells];exact hsz) (by simp[hlen];exact hlz) (fun hle i hi=>by
   have hi':i<d'.size:=by simpa[hlen,hdz] using hi
   have hx:=d'[i].2.2
   refine⟨.agg d'[i].1.2.toArray,⟨by simp[Value.cells,hxl],fun j hj=> ?_,fun j u hu=> ?_⟩, ?_⟩
   ·have:=(hHn.cell (i:=i) (c:=j) hi' hj).1
    rw[getElem!_pos d' i hi'] at this
    rw[this]
    have hj':j<d'[i].1.2.length:=by rw[hxl];exact hj
    simp[Value.cells,hj']
   ·simp only[Value.cells,List.getElem?_toArray] at hu
    exact hones d'[i] u (List.mem_of_getElem? hu)
   ·have e4:((gI cf l).map fun s=>AV.agg (cells s)).getD i .any= .agg (cells d'[i].1.1):=by
     rw[<-hres]
     simp[List.getD,hi']
    rw[e4,VR]
    exact⟨_,rfl,by simpa using ct.c8 (wW.trans hle) hx⟩)
 obtain⟨p1,p2⟩:=hput
 have hHeq:bu ((b,some (.row e k d ((gI cf l).map fun s=> .agg (cells s))))::H)=fM c.H b (some (.row e k d ((gI cf l).map fun s=> .agg (cells s)))):=by
  have:=dj H b (.row e k d ((gI cf l).map fun s=> .agg (cells s)))
  rw[hH];exact this
 refine⟨.tuple #[], .dD [],_,nx,fM c.ρ b (some (blk,o,z)),fun x=>c.U x\/x=b,rfl,⟨rfl,rfl,rfl⟩,fun x hx=>hx.elim (hU x) (fun e=>by omega), ?_, ?_, ?_⟩
 ·rw[hHeq];exact p1
 ·rw[hHeq];exact p2
 ·rw[VR];exact⟨#[],rfl,by rw[ct]⟩
end
end
theorem DD {P:Program} {ρ:Go.Shelf.Ren} (L:SlLaysF0.n6 P ρ) (hen:j7 P (ρ.f 6)) (b:Nat) (fv:AV) (H:Hp) (nx:Nat):
 cS P (ρ.f 6) [.sl b 0,fv] H nx (fun r H' n=>r= .dD []/\n=nx/\H'=H):=by
 refine⟨hen,fun w0 c vs hS hH hU hv=> ?_⟩
 rw[ct] at hv
 obtain⟨v,vs',rfl,hv,hv2⟩:=hv
 rw[ct] at hv2
 obtain⟨v2,vs2,rfl,hv2,hv3⟩:=hv2
 rw[ct] at hv3
 subst hv3
 rw[VR] at hv
 obtain⟨hUb,a,cap,rfl,hr⟩:=hv
 refine(AnyF.slices_SortFunc_none L a cap v2 c.w).mono ?_
 rintro e w' ⟨rfl,rfl⟩
 obtain⟨ρ',Hc,U,w,M0⟩:=c
 simp only at hH
 subst hH
 exact⟨.tuple #[], .dD [],H,nx,ρ',U,rfl,⟨rfl,rfl,rfl⟩,hU,hS,Cx.le.refl _,by rw[VR];exact⟨#[],rfl,by rw[ct]⟩⟩
def IU (e:cx):Prop:=e.cJ.length<9223372036854775807/\e.mem.length<9223372036854775807
theorem DC:AH Tryz.prog 96 cx.cells 3 IU gY where
 len:=fun _=>rfl
 pos:=by omega
 fit:=fun _=>by simp
 one:=fun _=>rfl
 cmp:=fun a b ha hb=>vC a b ha.1 ha.2
 ord:=kD
theorem uD:j7 Tryz.prog 95:=⟨Tryz.f95,Tryz.func95,by kernel_rfl,by kernel_rfl⟩
theorem vx (b:Nat) (l:List cx) (hok:∀e∈l,IU e) (hl:l.length<=65536) (H:Hp) (nx:Nat) (hb:∃d,bu H b=some (.row 105 3 d (l.map cx.av))) (hlt:b<nx):
 cS Tryz.prog 95 [.sl b l.length, .fn (.func 96) [] []] H nx (fun r H' n=>(∃d,bu H' b=some (.row 105 3 d ((gI gY l).map cx.av)))/\nx<=n/\∀y,y<nx->y≠b->bu H' y=bu H y):=by
 obtain⟨d,hb⟩:=hb
 by_cases h0:l=[]
 ·subst h0
  refine(DD Tryz.QC uD b _ H nx).mono ?_
  rintro r H' n ⟨rfl,rfl,rfl⟩
  exact⟨⟨d,by rw[hb];simp[gI]⟩,Nat.le_refl _,fun _ _ _=>rfl⟩
 ·refine(DE Tryz.QC (k:=3) (fun w=>cu.np (by kernel_rfl) w) (fun w=>cu.run_sizeOf (by kernel_rfl) w) uD (enters_of Tryz.func96 (by kernel_rfl) rfl) DC b l hok 105 d H nx hb hlt (by omega) h0).mono ?_
  rintro r H' n ⟨rfl,rfl,rfl⟩
  exact⟨⟨d,cY _ _ _⟩,Nat.le_refl _,fun y _ hne=>cN hne⟩
end Go.Proofs.YtjopoheligmmoaaGreatDoor
namespace Go.Proofs.YtjopoheligmmoaaGreatDoor
open Go Go.cu Go.Proofs
set_option linter.unusedSimpArgs false
set_option linter.unusedVariables false
set_option maxRecDepth 8000
def lZ (l:List cx):Nat->List cx
 |0=>[]
 |1=>[l.getD 0 default]
 |k+2=>if l.getD (k+1) default=l.getD k default then lZ l (k+1) else lZ l (k+1)++[l.getD (k+1) default]
theorem D3 (l:List cx):∀k,(lZ l k).length<=k
 |0=>Nat.le_refl _
 |1=>Nat.le_refl _
 |k+2=>by
  rw[lZ]
  have:=D3 l (k+1)
  split
  ·omega
  ·rw[List.length_append,List.length_cons,List.length_nil];omega
theorem pO (l:List cx) {k:Nat} (hk:1<=k):lZ l (k+1)=if l.getD k default=l.getD (k - 1) default then lZ l k else lZ l k++[l.getD k default]:=by
 obtain⟨j,rfl⟩:∃j,k=j+1:=⟨k - 1,by omega⟩
 rw[lZ]
 rfl
theorem iJ {l:List cx} {i:Nat} (h:i<l.length) (d:AV):(l.map cx.av).getD i d=(l.getD i default).av:=dN cx.av l i d h
abbrev jO (l:List cx):AV:= .im 3 .any (l.map cx.av)
theorem iK (l:List cx):cX 0 (l.map cx.av):=(cD _ _).2 fun _ _=>by simp[cK]
theorem kb {α:Type} {l:List α} {i:Nat} {x:α} (h:i<l.length):(l.set i x).take (i+1)=l.take i++[x]:=by
 rw[List.take_succ_eq_append_getElem (by simpa using h),List.take_set_of_le (Nat.le_refl _)]
 simp
theorem J3 {H:Hp} {k b len lo n:Nat} {e:TypeId} {sz:Nat} {d:AV} {es:List AV} (h:bu H b=some (.row e sz d es)) (hl:es.length=len):cu.dX H (k+1) (.sv b len lo n)= .im sz .any (((es.drop lo).take n).map (cu.dX H k)):=by
 simp only[cu.dX,h];rw[if_pos hl]
set_option maxHeartbeats 4000000 in
theorem w6 (o:Nat) (l:List cx) (hl:l.length<=65536) (hok:∀e∈l,e.cJ.length<9223372036854775807/\e.mem.length<9223372036854775807) (H:Hp) (nx:Nat) (ho:o<nx) (hr:∃d,bu H o=some (.row 105 3 d (l.map cx.av))):
 cS Tryz.prog 97 [.sl o l.length, .fn (.func 98) [] []] H nx (fun r H' n=>(r= .sl o l.length\/∃m,r= .sv o l.length 0 m)/\cu.dX H' 5 r=jO (lZ l l.length)):=by
 obtain⟨d0,r0'⟩:=hr
 have a0:(l.map cx.av).length=l.length:=by simp
 have same:∀i j,i<l.length->j<l.length->Pure Tryz.prog 98 [(l.getD i default).av,(l.getD j default).av] (fun r=>r=bl (decide (l.getD i default=l.getD j default))):=fun i j hi hj=>by
  obtain⟨p1,p2⟩:=hok _ (cT default hi)
  have:=ot (l.getD i default) (l.getD j default) p1 p2
  simpa only[qZ] using this
 refine aI WI rfl ?_
 by_cases h2:l.length<2
 ·refine cV ?_
  refine⟨.inl rfl, ?_⟩
  show cu.dX H 5 (.sl o l.length)=_
  rw[dI (k:=4) r0' (by simp),cn _ (iK l)]
  have:lZ l l.length=l:=by
   match l,h2 with
   |[],_=>rfl
   |[x],_=>rfl
  rw[this]
 ·refine cV ?_
  refine aN (fun i:Nat=>[(0, .sl o l.length),(1, .fn (.func 98) [] []),(5,i64 i)]) (fun i H2 n=>1<=i/\i<=l.length/\nx<=n/\bu H2 o=some (.row 105 3 d0 (l.map cx.av))/\lZ l i=l.take i) (fun i=>l.length - i) 1 cH ⟨Nat.le_refl _,by omega,cZ,bx,by rw[lZ];cases l with|nil=>simp at h2|cons x t=>rfl⟩ ?_
  clear r0'
  rintro i H2 n ⟨hi1,hi,hn,r0',hdd⟩
  by_cases hil:i<l.length
  ·have e0:∀d,(l.map cx.av).getD ((i:Int)).toNat d=(l.getD i default).av:=fun d=>by rw[Int.toNat_natCast];exact iJ hil d
   have e1:∀d,(l.map cx.av).getD ((i:Int) - 1).toNat d=(l.getD (i - 1) default).av:=fun d=>by rw[show((i:Int) - 1).toNat=i - 1 by omega];exact iJ (by omega) d
   have c0:=same i (i - 1) hil (by omega)
   have hsu:=pO l hi1
   by_cases he:l.getD i default=l.getD (i - 1) default
   ·rw[decide_eq_true he] at c0
    rw[if_pos he] at hsu
    refine cV ?_
    refine aN (fun σ:Nat×Nat×List cx=>[(0, .sl o l.length),(1, .fn (.func 98) [] []),(5,i64 σ.1),(6, .sv o l.length i (l.length - i)),(7,i64 σ.2.1)])
     (fun σ H2 n=>1<=σ.2.1/\i+σ.2.1<=l.length/\i<=σ.1/\σ.1+1<=i+σ.2.1/\σ.2.2.length=l.length/\(∀q,σ.1<=q->σ.2.2.getD q default=l.getD q default)/\σ.2.2.take σ.1=lZ l (i+σ.2.1)/\nx<=n/\∃d,bu H2 o=some (.row 105 3 d (σ.2.2.map cx.av))) (fun σ=>l.length - σ.2.1) (i,1,l) cH
     ⟨Nat.le_refl _,by show i+1<=l.length;omega,Nat.le_refl _,Nat.le_refl _,rfl,fun _ _=>rfl,by dsimp only;rw[hsu,hdd],cZ,⟨_,bx⟩⟩ ?_
    clear c0 e0 e1 hsu hdd r0' hn
    rintro⟨k,j,es⟩ H3 n ⟨hj1,hj,hik,hkj,hel,hsame,hdd,hn,⟨d1,r1'⟩⟩
    dsimp only at hj1 hj hik hkj hel hsame hdd r1' ⊢
    have a1:(es.map cx.av).length=l.length:=by simp[hel]
    by_cases hjl:j<l.length - i
    ·have e0:∀d,(es.map cx.av).getD (i+((j:Int)).toNat) d=(l.getD (i+j) default).av:=fun d=>by rw[Int.toNat_natCast,iJ (by omega) d,hsame _ (by omega)]
     have e1:∀d,(es.map cx.av).getD (i+((j:Int) - 1).toNat) d=(l.getD (i+j - 1) default).av:=fun d=>by rw[show i+((j:Int) - 1).toNat=i+j - 1 by omega,iJ (by omega) d,hsame _ (by omega)]
     have e2:∀d,(es.map cx.av).getD ((k:Int)).toNat d=(es.getD k default).av:=fun d=>by rw[Int.toNat_natCast];exact iJ (by omega) d
     have c0:=same (i+j) (i+j - 1) (by omega) (by omega)
     have hsu:=pO l (k:=i+j) (by omega)
     by_cases he2:l.getD (i+j) default=l.getD (i+j - 1) default
     ·rw[decide_eq_true he2] at c0
      rw[if_pos he2] at hsu
      refine cV ?_
      exact⟨(k,j+1,es),by dsimp only;omega,cH,by dsimp only;omega,by dsimp only;omega,hik,by dsimp only;omega,hel,hsame,by dsimp only;rw[<-Nat.add_assoc,hsu];exact hdd,cZ,⟨d1,bx⟩⟩
     ·rw[decide_eq_false he2] at c0
      rw[if_neg he2] at hsu
      refine cV ?_
      refine⟨(k+1,j+1,es.set k (l.getD (i+j) default)),by dsimp only;omega,cH,by dsimp only;omega,by dsimp only;omega,by dsimp only;omega,by dsimp only;omega,by simp[hel],fun q hq=> ?_, ?_,cZ,⟨d1,by dsimp only;rw[List.map_set];exact bx⟩⟩
      ·have hq:k+1<=q:=hq
       dsimp only
       rw[getD_set_ne (by omega)];exact hsame q (by omega)
      ·dsimp only
       rw[<-Nat.add_assoc,hsu,kb (by omega),hdd]
    ·obtain rfl:j=l.length - i:=by omega
     rw[show i+(l.length - i)=l.length by omega] at hdd
     refine cV ?_
     refine⟨.inr ⟨_,rfl⟩, ?_⟩
     rw[Int.toNat_natCast]
     have hkl:k<=l.length:=by omega
     generalize hZ:List.replicate (l.length - k) (gC true [Value.slice none 0 0,Value.slice none 0 0,Value.bool false])=Z
     have hZl:Z.length=l.length - k:=by rw[<-hZ];simp
     show cu.dX ((o,some (.row 105 3 d1 ((es.map cx.av).take k++Z++(es.map cx.av).drop (k+(l.length - k)))))::H3) 5 (.sv o l.length 0 (k - 0))=_
     rw[J3 (k:=4) (cY _ _ _) (by simp[hZl,hel];omega),List.drop_zero,Nat.sub_zero,List.append_assoc,List.take_append_of_le_length (by simp;omega),List.take_take,Nat.min_self,<-List.map_take,hdd,cn _ (iK _)]
   ·rw[decide_eq_false he] at c0
    rw[if_neg he] at hsu
    refine cV ?_
    refine⟨i+1,by omega,cH,by omega,by omega,cZ,bx, ?_⟩
    rw[hsu,hdd,List.take_succ_eq_append_getElem hil,show l.getD i default=l[i] by simp[List.getD,hil]]
  ·obtain rfl:i=l.length:=by omega
   rw[List.take_length] at hdd
   refine cV ?_
   refine⟨.inl rfl, ?_⟩
   show cu.dX H2 5 (.sl o l.length)=_
   rw[dI (k:=4) r0' (by simp),cn _ (iK l),hdd]
def iX (u:bz) (l:List cc):List cx:=lZ (gI gY (di u l l.length)) (di u l l.length).length
noncomputable def vG (u:bz) (most:Int):AV:=if(eS u most).1=0 then .dD [jO (iX u (eS u most).2),i64 0] else .dD [.sc (.slice none 0 0),i64 (eS u most).1]
theorem vI {u:bz} {l:List cc} (hr:ca u) (hf:jL u l) (hl:l.length<=65536) (k:Nat):∀e∈di u l k,IU e:=by
 intro e he
 unfold di at he
 obtain⟨f,hf1,hf2⟩:=List.mem_filterMap.1 he
 split at hf2
 ·cases hf2
  obtain⟨i,hi,rfl⟩:=List.mem_iff_getElem.1 (List.mem_of_mem_take hf1)
  obtain⟨h1,h2⟩:=hf.ok i hi
  rw[show l.getD i default=l[i] by simp[List.getD,hi]] at h1 h2
  have:=h1.ml
  have:=hr.oW
  refine⟨?_, ?_⟩
  ·show l[i].m.cJ.length<_;omega
  ·show l[i].m.mem.length<_;omega
 ·cases hf2
set_option maxHeartbeats 2000000 in
theorem FQ (u:bz) (hu:u.Wf) (most:Int):Pure Tryz.prog 54 [u.av,i64 most] (fun r=>r=vG u most):=by
 refine cm ?_ (by unfold vG;split<;>simp[cK,cX,cD])
 refine aI V8 rfl ?_
 by_cases hr:ca u
 ·by_cases hm:1<=most/\most<=65536
  ·unfold vG
   rw[pH hr hm]
   refine cV ?_
   let l:=(iG u most.toNat).getD []
   let I:Nat->Hp->Prop:=fun k H=>(∃d,bu H 0=some (.row 25 3 d [u.av]))/\(∃d,bu H 3=some (.row 41 1 d [.sl 7 (di u l k).length]))/\(∃d,bu H 7=some (.row 105 3 d ((di u l k).map cx.av)))
   refine aF (R:=fun r H n=>8<=n/\x8 u most I r H) (JE (b:=3) 105 3 (by omega) (by omega) (d:=gC false [.slice none 0 0]) (te:=41) ?_ fun H2 q1 q2 q3=> ?_) ?_
   ·exact bx
   ·refine(sS u hu hr most hm _ [.pt 0 1 0 0, .pt 3 1 0 0] H2 8 I ?_ ?_ ?_).mono fun r H n h=>⟨h.1,h.short⟩
    ·exact⟨⟨_,(q3 0 (by omega) (by omega)).trans bx⟩,⟨_,q1⟩,⟨_,q2⟩⟩
    ·rintro k H H' ⟨⟨d0,p0⟩,⟨d1,p1⟩,⟨d2,p2⟩⟩ hk
     exact⟨⟨d0,(hk 0 (by omega)).trans p0⟩,⟨d1,(hk 3 (by omega)).trans p1⟩,⟨d2,(hk 7 (by omega)).trans p2⟩⟩
    ·intro l' hl' k H n hk hn ⟨p0,p1,p2⟩
     have hll:l=l':=by show(iG u most.toNat).getD []=l';rw[hl'];rfl
     rw[hll] at p1 p2
     obtain⟨hf,hlm,_⟩:=lU hu hr (by omega) hl'
     refine(D6 hr hf (by omega) hk (ub:=0) (ob:=3) (o:=7) (by omega) (by omega) (by omega) (by omega) p0 p1 p2).mono ?_
     rintro _ H' n' ⟨s1,s2,s3,s4⟩
     obtain⟨d0,p0⟩:=p0
     refine⟨⟨⟨d0,(s4 0 (by omega) (by omega) (by omega)).trans p0⟩, ?_, ?_⟩,s3,fun y y1 y2=>s4 y y2 (by omega) (by omega)⟩
     ·rw[hll];exact s1
     ·rw[hll];exact s2
   rintro r H' n' ⟨hn,hA⟩
   revert hA
   unfold x8
   cases hs:iG u most.toNat with
   |none=>
    rintro rfl
    refine cV ?_
    exact⟨rfl⟩
   |some l'=>
    rintro⟨rfl,⟨d0,p0⟩,⟨d1,p1⟩,p2⟩
    have hll:l=l':=by show(iG u most.toNat).getD []=l';rw[hs];rfl
    rw[hll] at p1 p2
    obtain⟨hf,hlm,_⟩:=lU hu hr (by omega) hs
    have hin:=vI hr hf (by omega) l'.length
    have hlen:=l5 u l' l'.length
    refine cV ?_
    refine aF (vx 7 (di u l' l'.length) hin (by omega) _ _ p2 cZ) ?_
    rintro r H3 n3 ⟨⟨d5,r5⟩,hn3,hk3⟩
    have r6:=(hk3 3 cZ (by omega)).trans p1
    have hsl:(gI gY (di u l' l'.length)).length=(di u l' l'.length).length:=nr _ _
    refine cV ?_
    rw[<-hsl]
    refine aF (w6 7 (gI gY (di u l' l'.length)) (by omega) (fun e he=>hin e ((lu _ _).mem_iff.1 he)) _ _ cZ ⟨d5,r5⟩) ?_
    rintro r H4 n4 ⟨hform,hfz⟩
    rcases hform with rfl|⟨m,rfl⟩
    all_goals
     refine cV ?_
     refine⟨?_⟩
     dsimp only
     rw[if_pos rfl]
     show AV.dD [cu.dX H4 5 _,i64 0]=_
     rw[hfz,hsl]
     rfl
  ·unfold vG
   rw[lT hr hm]
   refine cV ?_
   refine aF (uo u hu hr most hm _ _ _ _) ?_
   rintro r H' n' ⟨rfl,hn,hk⟩
   refine cV ?_
   exact⟨rfl⟩
 ·unfold vG
  rw[pG hr]
  refine cV ?_
  refine aF (DX u hu hr most _ _ _ _) ?_
  rintro r H' n' ⟨rfl,hn,hk⟩
  refine cV ?_
  exact⟨rfl⟩
instance XC (n:Int):Decidable (eT n):=inferInstanceAs (Decidable (_/\_))
end Go.Proofs.YtjopoheligmmoaaGreatDoor
namespace Go.Proofs.YtjopoheligmmoaaGreatDoor
open Go Go.cu Go.Proofs Go.RowKit Go.ChangeShapes Go.WideShapes Go.ChangeAt
set_option linter.unusedSimpArgs false
set_option linter.unusedVariables false
theorem own:ownKnob Tryz.prog.godebug=none:=by kernel_rfl
theorem laidOut:laidOutB Tryz.prog=true:=by kernel_rfl
theorem K3 {n:Int} (h:(Lit.int .i64 n).wf=true):eT n:=by
 simp only[Lit.wf,Bool.and_eq_true,decide_eq_true_eq] at h
 have e1:IntKind.i64.min=-9223372036854775808:=by decide
 have e2:IntKind.i64.max=9223372036854775807:=by decide
 unfold eT
 omega
theorem EI {n:Int} (h:(Lit.int .u8 n).wf=true):0<=n/\n<256:=by
 simp only[Lit.wf,Bool.and_eq_true,decide_eq_true_eq] at h
 have e1:IntKind.u8.min=0:=by decide
 have e2:IntKind.u8.max=255:=by decide
 omega
theorem eV {t:TypeId} (ht:Tryz.prog.underlying t=some (.int .i64)):ef Tryz.prog t (fun n:Int=>[i64 n]) eT:=(qo ht).map (fun n=>n) (fun _ _=>rfl) fun _ h=>K3 h
theorem vp:ef Tryz.prog 63 jh.cells jh.Wf:=by
 refine ef.map (α:=Bool×Int×Int×Unit) (fun p=>(⟨p.1,p.2.1,p.2.2.1⟩:jh))
  (iO (k:=3) Tryz.underlying63 (by kernel_rfl) (dL (k:=1) rfl (by kernel_rfl) (CA Tryz.underlying4) (dL (k:=1) rfl (by kernel_rfl) (eV Tryz.underlying3) (dL (k:=1) rfl (by kernel_rfl) (eV Tryz.underlying2) jx)))) ?_ ?_
 ·intro a _;rfl
 ·intro a h;exact⟨h.2.1,h.2.2.1⟩
theorem CD:ef Tryz.prog 65 Node.cells Node.Wf:=by
 refine ef.map (α:=Int×Int×Int×Int×jh×jh×Int×Int×Int×Unit) (fun p=>(⟨p.1,p.2.1,p.2.2.1,p.2.2.2.1,p.2.2.2.2.1,p.2.2.2.2.2.1,p.2.2.2.2.2.2.1,p.2.2.2.2.2.2.2.1,p.2.2.2.2.2.2.2.2.1⟩:Node))
  (iO (k:=13) Tryz.underlying65 (by kernel_rfl) (dL (k:=1) rfl (by kernel_rfl) (qo Tryz.underlying51) (dL (k:=1) rfl (by kernel_rfl) (qo Tryz.underlying61) (dL (k:=1) rfl (by kernel_rfl) (eV Tryz.underlying3) (dL (k:=1) rfl (by kernel_rfl) (eV Tryz.underlying3) (dL (k:=3) rfl (by kernel_rfl) vp (dL (k:=3) rfl (by kernel_rfl) vp (dL (k:=1) rfl (by kernel_rfl) (eV Tryz.underlying3) (dL (k:=1) rfl (by kernel_rfl) (eV Tryz.underlying3) (dL (k:=1) rfl (by kernel_rfl) (eV Tryz.underlying3) jx)))))))))) ?_ ?_
 ·intro a _;rfl
 ·intro a h
  obtain⟨h1,h2,h3,h4,h5,h6,h7,h8,h9,_⟩:=h
  exact⟨EI h1,EI h2,h3,h4,h5,h6,h7,h8,h9⟩
theorem CB:ef Tryz.prog 85 Decl.cells Decl.Wf:=by
 refine ef.map (α:=ByteArray×Int×Int×Unit) (fun p=>(⟨p.1,p.2.1,p.2.2.1⟩:Decl))
  (iO (k:=3) Tryz.underlying85 (by kernel_rfl) (dL (k:=1) rfl (by kernel_rfl) (pn Tryz.underlying9) (dL (k:=1) rfl (by kernel_rfl) (eV Tryz.underlying2) (dL (k:=1) rfl (by kernel_rfl) (eV Tryz.underlying3) jx)))) ?_ ?_
 ·intro a _;rfl
 ·intro a h;exact⟨h.1,h.2.1,h.2.2.1⟩
theorem zR:ef Tryz.prog 58 (fun l:List Node=>[j0 l]) (fun l=>(∀x∈l,x.Wf)/\l.length * 88<=140737488351232):=by
 have hb:Tryz.prog.bytesOf 65=96:=by kernel_rfl
 refine(kM (ag:=true) (sz:=13) .any Tryz.underlying58 (by kernel_rfl) (by omega) CD (fun _=>rfl) (fun _ _=>rfl) (fun h=>by cases h)).map (fun l=>l) (fun _ _=>rfl) ?_
 rintro l ⟨h1,h2⟩
 rw[hb] at h2
 have hr:reachBytes=140737488351232:=rfl
 exact⟨h1,by omega⟩
theorem zQ:ef Tryz.prog 60 cF.cells cF.Wf:=by
 refine ef.map (α:=ByteArray×Int×Int×List Node×Unit) (fun p=>(⟨p.1,p.2.1,p.2.2.1,p.2.2.2.1⟩:cF))
  (iO (k:=4) Tryz.underlying60 (by kernel_rfl) (dL (k:=1) rfl (by kernel_rfl) (pn Tryz.underlying9) (dL (k:=1) rfl (by kernel_rfl) (eV Tryz.underlying3) (dL (k:=1) rfl (by kernel_rfl) (eV Tryz.underlying3) (dL (k:=1) rfl (by kernel_rfl) zR jx))))) ?_ ?_
 ·intro a _;rfl
 ·intro a h
  obtain⟨h1,h2,h3,⟨h4,h5⟩,_⟩:=h
  exact⟨h1,h2,h3,h4,h5⟩
theorem rV:ef Tryz.prog 22 (fun l:List Decl=>[cE l]) (fun l=>(∀x∈l,x.Wf)/\l.length * 32<=140737488351232):=by
 have hb:Tryz.prog.bytesOf 85=32:=by kernel_rfl
 refine(kM (ag:=true) (sz:=3) .any Tryz.underlying22 (by kernel_rfl) (by omega) CB (fun _=>rfl) (fun _ _=>rfl) (fun h=>by cases h)).map (fun l=>l) (fun _ _=>rfl) ?_
 rintro l ⟨h1,h2⟩
 rw[hb] at h2
 exact⟨h1,h2⟩
theorem xE:ef Tryz.prog 23 (fun l:List cF=>[cW l]) (fun l=>(∀x∈l,x.Wf)/\l.length * 56<=140737488351232):=by
 have hb:Tryz.prog.bytesOf 60=56:=by kernel_rfl
 refine(kM (ag:=true) (sz:=4) .any Tryz.underlying23 (by kernel_rfl) (by omega) zQ (fun _=>rfl) (fun _ _=>rfl) (fun h=>by cases h)).map (fun l=>l) (fun _ _=>rfl) ?_
 rintro l ⟨h1,h2⟩
 rw[hb] at h2
 exact⟨h1,h2⟩
theorem CE:ef Tryz.prog 25 bz.cells bz.Wf:=by
 refine ef.map (α:=List Decl×List Decl×List cF×Unit) (fun p=>(⟨p.1,p.2.1,p.2.2.1⟩:bz))
  (iO (k:=3) Tryz.underlying25 (by kernel_rfl) (dL (k:=1) rfl (by kernel_rfl) rV (dL (k:=1) rfl (by kernel_rfl) rV (dL (k:=1) rfl (by kernel_rfl) xE jx)))) ?_ ?_
 ·intro a _;rfl
 ·intro a h
  obtain⟨⟨h1,h2⟩,⟨h3,h4⟩,⟨h5,h6⟩,_⟩:=h
  exact⟨h1,h2,h3,h4,h5,h6⟩
theorem CC {t e:TypeId} (ht:Tryz.prog.underlying t=some (.slice e)) (he:Tryz.prog.underlying e=some (.int .i64)) (hsz:Tryz.prog.cellsOf e=1) (hb:Tryz.prog.bytesOf e=8):ef Tryz.prog t (fun l:List Int=>[cR l]) (fun l=>(∀x∈l,eT x)/\l.length * 8<=140737488351232):=by
 refine(kM (ag:=false) (sz:=1) .any ht hsz (by omega) (eV he) (fun _=>rfl) (fun _ _=>rfl) (fun _=>rfl)).map (fun l=>l) (fun _ _=>rfl) ?_
 rintro l ⟨h1,h2⟩
 rw[hb] at h2
 exact⟨h1,h2⟩
structure cx.Wf (e:cx):Prop where
 cJ:(∀p∈e.cJ,eT p.dy/\eT p.word)/\e.cJ.length * 16<=140737488351232
 mem:(∀x∈e.mem,eT x)/\e.mem.length * 8<=140737488351232
abbrev yx:List (String×DataW Unit):=[("math/bits.deBruijn32tab",Rows.laid_math_bits_deBruijn32tab)]
def zo:List Nat:=[0,1,28,2,29,14,24,3,30,22,20,15,25,17,4,8,31,27,13,23,21,19,16,7,26,12,18,6,11,5,10,9]
theorem XR:Tryz.prog.globalNamed "math/bits.deBruijn32tab" =some 0:=by kernel_rfl
theorem Y8:(Tryz.prog.globals[0]?).map (·.type)=some 229:=by kernel_rfl
theorem JP (os:Os) (args:Array Value):laidMetH Tryz.prog yx ((World.doorLaid Tryz.prog 400 os).forCall (fun _ _=>0) ⟨#[],args,[]⟩).memory:=
 laidMetH_of_parts3 (fuel:=8) (laidMet_of_run' 8 (by kernel_rfl) (by kernel_rfl)) (by kernel_rfl) (by kernel_rfl)
theorem OK {W:World} (h:laidMetH Tryz.prog yx W):xb W emp:=by
 rw[MakeChecks.laidMetH_plain _ _ _ (by kernel_rfl)] at h
 obtain⟨ps,⟨g0,t0,cs0,f0,p0,q0,hg0,ht0,hv0,hd0,_⟩,_,_⟩:=h
 obtain rfl:=Option.some.inj (XR.symm.trans hg0)
 obtain rfl:=Option.some.inj (Y8.symm.trans ht0)
 obtain⟨xs,m1,rfl,hx1,hlen,hn3,hel⟩:=DataW.trod_array Tryz.underlying229 hd0
 have c5:Tryz.prog.cellsOf 5=1:=by kernel_rfl
 simp only[Prod.mk.injEq] at hx1
 obtain⟨hx1,_⟩:=hx1
 have hx2:xs.map (·.1)=zo.map fun n:Nat=>DataW.lit (Lit.int .u8 (n:Int)):=by
  have h9:(DataW.agg (zo.map fun n:Nat=>DataW.lit (Lit.int .u8 (n:Int))):DataW Unit)= .agg (xs.map (·.1)):=hx1
  exact(DataW.agg.inj h9).symm
 have key:∀j,j<32->W.cell? ⟨0,j,none⟩=some (.int .u8 (([0,1,28,2,29,14,24,3,30,22,20,15,25,17,4,8,31,27,13,23,21,19,16,7,26,12,18,6,11,5,10,9]:List Nat).getD j 0)):=by
  intro j hj
  have hjx:j<xs.length:=by omega
  have h0:=hel j hj
  rw[List.getElem?_eq_getElem hjx,c5] at h0
  obtain⟨k,e1,e2,_⟩:=DataW.trod_int Tryz.underlying5 h0
  have hc:=World.var?_cell hg0 hv0 j
  have qP:cs0.toList[j]?=some (.int .u8 k):=by
   have:((cs0.toList.drop (j * 1)).take 1)[0]?=some (.int .u8 k):=by rw[e1];rfl
   simpa[List.getElem?_take,List.getElem?_drop] using this
  rw[hc,<-Array.getElem?_toList,qP]
  have hxj:(xs.map (·.1))[j]?=some (.lit (.int .u8 k)):=by
   rw[List.getElem?_map,List.getElem?_eq_getElem hjx,e2];rfl
  have htl:zo.length=32:=rfl
  rw[hx2,List.getElem?_map,List.getElem?_eq_getElem (by omega)] at hxj
  simp only[Option.map_some,Option.some.injEq,DataW.lit.injEq,Lit.int.injEq,true_and] at hxj
  rw[<-hxj,List.getD,List.getElem?_eq_getElem (by omega)];rfl
 refine⟨fun _ h=>h.elim,fun t ht=> ?_⟩
 have ht:t=(0,zo):=by simpa[SD,zo] using ht
 subst ht
 refine⟨fun h=>h.elim,World.block_lt_of_cell? W ⟨0,0,none⟩ (key 0 (by omega)),fun j hj=>key j hj⟩
end Go.Proofs.YtjopoheligmmoaaGreatDoor
namespace Go.Proofs.YtjopoheligmmoaaGreatDoor
open Go Go.cu Go.Proofs
set_option linter.unusedSimpArgs false
set_option linter.unusedVariables false
def K5 (g:cF) (i:Nat):List Int:=(eF g).1.getD i []
structure nM (u:bz) (m:MS):Prop where
 pM:∀t,t<u.bw.length->mN (u.gr t) (-1) (m.at_.getD t 0)
 nd:∀t,t<u.bw.length->(K5 (u.gr t) (m.at_.getD t 0).toNat).Nodup
 own:∀t,t<u.bw.length->∀x:Int,0<=x->x<u.cB.length->(m.hold.getD x.toNat 0=t↔x∈K5 (u.gr t) (m.at_.getD t 0).toNat)
theorem tU {u:bz} {g:cF} (hk:eX u g):MZ g (K5 g):=(lG hk.whole hk.held).2.2.1
theorem wv {u:bz} {g:cF} (hk:eX u g) (i:Nat):∀x∈K5 g i,0<=x/\x<u.cB.length:=EE hk i
theorem xA (u:bz) {t:Nat} (ht:t<u.bw.length):(cr u).at_.getD t 0=0:=by simp[cr,List.getD,ht]
theorem G4 (u:bz) {x:Nat} (hx:x<u.cB.length):(cr u).hold.getD x 0=-1:=by simp[cr,List.getD,hx]
theorem nM.new {u:bz} (hr:ca u):nM u (cr u) where
 pM:=fun t ht=>by rw[xA u ht];exact .zero
 nd:=fun t ht=>by
  rw[xA u ht,show(0:Int).toNat=0 from rfl,(tU (hr.gr ht)).zero];exact List.nodup_nil
 own:=fun t ht x h0 h1=>by
  rw[xA u ht,show(0:Int).toNat=0 from rfl,(tU (hr.gr ht)).zero,G4 u (by omega)]
  constructor
  ·intro h;omega
  ·intro h;cases h
theorem wN {m:MS} {t:Nat} {n:Node} (hk:1<=n.kind/\n.kind<10) (h9:n.kind≠9):(m.act t n).2.1∈n.gO:=by
 unfold Node.gO
 rw[if_neg h9]
 by_cases h8:n.kind=8
 ·rw[if_pos h8]
  unfold MS.act
  rw[if_neg (by omega),if_neg (by omega),if_neg (by omega),if_neg (by omega),if_neg (by omega),if_neg (by omega),if_neg (by omega)]
  dsimp only
  split<;>simp
 ·rw[if_neg h8]
  have:(m.act t n).2.1=n.next:=by
   unfold MS.act
   by_cases h1:n.kind=1
   ·rw[if_pos h1]
   rw[if_neg h1]
   by_cases h2:n.kind=2
   ·rw[if_pos h2]
   rw[if_neg h2]
   by_cases h3:n.kind=3
   ·rw[if_pos h3]
   rw[if_neg h3]
   by_cases h4:n.kind=4
   ·rw[if_pos h4]
   rw[if_neg h4]
   by_cases h5:n.kind=5
   ·rw[if_pos h5]
   rw[if_neg h5]
   by_cases h6:n.kind=6
   ·rw[if_pos h6]
   rw[if_neg h6]
   rw[if_pos (by omega)]
  rw[this];simp
theorem xl (m:MS) (t:Nat) (n:Node):(m.act t n).1.hold=if n.kind=5 then m.hold.set n.cG.toNat t else if n.kind=6 then m.hold.set n.cG.toNat (-1) else m.hold:=by
 unfold MS.act
 by_cases h1:n.kind=1
 ·rw[if_pos h1,if_neg (by omega),if_neg (by omega)];rfl
 rw[if_neg h1]
 by_cases h2:n.kind=2
 ·rw[if_pos h2,if_neg (by omega),if_neg (by omega)];rfl
 rw[if_neg h2]
 by_cases h3:n.kind=3
 ·rw[if_pos h3,if_neg (by omega),if_neg (by omega)]
 rw[if_neg h3]
 by_cases h4:n.kind=4
 ·rw[if_pos h4,if_neg (by omega),if_neg (by omega)];rfl
 rw[if_neg h4]
 by_cases h5:n.kind=5
 ·rw[if_pos h5,if_pos h5]
 rw[if_neg h5,if_neg h5]
 by_cases h6:n.kind=6
 ·rw[if_pos h6,if_pos h6]
 rw[if_neg h6,if_neg h6]
 split<;>rfl
theorem fW {u:bz} {g:cF} {n:Node} (h:oJ u g n) (hk:n.kind=5\/n.kind=6):0<=n.cG/\n.cG<u.cB.length:=by
 have:=h.cG.1 (by unfold eZ;exact decide_eq_true (by omega))
 rw[if_pos hk] at this
 exact this
theorem lH {u:bz} {m:MS} (h:eH u m) {k:Int} (hk:0<=k/\k<u.cB.length) (w:Int) {x:Int} (hx:0<=x):(m.hold.set k.toNat w).getD x.toNat 0=if x=k then w else m.hold.getD x.toNat 0:=by
 by_cases e:x=k
 ·subst e
  rw[if_pos rfl,ec (by rw[h.hl];omega)]
 ·rw[if_neg e,getD_set_ne (by omega)]
theorem nM.step {u:bz} {m:MS} {t:Nat} (hr:ca u) (h:eH u m) (hi:nM u m) (ht:t<u.bw.length) (hb:m.ja u t=0):nM u (m.step u t).1:=by
 obtain⟨h9,hbar⟩:=jj h ht hb
 have hno:=h.node hr ht
 have hc:=hi.pM t ht
 have hlk:=tU (hr.gr ht)
 have hj:=wN (m:=m) (t:=t) hno.kind h9
 have hhold:(m.step u t).1.hold=(m.act t (m.node u t)).1.hold:=rfl
 have hat:(m.step u t).1.at_=m.at_.set t (m.act t (m.node u t)).2.1:=rfl
 rw[xl] at hhold
 obtain⟨now,n1,n2⟩:=hlk.on _ hc
 have hnx:=n2 _ hj
 have hcj:mN (u.gr t) (-1) (m.act t (m.node u t)).2.1:= .step hc (by have:=(h.iC t ht).1;omega) hj
 generalize (m.act t (m.node u t)).2.1=j at *
 have a1:(m.step u t).1.at_.getD t 0=j:=by rw[hat,ec (by rw[h.oM];exact ht)]
 have a2:∀s,s≠t->(m.step u t).1.at_.getD s 0=m.at_.getD s 0:=fun s hs=>by rw[hat,getD_set_ne (fun e=>hs e.symm)]
 change dH (m.node u t) _=_ at n1
 have ho:=hi.own t ht
 have hnd:=hi.nd t ht
 generalize hl:K5 (u.gr t) (m.at_.getD t 0).toNat=l at *
 have key:(K5 (u.gr t) j.toNat).Nodup/\(∀x:Int,0<=x->x<u.cB.length->((m.step u t).1.hold.getD x.toNat 0=t↔x∈K5 (u.gr t) j.toNat))/\∀s:Nat,s≠t->s<u.bw.length->∀x:Int,0<=x->x<u.cB.length->((m.step u t).1.hold.getD x.toNat 0=s↔m.hold.getD x.toNat 0=s):=by
  rw[hnx,hhold]
  generalize m.node u t=n at *
  unfold dH at n1
  by_cases h5:n.kind=5
  ·obtain⟨x0,x1⟩:=fW hno (.inl h5)
   have hfree:m.hold.getD n.cG.toNat 0<0:=by
    have:=fun e=>hbar ⟨h5,e⟩
    omega
   rw[if_pos h5] at n1
   cases n1
   rw[if_pos h5]
   have hnot:n.cG∉l:=fun e=>by
    have:=(ho _ x0 x1).2 e
    omega
   refine⟨List.nodup_append.2 ⟨hnd,by simp,fun a ha b hb=>by
    simp only[List.mem_cons,List.not_mem_nil,or_false] at hb
    subst hb
    exact fun e=>hnot (e▸ha)⟩,fun x hx0 hx1=> ?_,fun s hs hsl x hx0 hx1=> ?_⟩
   ·rw[lH h ⟨x0,x1⟩ _ hx0]
    by_cases e:x=n.cG
    ·rw[if_pos e];simp[e]
    ·rw[if_neg e,ho x hx0 hx1];simp[e]
   ·rw[lH h ⟨x0,x1⟩ _ hx0]
    by_cases e:x=n.cG
    ·rw[if_pos e,e]
     constructor
     ·intro h2;exfalso;omega
     ·intro h2;exfalso;omega
    ·rw[if_neg e]
  ·rw[if_neg h5] at n1 ⊢
   by_cases h6:n.kind=6
   ·obtain⟨x0,x1⟩:=fW hno (.inr h6)
    rw[if_pos h6] at n1 ⊢
    split at n1
    ·rename_i hc2
     obtain⟨ys,rfl⟩:=List.getLast?_eq_some_iff.1 hc2.2
     cases n1
     rw[List.dropLast_concat]
     have hnd2:=List.nodup_append.1 hnd
     have hnot:n.cG∉ys:=fun e=>hnd2.2.2 _ e _ (by simp) rfl
     have hmine:=(ho _ x0 x1).2 (by simp)
     refine⟨hnd2.1,fun x hx0 hx1=> ?_,fun s hs hsl x hx0 hx1=> ?_⟩
     ·rw[lH h ⟨x0,x1⟩ _ hx0]
      by_cases e:x=n.cG
      ·rw[if_pos e]
       constructor
       ·intro h2;omega
       ·intro h2;rw[e] at h2;exact absurd h2 hnot
      ·rw[if_neg e,ho x hx0 hx1];simp[e]
     ·rw[lH h ⟨x0,x1⟩ _ hx0]
      by_cases e:x=n.cG
      ·rw[if_pos e,e]
       constructor
       ·intro h2;omega
       ·intro h2;exfalso;omega
      ·rw[if_neg e]
    ·cases n1
   ·rw[if_neg h6,if_neg h9] at n1
    rw[if_neg h6]
    cases n1
    exact⟨hnd,ho,fun _ _ _ _ _ _=>Iff.rfl⟩
 obtain⟨k1,k2,k3⟩:=key
 refine⟨fun s hs=> ?_,fun s hs=> ?_,fun s hs x hx0 hx1=> ?_⟩
 ·by_cases e:s=t
  ·rw[e,a1];exact hcj
  ·rw[a2 s e];exact hi.pM s hs
 ·by_cases e:s=t
  ·rw[e,a1];exact k1
  ·rw[a2 s e];exact hi.nd s hs
 ·by_cases e:s=t
  ·rw[e,a1];exact k2 x hx0 hx1
  ·rw[a2 s e,k3 s e hs x hx0 hx1];exact hi.own s hs x hx0 hx1
def fB (u:bz) (m:MS):List Int->MS
 |[]=>m
 |t::r=>fB u (if m.ja u t=0 then(m.step u t.toNat).1 else m) r
structure uQ (u:bz) (m:MS):Prop where
 ok:eH u m
 inv:nM u m
theorem uQ.step {u:bz} {m:MS} (hu:u.Wf) (hr:ca u) (h:uQ u m) {t:Nat} (ht:t<u.bw.length) (hb:m.ja u t=0):uQ u (m.step u t).1:=
 ⟨xV hu hr h.ok ht (jj h.ok ht hb).1,h.inv.step hr h.ok ht hb⟩
theorem wT {u:bz} {m:MS} (h:eH u m) {t:Int} (hb:m.ja u t=0):∃k:Nat,t=k/\k<u.bw.length:=by
 by_cases e:t<0\/(m.at_.length:Int)<=t
 ·rw[wV e] at hb;cases hb
 ·rw[h.oM] at e
  exact⟨t.toNat,by omega,by omega⟩
theorem uQ.one {u:bz} {m:MS} (hu:u.Wf) (hr:ca u) (h:uQ u m) (t:Int):uQ u (if m.ja u t=0 then(m.step u t.toNat).1 else m):=by
 split
 ·rename_i hb
  obtain⟨k,rfl,hk⟩:=wT h.ok hb
  exact h.step hu hr hk hb
 ·exact h
theorem uQ.CH {u:bz} (hu:u.Wf) (hr:ca u):∀{w:List Int} {m:MS},uQ u m->uQ u (fB u m w)
 |[],m,h=>h
 |t::r,m,h=>uQ.CH hu hr (w:=r) (h.one hu hr t)
theorem vr (u:bz):∀(a b:List Int) (m:MS),fB u m (a++b)=fB u (fB u m a) b
 |[],b,m=>rfl
 |t::r,b,m=>vr u r b _
theorem uQ.new {u:bz} (hu:u.Wf) (hr:ca u):uQ u (cr u):=⟨EM u hr (fun d hd=>(hu.shared d hd).word) fun t ht=>(hr.gr ht).len.1, .new hr⟩
section
def dJ (u:bz) (m:MS) (t:Int):Int:=if(m.node u t.toNat).kind=5 then m.hold.getD (m.node u t.toNat).cG.toNat 0 else -1
def jR (h:Int->Int) (first:Int):Nat->List Int->Int->Option (List Int)
 |0,out,t=>if t=first then some out else none
 |f+1,out,t=>if t=first then some out else if t<0\/t∈out then none else jR h first f (out++[t]) (h t)
def iR (h:Int->Int) (n:Nat) (first:Int):Option (List Int):=jR h first n [first] (h first)
def gS (u:bz) (m:MS):Nat->Option (List Int)
 |0=>none
 |k+1=>match gS u m k with
  |some l=>some l
  |none=>iR (dJ u m) u.bw.length (k:Int)
def gR (u:bz) (m:MS):Option (List Int):=gS u m u.bw.length
structure mO (h:Int->Int) (l:List Int):Prop where
 pos:0<l.length
 nd:l.Nodup
 on:∀i,i<l.length->h (l.getD i 0)=l.getD ((i+1)%l.length) 0
 nn:∀x∈l,0<=x
theorem ez {α:Type} {l r:List α} {i:Nat} (d:α) (h:i<l.length):(l++r).getD i d=l.getD i d:=by simp[List.getD,List.getElem?_append,h]
theorem fI {α:Type} {l:List α} {x d:α}:(l++[x]).getD l.length d=x:=by simp[List.getD]
theorem pg {l:List Int} (h:l.Nodup) {i j:Nat} (hi:i<l.length) (hj:j<l.length) (e:l.getD i 0=l.getD j 0):i=j:=by
 have h1:l.getD i 0=l[i]:=by simp[List.getD,hi]
 have h2:l.getD j 0=l[j]:=by simp[List.getD,hj]
 rw[h1,h2] at e
 exact(List.getElem_inj h).1 e
theorem gx:∀(n:Nat) (l:List Int),l.Nodup->(∀x∈l,0<=x/\x<n)->l.length<=n
 |0,[],_,_=>Nat.le_refl _
 |0,x::r,_,h=>by have:=h x (by simp);omega
 |n+1,l,hn,h=>by
  by_cases hm:(n:Int)∈l
  ·have h1:=gx n (l.erase n) (hn.erase _) fun x hx=>by
    have h2:=(hn.mem_erase_iff).1 hx
    have h3:=h x h2.2
    exact⟨h3.1,by have:=h2.1;omega⟩
   rw[List.length_erase_of_mem hm] at h1
   omega
  ·have:=gx n l hn fun x hx=>by
    have h3:=h x hx
    exact⟨h3.1,by
     have:x≠n:=fun e=>hm (e▸hx)
     omega⟩
   omega
structure ij (h:Int->Int) (first:Int) (out:List Int):Prop where
 pos:0<out.length
 zero:out.getD 0 0=first
 nd:out.Nodup
 on:∀i,i+1<out.length->h (out.getD i 0)=out.getD (i+1) 0
 nn:∀x∈out,0<=x
theorem ij.one {h:Int->Int} {first:Int} (h0:0<=first):ij h first [first]:=
 ⟨by simp,rfl,by simp,fun i hi=>by simp at hi,fun x hx=>by simp only[List.mem_cons,List.not_mem_nil,or_false] at hx;omega⟩
theorem ij.more {h:Int->Int} {first t:Int} {out:List Int} (g:ij h first out) (ht:t=h (out.getD (out.length - 1) 0)) (h0:0<=t) (hn:t∉out):ij h first (out++[t]):=by
 have hp:=g.pos
 refine⟨by simp,by rw[ez 0 hp];exact g.zero,List.nodup_append.2 ⟨g.nd,by simp,fun a ha b hb=>by
  simp only[List.mem_cons,List.not_mem_nil,or_false] at hb
  subst hb
  exact fun e=>hn (e▸ha)⟩,fun i hi=> ?_,fun x hx=> ?_⟩
 ·rw[List.length_append,List.length_cons,List.length_nil] at hi
  rw[ez 0 (by omega)]
  by_cases e:i+1=out.length
  ·rw[e,fI,ht];congr 2;omega
  ·rw[ez 0 (by omega)];exact g.on i (by omega)
 ·rcases List.mem_append.1 hx with hx|hx
  ·exact g.nn x hx
  ·simp only[List.mem_cons,List.not_mem_nil,or_false] at hx;omega
theorem ij.ring {h:Int->Int} {first:Int} {out:List Int} (g:ij h first out) (ht:h (out.getD (out.length - 1) 0)=first):mO h out:=by
 have hp:=g.pos
 refine⟨hp,g.nd,fun i hi=> ?_,g.nn⟩
 by_cases e:i+1=out.length
 ·rw[e,Nat.mod_self,g.zero,show i=out.length - 1 by omega];exact ht
 ·rw[Nat.mod_eq_of_lt (by omega)];exact g.on i (by omega)
theorem rZ {h:Int->Int} {first:Int} {l:List Int}:∀(f:Nat) (out:List Int) (t:Int),ij h first out->t=h (out.getD (out.length - 1) 0)->jR h first f out t=some l->mO h l/\l.getD 0 0=first
 |0,out,t,g,ht,he=>by
  rw[jR] at he
  split at he
  ·rename_i e
   cases he
   exact⟨g.ring (by rw[<-ht];exact e),g.zero⟩
  ·cases he
 |f+1,out,t,g,ht,he=>by
  rw[jR] at he
  split at he
  ·rename_i e
   cases he
   exact⟨g.ring (by rw[<-ht];exact e),g.zero⟩
  ·split at he
   ·cases he
   ·rename_i e1 e2
    refine rZ f (out++[t]) (h t) (g.more ht (by omega) fun e=>e2 (.inr e)) ?_ he
    rw[List.length_append,List.length_cons,List.length_nil,Nat.add_sub_cancel,fI]
theorem nC {h:Int->Int} {n:Nat} {first:Int} {l:List Int} (h0:0<=first) (he:iR h n first=some l):mO h l/\l.getD 0 0=first:=rZ _ _ _ (.one h0) rfl he
theorem HM {h:Int->Int} {n:Nat} {l:List Int} (hr:mO h l) (hl:l.length<=n):iR h n (l.getD 0 0)=some l:=by
 have hp:=hr.pos
 have key:∀d k f,k+d=l.length->1<=k->d<=f->jR h (l.getD 0 0) f (l.take k) (h (l.getD (k - 1) 0))=some l:=by
  intro d
  induction d with
  |zero=>
   intro k f hk h1 _
   have hk':k=l.length:=by omega
   subst hk'
   have ht:h (l.getD (l.length - 1) 0)=l.getD 0 0:=by
    rw[hr.on _ (by omega),show l.length - 1+1=l.length by omega,Nat.mod_self]
   rw[List.take_length,ht]
   cases f<;>rw[jR,if_pos rfl]
  |succ d ih=>
   intro k f hk h1 hf
   obtain⟨f,rfl⟩:∃g,f=g+1:=⟨f - 1,by omega⟩
   have ht:h (l.getD (k - 1) 0)=l.getD k 0:=by
    rw[hr.on _ (by omega),show k - 1+1=k by omega,Nat.mod_eq_of_lt (by omega)]
   have hkl:k<l.length:=by omega
   rw[ht,jR,if_neg (fun e=>by have:=pg hr.nd hkl hp e;omega),if_neg]
   ·have e:l.take k++[l.getD k 0]=l.take (k+1):=by rw[List.take_succ_eq_append_getElem hkl];simp[List.getD,hkl]
    rw[e]
    exact ih (k+1) f (by omega) (by omega) (by omega)
   ·rintro(e|e)
    ·have:=hr.nn _ (cT 0 hkl);omega
    ·obtain⟨i,hi,e2⟩:=List.getElem_of_mem e
     rw[List.length_take] at hi
     rw[List.getElem_take] at e2
     have:=pg hr.nd (i:=i) (j:=k) (by omega) hkl (by rw[<-e2];simp[List.getD,show i<l.length by omega])
     omega
 have:=key (l.length - 1) 1 n (by omega) (Nat.le_refl _) (by omega)
 have e1:l.take 1=[l.getD 0 0]:=by
  cases l with
  |nil=>simp at hp
  |cons a r=>simp[List.getD]
 rw[e1] at this
 exact this
theorem z6 {h:Int->Int} {n:Nat} {S:Int->Prop} (hS:∀x,S x->0<=x/\x<n/\S (h x)) {x:Int} (hx:S x):∃l,mO h l/\∀y∈l,S y:=by
 have key:∀(f:Nat) (out:List Int),out.length+f=n+1->ij h x out->(∀y∈out,S y)->∃l,mO h l/\∀y∈l,S y:=by
  intro f
  induction f with
  |zero=>
   intro out hl g hs
   have:=gx n out g.nd fun y hy=>⟨(hS y (hs y hy)).1,(hS y (hs y hy)).2.1⟩
   omega
  |succ f ih=>
   intro out hl g hs
   have hp:=g.pos
   have hlast:=hs _ (cT 0 (show out.length - 1<out.length by omega))
   obtain⟨l0,l1,l2⟩:=hS _ hlast
   by_cases hm:h (out.getD (out.length - 1) 0)∈out
   ·obtain⟨k,hk,e⟩:=List.getElem_of_mem hm
    have gd:∀i,(out.drop k).getD i 0=out.getD (k+i) 0:=fun i=>by simp[List.getD]
    have hdl:(out.drop k).length=out.length - k:=List.length_drop
    refine⟨out.drop k,⟨by rw[hdl];omega,g.nd.sublist (List.drop_sublist _ _),fun i hi=> ?_,fun y hy=>g.nn y (List.mem_of_mem_drop hy)⟩,fun y hy=>hs y (List.mem_of_mem_drop hy)⟩
    rw[hdl] at hi ⊢
    rw[gd,gd]
    by_cases ei:i+1=out.length - k
    ·rw[ei,Nat.mod_self,show k+i=out.length - 1 by omega,<-e]
     simp[List.getD,hk]
    ·rw[Nat.mod_eq_of_lt (by omega)]
     exact g.on _ (by omega)
   ·have h2:=hS _ l2
    exact ih _ (by rw[List.length_append,List.length_cons,List.length_nil];omega) (g.more rfl h2.1 hm) fun y hy=>by
     rcases List.mem_append.1 hy with hy|hy
     ·exact hs y hy
     ·simp only[List.mem_cons,List.not_mem_nil,or_false] at hy;subst hy;exact l2
 exact key n [x] (by simp;omega) (.one (hS x hx).1) fun y hy=>by
  simp only[List.mem_cons,List.not_mem_nil,or_false] at hy;subst hy;exact hx
section
variable {u:bz} {m:MS}
theorem nX (hr:ca u) (h:eH u m) {t:Int} (ht:0<=t/\t<u.bw.length):-1<=dJ u m t/\dJ u m t<u.bw.length:=by
 have hno:=h.node hr (t:=t.toNat) (by omega)
 unfold dJ
 split
 ·rename_i h5
  obtain⟨x0,x1⟩:=fW hno (.inl h5)
  exact h.hw _ (cT 0 (by rw[h.hl];omega))
 ·omega
theorem OS (hr:ca u) (h:eH u m) {l:List Int} (hl:mO (dJ u m) l) (h0:l.getD 0 0<u.bw.length):∀i,i<l.length->0<=l.getD i 0/\l.getD i 0<u.bw.length:=by
 intro i
 induction i with
 |zero=>intro hi;exact⟨hl.nn _ (cT 0 hi),h0⟩
 |succ i ih=>
  intro hi
  have:=nX hr h (ih (by omega))
  rw[hl.on i (by omega),Nat.mod_eq_of_lt hi] at this
  exact⟨hl.nn _ (cT 0 hi),this.2⟩
theorem wx {l:List Int} {x:Int} (h:x∈l):∃i,i<l.length/\l.getD i 0=x:=by
 obtain⟨i,hi,e⟩:=List.getElem_of_mem h
 exact⟨i,hi,by simp[List.getD,hi,e]⟩
theorem rT {k:Nat} {l:List Int} (h:gS u m k=some l):∃t:Nat,t<k/\iR (dJ u m) u.bw.length (t:Int)=some l:=by
 induction k with
 |zero=>cases h
 |succ k ih=>
  rw[gS] at h
  split at h
  ·rename_i l' e
   cases h
   obtain⟨t,h1,h2⟩:=ih e
   exact⟨t,by omega,h2⟩
  ·exact⟨k,by omega,h⟩
theorem qg {t:Nat} {l:List Int} (hl:iR (dJ u m) u.bw.length (t:Int)=some l):∀k,t<k->∃t' l',t'<=t/\gS u m k=some l'/\iR (dJ u m) u.bw.length ((t':Nat):Int)=some l'
 |0,h=>by omega
 |k+1,h=>by
  rw[gS]
  cases e:gS u m k with
  |some l'=>
   obtain⟨t',h1,h2⟩:=rT e
   by_cases htk:t<k
   ·obtain⟨t2,l2,g1,g2,g3⟩:=qg hl k htk
    rw[e] at g2
    cases g2
    exact⟨t2,l',g1,rfl,g3⟩
   ·exact⟨t',l',by omega,rfl,h2⟩
  |none=>
   by_cases htk:t<k
   ·obtain⟨t2,l2,g1,g2,g3⟩:=qg hl k htk
    rw[e] at g2;cases g2
   ·have:t=k:=by omega
    subst this
    exact⟨t,l,Nat.le_refl _,hl,hl⟩
structure fT (u:bz) (m:MS) (l:List Int):Prop where
 ring:mO (dJ u m) l
 XF:∀i,i<l.length->0<=l.getD i 0/\l.getD i 0<u.bw.length
theorem fT.len {l:List Int} (h:fT u m l):l.length<=u.bw.length:=gx _ _ h.ring.nd fun x hx=>by
 obtain⟨i,hi,rfl⟩:=wx hx
 exact h.XF i hi
theorem N9 (hr:ca u) (h:eH u m) {l:List Int} (hk:gR u m=some l):fT u m l:=by
 obtain⟨t,ht,hl⟩:=rT hk
 obtain⟨h1,h2⟩:=nC (by omega) hl
 exact⟨h1,OS hr h h1 (by rw[h2];omega)⟩
theorem BW {l:List Int} (h:fT u m l):∃b,gR u m=some b/\(b.getD 0 0<l.getD 0 0\/b=l):=by
 obtain⟨h0,h1⟩:=h.XF 0 h.ring.pos
 have hl:=HM h.ring h.len
 obtain⟨t,ht⟩:∃t:Nat,l.getD 0 0=t:=⟨(l.getD 0 0).toNat,by omega⟩
 rw[ht] at hl ⊢
 obtain⟨t',l',g1,g2,g3⟩:=qg hl u.bw.length (by omega)
 refine⟨l',g2, ?_⟩
 by_cases e:t'=t
 ·subst e
  rw[hl] at g3
  cases g3
  exact .inr rfl
 ·obtain⟨_,h2⟩:=nC (by omega) g3
  rw[h2]
  exact .inl (by omega)
theorem fT.waits {l:List Int} (h:fT u m l) {t:Int} (ht:t∈l):(m.node u t.toNat).kind=5/\m.hold.getD (m.node u t.toNat).cG.toNat 0∈l:=by
 obtain⟨i,hi,rfl⟩:=wx ht
 have h1:=h.ring.on i hi
 have h2:l.getD ((i+1)%l.length) 0∈l:=cT 0 (Nat.mod_lt _ h.ring.pos)
 have h3:=h.ring.nn _ h2
 unfold dJ at h1
 split at h1
 ·rename_i h5
  exact⟨h5,h1▸h2⟩
 ·omega
theorem fT.lt {l:List Int} (h:fT u m l) {t:Int} (ht:t∈l):0<=t/\t<u.bw.length:=by
 obtain⟨i,hi,rfl⟩:=wx ht
 exact h.XF i hi
theorem AO (h:eH u m) {t:Int} (ht:0<=t/\t<u.bw.length):m.ja u t=if(m.node u t.toNat).kind=9 then 70 else if(m.node u t.toNat).kind=5/\0<=m.hold.getD (m.node u t.toNat).cG.toNat 0 then 71 else 0:=by
 unfold MS.ja
 rw[if_neg (by have:=h.oM;omega)]
theorem fT.QQ (h0:eH u m) {l:List Int} (h:fT u m l) {t:Int} (ht:t∈l):m.ja u t=71:=by
 obtain⟨h5,hh⟩:=h.waits ht
 have:=h.ring.nn _ hh
 rw[AO h0 (h.lt ht),if_neg (by omega),if_pos ⟨h5,this⟩]
theorem fT.step (hr:ca u) (h:uQ u m) {l:List Int} (hk:fT u m l) {s:Nat} (hs:s<u.bw.length) (hb:m.ja u s=0):fT u (m.step u s).1 l/\∀t∈l,(m.step u s).1.at_.getD t.toNat 0=m.at_.getD t.toNat 0:=by
 have hsl:(s:Int)∉l:=fun e=>by have:=hk.QQ h.ok e;omega
 have hat:∀t∈l,(m.step u s).1.at_.getD t.toNat 0=m.at_.getD t.toNat 0:=fun t ht=>by
  show(m.at_.set s _).getD t.toNat 0=_
  have:=hk.lt ht
  exact getD_set_ne fun e=>hsl (by rw[e,Int.toNat_of_nonneg this.1];exact ht)
 have hnode:∀t∈l,(m.step u s).1.node u t.toNat=m.node u t.toNat:=fun t ht=>by unfold MS.node;rw[hat t ht]
 obtain⟨h9,hbar⟩:=jj h.ok hs hb
 have hno:=h.ok.node hr hs
 have hhold:∀t∈l,(m.step u s).1.hold.getD (m.node u t.toNat).cG.toNat 0=m.hold.getD (m.node u t.toNat).cG.toNat 0:=fun t ht=>by
  obtain⟨h5,hh⟩:=hk.waits ht
  have hlt:=hk.lt ht
  have hnt:=h.ok.node hr (t:=t.toNat) (by omega)
  obtain⟨x0,x1⟩:=fW hnt (.inl h5)
  generalize hx:(m.node u t.toNat).cG=x at *
  show((m.act s (m.node u s)).1.hold).getD x.toNat 0=_
  rw[xl]
  by_cases k5:(m.node u s).kind=5
  ·obtain⟨y0,y1⟩:=fW hno (.inl k5)
   rw[if_pos k5,lH h.ok ⟨y0,y1⟩ _ x0,if_neg]
   intro e
   rw[e] at hh
   exact hbar ⟨k5,hk.ring.nn _ hh⟩
  ·rw[if_neg k5]
   by_cases k6:(m.node u s).kind=6
   ·obtain⟨y0,y1⟩:=fW hno (.inr k6)
    rw[if_pos k6,lH h.ok ⟨y0,y1⟩ _ x0,if_neg]
    intro e
    rw[e] at hh
    obtain⟨now,n1,_⟩:=(tU (hr.gr hs)).on _ (h.inv.pM s hs)
    change dH (m.node u s) _=_ at n1
    unfold dH at n1
    rw[if_neg k5,if_pos k6] at n1
    split at n1
    ·rename_i hc
     obtain⟨ys,hy⟩:=List.getLast?_eq_some_iff.1 hc.2
     have:=(h.inv.own s hs _ y0 y1).2 (by rw[hy];simp)
     rw[this] at hh
     exact hsl hh
    ·cases n1
   ·rw[if_neg k6]
 refine⟨⟨⟨hk.ring.pos,hk.ring.nd,fun i hi=> ?_,hk.ring.nn⟩,hk.XF⟩,hat⟩
 have hm:=cT (0:Int) hi
 rw[<-hk.ring.on i hi]
 unfold dJ
 rw[hnode _ hm]
 split
 ·exact hhold _ hm
 ·rfl
theorem fT.CH (hu:u.Wf) (hr:ca u) {l:List Int}:∀(w:List Int) {m:MS},uQ u m->fT u m l->fT u (fB u m w) l/\∀t∈l,(fB u m w).at_.getD t.toNat 0=m.at_.getD t.toNat 0
 |[],m,_,hk=>⟨hk,fun _ _=>rfl⟩
 |t::r,m,h,hk=>by
  rw[fB]
  have h1:=h.one hu hr t
  by_cases hb:m.ja u t=0
  ·rw[if_pos hb] at h1 ⊢
   obtain⟨k,rfl,hkl⟩:=wT h.ok hb
   rw[Int.toNat_natCast] at h1 ⊢
   obtain⟨g1,g2⟩:=hk.step hr h hkl hb
   obtain⟨g3,g4⟩:=fT.CH hu hr r h1 g1
   exact⟨g3,fun s hs=>(g4 s hs).trans (g2 s hs)⟩
  ·rw[if_neg hb] at h1 ⊢
   exact fT.CH hu hr r h1 hk
theorem DH (hr:ca u) (h:uQ u m) (hall:∀t,t<u.bw.length->m.ja u (t:Nat)≠0) {t0:Nat} (ht0:t0<u.bw.length) (h70:m.ja u t0≠70):∃l,gR u m=some l:=by
 have b71:∀t:Int,0<=t/\t<u.bw.length->m.ja u t≠70->(m.node u t.toNat).kind=5/\0<=m.hold.getD (m.node u t.toNat).cG.toNat 0:=fun t ht h7=>by
  have h0:=hall t.toNat (by omega)
  rw[Int.toNat_of_nonneg ht.1] at h0
  rw[AO h.ok ht] at h0 h7
  split at h7
  ·exact absurd rfl h7
  ·rename_i e9
   rw[if_neg e9] at h0
   split at h0
   ·assumption
   ·exact absurd rfl h0
 obtain⟨l,hl,hS⟩:=z6 (h:=dJ u m) (n:=u.bw.length) (S:=fun t=>0<=t/\t<u.bw.length/\m.ja u t≠70) (fun t ht=>by
  obtain⟨h5,hh⟩:=b71 t ⟨ht.1,ht.2.1⟩ ht.2.2
  have hlt:=nX hr h.ok (t:=t) ⟨ht.1,ht.2.1⟩
  have hnt:=h.ok.node hr (t:=t.toNat) (by omega)
  obtain⟨x0,x1⟩:=fW hnt (.inl h5)
  have he:dJ u m t=m.hold.getD (m.node u t.toNat).cG.toNat 0:=by unfold dJ;rw[if_pos h5]
  rw[he] at hlt ⊢
  refine⟨ht.1,ht.2.1,hh,hlt.2,fun e70=> ?_⟩
  generalize hx:(m.node u t.toNat).cG=x at *
  obtain⟨s,hs⟩:∃s:Nat,m.hold.getD x.toNat 0=s:=⟨(m.hold.getD x.toNat 0).toNat,by omega⟩
  rw[hs] at hlt e70
  have hmem:=(h.inv.own s (by omega) x x0 x1).1 hs
  rw[AO h.ok (by omega),Int.toNat_natCast] at e70
  split at e70
  ·rename_i h9
   obtain⟨now,n1,_⟩:=(tU (hr.gr (t:=s) (by omega))).on _ (h.inv.pM s (by omega))
   change dH (m.node u s) _=_ at n1
   unfold dH at n1
   rw[if_neg (by omega),if_neg (by omega),if_pos h9] at n1
   split at n1
   ·rename_i e;rw[e] at hmem;cases hmem
   ·cases n1
  ·split at e70<;>omega) (x:=(t0:Int)) ⟨by omega,by omega,h70⟩
 have hk:fT u m l:=⟨hl,fun i hi=>by have:=hS _ (cT 0 hi);exact⟨this.1,this.2.1⟩⟩
 obtain⟨b,hb,_⟩:=BW hk
 exact⟨b,hb⟩
end
end
theorem tc:∀(x:Nat),x<4294967296->∀k:Int,k∈bits x↔0<=k/\x.testBit k.toNat=true:=by
 intro x
 induction x using Nat.strongRecOn with
 |_ x ih=>
  intro hx k
  by_cases h0:x=0
  ·subst h0
   rw[show bits 0=[] from rfl,Nat.zero_testBit]
   simp
  ·rw[qY h0]
   obtain⟨h1,h2,h3⟩:=NQ h0 hx
   have hp:=pred_lt h0
   rw[List.mem_cons,ih _ hp (by omega),zX h0 hx]
   constructor
   ·rintro(rfl|⟨g1,g2⟩)
    ·exact⟨by omega,by rw[Int.toNat_natCast];exact h1⟩
    ·rw[Bool.and_eq_true] at g2
     exact⟨g1,g2.1⟩
   ·rintro⟨g1,g2⟩
    by_cases e:k.toNat=ctz x
    ·exact .inl (by omega)
    ·exact .inr ⟨g1,by rw[Bool.and_eq_true];exact⟨g2,decide_eq_true e⟩⟩
def rO (g:cF) (i:Nat):List Int:=bits (hb (K5 g i))
theorem B2 {u:bz} {g:cF} (hk:eX u g) (hl:u.cB.length<=16) (i:Nat):hb (K5 g i)<65536:=PZ (m:=16) fun k hx=>by have:=wv hk i k hx;omega
theorem OE {u:bz} {g:cF} (hk:eX u g) (hl:u.cB.length<=16) (i:Nat) (x:Int):x∈rO g i↔x∈K5 g i:=by
 unfold rO
 rw[tc _ (by have:=B2 hk hl i;omega),KM,List.any_eq_true]
 constructor
 ·rintro⟨h0,y,hy,e⟩
  have:=wv hk i y hy
  have e2:=of_decide_eq_true e
  rw[show x=y by omega];exact hy
 ·intro h
  have:=wv hk i x h
  exact⟨this.1,x,h,decide_eq_true rfl⟩
structure ej where
 held:Int
 taken:Int
 dy:Int
 node:Int
 deriving Inhabited,DecidableEq
def ej.cells (e:ej):List AV:=[i64 e.held,i64 e.taken,i64 e.dy,i64 e.node]
abbrev ej.av (e:ej):AV:= .agg e.cells
abbrev w9 (l:List ej):AV:= .im 4 .any (l.map ej.av)
@[simp] theorem JW (n:Nat) (e:ej):cX n e.cells:=by simp[ej.cells,cX,cK]
theorem FX (l:List ej):cX 0 (l.map ej.av):=(cD _ _).2 fun _ _=>by simp only[ej.av,cK];exact JW _ _
def mZ (g:cF) (t i:Nat):List ej:=if(g.nd i).kind=5 then(rO g i).map fun h=>⟨h,(g.nd i).cG,t,i⟩ else[]
def jN (g:cF) (t:Nat):Nat->List ej
 |0=>[]
 |i+1=>jN g t i++mZ g t i
def iH (u:bz):Nat->List ej
 |0=>[]
 |t+1=>iH u t++jN (u.gr t) t (u.gr t).nodes.length
def df (u:bz):List ej:=iH u u.bw.length
theorem oT {g:cF} {t:Nat} {e:ej}:∀{m:Nat},e∈jN g t m↔∃i,i<m/\e∈mZ g t i
 |0=>by simp[jN]
 |m+1=>by
  rw[jN,List.mem_append,oT]
  constructor
  ·rintro(⟨i,h1,h2⟩|h)
   ·exact⟨i,by omega,h2⟩
   ·exact⟨m,by omega,h⟩
  ·rintro⟨i,h1,h2⟩
   by_cases e:i=m
   ·subst e;exact .inr h2
   ·exact .inl ⟨i,by omega,h2⟩
theorem sr {u:bz} {e:ej}:∀{m:Nat},e∈iH u m↔∃t,t<m/\e∈jN (u.gr t) t (u.gr t).nodes.length
 |0=>by simp[iH]
 |m+1=>by
  rw[iH,List.mem_append,sr]
  constructor
  ·rintro(⟨i,h1,h2⟩|h)
   ·exact⟨i,by omega,h2⟩
   ·exact⟨m,by omega,h⟩
  ·rintro⟨i,h1,h2⟩
   by_cases e:i=m
   ·subst e;exact .inr h2
   ·exact .inl ⟨i,by omega,h2⟩
theorem FN {u:bz} {e:ej}:e∈df u↔∃t i,t<u.bw.length/\i<(u.gr t).nodes.length/\((u.gr t).nd i).kind=5/\e.held∈rO (u.gr t) i/\e.taken=((u.gr t).nd i).cG/\e.dy=t/\e.node=i:=by
 unfold df
 rw[sr]
 constructor
 ·rintro⟨t,ht,h⟩
  obtain⟨i,hi,h⟩:=oT.1 h
  unfold mZ at h
  split at h
  ·rename_i h5
   obtain⟨x,hx,rfl⟩:=List.mem_map.1 h
   exact⟨t,i,ht,hi,h5,hx,rfl,rfl,rfl⟩
  ·cases h
 ·rintro⟨t,i,ht,hi,h5,hx,h1,h2,h3⟩
  refine⟨t,ht,oT.2 ⟨i,hi, ?_⟩⟩
  unfold mZ
  rw[if_pos h5]
  exact List.mem_map.2 ⟨e.held,hx,by cases e;simp_all⟩
theorem yL {u:bz} (hr:ca u) {e:ej} (h:e∈df u):(0<=e.held/\e.held<u.cB.length)/\0<=e.taken/\e.taken<u.cB.length:=by
 obtain⟨t,i,ht,hi,h5,hx,h1,h2,h3⟩:=FN.1 h
 rw[OE (hr.gr ht) hr.oW.2.1] at hx
 rw[h1]
 exact⟨wv (hr.gr ht) i _ hx,fW ((hr.gr ht).node hi) (.inl h5)⟩
theorem AQ:∀(x:Nat),x<4294967296->(bits x).Nodup:=by
 intro x
 induction x using Nat.strongRecOn with
 |_ x ih=>
  intro hx
  by_cases h0:x=0
  ·subst h0;exact List.nodup_nil
  ·have hp:=pred_lt h0
   rw[qY h0,List.nodup_cons]
   refine⟨fun h=> ?_,ih _ hp (by omega)⟩
   have:=((tc _ (by omega) _).1 h).2
   rw[zX h0 hx,Bool.and_eq_true] at this
   exact of_decide_eq_true this.2 (by rw[Int.toNat_natCast])
theorem NC {x:Nat} (hx:x<65536):(bits x).length<=16:=gx 16 _ (AQ x (by omega)) fun k hk=>by
 obtain⟨h1,h2⟩:=(tc _ (by omega) _).1 hk
 refine⟨h1, ?_⟩
 by_cases h:k.toNat<16
 ·omega
 ·have h3:16<=k.toNat:=by omega
  have h4:2^16<=2^k.toNat:=Nat.pow_le_pow_right (by decide) h3
  have:=Nat.testBit_lt_two_pow (x:=x) (i:=k.toNat) (by omega)
  rw[this] at h2;cases h2
theorem KP {u:bz} {g:cF} (hk:eX u g) (hl:u.cB.length<=16) (i:Nat):(rO g i).length<=16:=NC (B2 hk hl i)
theorem FM {u:bz} {g:cF} (hk:eX u g) (hl:u.cB.length<=16) (t i:Nat):(mZ g t i).length<=16:=by
 unfold mZ
 split
 ·rw[List.length_map];exact KP hk hl i
 ·exact Nat.zero_le _
theorem q8 {u:bz} {g:cF} (hk:eX u g) (hl:u.cB.length<=16) (t:Nat):∀m,(jN g t m).length<=16 * m
 |0=>Nat.le_refl _
 |m+1=>by
  rw[jN,List.length_append]
  have:=q8 hk hl t m
  have:=FM hk hl t m
  omega
theorem q9 {u:bz} (hr:ca u):∀{m:Nat},m<=u.bw.length->(iH u m).length<=65536 * m
 |0,_=>Nat.le_refl _
 |m+1,h=>by
  rw[iH,List.length_append]
  have h1:=q9 hr (m:=m) (by omega)
  have h2:=q8 (hr.gr (t:=m) (by omega)) hr.oW.2.1 m (u.gr m).nodes.length
  have h3:=(hr.gr (t:=m) (by omega)).len.2
  omega
end Go.Proofs.YtjopoheligmmoaaGreatDoor
