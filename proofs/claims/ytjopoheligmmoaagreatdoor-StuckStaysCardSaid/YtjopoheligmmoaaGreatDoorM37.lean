import Derived.Shelf.SlSortCmp.WholeK
import Derived.Test.YtjopoheligmmoaaGreatDoorProg
import Derived.Test.YtjopoheligmmoaaGreatDoorM35
import Derived.Test.YtjopoheligmmoaaGreatDoorM36
import Derived.Shelf.SlSortCmp.NoneTotal
import Derived.Test.YtjopoheligmmoaaGreatDoorM17
import Derived.Test.YtjopoheligmmoaaGreatDoorRows
import Derived.Test.YtjopoheligmmoaaGreatDoorTie
import Derived.Test.YtjopoheligmmoaaGreatDoorCards
import Derived.LaidMore
import Derived.OpenShut
import Derived.SevenTiedAt
import Derived.Test.YtjopoheligmmoaaGreatDoorM30
import Derived.Test.YtjopoheligmmoaaGreatDoorM27
namespace Go.Proofs
open Go.Shelf
def Tryz.FL:Go.Shelf.Ren:=⟨fun|6=>95|15=>82|14=>149|28=>141|29=>142|20=>186|21=>187|22=>188|23=>189|24=>190|25=>191|26=>192|27=>193|46=>202|47=>173|48=>174|49=>203|50=>204|57=>225|n=>n,fun|22=>41|24=>105|25=>112|3=>3|39=>142|0=>0|53=>132|55=>206|4=>4|46=>198|45=>197|50=>203|5=>5|9=>9|66=>231|70=>235|76=>266|77=>267|n=>n,fun|n=>n⟩
theorem Tryz.NY:Go.Proofs.SlLaysF0.n6 Tryz.prog Tryz.FL:={
 mixed:=by kernel_rfl
 f6:=⟨Tryz.f95.name,by decide,Tryz.func95.trans (congrArg some (by kernel_rfl))⟩
 f14:=⟨Tryz.f149.name,by decide,Tryz.func149.trans (congrArg some (by kernel_rfl))⟩
 f15:=Tryz.func82.trans (congrArg some (by kernel_rfl))
 f20:=⟨Tryz.f186.name,by decide,Tryz.func186.trans (congrArg some (by kernel_rfl))⟩
 f21:=⟨Tryz.f187.name,by decide,Tryz.func187.trans (congrArg some (by kernel_rfl))⟩
 f22:=⟨Tryz.f188.name,by decide,Tryz.func188.trans (congrArg some (by kernel_rfl))⟩
 f23:=⟨Tryz.f189.name,by decide,Tryz.func189.trans (congrArg some (by kernel_rfl))⟩
 f24:=⟨Tryz.f190.name,by decide,Tryz.func190.trans (congrArg some (by kernel_rfl))⟩
 f25:=⟨Tryz.f191.name,by decide,Tryz.func191.trans (congrArg some (by kernel_rfl))⟩
 f26:=⟨Tryz.f192.name,by decide,Tryz.func192.trans (congrArg some (by kernel_rfl))⟩
 f27:=⟨Tryz.f193.name,by decide,Tryz.func193.trans (congrArg some (by kernel_rfl))⟩
 f28:=Tryz.func141.trans (congrArg some (by kernel_rfl))
 f29:=Tryz.func142.trans (congrArg some (by kernel_rfl))
 f46:=⟨Tryz.f202.name,by decide,Tryz.func202.trans (congrArg some (by kernel_rfl))⟩
 f47:=Tryz.func173.trans (congrArg some (by kernel_rfl))
 f48:=Tryz.func174.trans (congrArg some (by kernel_rfl))
 f49:=⟨Tryz.f203.name,by decide,Tryz.func203.trans (congrArg some (by kernel_rfl))⟩
 f50:=⟨Tryz.f204.name,by decide,Tryz.func204.trans (congrArg some (by kernel_rfl))⟩
 f57:=⟨Tryz.f225.name,by decide,Tryz.func225.trans (congrArg some (by kernel_rfl))⟩
 t0:=Tryz.underlying0
 a0:=Tryz.isAgg0
 z0:=Tryz.sizeOf0
 v0:=Tryz.zeroValue0
 t3:=Tryz.underlying3
 a3:=Tryz.isAgg3
 z3:=Tryz.sizeOf3
 v3:=Tryz.zeroValue3
 t4:=Tryz.underlying4
 a4:=Tryz.isAgg4
 z4:=Tryz.sizeOf4
 v4:=Tryz.zeroValue4
 t5:=Tryz.underlying5
 a5:=Tryz.isAgg5
 z5:=Tryz.sizeOf5
 v5:=Tryz.zeroValue5
 t9:=Tryz.underlying9
 a9:=Tryz.isAgg9
 z9:=Tryz.sizeOf9
 v9:=Tryz.zeroValue9
 t22:=Tryz.underlying41
 a22:=Tryz.isAgg41
 z22:=Tryz.sizeOf41
 v22:=Tryz.zeroValue41
 t25:=Tryz.underlying112
 a25:=Tryz.isAgg112
 z25:=Tryz.sizeOf112
 v25:=Tryz.zeroValue112
 t39:=Tryz.underlying142
 a39:=Tryz.isAgg142
 z39:=Tryz.sizeOf142
 v39:=Tryz.zeroValue142
 t45:=Tryz.underlying197
 a45:=Tryz.isAgg197
 z45:=Tryz.sizeOf197
 v45:=Tryz.zeroValue197
 t46:=Tryz.underlying198
 a46:=Tryz.isAgg198
 z46:=Tryz.sizeOf198
 v46:=Tryz.zeroValue198
 t50:=Tryz.underlying203
 a50:=Tryz.isAgg203
 z50:=Tryz.sizeOf203
 v50:=Tryz.zeroValue203
 t53:=Tryz.underlying132
 a53:=Tryz.isAgg132
 z53:=Tryz.sizeOf132
 v53:=Tryz.zeroValue132
 t55:=Tryz.underlying206
 a55:=Tryz.isAgg206
 z55:=Tryz.sizeOf206
 v55:=Tryz.zeroValue206
 t66:=Tryz.underlying231
 a66:=Tryz.isAgg231
 z66:=Tryz.sizeOf231
 v66:=Tryz.zeroValue231
 t70:=Tryz.underlying235
 a70:=Tryz.isAgg235
 z70:=Tryz.sizeOf235
 v70:=Tryz.zeroValue235
 t76:=Tryz.underlying266
 a76:=Tryz.isAgg266
 z76:=Tryz.sizeOf266
 v76:=Tryz.zeroValue266
 t77:=Tryz.underlying267
 a77:=Tryz.isAgg267
 z77:=Tryz.sizeOf267
 v77:=Tryz.zeroValue267 }
end Go.Proofs
namespace Go.Proofs.YtjopoheligmmoaaGreatDoor
open Go Go.cp Go.Proofs Go.RowKit Go.Sort
set_option linter.unusedSimpArgs false
set_option linter.unusedVariables false
set_option maxRecDepth 8000
section
theorem yr {w w':World} (h:Go.RowKit.Below w.heap.size w w') (hd:w.drawn<=w'.drawn):∃q os',w'=grow (w.drewN q) os':=by
 refine⟨w'.drawn - w.drawn,w'.heap.extract w.heap.size w'.heap.size, ?_⟩
 obtain⟨hp,tp,dr,os,ou⟩:=w
 obtain⟨hp',tp',dr',os',ou'⟩:=w'
 have h1:=h.os
 have h2:=h.tape
 have h3:=h.output
 have h4:=h.size
 have h5:=h.block
 dsimp only at *
 subst h1 h2 h3
 simp only[grow,World.drewN,World.mk.injEq,true_and,and_true]
 refine⟨?_,by omega⟩
 apply Array.ext_getElem?
 intro i
 rw[Array.getElem?_append]
 split
 ·rename_i hi;exact h5 i hi
 ·rename_i hi
  rw[Array.getElem?_extract]
  split
  ·congr 1;omega
  ·rw[Array.getElem?_eq_none (by omega)]
def El {S:Type} (cells:S->List AV) (ok:S->Prop) (w:World) (M:Nat->Prop):Type:={ x:S×List Value //ok x.1/\cg (base w M) (cells x.1) x.2 }
section
variable {S:Type} {cells:S->List AV} {ok:S->Prop} {k:Nat} {cf:S->S->Int}
structure yi (P:Program) (g:Nat) (cells:S->List AV) (k:Nat) (ok:S->Prop) (cf:S->S->Int):Prop where
 len:∀s,(cells s).length=k
 pos:0<k
 fit:∀s,c8 0 (cells s)
 one:∀s,hC (cells s)=true
 cmp:∀a b,ok a->ok b->Pure P g [.agg (cells a), .agg (cells b)] (fun r=>r= .sc (.int .i64 (cf a b)))
 ord:jz cf
theorem PQ (h:jz cf) {α:Type} (f:α->S):SWO (ltOf fun x y:α=>cf (f x) (f y)) where
 irrefl x:=by
  have:=(h.zero (f x) (f x)).2 rfl
  simp[ltOf,this]
 trans x y z h1 h2:=by
  simp only[ltOf,decide_eq_true_eq] at *
  exact h.tr _ _ _ h1 h2
 ntrans x y z h1 h2:=by
  simp only[ltOf,decide_eq_false_iff_not] at *
  have n1:=h.neg (f x) (f y)
  have n2:=h.neg (f y) (f z)
  have n3:=h.neg (f x) (f z)
  by_cases e1:cf (f x) (f y)=0
  ·rw[(h.zero _ _).1 e1];exact h2
  ·by_cases e2:cf (f y) (f z)=0
   ·rw[<-(h.zero _ _).1 e2];exact h1
   ·have:=h.tr (f z) (f y) (f x) (by omega) (by omega)
    omega
variable {w:World} {M:Nat->Prop} {blk off:Nat}
theorem mI {α:Type} [Inhabited α] {enc:α->List Value} {n i:Nat} {os:Array Obj} (d:Array α) (hi:i<w.heap.size) (hne:i≠blk):(sortWorldK enc k w blk off n d os).heap[i]?=w.heap[i]?:=by
 unfold sortWorldK putRowK
 rw[heap_grow_old _ _ (by simpa[putRow,mapBlock,Sort.ahead] using hi)]
 simp[putRow,mapBlock,Sort.ahead,Array.getElem?_modify,Ne.symm hne]
theorem sk {α:Type} [Inhabited α] {enc:α->List Value} {n:Nat} {os:Array Obj} {cur:Array Value} {e:TypeId} {fr:Nat×Nat} (d:Array α) (hb:w.heap[blk]?=some (.cells cur e fr)):
 (sortWorldK enc k w blk off n d os).heap[blk]?=some (.cells (putCells id off (flatK enc k d) cur) e fr):=by
 have hg:blk<w.heap.size:=(Array.getElem?_eq_some_iff.1 hb).1
 unfold sortWorldK putRowK
 rw[heap_grow_old _ _ (by simpa[putRow,mapBlock,Sort.ahead] using hg)]
 simp[putRow,mapBlock,Sort.ahead,Array.getElem?_modify,hb,onCells]
theorem zD {P:Program} {g:Nat} (h:yi P g cells k ok cf) (hM:wT w M) (hblk:M blk) (size:Nat) [Inhabited (El cells ok w M)]:
 CmpLays P g #[] (fun x:El cells ok w M=>x.1.2) k (fun x y=>cf x.1.1 y.1.1) blk off size w:=by
 intro m os dk _ x y
 have hsz:w.heap.size<=(sortWorldK (fun x:El cells ok w M=>x.1.2) k w blk off m dk os).heap.size:=size_sortWorldK_c _ _ _ _ _ _ _ _
 have hne:=fun(i:Nat) (hi:i<w.heap.size) (hn:i≠blk)=>mI (k:=k) (off:=off) (enc:=fun x:El cells ok w M=>x.1.2) (n:=m) (os:=os) dk hi hn
 generalize sortWorldK (fun x:El cells ok w M=>x.1.2) k w blk off m dk os=W at *
 have hle:(base w M).le (base W M):=by
  refine⟨fun _ h=>h,hsz,fun b hb hlt=> ?_,fun b hb=>hb.elim⟩
  rw[l8] at hb ⊢
  exact⟨hne b hlt fun e=>hb (e▸hblk),hb⟩
 have hF:wT W M:=by
  refine⟨fun b hb=>Nat.lt_of_lt_of_le (hM.lt b hb) hsz,fun t ht=> ?_⟩
  obtain⟨t1,t2,t3⟩:=hM.TN t ht
  refine⟨t1,Nat.lt_of_lt_of_le t2 hsz,fun j hj=> ?_⟩
  rw[<-t3 j hj]
  exact World.cell?_of_block (a:=⟨t.1,j,none⟩) (hne _ t2 fun e=>t1 (by rw[show t.1=blk from e];exact hblk))
 obtain⟨⟨xs,xv⟩,x1,x2⟩:=x
 obtain⟨⟨ys,yv⟩,y1,y2⟩:=y
 have hc:=KW ((h.cmp xs ys x1 y1).2 M W [.agg xv.toArray, .agg yv.toArray] hF (by
  rw[cg]
  refine⟨_,_,rfl,by rw[VR];exact⟨_,rfl,by simpa using cg.cT hle x2⟩, ?_⟩
  rw[cg]
  refine⟨_,_,rfl,by rw[VR];exact⟨_,rfl,by simpa using cg.cT hle y2⟩, ?_⟩
  rw[cg]))
 refine hc.mono ?_
 rintro e w' ⟨⟨v,r,rfl,rfl,_,hv,hb⟩,hd⟩
 rw[VR] at hv
 exact⟨by rw[hv],yr hb (hd v rfl)⟩
theorem xY {α:Type} [Inhabited α] {enc:α->List Value} {d:Array α} (hk:∀x,(enc x).length=k) (hpos:0<k) (h:∀i c,i<d.size->c<k->w.cell? ⟨blk,off+i * k+c,none⟩=some (enc d[i]!)[c]!/\w.frozen? ⟨blk,off+i * k+c,none⟩=false):HoldsK enc k w blk off d:=by
 intro t ht
 rw[size_flatK] at ht
 have e1:t /k<d.size:=(Nat.div_lt_iff_lt_mul hpos).2 ht
 have e2:t%k<k:=Nat.mod_lt _ hpos
 have:=h (t /k) (t%k) e1 e2
 rw[Nat.add_assoc,show t /k * k+t%k=t by rw[Nat.mul_comm];exact Nat.div_add_mod t k] at this
 rw[get_flatK _ _ _ _ ht]
 exact this
set_option maxHeartbeats 2000000 in
theorem BC {P:Program} {ρ:Go.Shelf.Ren} (L:SlLaysF0.n6 P ρ) (aE:∀w,(isAgg (ρ.t 24)).run P w= .ok true w) (zE:∀w,(Go.sizeOf (ρ.t 24)).run P w= .ok k w) (hen:ir P (ρ.f 6)) {g:Nat} (eg:∀args w,(callFunc g args).run P w= .ok (.enter g args) w)
 (h:yi P g cells k ok cf) [Inhabited S] (b:Nat) (l:List S) (hok:∀s∈l,ok s) (e:TypeId) (d:AV) (H:Hp) (nx:Nat) (hb:bw H b=some (.row e k d (l.map fun s=> .agg (cells s)))) (hlt:b<nx) (hl:l.length<4611686018427387904) (h0:l≠[]):
 cO P (ρ.f 6) [.sl b l.length, .fn (.func g) [] []] H nx (fun r H' n=>r= .dO []/\n=nx/\H'=(b,some (.row e k d ((fe cf l).map fun s=> .agg (cells s))))::H):=by
 refine⟨hen,fun w0 c vs hS hH hU hv=> ?_⟩
 rw[cg] at hv
 obtain⟨v,vs',rfl,hv,hv2⟩:=hv
 rw[cg] at hv2
 obtain⟨v2,vs2,rfl,hv2,hv3⟩:=hv2
 rw[cg] at hv3
 subst hv3
 rw[VR] at hv2
 obtain⟨ps,qs,rfl,hp1,hp2⟩:=hv2
 rw[cg] at hp1 hp2
 obtain rfl:ps=#[]:=Array.toList_eq_nil_iff.1 hp1
 obtain rfl:qs=#[]:=Array.toList_eq_nil_iff.1 hp2
 rw[VR] at hv
 obtain⟨hUb,a,cap,rfl,hr⟩:=hv
 have hcb:c.H b=some (.row e k d (l.map fun s=> .agg (cells s))):=by rw[hH];exact hb
 obtain⟨_,hr2⟩:=hr _ _ _ _ hcb
 have hr3:=hr2 (by simp)
 have hpos:=h.pos
 obtain⟨_,_,hor⟩:=hS.jU b _ _ _ _ hcb (.inr hpos)
 have hln:0<l.length:=List.length_pos_iff.2 h0
 rcases hor with⟨_,hes⟩|⟨blk,o,z,hρ,hlow,⟨arr,harr,hsz⟩,hlz,hrow⟩
 ·exact absurd (List.map_eq_nil_iff.1 hes) h0
 rcases hr3 with⟨h1,_,_⟩|⟨blk',o',z',h1,rfl,hc1,hc2,hc3,_⟩
 ·rw[hρ] at h1;cases h1
 rw[hρ] at h1
 cases h1
 have hblk:blk<c.w.heap.size:=(Array.getElem?_eq_some_iff.1 harr).1
 rw[List.length_map] at hlz
 have hMb:c.M blk:= .inr ⟨b,_,o,z,hcb,hρ⟩
 -- the elements as they stand
 have hel:∀i,i<l.length->∃x:El cells ok c.w c.M,x.1.1=l.getD i default/\∀j,j<k->c.w.cell? ⟨blk,o+i * k+j,none⟩=x.1.2[j]?:=fun i hi=>by
  obtain⟨v,⟨hv1,hv2,_⟩,hv3⟩:=de hrow i (by simpa using hi)
  rw[dJ (f:=fun s=>AV.agg (cells s)) (h:=hi)] at hv3
  rw[VR] at hv3
  obtain⟨us,rfl,hus⟩:=hv3
  refine⟨⟨(l.getD i default,us.toList),hok _ (cS default hi),cg.mK (fun _ hb=>hb) (h.fit _) hus⟩,rfl,fun j hj=> ?_⟩
  rw[hv2 j hj]
  simp[Value.cells]
 haveI:Inhabited (El cells ok c.w c.M):=⟨(hel 0 hln).choose⟩
 obtain⟨dl,hdl,hdr⟩:=la (List.range l.length) (R:=fun i (x:El cells ok c.w c.M)=>x.1.1=l.getD i default/\∀j,j<k->c.w.cell? ⟨blk,o+i * k+j,none⟩=x.1.2[j]?) (fun i hi=>hel i (by simpa using hi))
 simp only[List.length_range] at hdl
 have hdg:∀i (hi:i<dl.length),dl[i].1.1=l.getD i default/\∀j,j<k->c.w.cell? ⟨blk,o+i * k+j,none⟩=dl[i].1.2[j]?:=fun i hi=>hdr i i _ (by rw[List.getElem?_range (by omega)]) (List.getElem?_eq_getElem hi)
 have hxl:∀x:El cells ok c.w c.M,x.1.2.length=k:=fun x=>by rw[x.2.2.length,h.len]
 have hHolds:HoldsK (fun x:El cells ok c.w c.M=>x.1.2) k c.w blk o dl.toArray:=by
  refine xY hxl hpos fun i j hi hj=> ?_
  have hi':i<dl.length:=by simpa using hi
  have:=(hdg i hi').2 j hj
  refine⟨?_, ?_⟩
  ·rw[this]
   have hj':j<dl[i].1.2.length:=by rw[hxl];exact hj
   simp[hi',hj']
  ·simp only[World.frozen?,harr]
   simp
 have hones:∀x:El cells ok c.w c.M,∀v∈x.1.2,v.oneCell'=true:=fun x=>x.2.2.JF (h.one _)
 have hcon:=AnyQ.slices_SortFunc L k aE zE (fun x:El cells ok c.w c.M=>x.1.2) hxl hones (fun x y=>cf x.1.1 y.1.1) (PQ h.ord fun x:El cells ok c.w c.M=>x.1.1) g #[] blk o cap dl.toArray c.w eg (zD h hS.fit hMb _) hHolds hblk (by simp;omega)
 rw[show dl.toArray.size=l.length by simp[hdl]] at hcon
 refine hcon.mono ?_
 rintro en w' ⟨rfl,d',n,os,⟨hpz,_,hpp⟩,hss,hw'⟩
 have hdz:d'.size=l.length:=by rw[hpz];simp[hdl]
 -- what stands in the row now
 have hl1:dl.map (fun x=>x.1.1)=l:=by
  apply List.ext_getElem (by simp[hdl])
  intro i q1 q2
  have:=(hdg i (by simpa using q1)).1
  rw[List.getElem_map,this]
  simp[List.getD,q2]
 have hperm:(d'.toList.map fun x=>x.1.1).Perm l:=by
  have h2:d'.toList.Perm dl:=by
   have e1:d'.extract 0 l.length=d':=by rw[<-hdz];exact Array.extract_size
   have e2:dl.toArray.extract 0 l.length=dl.toArray:=by rw[<-hdl,<-List.size_toArray];exact Array.extract_size
   rw[e1,e2] at hpp
   simpa using hpp
  have h3:=h2.map (fun x:El cells ok c.w c.M=>x.1.1)
  rwa[hl1] at h3
 have hsort:(d'.toList.map fun x=>x.1.1).Pairwise fun x y=>u7 cf x y=true:=by
  rw[List.pairwise_iff_getElem]
  intro i j hi hj hij
  have hj':j<d'.size:=by simpa using hj
  have:=hss i j (Nat.zero_le _) hij (by omega)
  rw[getElem!_pos d' j hj',getElem!_pos d' i (by omega)] at this
  simp only[ltOf,decide_eq_false_iff_not] at this
  have hneg:=h.ord.neg d'[i].1.1 d'[j].1.1
  simp only[List.getElem_map,Array.getElem_toList,u7,decide_eq_true_eq]
  omega
 have hres:=h.ord.MQ hperm hsort
 have hlen:(fe cf l).length=l.length:=my cf l
 have hHn:HoldsK (fun x:El cells ok c.w c.M=>x.1.2) k w' blk o d':=by
  rw[hw']
  exact holdsK_sortWorldK_c _ _ _ _ _ dl.toArray d' n os hHolds hblk (by rw[hpz])
 have hput:=hS.ow (b:=b) (e:=e) (sz:=k) d (es:=(fe cf l).map fun s=> .agg (cells s)) (w':=w') (blk:=blk) (o:=o) (z:=z) (arr:=putCells id o (flatK (fun x:El cells ok c.w c.M=>x.1.2) k d') arr) hpos
  (.inr ⟨_,_,_,hcb, .inl ⟨by simp[hlen],hρ⟩⟩) (.inr ⟨_,_,_,hcb,hρ⟩) (by rw[hw'];rfl) (by rw[hw'];rfl) (by rw[hw'];rfl) (by rw[hw'];exact size_sortWorldK_c _ _ _ _ _ _ _ _) (fun q hq hne=>by rw[hw'];exact mI d' hq hne) (by rw[hw'];exact sk d' harr) (by simp[putCells];exact hsz) (by simp[hlen];exact hlz) (fun hle i hi=>by
   have hi':i<d'.size:=by simpa[hlen,hdz] using hi
   have hx:=d'[i].2.2
   refine⟨.agg d'[i].1.2.toArray,⟨by simp[Value.cells,hxl],fun j hj=> ?_,fun j u hu=> ?_⟩, ?_⟩
   ·have:=(hHn.cell (i:=i) (c:=j) hi' hj).1
    rw[getElem!_pos d' i hi'] at this
    rw[this]
    have hj':j<d'[i].1.2.length:=by rw[hxl];exact hj
    simp[Value.cells,hj']
   ·simp only[Value.cells,List.getElem?_toArray] at hu
    exact hones d'[i] u (List.mem_of_getElem? hu)
   ·have e4:((fe cf l).map fun s=>AV.agg (cells s)).getD i .any= .agg (cells d'[i].1.1):=by
     rw[<-hres]
     simp[List.getD,hi']
    rw[e4,VR]
    exact⟨_,rfl,by simpa using cg.cT (vP.trans hle) hx⟩)
 obtain⟨p1,p2⟩:=hput
 have hHeq:bw ((b,some (.row e k d ((fe cf l).map fun s=> .agg (cells s))))::H)=eo c.H b (some (.row e k d ((fe cf l).map fun s=> .agg (cells s)))):=by
  have:=dV H b (.row e k d ((fe cf l).map fun s=> .agg (cells s)))
  rw[hH];exact this
 refine⟨.tuple #[], .dO [],_,nx,eo c.ρ b (some (blk,o,z)),fun x=>c.U x\/x=b,rfl,⟨rfl,rfl,rfl⟩,fun x hx=>hx.elim (hU x) (fun e=>by omega), ?_, ?_, ?_⟩
 ·rw[hHeq];exact p1
 ·rw[hHeq];exact p2
 ·rw[VR];exact⟨#[],rfl,by rw[cg]⟩
end
end
theorem BB {P:Program} {ρ:Go.Shelf.Ren} (L:SlLaysF0.n6 P ρ) (hen:ir P (ρ.f 6)) (b:Nat) (fv:AV) (H:Hp) (nx:Nat):
 cO P (ρ.f 6) [.sl b 0,fv] H nx (fun r H' n=>r= .dO []/\n=nx/\H'=H):=by
 refine⟨hen,fun w0 c vs hS hH hU hv=> ?_⟩
 rw[cg] at hv
 obtain⟨v,vs',rfl,hv,hv2⟩:=hv
 rw[cg] at hv2
 obtain⟨v2,vs2,rfl,hv2,hv3⟩:=hv2
 rw[cg] at hv3
 subst hv3
 rw[VR] at hv
 obtain⟨hUb,a,cap,rfl,hr⟩:=hv
 refine(AnyF.slices_SortFunc_none L a cap v2 c.w).mono ?_
 rintro e w' ⟨rfl,rfl⟩
 obtain⟨ρ',Hc,U,w,M0⟩:=c
 simp only at hH
 subst hH
 exact⟨.tuple #[], .dO [],H,nx,ρ',U,rfl,⟨rfl,rfl,rfl⟩,hU,hS,Cx.le.refl _,by rw[VR];exact⟨#[],rfl,by rw[cg]⟩⟩
def GB (e:cn):Prop:=e.cQ.length<9223372036854775807/\e.mem.length<9223372036854775807
theorem BA:yi Tryz.prog 96 cn.cells 3 GB ft where
 len:=fun _=>rfl
 pos:=by omega
 fit:=fun _=>by simp
 one:=fun _=>rfl
 cmp:=fun a b ha hb=>tx a b ha.1 ha.2
 ord:=jZ
theorem sj:ir Tryz.prog 95:=⟨Tryz.f95,Tryz.func95,by kernel_rfl,by kernel_rfl⟩
theorem uk (b:Nat) (l:List cn) (hok:∀e∈l,GB e) (hl:l.length<=65536) (H:Hp) (nx:Nat) (hb:∃d,bw H b=some (.row 105 3 d (l.map cn.av))) (hlt:b<nx):
 cO Tryz.prog 95 [.sl b l.length, .fn (.func 96) [] []] H nx (fun r H' n=>(∃d,bw H' b=some (.row 105 3 d ((fe ft l).map cn.av)))/\nx<=n/\∀y,y<nx->y≠b->bw H' y=bw H y):=by
 obtain⟨d,hb⟩:=hb
 by_cases h0:l=[]
 ·subst h0
  refine(BB Tryz.NY sj b _ H nx).mono ?_
  rintro r H' n ⟨rfl,rfl,rfl⟩
  exact⟨⟨d,by rw[hb];simp[fe]⟩,Nat.le_refl _,fun _ _ _=>rfl⟩
 ·refine(BC Tryz.NY (k:=3) (fun w=>cp.mu (by kernel_rfl) w) (fun w=>cp.run_sizeOf (by kernel_rfl) w) sj (enters_of Tryz.func96 (by kernel_rfl) rfl) BA b l hok 105 d H nx hb hlt (by omega) h0).mono ?_
  rintro r H' n ⟨rfl,rfl,rfl⟩
  exact⟨⟨d,ct _ _ _⟩,Nat.le_refl _,fun y _ hne=>cZ hne⟩
end Go.Proofs.YtjopoheligmmoaaGreatDoor
namespace Go.Proofs.YtjopoheligmmoaaGreatDoor
open Go Go.cp Go.Proofs
set_option linter.unusedSimpArgs false
set_option linter.unusedVariables false
set_option maxRecDepth 8000
def kn (l:List cn):Nat->List cn
 |0=>[]
 |1=>[l.getD 0 default]
 |k+2=>if l.getD (k+1) default=l.getD k default then kn l (k+1) else kn l (k+1)++[l.getD (k+1) default]
theorem B2 (l:List cn):∀k,(kn l k).length<=k
 |0=>Nat.le_refl _
 |1=>Nat.le_refl _
 |k+2=>by
  rw[kn]
  have:=B2 l (k+1)
  split
  ·omega
  ·rw[List.length_append,List.length_cons,List.length_nil];omega
theorem oJ (l:List cn) {k:Nat} (hk:1<=k):kn l (k+1)=if l.getD k default=l.getD (k - 1) default then kn l k else kn l k++[l.getD k default]:=by
 obtain⟨j,rfl⟩:∃j,k=j+1:=⟨k - 1,by omega⟩
 rw[kn]
 rfl
theorem gY {l:List cn} {i:Nat} (h:i<l.length) (d:AV):(l.map cn.av).getD i d=(l.getD i default).av:=dJ cn.av l i d h
abbrev iN (l:List cn):AV:= .im 3 .any (l.map cn.av)
theorem gZ (l:List cn):c8 0 (l.map cn.av):=(cD _ _).2 fun _ _=>by simp[cK]
theorem jw {α:Type} {l:List α} {i:Nat} {x:α} (h:i<l.length):(l.set i x).take (i+1)=l.take i++[x]:=by
 rw[List.take_succ_eq_append_getElem (by simpa using h),List.take_set_of_le (Nat.le_refl _)]
 simp
theorem HV {H:Hp} {k b len lo n:Nat} {e:TypeId} {sz:Nat} {d:AV} {es:List AV} (h:bw H b=some (.row e sz d es)) (hl:es.length=len):cp.dX H (k+1) (.sv b len lo n)= .im sz .any (((es.drop lo).take n).map (cp.dX H k)):=by
 simp only[cp.dX,h];rw[if_pos hl]
set_option maxHeartbeats 4000000 in
theorem vW (o:Nat) (l:List cn) (hl:l.length<=65536) (hok:∀e∈l,e.cQ.length<9223372036854775807/\e.mem.length<9223372036854775807) (H:Hp) (nx:Nat) (ho:o<nx) (hr:∃d,bw H o=some (.row 105 3 d (l.map cn.av))):
 cO Tryz.prog 97 [.sl o l.length, .fn (.func 98) [] []] H nx (fun r H' n=>(r= .sl o l.length\/∃m,r= .sv o l.length 0 m)/\cp.dX H' 5 r=iN (kn l l.length)):=by
 obtain⟨d0,r0'⟩:=hr
 have a0:(l.map cn.av).length=l.length:=by simp
 have same:∀i j,i<l.length->j<l.length->Pure Tryz.prog 98 [(l.getD i default).av,(l.getD j default).av] (fun r=>r=bl (decide (l.getD i default=l.getD j default))):=fun i j hi hj=>by
  obtain⟨p1,p2⟩:=hok _ (cS default hi)
  have:=np (l.getD i default) (l.getD j default) p1 p2
  simpa only[pX] using this
 refine aJ S7 rfl ?_
 by_cases h2:l.length<2
 ·refine cV ?_
  refine⟨.inl rfl, ?_⟩
  show cp.dX H 5 (.sl o l.length)=_
  rw[dZ (k:=4) r0' (by simp),cx _ (gZ l)]
  have:kn l l.length=l:=by
   match l,h2 with
   |[],_=>rfl
   |[x],_=>rfl
  rw[this]
 ·refine cV ?_
  refine aL (fun i:Nat=>[(0, .sl o l.length),(1, .fn (.func 98) [] []),(5,i64 i)]) (fun i H2 n=>1<=i/\i<=l.length/\nx<=n/\bw H2 o=some (.row 105 3 d0 (l.map cn.av))/\kn l i=l.take i) (fun i=>l.length - i) 1 cI ⟨Nat.le_refl _,by omega,ca,cA,by rw[kn];cases l with|nil=>simp at h2|cons x t=>rfl⟩ ?_
  clear r0'
  rintro i H2 n ⟨hi1,hi,hn,r0',hdd⟩
  by_cases hil:i<l.length
  ·have e0:∀d,(l.map cn.av).getD ((i:Int)).toNat d=(l.getD i default).av:=fun d=>by rw[Int.toNat_natCast];exact gY hil d
   have e1:∀d,(l.map cn.av).getD ((i:Int) - 1).toNat d=(l.getD (i - 1) default).av:=fun d=>by rw[show((i:Int) - 1).toNat=i - 1 by omega];exact gY (by omega) d
   have c0:=same i (i - 1) hil (by omega)
   have hsu:=oJ l hi1
   by_cases he:l.getD i default=l.getD (i - 1) default
   ·rw[decide_eq_true he] at c0
    rw[if_pos he] at hsu
    refine cV ?_
    refine aL (fun σ:Nat×Nat×List cn=>[(0, .sl o l.length),(1, .fn (.func 98) [] []),(5,i64 σ.1),(6, .sv o l.length i (l.length - i)),(7,i64 σ.2.1)])
     (fun σ H2 n=>1<=σ.2.1/\i+σ.2.1<=l.length/\i<=σ.1/\σ.1+1<=i+σ.2.1/\σ.2.2.length=l.length/\(∀q,σ.1<=q->σ.2.2.getD q default=l.getD q default)/\σ.2.2.take σ.1=kn l (i+σ.2.1)/\nx<=n/\∃d,bw H2 o=some (.row 105 3 d (σ.2.2.map cn.av))) (fun σ=>l.length - σ.2.1) (i,1,l) cI
     ⟨Nat.le_refl _,by show i+1<=l.length;omega,Nat.le_refl _,Nat.le_refl _,rfl,fun _ _=>rfl,by dsimp only;rw[hsu,hdd],ca,⟨_,cA⟩⟩ ?_
    clear c0 e0 e1 hsu hdd r0' hn
    rintro⟨k,j,es⟩ H3 n ⟨hj1,hj,hik,hkj,hel,hsame,hdd,hn,⟨d1,r1'⟩⟩
    dsimp only at hj1 hj hik hkj hel hsame hdd r1' ⊢
    have a1:(es.map cn.av).length=l.length:=by simp[hel]
    by_cases hjl:j<l.length - i
    ·have e0:∀d,(es.map cn.av).getD (i+((j:Int)).toNat) d=(l.getD (i+j) default).av:=fun d=>by rw[Int.toNat_natCast,gY (by omega) d,hsame _ (by omega)]
     have e1:∀d,(es.map cn.av).getD (i+((j:Int) - 1).toNat) d=(l.getD (i+j - 1) default).av:=fun d=>by rw[show i+((j:Int) - 1).toNat=i+j - 1 by omega,gY (by omega) d,hsame _ (by omega)]
     have e2:∀d,(es.map cn.av).getD ((k:Int)).toNat d=(es.getD k default).av:=fun d=>by rw[Int.toNat_natCast];exact gY (by omega) d
     have c0:=same (i+j) (i+j - 1) (by omega) (by omega)
     have hsu:=oJ l (k:=i+j) (by omega)
     by_cases he2:l.getD (i+j) default=l.getD (i+j - 1) default
     ·rw[decide_eq_true he2] at c0
      rw[if_pos he2] at hsu
      refine cV ?_
      exact⟨(k,j+1,es),by dsimp only;omega,cI,by dsimp only;omega,by dsimp only;omega,hik,by dsimp only;omega,hel,hsame,by dsimp only;rw[<-Nat.add_assoc,hsu];exact hdd,ca,⟨d1,cA⟩⟩
     ·rw[decide_eq_false he2] at c0
      rw[if_neg he2] at hsu
      refine cV ?_
      refine⟨(k+1,j+1,es.set k (l.getD (i+j) default)),by dsimp only;omega,cI,by dsimp only;omega,by dsimp only;omega,by dsimp only;omega,by dsimp only;omega,by simp[hel],fun q hq=> ?_, ?_,ca,⟨d1,by dsimp only;rw[List.map_set];exact cA⟩⟩
      ·have hq:k+1<=q:=hq
       dsimp only
       rw[getD_set_ne (by omega)];exact hsame q (by omega)
      ·dsimp only
       rw[<-Nat.add_assoc,hsu,jw (by omega),hdd]
    ·obtain rfl:j=l.length - i:=by omega
     rw[show i+(l.length - i)=l.length by omega] at hdd
     refine cV ?_
     refine⟨.inr ⟨_,rfl⟩, ?_⟩
     rw[Int.toNat_natCast]
     have hkl:k<=l.length:=by omega
     generalize hZ:List.replicate (l.length - k) (gN true [Value.slice none 0 0,Value.slice none 0 0,Value.bool false])=Z
     have hZl:Z.length=l.length - k:=by rw[<-hZ];simp
     show cp.dX ((o,some (.row 105 3 d1 ((es.map cn.av).take k++Z++(es.map cn.av).drop (k+(l.length - k)))))::H3) 5 (.sv o l.length 0 (k - 0))=_
     rw[HV (k:=4) (ct _ _ _) (by simp[hZl,hel];omega),List.drop_zero,Nat.sub_zero,List.append_assoc,List.take_append_of_le_length (by simp;omega),List.take_take,Nat.min_self,<-List.map_take,hdd,cx _ (gZ _)]
   ·rw[decide_eq_false he] at c0
    rw[if_neg he] at hsu
    refine cV ?_
    refine⟨i+1,by omega,cI,by omega,by omega,ca,cA, ?_⟩
    rw[hsu,hdd,List.take_succ_eq_append_getElem hil,show l.getD i default=l[i] by simp[List.getD,hil]]
  ·obtain rfl:i=l.length:=by omega
   rw[List.take_length] at hdd
   refine cV ?_
   refine⟨.inl rfl, ?_⟩
   show cp.dX H2 5 (.sl o l.length)=_
   rw[dZ (k:=4) r0' (by simp),cx _ (gZ l),hdd]
def gu (u:bx) (l:List cX):List cn:=kn (fe ft (dU u l l.length)) (dU u l l.length).length
noncomputable def uB (u:bx) (most:Int):AV:=if(eH u most).1=0 then .dO [iN (gu u (eH u most).2),i64 0] else .dO [.sc (.slice none 0 0),i64 (eH u most).1]
theorem uD {u:bx} {l:List cX} (hr:cW u) (hf:iK u l) (hl:l.length<=65536) (k:Nat):∀e∈dU u l k,GB e:=by
 intro e he
 unfold dU at he
 obtain⟨f,hf1,hf2⟩:=List.mem_filterMap.1 he
 split at hf2
 ·cases hf2
  obtain⟨i,hi,rfl⟩:=List.mem_iff_getElem.1 (List.mem_of_mem_take hf1)
  obtain⟨h1,h2⟩:=hf.ok i hi
  rw[show l.getD i default=l[i] by simp[List.getD,hi]] at h1 h2
  have:=h1.ml
  have:=hr.qa
  refine⟨?_, ?_⟩
  ·show l[i].m.cQ.length<_;omega
  ·show l[i].m.mem.length<_;omega
 ·cases hf2
set_option maxHeartbeats 2000000 in
theorem DM (u:bx) (hu:u.Wf) (most:Int):Pure Tryz.prog 54 [u.av,i64 most] (fun r=>r=uB u most):=by
 refine cm ?_ (by unfold uB;split<;>simp[cK,c8,cD])
 refine aJ S3 rfl ?_
 by_cases hr:cW u
 ·by_cases hm:1<=most/\most<=65536
  ·unfold uB
   rw[oD hr hm]
   refine cV ?_
   let l:=(gU u most.toNat).getD []
   let I:Nat->Hp->Prop:=fun k H=>(∃d,bw H 0=some (.row 25 3 d [u.av]))/\(∃d,bw H 3=some (.row 41 1 d [.sl 7 (dU u l k).length]))/\(∃d,bw H 7=some (.row 105 3 d ((dU u l k).map cn.av)))
   refine aI (R:=fun r H n=>8<=n/\wR u most I r H) (G1 (b:=3) 105 3 (by omega) (by omega) (d:=gN false [.slice none 0 0]) (te:=41) ?_ fun H2 q1 q2 q3=> ?_) ?_
   ·exact cA
   ·refine(rC u hu hr most hm _ [.pt 0 1 0 0, .pt 3 1 0 0] H2 8 I ?_ ?_ ?_).mono fun r H n h=>⟨h.1,h.short⟩
    ·exact⟨⟨_,(q3 0 (by omega) (by omega)).trans cA⟩,⟨_,q1⟩,⟨_,q2⟩⟩
    ·rintro k H H' ⟨⟨d0,p0⟩,⟨d1,p1⟩,⟨d2,p2⟩⟩ hk
     exact⟨⟨d0,(hk 0 (by omega)).trans p0⟩,⟨d1,(hk 3 (by omega)).trans p1⟩,⟨d2,(hk 7 (by omega)).trans p2⟩⟩
    ·intro l' hl' k H n hk hn ⟨p0,p1,p2⟩
     have hll:l=l':=by show(gU u most.toNat).getD []=l';rw[hl'];rfl
     rw[hll] at p1 p2
     obtain⟨hf,hlm,_⟩:=kd hu hr (by omega) hl'
     refine(B5 hr hf (by omega) hk (ub:=0) (ob:=3) (o:=7) (by omega) (by omega) (by omega) (by omega) p0 p1 p2).mono ?_
     rintro _ H' n' ⟨s1,s2,s3,s4⟩
     obtain⟨d0,p0⟩:=p0
     refine⟨⟨⟨d0,(s4 0 (by omega) (by omega) (by omega)).trans p0⟩, ?_, ?_⟩,s3,fun y y1 y2=>s4 y y2 (by omega) (by omega)⟩
     ·rw[hll];exact s1
     ·rw[hll];exact s2
   rintro r H' n' ⟨hn,hA⟩
   revert hA
   unfold wR
   cases hs:gU u most.toNat with
   |none=>
    rintro rfl
    refine cV ?_
    exact⟨rfl⟩
   |some l'=>
    rintro⟨rfl,⟨d0,p0⟩,⟨d1,p1⟩,p2⟩
    have hll:l=l':=by show(gU u most.toNat).getD []=l';rw[hs];rfl
    rw[hll] at p1 p2
    obtain⟨hf,hlm,_⟩:=kd hu hr (by omega) hs
    have hin:=uD hr hf (by omega) l'.length
    have hlen:=kr u l' l'.length
    refine cV ?_
    refine aI (uk 7 (dU u l' l'.length) hin (by omega) _ _ p2 ca) ?_
    rintro r H3 n3 ⟨⟨d5,r5⟩,hn3,hk3⟩
    have r6:=(hk3 3 ca (by omega)).trans p1
    have hsl:(fe ft (dU u l' l'.length)).length=(dU u l' l'.length).length:=my _ _
    refine cV ?_
    rw[<-hsl]
    refine aI (vW 7 (fe ft (dU u l' l'.length)) (by omega) (fun e he=>hin e ((lH _ _).mem_iff.1 he)) _ _ ca ⟨d5,r5⟩) ?_
    rintro r H4 n4 ⟨hform,hfz⟩
    rcases hform with rfl|⟨m,rfl⟩
    all_goals
     refine cV ?_
     refine⟨?_⟩
     dsimp only
     rw[if_pos rfl]
     show AV.dO [cp.dX H4 5 _,i64 0]=_
     rw[hfz,hsl]
     rfl
  ·unfold uB
   rw[kb hr hm]
   refine cV ?_
   refine aI (tc u hu hr most hm _ _ _ _) ?_
   rintro r H' n' ⟨rfl,hn,hk⟩
   refine cV ?_
   exact⟨rfl⟩
 ·unfold uB
  rw[oC hr]
  refine cV ?_
  refine aI (BV u hu hr most _ _ _ _) ?_
  rintro r H' n' ⟨rfl,hn,hk⟩
  refine cV ?_
  exact⟨rfl⟩
instance T1 (n:Int):Decidable (eP n):=inferInstanceAs (Decidable (_/\_))
end Go.Proofs.YtjopoheligmmoaaGreatDoor
namespace Go.Proofs.YtjopoheligmmoaaGreatDoor
open Go Go.cp Go.Proofs Go.RowKit Go.ChangeShapes Go.WideShapes Go.ChangeAt
set_option linter.unusedSimpArgs false
set_option linter.unusedVariables false
theorem own:ownKnob Tryz.prog.godebug=none:=by kernel_rfl
theorem laidOut:laidOutB Tryz.prog=true:=by kernel_rfl
theorem I4 {n:Int} (h:(Lit.int .i64 n).wf=true):eP n:=by
 simp only[Lit.wf,Bool.and_eq_true,decide_eq_true_eq] at h
 have e1:IntKind.i64.min=-9223372036854775808:=by decide
 have e2:IntKind.i64.max=9223372036854775807:=by decide
 unfold eP
 omega
theorem CJ {n:Int} (h:(Lit.int .u8 n).wf=true):0<=n/\n<256:=by
 simp only[Lit.wf,Bool.and_eq_true,decide_eq_true_eq] at h
 have e1:IntKind.u8.min=0:=by decide
 have e2:IntKind.u8.max=255:=by decide
 omega
theorem eJ {t:TypeId} (ht:Tryz.prog.underlying t=some (.int .i64)):eS Tryz.prog t (fun n:Int=>[i64 n]) eP:=(qB ht).map (fun n=>n) (fun _ _=>rfl) fun _ h=>I4 h
theorem ud:eS Tryz.prog 63 lX.cells lX.Wf:=by
 refine eS.map (α:=Bool×Int×Int×Unit) (fun p=>(⟨p.1,p.2.1,p.2.2.1⟩:lX))
  (gh (k:=3) Tryz.underlying63 (by kernel_rfl) (dA (k:=1) rfl (by kernel_rfl) (AB Tryz.underlying4) (dA (k:=1) rfl (by kernel_rfl) (eJ Tryz.underlying3) (dA (k:=1) rfl (by kernel_rfl) (eJ Tryz.underlying2) jS)))) ?_ ?_
 ·intro a _;rfl
 ·intro a h;exact⟨h.2.1,h.2.2.1⟩
theorem AE:eS Tryz.prog 65 Node.cells Node.Wf:=by
 refine eS.map (α:=Int×Int×Int×Int×lX×lX×Int×Int×Int×Unit) (fun p=>(⟨p.1,p.2.1,p.2.2.1,p.2.2.2.1,p.2.2.2.2.1,p.2.2.2.2.2.1,p.2.2.2.2.2.2.1,p.2.2.2.2.2.2.2.1,p.2.2.2.2.2.2.2.2.1⟩:Node))
  (gh (k:=13) Tryz.underlying65 (by kernel_rfl) (dA (k:=1) rfl (by kernel_rfl) (qB Tryz.underlying51) (dA (k:=1) rfl (by kernel_rfl) (qB Tryz.underlying61) (dA (k:=1) rfl (by kernel_rfl) (eJ Tryz.underlying3) (dA (k:=1) rfl (by kernel_rfl) (eJ Tryz.underlying3) (dA (k:=3) rfl (by kernel_rfl) ud (dA (k:=3) rfl (by kernel_rfl) ud (dA (k:=1) rfl (by kernel_rfl) (eJ Tryz.underlying3) (dA (k:=1) rfl (by kernel_rfl) (eJ Tryz.underlying3) (dA (k:=1) rfl (by kernel_rfl) (eJ Tryz.underlying3) jS)))))))))) ?_ ?_
 ·intro a _;rfl
 ·intro a h
  obtain⟨h1,h2,h3,h4,h5,h6,h7,h8,h9,_⟩:=h
  exact⟨CJ h1,CJ h2,h3,h4,h5,h6,h7,h8,h9⟩
theorem AD:eS Tryz.prog 85 Decl.cells Decl.Wf:=by
 refine eS.map (α:=ByteArray×Int×Int×Unit) (fun p=>(⟨p.1,p.2.1,p.2.2.1⟩:Decl))
  (gh (k:=3) Tryz.underlying85 (by kernel_rfl) (dA (k:=1) rfl (by kernel_rfl) (om Tryz.underlying9) (dA (k:=1) rfl (by kernel_rfl) (eJ Tryz.underlying2) (dA (k:=1) rfl (by kernel_rfl) (eJ Tryz.underlying3) jS)))) ?_ ?_
 ·intro a _;rfl
 ·intro a h;exact⟨h.1,h.2.1,h.2.2.1⟩
theorem yC:eS Tryz.prog 58 (fun l:List Node=>[iZ l]) (fun l=>(∀x∈l,x.Wf)/\l.length * 88<=140737488351232):=by
 have hb:Tryz.prog.bytesOf 65=96:=by kernel_rfl
 refine(jb (ag:=true) (sz:=13) .any Tryz.underlying58 (by kernel_rfl) (by omega) AE (fun _=>rfl) (fun _ _=>rfl) (fun h=>by cases h)).map (fun l=>l) (fun _ _=>rfl) ?_
 rintro l ⟨h1,h2⟩
 rw[hb] at h2
 have hr:reachBytes=140737488351232:=rfl
 exact⟨h1,by omega⟩
theorem yB:eS Tryz.prog 60 cF.cells cF.Wf:=by
 refine eS.map (α:=ByteArray×Int×Int×List Node×Unit) (fun p=>(⟨p.1,p.2.1,p.2.2.1,p.2.2.2.1⟩:cF))
  (gh (k:=4) Tryz.underlying60 (by kernel_rfl) (dA (k:=1) rfl (by kernel_rfl) (om Tryz.underlying9) (dA (k:=1) rfl (by kernel_rfl) (eJ Tryz.underlying3) (dA (k:=1) rfl (by kernel_rfl) (eJ Tryz.underlying3) (dA (k:=1) rfl (by kernel_rfl) yC jS))))) ?_ ?_
 ·intro a _;rfl
 ·intro a h
  obtain⟨h1,h2,h3,⟨h4,h5⟩,_⟩:=h
  exact⟨h1,h2,h3,h4,h5⟩
theorem qV:eS Tryz.prog 22 (fun l:List Decl=>[cw l]) (fun l=>(∀x∈l,x.Wf)/\l.length * 32<=140737488351232):=by
 have hb:Tryz.prog.bytesOf 85=32:=by kernel_rfl
 refine(jb (ag:=true) (sz:=3) .any Tryz.underlying22 (by kernel_rfl) (by omega) AD (fun _=>rfl) (fun _ _=>rfl) (fun h=>by cases h)).map (fun l=>l) (fun _ _=>rfl) ?_
 rintro l ⟨h1,h2⟩
 rw[hb] at h2
 exact⟨h1,h2⟩
theorem vz:eS Tryz.prog 23 (fun l:List cF=>[df l]) (fun l=>(∀x∈l,x.Wf)/\l.length * 56<=140737488351232):=by
 have hb:Tryz.prog.bytesOf 60=56:=by kernel_rfl
 refine(jb (ag:=true) (sz:=4) .any Tryz.underlying23 (by kernel_rfl) (by omega) yB (fun _=>rfl) (fun _ _=>rfl) (fun h=>by cases h)).map (fun l=>l) (fun _ _=>rfl) ?_
 rintro l ⟨h1,h2⟩
 rw[hb] at h2
 exact⟨h1,h2⟩
theorem AF:eS Tryz.prog 25 bx.cells bx.Wf:=by
 refine eS.map (α:=List Decl×List Decl×List cF×Unit) (fun p=>(⟨p.1,p.2.1,p.2.2.1⟩:bx))
  (gh (k:=3) Tryz.underlying25 (by kernel_rfl) (dA (k:=1) rfl (by kernel_rfl) qV (dA (k:=1) rfl (by kernel_rfl) qV (dA (k:=1) rfl (by kernel_rfl) vz jS)))) ?_ ?_
 ·intro a _;rfl
 ·intro a h
  obtain⟨⟨h1,h2⟩,⟨h3,h4⟩,⟨h5,h6⟩,_⟩:=h
  exact⟨h1,h2,h3,h4,h5,h6⟩
theorem sZ {t e:TypeId} (ht:Tryz.prog.underlying t=some (.slice e)) (he:Tryz.prog.underlying e=some (.int .i64)) (hsz:Tryz.prog.cellsOf e=1) (hb:Tryz.prog.bytesOf e=8):eS Tryz.prog t (fun l:List Int=>[cL l]) (fun l=>(∀x∈l,eP x)/\l.length * 8<=140737488351232):=by
 refine(jb (ag:=false) (sz:=1) .any ht hsz (by omega) (eJ he) (fun _=>rfl) (fun _ _=>rfl) (fun _=>rfl)).map (fun l=>l) (fun _ _=>rfl) ?_
 rintro l ⟨h1,h2⟩
 rw[hb] at h2
 exact⟨h1,h2⟩
structure cn.Wf (e:cn):Prop where
 cQ:(∀p∈e.cQ,eP p.dc/\eP p.word)/\e.cQ.length * 16<=140737488351232
 mem:(∀x∈e.mem,eP x)/\e.mem.length * 8<=140737488351232
abbrev xf:List (String×DataW Unit):=[("math/bits.deBruijn32tab",Rows.laid_math_bits_deBruijn32tab)]
def yW:List Nat:=[0,1,28,2,29,14,24,3,30,22,20,15,25,17,4,8,31,27,13,23,21,19,16,7,26,12,18,6,11,5,10,9]
theorem UH:Tryz.prog.globalNamed "math/bits.deBruijn32tab" =some 0:=by kernel_rfl
theorem VY:(Tryz.prog.globals[0]?).map (·.type)=some 229:=by kernel_rfl
theorem HC (os:Os) (args:Array Value):laidMetH Tryz.prog xf ((World.doorLaid Tryz.prog 400 os).forCall (fun _ _=>0) ⟨#[],args,[]⟩).memory:=
 laidMetH_of_parts3 (fuel:=8) (laidMet_of_run' 8 (by kernel_rfl) (by kernel_rfl)) (by kernel_rfl) (by kernel_rfl)
theorem L4 {W:World} (h:laidMetH Tryz.prog xf W):wT W emp:=by
 rw[MakeChecks.laidMetH_plain _ _ _ (by kernel_rfl)] at h
 obtain⟨ps,⟨g0,t0,cs0,f0,p0,q0,hg0,ht0,hv0,hd0,_⟩,_,_⟩:=h
 obtain rfl:=Option.some.inj (UH.symm.trans hg0)
 obtain rfl:=Option.some.inj (VY.symm.trans ht0)
 obtain⟨xs,m1,rfl,hx1,hlen,hn3,hel⟩:=DataW.trod_array Tryz.underlying229 hd0
 have c5:Tryz.prog.cellsOf 5=1:=by kernel_rfl
 simp only[Prod.mk.injEq] at hx1
 obtain⟨hx1,_⟩:=hx1
 have hx2:xs.map (·.1)=yW.map fun n:Nat=>DataW.lit (Lit.int .u8 (n:Int)):=by
  have h9:(DataW.agg (yW.map fun n:Nat=>DataW.lit (Lit.int .u8 (n:Int))):DataW Unit)= .agg (xs.map (·.1)):=hx1
  exact(DataW.agg.inj h9).symm
 have key:∀j,j<32->W.cell? ⟨0,j,none⟩=some (.int .u8 (([0,1,28,2,29,14,24,3,30,22,20,15,25,17,4,8,31,27,13,23,21,19,16,7,26,12,18,6,11,5,10,9]:List Nat).getD j 0)):=by
  intro j hj
  have hjx:j<xs.length:=by omega
  have h0:=hel j hj
  rw[List.getElem?_eq_getElem hjx,c5] at h0
  obtain⟨k,e1,e2,_⟩:=DataW.trod_int Tryz.underlying5 h0
  have hc:=World.var?_cell hg0 hv0 j
  have pc:cs0.toList[j]?=some (.int .u8 k):=by
   have:((cs0.toList.drop (j * 1)).take 1)[0]?=some (.int .u8 k):=by rw[e1];rfl
   simpa[List.getElem?_take,List.getElem?_drop] using this
  rw[hc,<-Array.getElem?_toList,pc]
  have hxj:(xs.map (·.1))[j]?=some (.lit (.int .u8 k)):=by
   rw[List.getElem?_map,List.getElem?_eq_getElem hjx,e2];rfl
  have htl:yW.length=32:=rfl
  rw[hx2,List.getElem?_map,List.getElem?_eq_getElem (by omega)] at hxj
  simp only[Option.map_some,Option.some.injEq,DataW.lit.injEq,Lit.int.injEq,true_and] at hxj
  rw[<-hxj,List.getD,List.getElem?_eq_getElem (by omega)];rfl
 refine⟨fun _ h=>h.elim,fun t ht=> ?_⟩
 have ht:t=(0,yW):=by simpa[PS,yW] using ht
 subst ht
 refine⟨fun h=>h.elim,World.block_lt_of_cell? W ⟨0,0,none⟩ (key 0 (by omega)),fun j hj=>key j hj⟩
end Go.Proofs.YtjopoheligmmoaaGreatDoor
namespace Go.Proofs.YtjopoheligmmoaaGreatDoor
open Go Go.cp Go.Proofs
set_option linter.unusedSimpArgs false
set_option linter.unusedVariables false
def I6 (g:cF) (i:Nat):List Int:=(eO g).1.getD i []
structure mN (u:bx) (m:MS):Prop where
 oH:∀t,t<u.bz.length->lZ (u.gr t) (-1) (m.at_.getD t 0)
 nd:∀t,t<u.bz.length->(I6 (u.gr t) (m.at_.getD t 0).toNat).Nodup
 own:∀t,t<u.bz.length->∀x:Int,0<=x->x<u.cG.length->(m.hold.getD x.toNat 0=t↔x∈I6 (u.gr t) (m.at_.getD t 0).toNat)
theorem sP {u:bx} {g:cF} (hk:eL u g):KI g (I6 g):=(kP hk.whole hk.held).2.2.1
theorem vr {u:bx} {g:cF} (hk:eL u g) (i:Nat):∀x∈I6 g i,0<=x/\x<u.cG.length:=CE hk i
theorem vv (u:bx) {t:Nat} (ht:t<u.bz.length):(dQ u).at_.getD t 0=0:=by simp[dQ,List.getD,ht]
theorem EX (u:bx) {x:Nat} (hx:x<u.cG.length):(dQ u).hold.getD x 0=-1:=by simp[dQ,List.getD,hx]
theorem mN.new {u:bx} (hr:cW u):mN u (dQ u) where
 oH:=fun t ht=>by rw[vv u ht];exact .zero
 nd:=fun t ht=>by
  rw[vv u ht,show(0:Int).toNat=0 from rfl,(sP (hr.gr ht)).zero];exact List.nodup_nil
 own:=fun t ht x h0 h1=>by
  rw[vv u ht,show(0:Int).toNat=0 from rfl,(sP (hr.gr ht)).zero,EX u (by omega)]
  constructor
  ·intro h;omega
  ·intro h;cases h
theorem vI {m:MS} {t:Nat} {n:Node} (hk:1<=n.kind/\n.kind<10) (h9:n.kind≠9):(m.act t n).2.1∈n.nt:=by
 unfold Node.nt
 rw[if_neg h9]
 by_cases h8:n.kind=8
 ·rw[if_pos h8]
  unfold MS.act
  rw[if_neg (by omega),if_neg (by omega),if_neg (by omega),if_neg (by omega),if_neg (by omega),if_neg (by omega),if_neg (by omega)]
  dsimp only
  split<;>simp
 ·rw[if_neg h8]
  have:(m.act t n).2.1=n.next:=by
   unfold MS.act
   by_cases h1:n.kind=1
   ·rw[if_pos h1]
   rw[if_neg h1]
   by_cases h2:n.kind=2
   ·rw[if_pos h2]
   rw[if_neg h2]
   by_cases h3:n.kind=3
   ·rw[if_pos h3]
   rw[if_neg h3]
   by_cases h4:n.kind=4
   ·rw[if_pos h4]
   rw[if_neg h4]
   by_cases h5:n.kind=5
   ·rw[if_pos h5]
   rw[if_neg h5]
   by_cases h6:n.kind=6
   ·rw[if_pos h6]
   rw[if_neg h6]
   rw[if_pos (by omega)]
  rw[this];simp
theorem w5 (m:MS) (t:Nat) (n:Node):(m.act t n).1.hold=if n.kind=5 then m.hold.set n.cR.toNat t else if n.kind=6 then m.hold.set n.cR.toNat (-1) else m.hold:=by
 unfold MS.act
 by_cases h1:n.kind=1
 ·rw[if_pos h1,if_neg (by omega),if_neg (by omega)];rfl
 rw[if_neg h1]
 by_cases h2:n.kind=2
 ·rw[if_pos h2,if_neg (by omega),if_neg (by omega)];rfl
 rw[if_neg h2]
 by_cases h3:n.kind=3
 ·rw[if_pos h3,if_neg (by omega),if_neg (by omega)]
 rw[if_neg h3]
 by_cases h4:n.kind=4
 ·rw[if_pos h4,if_neg (by omega),if_neg (by omega)];rfl
 rw[if_neg h4]
 by_cases h5:n.kind=5
 ·rw[if_pos h5,if_pos h5]
 rw[if_neg h5,if_neg h5]
 by_cases h6:n.kind=6
 ·rw[if_pos h6,if_pos h6]
 rw[if_neg h6,if_neg h6]
 split<;>rfl
theorem fS {u:bx} {g:cF} {n:Node} (h:nL u g n) (hk:n.kind=5\/n.kind=6):0<=n.cR/\n.cR<u.cG.length:=by
 have:=h.cR.1 (by unfold fx;exact decide_eq_true (by omega))
 rw[if_pos hk] at this
 exact this
theorem kQ {u:bx} {m:MS} (h:eN u m) {k:Int} (hk:0<=k/\k<u.cG.length) (w:Int) {x:Int} (hx:0<=x):(m.hold.set k.toNat w).getD x.toNat 0=if x=k then w else m.hold.getD x.toNat 0:=by
 by_cases e:x=k
 ·subst e
  rw[if_pos rfl,ed (by rw[h.hl];omega)]
 ·rw[if_neg e,getD_set_ne (by omega)]
theorem mN.step {u:bx} {m:MS} {t:Nat} (hr:cW u) (h:eN u m) (hi:mN u m) (ht:t<u.bz.length) (hb:m.kZ u t=0):mN u (m.step u t).1:=by
 obtain⟨h9,hbar⟩:=kE h ht hb
 have hno:=h.node hr ht
 have hc:=hi.oH t ht
 have hlk:=sP (hr.gr ht)
 have hj:=vI (m:=m) (t:=t) hno.kind h9
 have hhold:(m.step u t).1.hold=(m.act t (m.node u t)).1.hold:=rfl
 have hat:(m.step u t).1.at_=m.at_.set t (m.act t (m.node u t)).2.1:=rfl
 rw[w5] at hhold
 obtain⟨now,n1,n2⟩:=hlk.on _ hc
 have hnx:=n2 _ hj
 have hcj:lZ (u.gr t) (-1) (m.act t (m.node u t)).2.1:= .step hc (by have:=(h.gV t ht).1;omega) hj
 generalize (m.act t (m.node u t)).2.1=j at *
 have a1:(m.step u t).1.at_.getD t 0=j:=by rw[hat,ed (by rw[h.pV];exact ht)]
 have a2:∀s,s≠t->(m.step u t).1.at_.getD s 0=m.at_.getD s 0:=fun s hs=>by rw[hat,getD_set_ne (fun e=>hs e.symm)]
 change dh (m.node u t) _=_ at n1
 have ho:=hi.own t ht
 have hnd:=hi.nd t ht
 generalize hl:I6 (u.gr t) (m.at_.getD t 0).toNat=l at *
 have key:(I6 (u.gr t) j.toNat).Nodup/\(∀x:Int,0<=x->x<u.cG.length->((m.step u t).1.hold.getD x.toNat 0=t↔x∈I6 (u.gr t) j.toNat))/\∀s:Nat,s≠t->s<u.bz.length->∀x:Int,0<=x->x<u.cG.length->((m.step u t).1.hold.getD x.toNat 0=s↔m.hold.getD x.toNat 0=s):=by
  rw[hnx,hhold]
  generalize m.node u t=n at *
  unfold dh at n1
  by_cases h5:n.kind=5
  ·obtain⟨x0,x1⟩:=fS hno (.inl h5)
   have hfree:m.hold.getD n.cR.toNat 0<0:=by
    have:=fun e=>hbar ⟨h5,e⟩
    omega
   rw[if_pos h5] at n1
   cases n1
   rw[if_pos h5]
   have hnot:n.cR∉l:=fun e=>by
    have:=(ho _ x0 x1).2 e
    omega
   refine⟨List.nodup_append.2 ⟨hnd,by simp,fun a ha b hb=>by
    simp only[List.mem_cons,List.not_mem_nil,or_false] at hb
    subst hb
    exact fun e=>hnot (e▸ha)⟩,fun x hx0 hx1=> ?_,fun s hs hsl x hx0 hx1=> ?_⟩
   ·rw[kQ h ⟨x0,x1⟩ _ hx0]
    by_cases e:x=n.cR
    ·rw[if_pos e];simp[e]
    ·rw[if_neg e,ho x hx0 hx1];simp[e]
   ·rw[kQ h ⟨x0,x1⟩ _ hx0]
    by_cases e:x=n.cR
    ·rw[if_pos e,e]
     constructor
     ·intro h2;exfalso;omega
     ·intro h2;exfalso;omega
    ·rw[if_neg e]
  ·rw[if_neg h5] at n1 ⊢
   by_cases h6:n.kind=6
   ·obtain⟨x0,x1⟩:=fS hno (.inr h6)
    rw[if_pos h6] at n1 ⊢
    split at n1
    ·rename_i hc2
     obtain⟨ys,rfl⟩:=List.getLast?_eq_some_iff.1 hc2.2
     cases n1
     rw[List.dropLast_concat]
     have hnd2:=List.nodup_append.1 hnd
     have hnot:n.cR∉ys:=fun e=>hnd2.2.2 _ e _ (by simp) rfl
     have hmine:=(ho _ x0 x1).2 (by simp)
     refine⟨hnd2.1,fun x hx0 hx1=> ?_,fun s hs hsl x hx0 hx1=> ?_⟩
     ·rw[kQ h ⟨x0,x1⟩ _ hx0]
      by_cases e:x=n.cR
      ·rw[if_pos e]
       constructor
       ·intro h2;omega
       ·intro h2;rw[e] at h2;exact absurd h2 hnot
      ·rw[if_neg e,ho x hx0 hx1];simp[e]
     ·rw[kQ h ⟨x0,x1⟩ _ hx0]
      by_cases e:x=n.cR
      ·rw[if_pos e,e]
       constructor
       ·intro h2;omega
       ·intro h2;exfalso;omega
      ·rw[if_neg e]
    ·cases n1
   ·rw[if_neg h6,if_neg h9] at n1
    rw[if_neg h6]
    cases n1
    exact⟨hnd,ho,fun _ _ _ _ _ _=>Iff.rfl⟩
 obtain⟨k1,k2,k3⟩:=key
 refine⟨fun s hs=> ?_,fun s hs=> ?_,fun s hs x hx0 hx1=> ?_⟩
 ·by_cases e:s=t
  ·rw[e,a1];exact hcj
  ·rw[a2 s e];exact hi.oH s hs
 ·by_cases e:s=t
  ·rw[e,a1];exact k1
  ·rw[a2 s e];exact hi.nd s hs
 ·by_cases e:s=t
  ·rw[e,a1];exact k2 x hx0 hx1
  ·rw[a2 s e,k3 s e hs x hx0 hx1];exact hi.own s hs x hx0 hx1
def eK (u:bx) (m:MS):List Int->MS
 |[]=>m
 |t::r=>eK u (if m.kZ u t=0 then(m.step u t.toNat).1 else m) r
structure pL (u:bx) (m:MS):Prop where
 ok:eN u m
 inv:mN u m
theorem pL.step {u:bx} {m:MS} (hu:u.Wf) (hr:cW u) (h:pL u m) {t:Nat} (ht:t<u.bz.length) (hb:m.kZ u t=0):pL u (m.step u t).1:=
 ⟨wK hu hr h.ok ht (kE h.ok ht hb).1,h.inv.step hr h.ok ht hb⟩
theorem yp {u:bx} {m:MS} (h:eN u m) {t:Int} (hb:m.kZ u t=0):∃k:Nat,t=k/\k<u.bz.length:=by
 by_cases e:t<0\/(m.at_.length:Int)<=t
 ·rw[BY e] at hb;cases hb
 ·rw[h.pV] at e
  exact⟨t.toNat,by omega,by omega⟩
theorem pL.one {u:bx} {m:MS} (hu:u.Wf) (hr:cW u) (h:pL u m) (t:Int):pL u (if m.kZ u t=0 then(m.step u t.toNat).1 else m):=by
 split
 ·rename_i hb
  obtain⟨k,rfl,hk⟩:=yp h.ok hb
  exact h.step hu hr hk hb
 ·exact h
theorem pL.s9 {u:bx} (hu:u.Wf) (hr:cW u):∀{w:List Int} {m:MS},pL u m->pL u (eK u m w)
 |[],m,h=>h
 |t::r,m,h=>pL.s9 hu hr (w:=r) (h.one hu hr t)
theorem qC (u:bx):∀(a b:List Int) (m:MS),eK u m (a++b)=eK u (eK u m a) b
 |[],b,m=>rfl
 |t::r,b,m=>qC u r b _
theorem pL.new {u:bx} (hu:u.Wf) (hr:cW u):pL u (dQ u):=⟨CN u hr (fun d hd=>(hu.shared d hd).word) fun t ht=>(hr.gr ht).len.1, .new hr⟩
section
def eM (u:bx) (m:MS) (t:Int):Int:=if(m.node u t.toNat).kind=5 then m.hold.getD (m.node u t.toNat).cR.toNat 0 else -1
def js (h:Int->Int) (first:Int):Nat->List Int->Int->Option (List Int)
 |0,out,t=>if t=first then some out else none
 |f+1,out,t=>if t=first then some out else if t<0\/t∈out then none else js h first f (out++[t]) (h t)
def jt (h:Int->Int) (n:Nat) (first:Int):Option (List Int):=js h first n [first] (h first)
def iB (u:bx) (m:MS):Nat->Option (List Int)
 |0=>none
 |k+1=>match iB u m k with
  |some l=>some l
  |none=>jt (eM u m) u.bz.length (k:Int)
def jM (u:bx) (m:MS):Option (List Int):=iB u m u.bz.length
structure l3 (h:Int->Int) (l:List Int):Prop where
 pos:0<l.length
 nd:l.Nodup
 on:∀i,i<l.length->h (l.getD i 0)=l.getD ((i+1)%l.length) 0
 nn:∀x∈l,0<=x
theorem eY {α:Type} {l r:List α} {i:Nat} (d:α) (h:i<l.length):(l++r).getD i d=l.getD i d:=by simp[List.getD,List.getElem?_append,h]
theorem fE {α:Type} {l:List α} {x d:α}:(l++[x]).getD l.length d=x:=by simp[List.getD]
theorem sX {l:List Int} (h:l.Nodup) {i j:Nat} (hi:i<l.length) (hj:j<l.length) (e:l.getD i 0=l.getD j 0):i=j:=by
 have h1:l.getD i 0=l[i]:=by simp[List.getD,hi]
 have h2:l.getD j 0=l[j]:=by simp[List.getD,hj]
 rw[h1,h2] at e
 exact(List.getElem_inj h).1 e
theorem gG:∀(n:Nat) (l:List Int),l.Nodup->(∀x∈l,0<=x/\x<n)->l.length<=n
 |0,[],_,_=>Nat.le_refl _
 |0,x::r,_,h=>by have:=h x (by simp);omega
 |n+1,l,hn,h=>by
  by_cases hm:(n:Int)∈l
  ·have h1:=gG n (l.erase n) (hn.erase _) fun x hx=>by
    have h2:=(hn.mem_erase_iff).1 hx
    have h3:=h x h2.2
    exact⟨h3.1,by have:=h2.1;omega⟩
   rw[List.length_erase_of_mem hm] at h1
   omega
  ·have:=gG n l hn fun x hx=>by
    have h3:=h x hx
    exact⟨h3.1,by
     have:x≠n:=fun e=>hm (e▸hx)
     omega⟩
   omega
structure ji (h:Int->Int) (first:Int) (out:List Int):Prop where
 pos:0<out.length
 zero:out.getD 0 0=first
 nd:out.Nodup
 on:∀i,i+1<out.length->h (out.getD i 0)=out.getD (i+1) 0
 nn:∀x∈out,0<=x
theorem ji.one {h:Int->Int} {first:Int} (h0:0<=first):ji h first [first]:=
 ⟨by simp,rfl,by simp,fun i hi=>by simp at hi,fun x hx=>by simp only[List.mem_cons,List.not_mem_nil,or_false] at hx;omega⟩
theorem ji.more {h:Int->Int} {first t:Int} {out:List Int} (g:ji h first out) (ht:t=h (out.getD (out.length - 1) 0)) (h0:0<=t) (hn:t∉out):ji h first (out++[t]):=by
 have hp:=g.pos
 refine⟨by simp,by rw[eY 0 hp];exact g.zero,List.nodup_append.2 ⟨g.nd,by simp,fun a ha b hb=>by
  simp only[List.mem_cons,List.not_mem_nil,or_false] at hb
  subst hb
  exact fun e=>hn (e▸ha)⟩,fun i hi=> ?_,fun x hx=> ?_⟩
 ·rw[List.length_append,List.length_cons,List.length_nil] at hi
  rw[eY 0 (by omega)]
  by_cases e:i+1=out.length
  ·rw[e,fE,ht];congr 2;omega
  ·rw[eY 0 (by omega)];exact g.on i (by omega)
 ·rcases List.mem_append.1 hx with hx|hx
  ·exact g.nn x hx
  ·simp only[List.mem_cons,List.not_mem_nil,or_false] at hx;omega
theorem ji.ring {h:Int->Int} {first:Int} {out:List Int} (g:ji h first out) (ht:h (out.getD (out.length - 1) 0)=first):l3 h out:=by
 have hp:=g.pos
 refine⟨hp,g.nd,fun i hi=> ?_,g.nn⟩
 by_cases e:i+1=out.length
 ·rw[e,Nat.mod_self,g.zero,show i=out.length - 1 by omega];exact ht
 ·rw[Nat.mod_eq_of_lt (by omega)];exact g.on i (by omega)
theorem qY {h:Int->Int} {first:Int} {l:List Int}:∀(f:Nat) (out:List Int) (t:Int),ji h first out->t=h (out.getD (out.length - 1) 0)->js h first f out t=some l->l3 h l/\l.getD 0 0=first
 |0,out,t,g,ht,he=>by
  rw[js] at he
  split at he
  ·rename_i e
   cases he
   exact⟨g.ring (by rw[<-ht];exact e),g.zero⟩
  ·cases he
 |f+1,out,t,g,ht,he=>by
  rw[js] at he
  split at he
  ·rename_i e
   cases he
   exact⟨g.ring (by rw[<-ht];exact e),g.zero⟩
  ·split at he
   ·cases he
   ·rename_i e1 e2
    refine qY f (out++[t]) (h t) (g.more ht (by omega) fun e=>e2 (.inr e)) ?_ he
    rw[List.length_append,List.length_cons,List.length_nil,Nat.add_sub_cancel,fE]
theorem mF {h:Int->Int} {n:Nat} {first:Int} {l:List Int} (h0:0<=first) (he:jt h n first=some l):l3 h l/\l.getD 0 0=first:=qY _ _ _ (.one h0) rfl he
theorem FF {h:Int->Int} {n:Nat} {l:List Int} (hr:l3 h l) (hl:l.length<=n):jt h n (l.getD 0 0)=some l:=by
 have hp:=hr.pos
 have key:∀d k f,k+d=l.length->1<=k->d<=f->js h (l.getD 0 0) f (l.take k) (h (l.getD (k - 1) 0))=some l:=by
  intro d
  induction d with
  |zero=>
   intro k f hk h1 _
   have hk':k=l.length:=by omega
   subst hk'
   have ht:h (l.getD (l.length - 1) 0)=l.getD 0 0:=by
    rw[hr.on _ (by omega),show l.length - 1+1=l.length by omega,Nat.mod_self]
   rw[List.take_length,ht]
   cases f<;>rw[js,if_pos rfl]
  |succ d ih=>
   intro k f hk h1 hf
   obtain⟨f,rfl⟩:∃g,f=g+1:=⟨f - 1,by omega⟩
   have ht:h (l.getD (k - 1) 0)=l.getD k 0:=by
    rw[hr.on _ (by omega),show k - 1+1=k by omega,Nat.mod_eq_of_lt (by omega)]
   have hkl:k<l.length:=by omega
   rw[ht,js,if_neg (fun e=>by have:=sX hr.nd hkl hp e;omega),if_neg]
   ·have e:l.take k++[l.getD k 0]=l.take (k+1):=by rw[List.take_succ_eq_append_getElem hkl];simp[List.getD,hkl]
    rw[e]
    exact ih (k+1) f (by omega) (by omega) (by omega)
   ·rintro(e|e)
    ·have:=hr.nn _ (cS 0 hkl);omega
    ·obtain⟨i,hi,e2⟩:=List.getElem_of_mem e
     rw[List.length_take] at hi
     rw[List.getElem_take] at e2
     have:=sX hr.nd (i:=i) (j:=k) (by omega) hkl (by rw[<-e2];simp[List.getD,show i<l.length by omega])
     omega
 have:=key (l.length - 1) 1 n (by omega) (Nat.le_refl _) (by omega)
 have e1:l.take 1=[l.getD 0 0]:=by
  cases l with
  |nil=>simp at hp
  |cons a r=>simp[List.getD]
 rw[e1] at this
 exact this
theorem yI {h:Int->Int} {n:Nat} {S:Int->Prop} (hS:∀x,S x->0<=x/\x<n/\S (h x)) {x:Int} (hx:S x):∃l,l3 h l/\∀y∈l,S y:=by
 have key:∀(f:Nat) (out:List Int),out.length+f=n+1->ji h x out->(∀y∈out,S y)->∃l,l3 h l/\∀y∈l,S y:=by
  intro f
  induction f with
  |zero=>
   intro out hl g hs
   have:=gG n out g.nd fun y hy=>⟨(hS y (hs y hy)).1,(hS y (hs y hy)).2.1⟩
   omega
  |succ f ih=>
   intro out hl g hs
   have hp:=g.pos
   have hlast:=hs _ (cS 0 (show out.length - 1<out.length by omega))
   obtain⟨l0,l1,l2⟩:=hS _ hlast
   by_cases hm:h (out.getD (out.length - 1) 0)∈out
   ·obtain⟨k,hk,e⟩:=List.getElem_of_mem hm
    have gd:∀i,(out.drop k).getD i 0=out.getD (k+i) 0:=fun i=>by simp[List.getD]
    have hdl:(out.drop k).length=out.length - k:=List.length_drop
    refine⟨out.drop k,⟨by rw[hdl];omega,g.nd.sublist (List.drop_sublist _ _),fun i hi=> ?_,fun y hy=>g.nn y (List.mem_of_mem_drop hy)⟩,fun y hy=>hs y (List.mem_of_mem_drop hy)⟩
    rw[hdl] at hi ⊢
    rw[gd,gd]
    by_cases ei:i+1=out.length - k
    ·rw[ei,Nat.mod_self,show k+i=out.length - 1 by omega,<-e]
     simp[List.getD,hk]
    ·rw[Nat.mod_eq_of_lt (by omega)]
     exact g.on _ (by omega)
   ·have h2:=hS _ l2
    exact ih _ (by rw[List.length_append,List.length_cons,List.length_nil];omega) (g.more rfl h2.1 hm) fun y hy=>by
     rcases List.mem_append.1 hy with hy|hy
     ·exact hs y hy
     ·simp only[List.mem_cons,List.not_mem_nil,or_false] at hy;subst hy;exact l2
 exact key n [x] (by simp;omega) (.one (hS x hx).1) fun y hy=>by
  simp only[List.mem_cons,List.not_mem_nil,or_false] at hy;subst hy;exact hx
section
variable {u:bx} {m:MS}
theorem pe (hr:cW u) (h:eN u m) {t:Int} (ht:0<=t/\t<u.bz.length):-1<=eM u m t/\eM u m t<u.bz.length:=by
 have hno:=h.node hr (t:=t.toNat) (by omega)
 unfold eM
 split
 ·rename_i h5
  obtain⟨x0,x1⟩:=fS hno (.inl h5)
  exact h.hw _ (cS 0 (by rw[h.hl];omega))
 ·omega
theorem MF (hr:cW u) (h:eN u m) {l:List Int} (hl:l3 (eM u m) l) (h0:l.getD 0 0<u.bz.length):∀i,i<l.length->0<=l.getD i 0/\l.getD i 0<u.bz.length:=by
 intro i
 induction i with
 |zero=>intro hi;exact⟨hl.nn _ (cS 0 hi),h0⟩
 |succ i ih=>
  intro hi
  have:=pe hr h (ih (by omega))
  rw[hl.on i (by omega),Nat.mod_eq_of_lt hi] at this
  exact⟨hl.nn _ (cS 0 hi),this.2⟩
theorem zr {l:List Int} {x:Int} (h:x∈l):∃i,i<l.length/\l.getD i 0=x:=by
 obtain⟨i,hi,e⟩:=List.getElem_of_mem h
 exact⟨i,hi,by simp[List.getD,hi,e]⟩
theorem qT {k:Nat} {l:List Int} (h:iB u m k=some l):∃t:Nat,t<k/\jt (eM u m) u.bz.length (t:Int)=some l:=by
 induction k with
 |zero=>cases h
 |succ k ih=>
  rw[iB] at h
  split at h
  ·rename_i l' e
   cases h
   obtain⟨t,h1,h2⟩:=ih e
   exact⟨t,by omega,h2⟩
  ·exact⟨k,by omega,h⟩
theorem pg {t:Nat} {l:List Int} (hl:jt (eM u m) u.bz.length (t:Int)=some l):∀k,t<k->∃t' l',t'<=t/\iB u m k=some l'/\jt (eM u m) u.bz.length ((t':Nat):Int)=some l'
 |0,h=>by omega
 |k+1,h=>by
  rw[iB]
  cases e:iB u m k with
  |some l'=>
   obtain⟨t',h1,h2⟩:=qT e
   by_cases htk:t<k
   ·obtain⟨t2,l2,g1,g2,g3⟩:=pg hl k htk
    rw[e] at g2
    cases g2
    exact⟨t2,l',g1,rfl,g3⟩
   ·exact⟨t',l',by omega,rfl,h2⟩
  |none=>
   by_cases htk:t<k
   ·obtain⟨t2,l2,g1,g2,g3⟩:=pg hl k htk
    rw[e] at g2;cases g2
   ·have:t=k:=by omega
    subst this
    exact⟨t,l,Nat.le_refl _,hl,hl⟩
structure ep (u:bx) (m:MS) (l:List Int):Prop where
 ring:l3 (eM u m) l
 Q3:∀i,i<l.length->0<=l.getD i 0/\l.getD i 0<u.bz.length
theorem ep.len {l:List Int} (h:ep u m l):l.length<=u.bz.length:=gG _ _ h.ring.nd fun x hx=>by
 obtain⟨i,hi,rfl⟩:=zr hx
 exact h.Q3 i hi
theorem CH (hr:cW u) (h:eN u m) {l:List Int} (hk:jM u m=some l):ep u m l:=by
 obtain⟨t,ht,hl⟩:=qT hk
 obtain⟨h1,h2⟩:=mF (by omega) hl
 exact⟨h1,MF hr h h1 (by rw[h2];omega)⟩
theorem sL {l:List Int} (h:ep u m l):∃b,jM u m=some b/\(b.getD 0 0<l.getD 0 0\/b=l):=by
 obtain⟨h0,h1⟩:=h.Q3 0 h.ring.pos
 have hl:=FF h.ring h.len
 obtain⟨t,ht⟩:∃t:Nat,l.getD 0 0=t:=⟨(l.getD 0 0).toNat,by omega⟩
 rw[ht] at hl ⊢
 obtain⟨t',l',g1,g2,g3⟩:=pg hl u.bz.length (by omega)
 refine⟨l',g2, ?_⟩
 by_cases e:t'=t
 ·subst e
  rw[hl] at g3
  cases g3
  exact .inr rfl
 ·obtain⟨_,h2⟩:=mF (by omega) g3
  rw[h2]
  exact .inl (by omega)
theorem ep.waits {l:List Int} (h:ep u m l) {t:Int} (ht:t∈l):(m.node u t.toNat).kind=5/\m.hold.getD (m.node u t.toNat).cR.toNat 0∈l:=by
 obtain⟨i,hi,rfl⟩:=zr ht
 have h1:=h.ring.on i hi
 have h2:l.getD ((i+1)%l.length) 0∈l:=cS 0 (Nat.mod_lt _ h.ring.pos)
 have h3:=h.ring.nn _ h2
 unfold eM at h1
 split at h1
 ·rename_i h5
  exact⟨h5,h1▸h2⟩
 ·omega
theorem ep.lt {l:List Int} (h:ep u m l) {t:Int} (ht:t∈l):0<=t/\t<u.bz.length:=by
 obtain⟨i,hi,rfl⟩:=zr ht
 exact h.Q3 i hi
theorem yq (h:eN u m) {t:Int} (ht:0<=t/\t<u.bz.length):m.kZ u t=if(m.node u t.toNat).kind=9 then 70 else if(m.node u t.toNat).kind=5/\0<=m.hold.getD (m.node u t.toNat).cR.toNat 0 then 71 else 0:=by
 unfold MS.kZ
 rw[if_neg (by have:=h.pV;omega)]
theorem ep.GY (h0:eN u m) {l:List Int} (h:ep u m l) {t:Int} (ht:t∈l):m.kZ u t=71:=by
 obtain⟨h5,hh⟩:=h.waits ht
 have:=h.ring.nn _ hh
 rw[yq h0 (h.lt ht),if_neg (by omega),if_pos ⟨h5,this⟩]
theorem ep.step (hr:cW u) (h:pL u m) {l:List Int} (hk:ep u m l) {s:Nat} (hs:s<u.bz.length) (hb:m.kZ u s=0):ep u (m.step u s).1 l/\∀t∈l,(m.step u s).1.at_.getD t.toNat 0=m.at_.getD t.toNat 0:=by
 have hsl:(s:Int)∉l:=fun e=>by have:=hk.GY h.ok e;omega
 have hat:∀t∈l,(m.step u s).1.at_.getD t.toNat 0=m.at_.getD t.toNat 0:=fun t ht=>by
  show(m.at_.set s _).getD t.toNat 0=_
  have:=hk.lt ht
  exact getD_set_ne fun e=>hsl (by rw[e,Int.toNat_of_nonneg this.1];exact ht)
 have hnode:∀t∈l,(m.step u s).1.node u t.toNat=m.node u t.toNat:=fun t ht=>by unfold MS.node;rw[hat t ht]
 obtain⟨h9,hbar⟩:=kE h.ok hs hb
 have hno:=h.ok.node hr hs
 have hhold:∀t∈l,(m.step u s).1.hold.getD (m.node u t.toNat).cR.toNat 0=m.hold.getD (m.node u t.toNat).cR.toNat 0:=fun t ht=>by
  obtain⟨h5,hh⟩:=hk.waits ht
  have hlt:=hk.lt ht
  have hnt:=h.ok.node hr (t:=t.toNat) (by omega)
  obtain⟨x0,x1⟩:=fS hnt (.inl h5)
  generalize hx:(m.node u t.toNat).cR=x at *
  show((m.act s (m.node u s)).1.hold).getD x.toNat 0=_
  rw[w5]
  by_cases k5:(m.node u s).kind=5
  ·obtain⟨y0,y1⟩:=fS hno (.inl k5)
   rw[if_pos k5,kQ h.ok ⟨y0,y1⟩ _ x0,if_neg]
   intro e
   rw[e] at hh
   exact hbar ⟨k5,hk.ring.nn _ hh⟩
  ·rw[if_neg k5]
   by_cases k6:(m.node u s).kind=6
   ·obtain⟨y0,y1⟩:=fS hno (.inr k6)
    rw[if_pos k6,kQ h.ok ⟨y0,y1⟩ _ x0,if_neg]
    intro e
    rw[e] at hh
    obtain⟨now,n1,_⟩:=(sP (hr.gr hs)).on _ (h.inv.oH s hs)
    change dh (m.node u s) _=_ at n1
    unfold dh at n1
    rw[if_neg k5,if_pos k6] at n1
    split at n1
    ·rename_i hc
     obtain⟨ys,hy⟩:=List.getLast?_eq_some_iff.1 hc.2
     have:=(h.inv.own s hs _ y0 y1).2 (by rw[hy];simp)
     rw[this] at hh
     exact hsl hh
    ·cases n1
   ·rw[if_neg k6]
 refine⟨⟨⟨hk.ring.pos,hk.ring.nd,fun i hi=> ?_,hk.ring.nn⟩,hk.Q3⟩,hat⟩
 have hm:=cS (0:Int) hi
 rw[<-hk.ring.on i hi]
 unfold eM
 rw[hnode _ hm]
 split
 ·exact hhold _ hm
 ·rfl
theorem ep.s9 (hu:u.Wf) (hr:cW u) {l:List Int}:∀(w:List Int) {m:MS},pL u m->ep u m l->ep u (eK u m w) l/\∀t∈l,(eK u m w).at_.getD t.toNat 0=m.at_.getD t.toNat 0
 |[],m,_,hk=>⟨hk,fun _ _=>rfl⟩
 |t::r,m,h,hk=>by
  rw[eK]
  have h1:=h.one hu hr t
  by_cases hb:m.kZ u t=0
  ·rw[if_pos hb] at h1 ⊢
   obtain⟨k,rfl,hkl⟩:=yp h.ok hb
   rw[Int.toNat_natCast] at h1 ⊢
   obtain⟨g1,g2⟩:=hk.step hr h hkl hb
   obtain⟨g3,g4⟩:=ep.s9 hu hr r h1 g1
   exact⟨g3,fun s hs=>(g4 s hs).trans (g2 s hs)⟩
  ·rw[if_neg hb] at h1 ⊢
   exact ep.s9 hu hr r h1 hk
theorem BG (hr:cW u) (h:pL u m) (hall:∀t,t<u.bz.length->m.kZ u (t:Nat)≠0) {t0:Nat} (ht0:t0<u.bz.length) (h70:m.kZ u t0≠70):∃l,jM u m=some l:=by
 have b71:∀t:Int,0<=t/\t<u.bz.length->m.kZ u t≠70->(m.node u t.toNat).kind=5/\0<=m.hold.getD (m.node u t.toNat).cR.toNat 0:=fun t ht h7=>by
  have h0:=hall t.toNat (by omega)
  rw[Int.toNat_of_nonneg ht.1] at h0
  rw[yq h.ok ht] at h0 h7
  split at h7
  ·exact absurd rfl h7
  ·rename_i e9
   rw[if_neg e9] at h0
   split at h0
   ·assumption
   ·exact absurd rfl h0
 obtain⟨l,hl,hS⟩:=yI (h:=eM u m) (n:=u.bz.length) (S:=fun t=>0<=t/\t<u.bz.length/\m.kZ u t≠70) (fun t ht=>by
  obtain⟨h5,hh⟩:=b71 t ⟨ht.1,ht.2.1⟩ ht.2.2
  have hlt:=pe hr h.ok (t:=t) ⟨ht.1,ht.2.1⟩
  have hnt:=h.ok.node hr (t:=t.toNat) (by omega)
  obtain⟨x0,x1⟩:=fS hnt (.inl h5)
  have he:eM u m t=m.hold.getD (m.node u t.toNat).cR.toNat 0:=by unfold eM;rw[if_pos h5]
  rw[he] at hlt ⊢
  refine⟨ht.1,ht.2.1,hh,hlt.2,fun e70=> ?_⟩
  generalize hx:(m.node u t.toNat).cR=x at *
  obtain⟨s,hs⟩:∃s:Nat,m.hold.getD x.toNat 0=s:=⟨(m.hold.getD x.toNat 0).toNat,by omega⟩
  rw[hs] at hlt e70
  have hmem:=(h.inv.own s (by omega) x x0 x1).1 hs
  rw[yq h.ok (by omega),Int.toNat_natCast] at e70
  split at e70
  ·rename_i h9
   obtain⟨now,n1,_⟩:=(sP (hr.gr (t:=s) (by omega))).on _ (h.inv.oH s (by omega))
   change dh (m.node u s) _=_ at n1
   unfold dh at n1
   rw[if_neg (by omega),if_neg (by omega),if_pos h9] at n1
   split at n1
   ·rename_i e;rw[e] at hmem;cases hmem
   ·cases n1
  ·split at e70<;>omega) (x:=(t0:Int)) ⟨by omega,by omega,h70⟩
 have hk:ep u m l:=⟨hl,fun i hi=>by have:=hS _ (cS 0 hi);exact⟨this.1,this.2.1⟩⟩
 obtain⟨b,hb,_⟩:=sL hk
 exact⟨b,hb⟩
end
end
theorem sV:∀(x:Nat),x<4294967296->∀k:Int,k∈bits x↔0<=k/\x.testBit k.toNat=true:=by
 intro x
 induction x using Nat.strongRecOn with
 |_ x ih=>
  intro hx k
  by_cases h0:x=0
  ·subst h0
   rw[show bits 0=[] from rfl,Nat.zero_testBit]
   simp
  ·rw[pW h0]
   obtain⟨h1,h2,h3⟩:=K7 h0 hx
   have hp:=pred_lt h0
   rw[List.mem_cons,ih _ hp (by omega),yF h0 hx]
   constructor
   ·rintro(rfl|⟨g1,g2⟩)
    ·exact⟨by omega,by rw[Int.toNat_natCast];exact h1⟩
    ·rw[Bool.and_eq_true] at g2
     exact⟨g1,g2.1⟩
   ·rintro⟨g1,g2⟩
    by_cases e:k.toNat=ctz x
    ·exact .inl (by omega)
    ·exact .inr ⟨g1,by rw[Bool.and_eq_true];exact⟨g2,decide_eq_true e⟩⟩
def qS (g:cF) (i:Nat):List Int:=bits (hb (I6 g i))
theorem zp {u:bx} {g:cF} (hk:eL u g) (hl:u.cG.length<=16) (i:Nat):hb (I6 g i)<65536:=NM (m:=16) fun k hx=>by have:=vr hk i k hx;omega
theorem LX {u:bx} {g:cF} (hk:eL u g) (hl:u.cG.length<=16) (i:Nat) (x:Int):x∈qS g i↔x∈I6 g i:=by
 unfold qS
 rw[sV _ (by have:=zp hk hl i;omega),IK,List.any_eq_true]
 constructor
 ·rintro⟨h0,y,hy,e⟩
  have:=vr hk i y hy
  have e2:=of_decide_eq_true e
  rw[show x=y by omega];exact hy
 ·intro h
  have:=vr hk i x h
  exact⟨this.1,x,h,decide_eq_true rfl⟩
structure eU where
 held:Int
 taken:Int
 dc:Int
 node:Int
 deriving Inhabited,DecidableEq
def eU.cells (e:eU):List AV:=[i64 e.held,i64 e.taken,i64 e.dc,i64 e.node]
abbrev eU.av (e:eU):AV:= .agg e.cells
abbrev v7 (l:List eU):AV:= .im 4 .any (l.map eU.av)
@[simp] theorem HL (n:Nat) (e:eU):c8 n e.cells:=by simp[eU.cells,c8,cK]
theorem DS (l:List eU):c8 0 (l.map eU.av):=(cD _ _).2 fun _ _=>by simp only[eU.av,cK];exact HL _ _
def lj (g:cF) (t i:Nat):List eU:=if(g.nd i).kind=5 then(qS g i).map fun h=>⟨h,(g.nd i).cR,t,i⟩ else[]
def iM (g:cF) (t:Nat):Nat->List eU
 |0=>[]
 |i+1=>iM g t i++lj g t i
def gW (u:bx):Nat->List eU
 |0=>[]
 |t+1=>gW u t++iM (u.gr t) t (u.gr t).nodes.length
def dS (u:bx):List eU:=gW u u.bz.length
theorem nS {g:cF} {t:Nat} {e:eU}:∀{m:Nat},e∈iM g t m↔∃i,i<m/\e∈lj g t i
 |0=>by simp[iM]
 |m+1=>by
  rw[iM,List.mem_append,nS]
  constructor
  ·rintro(⟨i,h1,h2⟩|h)
   ·exact⟨i,by omega,h2⟩
   ·exact⟨m,by omega,h⟩
  ·rintro⟨i,h1,h2⟩
   by_cases e:i=m
   ·subst e;exact .inr h2
   ·exact .inl ⟨i,by omega,h2⟩
theorem rh {u:bx} {e:eU}:∀{m:Nat},e∈gW u m↔∃t,t<m/\e∈iM (u.gr t) t (u.gr t).nodes.length
 |0=>by simp[gW]
 |m+1=>by
  rw[gW,List.mem_append,rh]
  constructor
  ·rintro(⟨i,h1,h2⟩|h)
   ·exact⟨i,by omega,h2⟩
   ·exact⟨m,by omega,h⟩
  ·rintro⟨i,h1,h2⟩
   by_cases e:i=m
   ·subst e;exact .inr h2
   ·exact .inl ⟨i,by omega,h2⟩
theorem DJ {u:bx} {e:eU}:e∈dS u↔∃t i,t<u.bz.length/\i<(u.gr t).nodes.length/\((u.gr t).nd i).kind=5/\e.held∈qS (u.gr t) i/\e.taken=((u.gr t).nd i).cR/\e.dc=t/\e.node=i:=by
 unfold dS
 rw[rh]
 constructor
 ·rintro⟨t,ht,h⟩
  obtain⟨i,hi,h⟩:=nS.1 h
  unfold lj at h
  split at h
  ·rename_i h5
   obtain⟨x,hx,rfl⟩:=List.mem_map.1 h
   exact⟨t,i,ht,hi,h5,hx,rfl,rfl,rfl⟩
  ·cases h
 ·rintro⟨t,i,ht,hi,h5,hx,h1,h2,h3⟩
  refine⟨t,ht,nS.2 ⟨i,hi, ?_⟩⟩
  unfold lj
  rw[if_pos h5]
  exact List.mem_map.2 ⟨e.held,hx,by cases e;simp_all⟩
theorem xC {u:bx} (hr:cW u) {e:eU} (h:e∈dS u):(0<=e.held/\e.held<u.cG.length)/\0<=e.taken/\e.taken<u.cG.length:=by
 obtain⟨t,i,ht,hi,h5,hx,h1,h2,h3⟩:=DJ.1 h
 rw[LX (hr.gr ht) hr.qa.2.1] at hx
 rw[h1]
 exact⟨vr (hr.gr ht) i _ hx,fS ((hr.gr ht).node hi) (.inl h5)⟩
theorem yu:∀(x:Nat),x<4294967296->(bits x).Nodup:=by
 intro x
 induction x using Nat.strongRecOn with
 |_ x ih=>
  intro hx
  by_cases h0:x=0
  ·subst h0;exact List.nodup_nil
  ·have hp:=pred_lt h0
   rw[pW h0,List.nodup_cons]
   refine⟨fun h=> ?_,ih _ hp (by omega)⟩
   have:=((sV _ (by omega) _).1 h).2
   rw[yF h0 hx,Bool.and_eq_true] at this
   exact of_decide_eq_true this.2 (by rw[Int.toNat_natCast])
theorem KT {x:Nat} (hx:x<65536):(bits x).length<=16:=gG 16 _ (yu x (by omega)) fun k hk=>by
 obtain⟨h1,h2⟩:=(sV _ (by omega) _).1 hk
 refine⟨h1, ?_⟩
 by_cases h:k.toNat<16
 ·omega
 ·have h3:16<=k.toNat:=by omega
  have h4:2^16<=2^k.toNat:=Nat.pow_le_pow_right (by decide) h3
  have:=Nat.testBit_lt_two_pow (x:=x) (i:=k.toNat) (by omega)
  rw[this] at h2;cases h2
theorem IN {u:bx} {g:cF} (hk:eL u g) (hl:u.cG.length<=16) (i:Nat):(qS g i).length<=16:=KT (zp hk hl i)
theorem DI {u:bx} {g:cF} (hk:eL u g) (hl:u.cG.length<=16) (t i:Nat):(lj g t i).length<=16:=by
 unfold lj
 split
 ·rw[List.length_map];exact IN hk hl i
 ·exact Nat.zero_le _
theorem pZ {u:bx} {g:cF} (hk:eL u g) (hl:u.cG.length<=16) (t:Nat):∀m,(iM g t m).length<=16 * m
 |0=>Nat.le_refl _
 |m+1=>by
  rw[iM,List.length_append]
  have:=pZ hk hl t m
  have:=DI hk hl t m
  omega
theorem p6 {u:bx} (hr:cW u):∀{m:Nat},m<=u.bz.length->(gW u m).length<=65536 * m
 |0,_=>Nat.le_refl _
 |m+1,h=>by
  rw[gW,List.length_append]
  have h1:=p6 hr (m:=m) (by omega)
  have h2:=pZ (hr.gr (t:=m) (by omega)) hr.qa.2.1 m (u.gr m).nodes.length
  have h3:=(hr.gr (t:=m) (by omega)).len.2
  omega
end Go.Proofs.YtjopoheligmmoaaGreatDoor
