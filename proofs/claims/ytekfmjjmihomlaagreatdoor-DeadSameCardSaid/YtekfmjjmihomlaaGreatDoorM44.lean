import Derived.Shelf.SlSortCmp.WholeK
import Derived.Test.YtekfmjjmihomlaaGreatDoorProg
import Derived.Test.YtekfmjjmihomlaaGreatDoorM42
import Derived.Test.YtekfmjjmihomlaaGreatDoorM43
import Derived.Shelf.SlSortCmp.NoneTotal
import Derived.Test.YtekfmjjmihomlaaGreatDoorM37
import Derived.Test.YtekfmjjmihomlaaGreatDoorM40
namespace Go.Proofs
open Go.Shelf
def Tryz.KB:Go.Shelf.Ren:=⟨fun|6=>17|15=>41|14=>40|28=>81|29=>82|20=>73|21=>74|22=>75|23=>76|24=>77|25=>78|26=>79|27=>80|46=>114|47=>115|48=>116|49=>117|50=>118|57=>131|n=>n,fun|22=>30|24=>59|25=>67|3=>3|39=>99|0=>0|53=>166|55=>168|4=>4|46=>159|45=>158|50=>163|5=>5|9=>9|66=>194|70=>198|76=>214|77=>215|n=>n,fun|n=>n⟩
theorem Tryz.UP:Go.Proofs.SlLaysF0.n6 Tryz.prog Tryz.KB:={
 mixed:=by kernel_rfl
 f6:=⟨Tryz.f17.name,by decide,Tryz.func17.trans (congrArg some (by kernel_rfl))⟩
 f14:=⟨Tryz.f40.name,by decide,Tryz.func40.trans (congrArg some (by kernel_rfl))⟩
 f15:=Tryz.func41.trans (congrArg some (by kernel_rfl))
 f20:=⟨Tryz.f73.name,by decide,Tryz.func73.trans (congrArg some (by kernel_rfl))⟩
 f21:=⟨Tryz.f74.name,by decide,Tryz.func74.trans (congrArg some (by kernel_rfl))⟩
 f22:=⟨Tryz.f75.name,by decide,Tryz.func75.trans (congrArg some (by kernel_rfl))⟩
 f23:=⟨Tryz.f76.name,by decide,Tryz.func76.trans (congrArg some (by kernel_rfl))⟩
 f24:=⟨Tryz.f77.name,by decide,Tryz.func77.trans (congrArg some (by kernel_rfl))⟩
 f25:=⟨Tryz.f78.name,by decide,Tryz.func78.trans (congrArg some (by kernel_rfl))⟩
 f26:=⟨Tryz.f79.name,by decide,Tryz.func79.trans (congrArg some (by kernel_rfl))⟩
 f27:=⟨Tryz.f80.name,by decide,Tryz.func80.trans (congrArg some (by kernel_rfl))⟩
 f28:=Tryz.func81.trans (congrArg some (by kernel_rfl))
 f29:=Tryz.func82.trans (congrArg some (by kernel_rfl))
 f46:=⟨Tryz.f114.name,by decide,Tryz.func114.trans (congrArg some (by kernel_rfl))⟩
 f47:=Tryz.func115.trans (congrArg some (by kernel_rfl))
 f48:=Tryz.func116.trans (congrArg some (by kernel_rfl))
 f49:=⟨Tryz.f117.name,by decide,Tryz.func117.trans (congrArg some (by kernel_rfl))⟩
 f50:=⟨Tryz.f118.name,by decide,Tryz.func118.trans (congrArg some (by kernel_rfl))⟩
 f57:=⟨Tryz.f131.name,by decide,Tryz.func131.trans (congrArg some (by kernel_rfl))⟩
 t0:=Tryz.underlying0
 a0:=Tryz.isAgg0
 z0:=Tryz.sizeOf0
 v0:=Tryz.zeroValue0
 t3:=Tryz.underlying3
 a3:=Tryz.isAgg3
 z3:=Tryz.sizeOf3
 v3:=Tryz.zeroValue3
 t4:=Tryz.underlying4
 a4:=Tryz.isAgg4
 z4:=Tryz.sizeOf4
 v4:=Tryz.zeroValue4
 t5:=Tryz.underlying5
 a5:=Tryz.isAgg5
 z5:=Tryz.sizeOf5
 v5:=Tryz.zeroValue5
 t9:=Tryz.underlying9
 a9:=Tryz.isAgg9
 z9:=Tryz.sizeOf9
 v9:=Tryz.zeroValue9
 t22:=Tryz.underlying30
 a22:=Tryz.isAgg30
 z22:=Tryz.sizeOf30
 v22:=Tryz.zeroValue30
 t25:=Tryz.underlying67
 a25:=Tryz.isAgg67
 z25:=Tryz.sizeOf67
 v25:=Tryz.zeroValue67
 t39:=Tryz.underlying99
 a39:=Tryz.isAgg99
 z39:=Tryz.sizeOf99
 v39:=Tryz.zeroValue99
 t45:=Tryz.underlying158
 a45:=Tryz.isAgg158
 z45:=Tryz.sizeOf158
 v45:=Tryz.zeroValue158
 t46:=Tryz.underlying159
 a46:=Tryz.isAgg159
 z46:=Tryz.sizeOf159
 v46:=Tryz.zeroValue159
 t50:=Tryz.underlying163
 a50:=Tryz.isAgg163
 z50:=Tryz.sizeOf163
 v50:=Tryz.zeroValue163
 t53:=Tryz.underlying166
 a53:=Tryz.isAgg166
 z53:=Tryz.sizeOf166
 v53:=Tryz.zeroValue166
 t55:=Tryz.underlying168
 a55:=Tryz.isAgg168
 z55:=Tryz.sizeOf168
 v55:=Tryz.zeroValue168
 t66:=Tryz.underlying194
 a66:=Tryz.isAgg194
 z66:=Tryz.sizeOf194
 v66:=Tryz.zeroValue194
 t70:=Tryz.underlying198
 a70:=Tryz.isAgg198
 z70:=Tryz.sizeOf198
 v70:=Tryz.zeroValue198
 t76:=Tryz.underlying214
 a76:=Tryz.isAgg214
 z76:=Tryz.sizeOf214
 v76:=Tryz.zeroValue214
 t77:=Tryz.underlying215
 a77:=Tryz.isAgg215
 z77:=Tryz.sizeOf215
 v77:=Tryz.zeroValue215 }
end Go.Proofs
namespace Go.Proofs.YtekfmjjmihomlaaGreatDoor
open Go Go.cw Go.Proofs Go.RowKit Go.Sort
set_option linter.unusedSimpArgs false
set_option linter.unusedVariables false
set_option maxRecDepth 8000
section
theorem CW {w w':World} (h:Go.RowKit.Below w.heap.size w w') (hd:w.drawn<=w'.drawn):∃q os',w'=grow (w.drewN q) os':=by
 refine⟨w'.drawn - w.drawn,w'.heap.extract w.heap.size w'.heap.size, ?_⟩
 obtain⟨hp,tp,dr,os,ou⟩:=w
 obtain⟨hp',tp',dr',os',ou'⟩:=w'
 have h1:=h.os
 have h2:=h.tape
 have h3:=h.output
 have h4:=h.size
 have h5:=h.block
 dsimp only at *
 subst h1 h2 h3
 simp only[grow,World.drewN,World.mk.injEq,true_and,and_true]
 refine⟨?_,by omega⟩
 apply Array.ext_getElem?
 intro i
 rw[Array.getElem?_append]
 split
 ·rename_i hi;exact h5 i hi
 ·rename_i hi
  rw[Array.getElem?_extract]
  split
  ·congr 1;omega
  ·rw[Array.getElem?_eq_none (by omega)]
def El {S:Type} (cells:S->List AV) (ok:S->Prop) (w:World) (M:Nat->Prop):Type:={ x:S×List Value //ok x.1/\cj (base w M) (cells x.1) x.2 }
section
variable {S:Type} {cells:S->List AV} {ok:S->Prop} {k:Nat} {cf:S->S->Int}
structure CQ (P:Program) (g:Nat) (cells:S->List AV) (k:Nat) (ok:S->Prop) (cf:S->S->Int):Prop where
 len:∀s,(cells s).length=k
 pos:0<k
 fit:∀s,cT 0 (cells s)
 one:∀s,ir (cells s)=true
 cmp:∀a b,ok a->ok b->Pure P g [.agg (cells a), .agg (cells b)] (fun r=>r= .sc (.int .i64 (cf a b)))
 ord:kj cf
theorem WJ (h:kj cf) {α:Type} (f:α->S):SWO (ltOf fun x y:α=>cf (f x) (f y)) where
 irrefl x:=by
  have:=(h.zero (f x) (f x)).2 rfl
  simp[ltOf,this]
 trans x y z h1 h2:=by
  simp only[ltOf,decide_eq_true_eq] at *
  exact h.tr _ _ _ h1 h2
 ntrans x y z h1 h2:=by
  simp only[ltOf,decide_eq_false_iff_not] at *
  have n1:=h.neg (f x) (f y)
  have n2:=h.neg (f y) (f z)
  have n3:=h.neg (f x) (f z)
  by_cases e1:cf (f x) (f y)=0
  ·rw[(h.zero _ _).1 e1];exact h2
  ·by_cases e2:cf (f y) (f z)=0
   ·rw[<-(h.zero _ _).1 e2];exact h1
   ·have:=h.tr (f z) (f y) (f x) (by omega) (by omega)
    omega
variable {w:World} {M:Nat->Prop} {blk off:Nat}
theorem nN {α:Type} [Inhabited α] {enc:α->List Value} {n i:Nat} {os:Array Obj} (d:Array α) (hi:i<w.heap.size) (hne:i≠blk):(sortWorldK enc k w blk off n d os).heap[i]?=w.heap[i]?:=by
 unfold sortWorldK putRowK
 rw[heap_grow_old _ _ (by simpa[putRow,mapBlock,Sort.ahead] using hi)]
 simp[putRow,mapBlock,Sort.ahead,Array.getElem?_modify,Ne.symm hne]
theorem uo {α:Type} [Inhabited α] {enc:α->List Value} {n:Nat} {os:Array Obj} {cur:Array Value} {e:TypeId} {fr:Nat×Nat} (d:Array α) (hb:w.heap[blk]?=some (.cells cur e fr)):
 (sortWorldK enc k w blk off n d os).heap[blk]?=some (.cells (putCells id off (flatK enc k d) cur) e fr):=by
 have hg:blk<w.heap.size:=(Array.getElem?_eq_some_iff.1 hb).1
 unfold sortWorldK putRowK
 rw[heap_grow_old _ _ (by simpa[putRow,mapBlock,Sort.ahead] using hg)]
 simp[putRow,mapBlock,Sort.ahead,Array.getElem?_modify,hb,onCells]
theorem C3 {P:Program} {g:Nat} (h:CQ P g cells k ok cf) (hM:yW w M) (hblk:M blk) (size:Nat) [Inhabited (El cells ok w M)]:
 CmpLays P g #[] (fun x:El cells ok w M=>x.1.2) k (fun x y=>cf x.1.1 y.1.1) blk off size w:=by
 intro m os dk _ x y
 have hsz:w.heap.size<=(sortWorldK (fun x:El cells ok w M=>x.1.2) k w blk off m dk os).heap.size:=size_sortWorldK_c _ _ _ _ _ _ _ _
 have hne:=fun(i:Nat) (hi:i<w.heap.size) (hn:i≠blk)=>nN (k:=k) (off:=off) (enc:=fun x:El cells ok w M=>x.1.2) (n:=m) (os:=os) dk hi hn
 generalize sortWorldK (fun x:El cells ok w M=>x.1.2) k w blk off m dk os=W at *
 have hle:(base w M).le (base W M):=by
  refine⟨fun _ h=>h,hsz,fun b hb hlt=> ?_,fun b hb=>hb.elim⟩
  rw[ma] at hb ⊢
  exact⟨hne b hlt fun e=>hb (e▸hblk),hb⟩
 have hF:yW W M:=by
  refine⟨fun b hb=>Nat.lt_of_lt_of_le (hM.lt b hb) hsz,fun t ht=> ?_⟩
  obtain⟨t1,t2,t3⟩:=hM.YF t ht
  refine⟨t1,Nat.lt_of_lt_of_le t2 hsz,fun j hj=> ?_⟩
  rw[<-t3 j hj]
  exact World.cell?_of_block (a:=⟨t.1,j,none⟩) (hne _ t2 fun e=>t1 (by rw[show t.1=blk from e];exact hblk))
 obtain⟨⟨xs,xv⟩,x1,x2⟩:=x
 obtain⟨⟨ys,yv⟩,y1,y2⟩:=y
 have hc:=RN ((h.cmp xs ys x1 y1).2 M W [.agg xv.toArray, .agg yv.toArray] hF (by
  rw[cj]
  refine⟨_,_,rfl,by rw[VR];exact⟨_,rfl,by simpa using cj.keep hle x2⟩, ?_⟩
  rw[cj]
  refine⟨_,_,rfl,by rw[VR];exact⟨_,rfl,by simpa using cj.keep hle y2⟩, ?_⟩
  rw[cj]))
 refine hc.mono ?_
 rintro e w' ⟨⟨v,r,rfl,rfl,_,hv,hb⟩,hd⟩
 rw[VR] at hv
 exact⟨by rw[hv],CW hb (hd v rfl)⟩
theorem z6 {α:Type} [Inhabited α] {enc:α->List Value} {d:Array α} (hk:∀x,(enc x).length=k) (hpos:0<k) (h:∀i c,i<d.size->c<k->w.cell? ⟨blk,off+i * k+c,none⟩=some (enc d[i]!)[c]!/\w.frozen? ⟨blk,off+i * k+c,none⟩=false):HoldsK enc k w blk off d:=by
 intro t ht
 rw[size_flatK] at ht
 have e1:t /k<d.size:=(Nat.div_lt_iff_lt_mul hpos).2 ht
 have e2:t%k<k:=Nat.mod_lt _ hpos
 have:=h (t /k) (t%k) e1 e2
 rw[Nat.add_assoc,show t /k * k+t%k=t by rw[Nat.mul_comm];exact Nat.div_add_mod t k] at this
 rw[get_flatK _ _ _ _ ht]
 exact this
set_option maxHeartbeats 2000000 in
theorem FC {P:Program} {ρ:Go.Shelf.Ren} (L:SlLaysF0.n6 P ρ) (aE:∀w,(isAgg (ρ.t 24)).run P w= .ok true w) (zE:∀w,(Go.sizeOf (ρ.t 24)).run P w= .ok k w) (hen:j5 P (ρ.f 6)) {g:Nat} (eg:∀args w,(callFunc g args).run P w= .ok (.enter g args) w)
 (h:CQ P g cells k ok cf) [Inhabited S] (b:Nat) (l:List S) (hok:∀s∈l,ok s) (e:TypeId) (d:AV) (H:Hp) (nx:Nat) (hb:bo H b=some (.row e k d (l.map fun s=> .agg (cells s)))) (hlt:b<nx) (hl:l.length<4611686018427387904) (h0:l≠[]):
 cQ P (ρ.f 6) [.sl b l.length, .fn (.func g) [] []] H nx (fun r H' n=>r= .df []/\n=nx/\H'=(b,some (.row e k d ((iG cf l).map fun s=> .agg (cells s))))::H):=by
 refine⟨hen,fun w0 c vs hS hH hU hv=> ?_⟩
 rw[cj] at hv
 obtain⟨v,vs',rfl,hv,hv2⟩:=hv
 rw[cj] at hv2
 obtain⟨v2,vs2,rfl,hv2,hv3⟩:=hv2
 rw[cj] at hv3
 subst hv3
 rw[VR] at hv2
 obtain⟨ps,qs,rfl,hp1,hp2⟩:=hv2
 rw[cj] at hp1 hp2
 obtain rfl:ps=#[]:=Array.toList_eq_nil_iff.1 hp1
 obtain rfl:qs=#[]:=Array.toList_eq_nil_iff.1 hp2
 rw[VR] at hv
 obtain⟨hUb,a,cap,rfl,hr⟩:=hv
 have hcb:c.H b=some (.row e k d (l.map fun s=> .agg (cells s))):=by rw[hH];exact hb
 obtain⟨_,hr2⟩:=hr _ _ _ _ hcb
 have hr3:=hr2 (by simp)
 have hpos:=h.pos
 obtain⟨_,_,hor⟩:=hS.mD b _ _ _ _ hcb (.inr hpos)
 have hln:0<l.length:=List.length_pos_iff.2 h0
 rcases hor with⟨_,hes⟩|⟨blk,o,z,hρ,hlow,⟨arr,harr,hsz⟩,hlz,hrow⟩
 ·exact absurd (List.map_eq_nil_iff.1 hes) h0
 rcases hr3 with⟨h1,_,_⟩|⟨blk',o',z',h1,rfl,hc1,hc2,hc3,_⟩
 ·rw[hρ] at h1;cases h1
 rw[hρ] at h1
 cases h1
 have hblk:blk<c.w.heap.size:=(Array.getElem?_eq_some_iff.1 harr).1
 rw[List.length_map] at hlz
 have hMb:c.M blk:= .inr ⟨b,_,o,z,hcb,hρ⟩
 -- the elements as they stand
 have hel:∀i,i<l.length->∃x:El cells ok c.w c.M,x.1.1=l.getD i default/\∀j,j<k->c.w.cell? ⟨blk,o+i * k+j,none⟩=x.1.2[j]?:=fun i hi=>by
  obtain⟨v,⟨hv1,hv2,_⟩,hv3⟩:=eD hrow i (by simpa using hi)
  rw[dN (f:=fun s=>AV.agg (cells s)) (h:=hi)] at hv3
  rw[VR] at hv3
  obtain⟨us,rfl,hus⟩:=hv3
  refine⟨⟨(l.getD i default,us.toList),hok _ (cR default hi),cj.pF (fun _ hb=>hb) (h.fit _) hus⟩,rfl,fun j hj=> ?_⟩
  rw[hv2 j hj]
  simp[Value.cells]
 haveI:Inhabited (El cells ok c.w c.M):=⟨(hel 0 hln).choose⟩
 obtain⟨dl,hdl,hdr⟩:=mf (List.range l.length) (R:=fun i (x:El cells ok c.w c.M)=>x.1.1=l.getD i default/\∀j,j<k->c.w.cell? ⟨blk,o+i * k+j,none⟩=x.1.2[j]?) (fun i hi=>hel i (by simpa using hi))
 simp only[List.length_range] at hdl
 have hdg:∀i (hi:i<dl.length),dl[i].1.1=l.getD i default/\∀j,j<k->c.w.cell? ⟨blk,o+i * k+j,none⟩=dl[i].1.2[j]?:=fun i hi=>hdr i i _ (by rw[List.getElem?_range (by omega)]) (List.getElem?_eq_getElem hi)
 have hxl:∀x:El cells ok c.w c.M,x.1.2.length=k:=fun x=>by rw[x.2.2.length,h.len]
 have hHolds:HoldsK (fun x:El cells ok c.w c.M=>x.1.2) k c.w blk o dl.toArray:=by
  refine z6 hxl hpos fun i j hi hj=> ?_
  have hi':i<dl.length:=by simpa using hi
  have:=(hdg i hi').2 j hj
  refine⟨?_, ?_⟩
  ·rw[this]
   have hj':j<dl[i].1.2.length:=by rw[hxl];exact hj
   simp[hi',hj']
  ·simp only[World.frozen?,harr]
   simp
 have hones:∀x:El cells ok c.w c.M,∀v∈x.1.2,v.oneCell'=true:=fun x=>x.2.2.PV (h.one _)
 have hcon:=AnyQ.slices_SortFunc L k aE zE (fun x:El cells ok c.w c.M=>x.1.2) hxl hones (fun x y=>cf x.1.1 y.1.1) (WJ h.ord fun x:El cells ok c.w c.M=>x.1.1) g #[] blk o cap dl.toArray c.w eg (C3 h hS.fit hMb _) hHolds hblk (by simp;omega)
 rw[show dl.toArray.size=l.length by simp[hdl]] at hcon
 refine hcon.mono ?_
 rintro en w' ⟨rfl,d',n,os,⟨hpz,_,hpp⟩,hss,hw'⟩
 have hdz:d'.size=l.length:=by rw[hpz];simp[hdl]
 -- what stands in the row now
 have hl1:dl.map (fun x=>x.1.1)=l:=by
  apply List.ext_getElem (by simp[hdl])
  intro i q1 q2
  have:=(hdg i (by simpa using q1)).1
  rw[List.getElem_map,this]
  simp[List.getD,q2]
 have hperm:(d'.toList.map fun x=>x.1.1).Perm l:=by
  have h2:d'.toList.Perm dl:=by
   have e1:d'.extract 0 l.length=d':=by rw[<-hdz];exact Array.extract_size
   have e2:dl.toArray.extract 0 l.length=dl.toArray:=by rw[<-hdl,<-List.size_toArray];exact Array.extract_size
   rw[e1,e2] at hpp
   simpa using hpp
  have h3:=h2.map (fun x:El cells ok c.w c.M=>x.1.1)
  rwa[hl1] at h3
 have hsort:(d'.toList.map fun x=>x.1.1).Pairwise fun x y=>w3 cf x y=true:=by
  rw[List.pairwise_iff_getElem]
  intro i j hi hj hij
  have hj':j<d'.size:=by simpa using hj
  have:=hss i j (Nat.zero_le _) hij (by omega)
  rw[getElem!_pos d' j hj',getElem!_pos d' i (by omega)] at this
  simp only[ltOf,decide_eq_false_iff_not] at this
  have hneg:=h.ord.neg d'[i].1.1 d'[j].1.1
  simp only[List.getElem_map,Array.getElem_toList,w3,decide_eq_true_eq]
  omega
 have hres:=h.ord.TM hperm hsort
 have hlen:(iG cf l).length=l.length:=rF cf l
 have hHn:HoldsK (fun x:El cells ok c.w c.M=>x.1.2) k w' blk o d':=by
  rw[hw']
  exact holdsK_sortWorldK_c _ _ _ _ _ dl.toArray d' n os hHolds hblk (by rw[hpz])
 have hput:=hS.ud (b:=b) (e:=e) (sz:=k) d (es:=(iG cf l).map fun s=> .agg (cells s)) (w':=w') (blk:=blk) (o:=o) (z:=z) (arr:=putCells id o (flatK (fun x:El cells ok c.w c.M=>x.1.2) k d') arr) hpos
  (.inr ⟨_,_,_,hcb, .inl ⟨by simp[hlen],hρ⟩⟩) (.inr ⟨_,_,_,hcb,hρ⟩) (by rw[hw'];rfl) (by rw[hw'];rfl) (by rw[hw'];rfl) (by rw[hw'];exact size_sortWorldK_c _ _ _ _ _ _ _ _) (fun q hq hne=>by rw[hw'];exact nN d' hq hne) (by rw[hw'];exact uo d' harr) (by simp[putCells];exact hsz) (by simp[hlen];exact hlz) (fun hle i hi=>by
   have hi':i<d'.size:=by simpa[hlen,hdz] using hi
   have hx:=d'[i].2.2
   refine⟨.agg d'[i].1.2.toArray,⟨by simp[Value.cells,hxl],fun j hj=> ?_,fun j u hu=> ?_⟩, ?_⟩
   ·have:=(hHn.cell (i:=i) (c:=j) hi' hj).1
    rw[getElem!_pos d' i hi'] at this
    rw[this]
    have hj':j<d'[i].1.2.length:=by rw[hxl];exact hj
    simp[Value.cells,hj']
   ·simp only[Value.cells,List.getElem?_toArray] at hu
    exact hones d'[i] u (List.mem_of_getElem? hu)
   ·have e4:((iG cf l).map fun s=>AV.agg (cells s)).getD i .any= .agg (cells d'[i].1.1):=by
     rw[<-hres]
     simp[List.getD,hi']
    rw[e4,VR]
    exact⟨_,rfl,by simpa using cj.keep (xU.trans hle) hx⟩)
 obtain⟨p1,p2⟩:=hput
 have hHeq:bo ((b,some (.row e k d ((iG cf l).map fun s=> .agg (cells s))))::H)=fi c.H b (some (.row e k d ((iG cf l).map fun s=> .agg (cells s)))):=by
  have:=dh H b (.row e k d ((iG cf l).map fun s=> .agg (cells s)))
  rw[hH];exact this
 refine⟨.tuple #[], .df [],_,nx,fi c.ρ b (some (blk,o,z)),fun x=>c.U x\/x=b,rfl,⟨rfl,rfl,rfl⟩,fun x hx=>hx.elim (hU x) (fun e=>by omega), ?_, ?_, ?_⟩
 ·rw[hHeq];exact p1
 ·rw[hHeq];exact p2
 ·rw[VR];exact⟨#[],rfl,by rw[cj]⟩
end
end
theorem FB {P:Program} {ρ:Go.Shelf.Ren} (L:SlLaysF0.n6 P ρ) (hen:j5 P (ρ.f 6)) (b:Nat) (fv:AV) (H:Hp) (nx:Nat):
 cQ P (ρ.f 6) [.sl b 0,fv] H nx (fun r H' n=>r= .df []/\n=nx/\H'=H):=by
 refine⟨hen,fun w0 c vs hS hH hU hv=> ?_⟩
 rw[cj] at hv
 obtain⟨v,vs',rfl,hv,hv2⟩:=hv
 rw[cj] at hv2
 obtain⟨v2,vs2,rfl,hv2,hv3⟩:=hv2
 rw[cj] at hv3
 subst hv3
 rw[VR] at hv
 obtain⟨hUb,a,cap,rfl,hr⟩:=hv
 refine(AnyF.slices_SortFunc_none L a cap v2 c.w).mono ?_
 rintro e w' ⟨rfl,rfl⟩
 obtain⟨ρ',Hc,U,w,M0⟩:=c
 simp only at hH
 subst hH
 exact⟨.tuple #[], .df [],H,nx,ρ',U,rfl,⟨rfl,rfl,rfl⟩,hU,hS,Cx.le.refl _,by rw[VR];exact⟨#[],rfl,by rw[cj]⟩⟩
def yV (e:dy):Prop:=e.cC.length<9223372036854775807/\e.mem.length<9223372036854775807
theorem FA:CQ Tryz.prog 18 dy.cells 3 yV fB where
 len:=fun _=>rfl
 pos:=by omega
 fit:=fun _=>by simp
 one:=fun _=>rfl
 cmp:=fun a b ha hb=>vt a b ha.1 ha.2
 ord:=l7
theorem uk:j5 Tryz.prog 17:=⟨Tryz.f17,Tryz.func17,by kernel_rfl,by kernel_rfl⟩
theorem KC (b:Nat) (l:List dy) (hok:∀e∈l,yV e) (hl:l.length<=65536) (H:Hp) (nx:Nat) (hb:∃d,bo H b=some (.row 59 3 d (l.map dy.av))) (hlt:b<nx):
 cQ Tryz.prog 17 [.sl b l.length, .fn (.func 18) [] []] H nx (fun r H' n=>(∃d,bo H' b=some (.row 59 3 d ((iG fB l).map dy.av)))/\nx<=n/\∀y,y<nx->y≠b->bo H' y=bo H y):=by
 obtain⟨d,hb⟩:=hb
 by_cases h0:l=[]
 ·subst h0
  refine(FB Tryz.UP uk b _ H nx).mono ?_
  rintro r H' n ⟨rfl,rfl,rfl⟩
  exact⟨⟨d,by rw[hb];simp[iG]⟩,Nat.le_refl _,fun _ _ _=>rfl⟩
 ·refine(FC Tryz.UP (k:=3) (fun w=>cw.nw (by kernel_rfl) w) (fun w=>cw.run_sizeOf (by kernel_rfl) w) uk (enters_of Tryz.func18 (by kernel_rfl) rfl) FA b l hok 59 d H nx hb hlt (by omega) h0).mono ?_
  rintro r H' n ⟨rfl,rfl,rfl⟩
  exact⟨⟨d,cq _ _ _⟩,Nat.le_refl _,fun y _ hne=>cX hne⟩
end Go.Proofs.YtekfmjjmihomlaaGreatDoor
namespace Go.Proofs.YtekfmjjmihomlaaGreatDoor
open Go Go.cw Go.Proofs
set_option linter.unusedSimpArgs false
set_option linter.unusedVariables false
set_option maxRecDepth 8000
def sM (l:List dy):Nat->List dy
 |0=>[]
 |1=>[l.getD 0 default]
 |k+2=>if l.getD (k+1) default=l.getD k default then sM l (k+1) else sM l (k+1)++[l.getD (k+1) default]
theorem F5 (l:List dy):∀k,(sM l k).length<=k
 |0=>Nat.le_refl _
 |1=>Nat.le_refl _
 |k+2=>by
  rw[sM]
  have:=F5 l (k+1)
  split
  ·omega
  ·rw[List.length_append,List.length_cons,List.length_nil];omega
theorem ym (l:List dy) {k:Nat} (hk:1<=k):sM l (k+1)=if l.getD k default=l.getD (k - 1) default then sM l k else sM l k++[l.getD k default]:=by
 obtain⟨j,rfl⟩:∃j,k=j+1:=⟨k - 1,by omega⟩
 rw[sM]
 rfl
theorem tW {l:List dy} {i:Nat} (h:i<l.length) (d:AV):(l.map dy.av).getD i d=(l.getD i default).av:=dN dy.av l i d h
abbrev qh (l:List dy):AV:= .im 3 .any (l.map dy.av)
theorem tm (l:List dy):cT 0 (l.map dy.av):=(cI _ _).2 fun _ _=>by simp[cF]
theorem vc {α:Type} {l:List α} {i:Nat} {x:α} (h:i<l.length):(l.set i x).take (i+1)=l.take i++[x]:=by
 rw[List.take_succ_eq_append_getElem (by simpa using h),List.take_set_of_le (Nat.le_refl _)]
 simp
theorem VM {H:Hp} {k b len lo n:Nat} {e:TypeId} {sz:Nat} {d:AV} {es:List AV} (h:bo H b=some (.row e sz d es)) (hl:es.length=len):cw.dj H (k+1) (.sv b len lo n)= .im sz .any (((es.drop lo).take n).map (cw.dj H k)):=by
 simp only[cw.dj,h];rw[if_pos hl]
set_option maxHeartbeats 4000000 in
theorem x8 (o:Nat) (l:List dy) (hl:l.length<=65536) (hok:∀e∈l,e.cC.length<9223372036854775807/\e.mem.length<9223372036854775807) (H:Hp) (nx:Nat) (ho:o<nx) (hr:∃d,bo H o=some (.row 59 3 d (l.map dy.av))):
 cQ Tryz.prog 19 [.sl o l.length, .fn (.func 20) [] []] H nx (fun r H' n=>(r= .sl o l.length\/∃m,r= .sv o l.length 0 m)/\cw.dj H' 5 r=qh (sM l l.length)):=by
 obtain⟨d0,r0'⟩:=hr
 have a0:(l.map dy.av).length=l.length:=by simp
 have same:∀i j,i<l.length->j<l.length->Pure Tryz.prog 20 [(l.getD i default).av,(l.getD j default).av] (fun r=>r=bl (decide (l.getD i default=l.getD j default))):=fun i j hi hj=>by
  obtain⟨p1,p2⟩:=hok _ (cR default hi)
  have:=E5 (l.getD i default) (l.getD j default) p1 p2
  simpa only[vu] using this
 refine aJ NO rfl ?_
 by_cases h2:l.length<2
 ·refine cz ?_
  refine⟨.inl rfl, ?_⟩
  show cw.dj H 5 (.sl o l.length)=_
  rw[dv (k:=4) r0' (by simp),cu _ (tm l)]
  have:sM l l.length=l:=by
   match l,h2 with
   |[],_=>rfl
   |[x],_=>rfl
  rw[this]
 ·refine cz ?_
  refine aI (fun i:Nat=>[(0, .sl o l.length),(1, .fn (.func 20) [] []),(5,i64 i)]) (fun i H2 n=>1<=i/\i<=l.length/\nx<=n/\bo H2 o=some (.row 59 3 d0 (l.map dy.av))/\sM l i=l.take i) (fun i=>l.length - i) 1 cG ⟨Nat.le_refl _,by omega,cU,bt,by rw[sM];cases l with|nil=>simp at h2|cons x t=>rfl⟩ ?_
  clear r0'
  rintro i H2 n ⟨hi1,hi,hn,r0',hdd⟩
  by_cases hil:i<l.length
  ·have e0:∀d,(l.map dy.av).getD ((i:Int)).toNat d=(l.getD i default).av:=fun d=>by rw[Int.toNat_natCast];exact tW hil d
   have e1:∀d,(l.map dy.av).getD ((i:Int) - 1).toNat d=(l.getD (i - 1) default).av:=fun d=>by rw[show((i:Int) - 1).toNat=i - 1 by omega];exact tW (by omega) d
   have c0:=same i (i - 1) hil (by omega)
   have hsu:=ym l hi1
   by_cases he:l.getD i default=l.getD (i - 1) default
   ·rw[decide_eq_true he] at c0
    rw[if_pos he] at hsu
    refine cz ?_
    refine aI (fun σ:Nat×Nat×List dy=>[(0, .sl o l.length),(1, .fn (.func 20) [] []),(5,i64 σ.1),(6, .sv o l.length i (l.length - i)),(7,i64 σ.2.1)])
     (fun σ H2 n=>1<=σ.2.1/\i+σ.2.1<=l.length/\i<=σ.1/\σ.1+1<=i+σ.2.1/\σ.2.2.length=l.length/\(∀q,σ.1<=q->σ.2.2.getD q default=l.getD q default)/\σ.2.2.take σ.1=sM l (i+σ.2.1)/\nx<=n/\∃d,bo H2 o=some (.row 59 3 d (σ.2.2.map dy.av))) (fun σ=>l.length - σ.2.1) (i,1,l) cG
     ⟨Nat.le_refl _,by show i+1<=l.length;omega,Nat.le_refl _,Nat.le_refl _,rfl,fun _ _=>rfl,by dsimp only;rw[hsu,hdd],cU,⟨_,bt⟩⟩ ?_
    clear c0 e0 e1 hsu hdd r0' hn
    rintro⟨k,j,es⟩ H3 n ⟨hj1,hj,hik,hkj,hel,hsame,hdd,hn,⟨d1,r1'⟩⟩
    dsimp only at hj1 hj hik hkj hel hsame hdd r1' ⊢
    have a1:(es.map dy.av).length=l.length:=by simp[hel]
    by_cases hjl:j<l.length - i
    ·have e0:∀d,(es.map dy.av).getD (i+((j:Int)).toNat) d=(l.getD (i+j) default).av:=fun d=>by rw[Int.toNat_natCast,tW (by omega) d,hsame _ (by omega)]
     have e1:∀d,(es.map dy.av).getD (i+((j:Int) - 1).toNat) d=(l.getD (i+j - 1) default).av:=fun d=>by rw[show i+((j:Int) - 1).toNat=i+j - 1 by omega,tW (by omega) d,hsame _ (by omega)]
     have e2:∀d,(es.map dy.av).getD ((k:Int)).toNat d=(es.getD k default).av:=fun d=>by rw[Int.toNat_natCast];exact tW (by omega) d
     have c0:=same (i+j) (i+j - 1) (by omega) (by omega)
     have hsu:=ym l (k:=i+j) (by omega)
     by_cases he2:l.getD (i+j) default=l.getD (i+j - 1) default
     ·rw[decide_eq_true he2] at c0
      rw[if_pos he2] at hsu
      refine cz ?_
      exact⟨(k,j+1,es),by dsimp only;omega,cG,by dsimp only;omega,by dsimp only;omega,hik,by dsimp only;omega,hel,hsame,by dsimp only;rw[<-Nat.add_assoc,hsu];exact hdd,cU,⟨d1,bt⟩⟩
     ·rw[decide_eq_false he2] at c0
      rw[if_neg he2] at hsu
      refine cz ?_
      refine⟨(k+1,j+1,es.set k (l.getD (i+j) default)),by dsimp only;omega,cG,by dsimp only;omega,by dsimp only;omega,by dsimp only;omega,by dsimp only;omega,by simp[hel],fun q hq=> ?_, ?_,cU,⟨d1,by dsimp only;rw[List.map_set];exact bt⟩⟩
      ·have hq:k+1<=q:=hq
       dsimp only
       rw[getD_set_ne (by omega)];exact hsame q (by omega)
      ·dsimp only
       rw[<-Nat.add_assoc,hsu,vc (by omega),hdd]
    ·obtain rfl:j=l.length - i:=by omega
     rw[show i+(l.length - i)=l.length by omega] at hdd
     refine cz ?_
     refine⟨.inr ⟨_,rfl⟩, ?_⟩
     rw[Int.toNat_natCast]
     have hkl:k<=l.length:=by omega
     generalize hZ:List.replicate (l.length - k) (gl true [Value.slice none 0 0,Value.slice none 0 0,Value.bool false])=Z
     have hZl:Z.length=l.length - k:=by rw[<-hZ];simp
     show cw.dj ((o,some (.row 59 3 d1 ((es.map dy.av).take k++Z++(es.map dy.av).drop (k+(l.length - k)))))::H3) 5 (.sv o l.length 0 (k - 0))=_
     rw[VM (k:=4) (cq _ _ _) (by simp[hZl,hel];omega),List.drop_zero,Nat.sub_zero,List.append_assoc,List.take_append_of_le_length (by simp;omega),List.take_take,Nat.min_self,<-List.map_take,hdd,cu _ (tm _)]
   ·rw[decide_eq_false he] at c0
    rw[if_neg he] at hsu
    refine cz ?_
    refine⟨i+1,by omega,cG,by omega,by omega,cU,bt, ?_⟩
    rw[hsu,hdd,List.take_succ_eq_append_getElem hil,show l.getD i default=l[i] by simp[List.getD,hil]]
  ·obtain rfl:i=l.length:=by omega
   rw[List.take_length] at hdd
   refine cz ?_
   refine⟨.inl rfl, ?_⟩
   show cw.dj H2 5 (.sl o l.length)=_
   rw[dv (k:=4) r0' (by simp),cu _ (tm l),hdd]
def jU (u:bq) (l:List c8):List dy:=sM (iG fB (eO u l l.length)) (eO u l l.length).length
noncomputable def vw (u:bq) (most:Int):AV:=if(xN u most).1=0 then .df [qh (jU u (xN u most).2),i64 0] else .df [.sc (.slice none 0 0),i64 (xN u most).1]
theorem vx {u:bq} {l:List c8} (hr:cN u) (hf:jv u l) (hl:l.length<=65536) (k:Nat):∀e∈eO u l k,yV e:=by
 intro e he
 unfold eO at he
 obtain⟨f,hf1,hf2⟩:=List.mem_filterMap.1 he
 split at hf2
 ·cases hf2
  obtain⟨i,hi,rfl⟩:=List.mem_iff_getElem.1 (List.mem_of_mem_take hf1)
  obtain⟨h1,h2⟩:=hf.ok i hi
  rw[show l.getD i default=l[i] by simp[List.getD,hi]] at h1 h2
  have:=h1.ml
  have:=hr.yu
  refine⟨?_, ?_⟩
  ·show l[i].m.cC.length<_;omega
  ·show l[i].m.mem.length<_;omega
 ·cases hf2
set_option maxHeartbeats 2000000 in
theorem vz (u:bq) (hu:u.Wf) (most:Int):Pure Tryz.prog 6 [u.av,i64 most] (fun r=>r=vw u most):=by
 refine dO ?_ (by unfold vw;split<;>simp[cF,cT,cI])
 refine aJ X1 rfl ?_
 by_cases hr:cN u
 ·by_cases hm:1<=most/\most<=65536
  ·unfold vw
   rw[xO hr hm]
   refine cz ?_
   let l:=(jf u most.toNat).getD []
   let I:Nat->Hp->Prop:=fun k H=>(∃d,bo H 0=some (.row 25 3 d [u.av]))/\(∃d,bo H 3=some (.row 30 1 d [.sl 7 (eO u l k).length]))/\(∃d,bo H 7=some (.row 59 3 d ((eO u l k).map dy.av)))
   refine aG (R:=fun r H n=>8<=n/\Q8 u most I r H) (XG (b:=3) 59 3 (by omega) (by omega) (d:=gl false [.slice none 0 0]) (te:=30) ?_ fun H2 q1 q2 q3=> ?_) ?_
   ·exact bt
   ·refine(K6 u hu hr most hm _ [.pt 0 1 0 0, .pt 3 1 0 0] H2 8 I ?_ ?_ ?_).mono fun r H n h=>⟨h.1,h.short⟩
    ·exact⟨⟨_,(q3 0 (by omega) (by omega)).trans bt⟩,⟨_,q1⟩,⟨_,q2⟩⟩
    ·rintro k H H' ⟨⟨d0,p0⟩,⟨d1,p1⟩,⟨d2,p2⟩⟩ hk
     exact⟨⟨d0,(hk 0 (by omega)).trans p0⟩,⟨d1,(hk 3 (by omega)).trans p1⟩,⟨d2,(hk 7 (by omega)).trans p2⟩⟩
    ·intro l' hl' k H n hk hn ⟨p0,p1,p2⟩
     have hll:l=l':=by show(jf u most.toNat).getD []=l';rw[hl'];rfl
     rw[hll] at p1 p2
     obtain⟨hf,hlm,_⟩:=sY hu hr (by omega) hl'
     refine(R0 hr hf (by omega) hk (ub:=0) (ob:=3) (o:=7) (by omega) (by omega) (by omega) (by omega) p0 p1 p2).mono ?_
     rintro _ H' n' ⟨s1,s2,s3,s4⟩
     obtain⟨d0,p0⟩:=p0
     refine⟨⟨⟨d0,(s4 0 (by omega) (by omega) (by omega)).trans p0⟩, ?_, ?_⟩,s3,fun y y1 y2=>s4 y y2 (by omega) (by omega)⟩
     ·rw[hll];exact s1
     ·rw[hll];exact s2
   rintro r H' n' ⟨hn,hA⟩
   revert hA
   unfold Q8
   cases hs:jf u most.toNat with
   |none=>
    rintro rfl
    refine cz ?_
    exact⟨rfl⟩
   |some l'=>
    rintro⟨rfl,⟨d0,p0⟩,⟨d1,p1⟩,p2⟩
    have hll:l=l':=by show(jf u most.toNat).getD []=l';rw[hs];rfl
    rw[hll] at p1 p2
    obtain⟨hf,hlm,_⟩:=sY hu hr (by omega) hs
    have hin:=vx hr hf (by omega) l'.length
    have hlen:=tX u l' l'.length
    refine cz ?_
    refine aG (KC 7 (eO u l' l'.length) hin (by omega) _ _ p2 cU) ?_
    rintro r H3 n3 ⟨⟨d5,r5⟩,hn3,hk3⟩
    have r6:=(hk3 3 cU (by omega)).trans p1
    have hsl:(iG fB (eO u l' l'.length)).length=(eO u l' l'.length).length:=rF _ _
    refine cz ?_
    rw[<-hsl]
    refine aG (x8 7 (iG fB (eO u l' l'.length)) (by omega) (fun e he=>hin e ((pE _ _).mem_iff.1 he)) _ _ cU ⟨d5,r5⟩) ?_
    rintro r H4 n4 ⟨hform,hfz⟩
    rcases hform with rfl|⟨m,rfl⟩
    all_goals
     refine cz ?_
     refine⟨?_⟩
     dsimp only
     rw[if_pos rfl]
     show AV.df [cw.dj H4 5 _,i64 0]=_
     rw[hfz,hsl]
     rfl
  ·unfold vw
   rw[oZ hr hm]
   refine cz ?_
   refine aG (HU u hu hr most hm _ _ _ _) ?_
   rintro r H' n' ⟨rfl,hn,hk⟩
   refine cz ?_
   exact⟨rfl⟩
 ·unfold vw
  rw[K5 hr]
  refine cz ?_
  refine aG (RI u hu hr most _ _ _ _) ?_
  rintro r H' n' ⟨rfl,hn,hk⟩
  refine cz ?_
  exact⟨rfl⟩
instance YU (n:Int):Decidable (eW n):=inferInstanceAs (Decidable (_/\_))
theorem yI (a b:List dy) (ha:∀e∈a,yV e) (hl:a.length<=65536) (hl2:b.length<=65536):Pure Tryz.prog 7 [qh a,qh b] (fun r=>r=bl (decide (a=b))):=by
 have a0:(a.map dy.av).length=a.length:=by simp
 have a1:(b.map dy.av).length=b.length:=by simp
 refine aD X3 rfl ?_
 by_cases hne:a.length=b.length
 ·refine cz ?_
  refine aI (fun i:Nat=>[(0,qh a),(1,qh b),(5,i64 i)]) (fun i H n=>i<=a.length/\∀j:Nat,j<i->a.getD j default=b.getD j default) (fun i=>a.length - i) 0 cG ⟨Nat.zero_le _,fun j hj=>by omega⟩ ?_
  rintro i H n ⟨hi,hall⟩
  by_cases hil:i<a.length
  ·have e0:∀d,(a.map dy.av).getD ((i:Int)).toNat d=(a.getD i default).av:=fun d=>by rw[Int.toNat_natCast];exact dN dy.av a i d hil
   have e1:∀d,(b.map dy.av).getD ((i:Int)).toNat d=(b.getD i default).av:=fun d=>by rw[Int.toNat_natCast];exact dN dy.av b i d (by omega)
   obtain⟨q1,q2⟩:=ha _ (cR default hil)
   have c0:=ES (a.getD i default) (b.getD i default) q1 q2
   by_cases hc0:fB (a.getD i default) (b.getD i default)=0
   ·have r0:=hc0
    refine cz ?_
    exact⟨i+1,by omega,cG,by omega,fun j hj=>by
     by_cases e:j=i
     ·rw[e];exact(l7.zero _ _).1 hc0
     ·exact hall j (by omega)⟩
   ·refine cz ?_
    refine dZ (Eq.symm ?_)
    exact decide_eq_false fun e=>hc0 ((l7.zero _ _).2 (by rw[e]))
  ·refine cz ?_
   refine dZ (Eq.symm ?_)
   refine decide_eq_true ?_
   apply List.ext_getElem hne
   intro j q1 q2
   have:=hall j (by omega)
   simpa[List.getD,q1,q2] using this
 ·refine cz ?_
  refine dZ (Eq.symm ?_)
  exact decide_eq_false fun e=>hne (by rw[e])
theorem x9 (l:List dy):∀k,∀e∈sM l k,∃j,j<k/\e=l.getD j default
 |0,e,h=>by simp[sM] at h
 |1,e,h=>by simp only[sM,List.mem_cons,List.not_mem_nil,or_false] at h;exact⟨0,by omega,h⟩
 |k+2,e,h=>by
  rw[sM] at h
  split at h
  ·obtain⟨j,h1,h2⟩:=x9 l (k+1) e h
   exact⟨j,by omega,h2⟩
  ·rcases List.mem_append.1 h with h|h
   ·obtain⟨j,h1,h2⟩:=x9 l (k+1) e h
    exact⟨j,by omega,h2⟩
   ·simp only[List.mem_cons,List.not_mem_nil,or_false] at h
    exact⟨k+1,by omega,h⟩
theorem s9 (l:List dy):∀k j,j<k->l.getD j default∈sM l k
 |0,j,h=>by omega
 |1,j,h=>by
  obtain rfl:j=0:=by omega
  simp[sM]
 |k+2,j,h=>by
  rw[sM]
  split
  ·rename_i e
   by_cases hj:j=k+1
   ·rw[hj,e];exact s9 l (k+1) k (by omega)
   ·exact s9 l (k+1) j (by omega)
  ·by_cases hj:j=k+1
   ·rw[hj];exact List.mem_append.2 (.inr (by simp))
   ·exact List.mem_append.2 (.inl (s9 l (k+1) j (by omega)))
theorem yE {α:Type} {R:α->α->Prop} {l:List α} (h:l.Pairwise R) (d:α) {i j:Nat} (hi:i<j) (hj:j<l.length):R (l.getD i d) (l.getD j d):=by
 have:=List.pairwise_iff_getElem.1 h i j (by omega) hj hi
 simpa[List.getD,hj,show i<l.length by omega] using this
theorem o8 {l:List dy} (h:l.Pairwise fun x y=>w3 fB x y=true):∀k,k<=l.length->(sM l k).Pairwise fun x y=>fB x y<0
 |0,_=>by simp[sM]
 |1,_=>by simp[sM]
 |k+2,hk=>by
  rw[sM]
  split
  ·exact o8 h (k+1) (by omega)
  ·rename_i hne
   refine List.pairwise_append.2 ⟨o8 h (k+1) (by omega),by simp,fun a ha b hb=> ?_⟩
   simp only[List.mem_cons,List.not_mem_nil,or_false] at hb
   subst hb
   obtain⟨j,hj,rfl⟩:=x9 l _ a ha
   have h1:=yE h default (i:=j) (j:=k+1) (by omega) (by omega)
   have h2:w3 fB (l.getD j default) (l.getD k default)=true:=by
    by_cases e:j=k
    ·rw[e];simp[w3,(l7.zero _ _).2 rfl]
    ·exact yE h default (by omega) (by omega)
   have h3:=yE h default (i:=k) (j:=k+1) (by omega) (by omega)
   have h4:fB (l.getD j default) (l.getD (k+1) default)≠0:=fun e=>by
    have e1:=(l7.zero _ _).1 e
    rw[<-e1] at h3
    have:=l7.GI h3 h2
    exact hne (by rw[this,<-e1])
   simp only[w3,decide_eq_true_eq] at h1
   omega
theorem tY {u:bq} {l:List c8} {e:dy}:e∈eO u l l.length↔∃i,i<l.length/\(l.getD i default).m.stuck u=true/\e=(l.getD i default).m.end_ u:=by
 unfold eO
 rw[List.take_length,List.mem_filterMap]
 constructor
 ·rintro⟨f,hf,he⟩
  obtain⟨i,hi,rfl⟩:=List.mem_iff_getElem.1 hf
  split at he
  ·rename_i hs
   cases he
   refine⟨i,hi, ?_⟩
   rw[show l.getD i default=l[i] by simp[List.getD,hi]]
   exact⟨hs,rfl⟩
  ·cases he
 ·rintro⟨i,hi,hs,rfl⟩
  refine⟨l.getD i default,cR default hi, ?_⟩
  rw[if_pos hs]
theorem qi {u:bq} {l:List c8} {e:dy}:e∈jU u l↔e∈eO u l l.length:=by
 have hp:=pE fB (eO u l l.length)
 unfold jU
 constructor
 ·intro h
  obtain⟨j,hj,rfl⟩:=x9 _ _ _ h
  exact hp.mem_iff.1 (cR default (by rw[hp.length_eq];exact hj))
 ·intro h
  obtain⟨j,hj,rfl⟩:=List.mem_iff_getElem.1 (hp.mem_iff.2 h)
  have:=s9 (iG fB (eO u l l.length)) (eO u l l.length).length j (by rw[<-hp.length_eq];exact hj)
  rwa[show(iG fB (eO u l l.length)).getD j default=(iG fB (eO u l l.length))[j] by simp[List.getD,hj]] at this
theorem p6 (u:bq) (l:List c8):(jU u l).Pairwise fun x y=>fB x y<0:=by
 unfold jU
 refine o8 (l7.sorted _) _ ?_
 rw[rF]
 exact Nat.le_refl _
theorem IG (u:bq) (l:List c8):(jU u l).length<=l.length:=by
 unfold jU
 refine Nat.le_trans (F5 _ _) ?_
 unfold eO
 refine Nat.le_trans (List.length_filterMap_le _ _) ?_
 rw[List.take_length]
 exact Nat.le_refl _
theorem JA {l l':List c8} (h:l<+:l') {k:List UInt8} (hk:k∈jV l):k∈jV l':=by
 obtain⟨t,rfl⟩:=h
 simp only[jV,List.map_append,List.mem_append]
 exact .inl hk
theorem MM {l l':List c8} (h:l<+:l') {k:Nat} (hk:k<l.length):l'.getD k default=l.getD k default:=by
 obtain⟨t,rfl⟩:=h
 simp[List.getD,List.getElem?_append,hk]
def pQ (u:bq) (l:List c8) (k t:Nat):Prop:=(l.getD k default).m.l3 u t=0->gz ((l.getD k default).m.step u t).1∈jV l
theorem pQ.pre {u:bq} {l l':List c8} {k t:Nat} (h:pQ u l k t) (hk:k<l.length) (hp:l<+:l'):pQ u l' k t:=by
 unfold pQ at *
 rw[MM hp hk]
 exact fun hb=>JA hp (h hb)
theorem FI {u:bq} {most k t:Nat} {l l':List c8} (hk:k<l.length) (h:yO u most k t l=some l'):l<+:l'/\pQ u l' k t:=by
 unfold yO at h
 split at h
 ·rename_i h1
  cases h
  exact⟨List.prefix_refl _,fun hb=>absurd hb h1⟩
 split at h
 ·rename_i h2
  cases h
  exact⟨List.prefix_refl _,fun _=>h2⟩
 split at h
 ·cases h
 ·cases h
  refine⟨List.prefix_append _ _,fun hb=> ?_⟩
  rw[fq hk] at hb ⊢
  simp[jV]
theorem uf {u:bq} {most k:Nat}:∀{ts:List Nat} {l l':List c8},k<l.length->yG u most k ts l=some l'->l<+:l'/\∀t∈ts,pQ u l' k t
 |[],l,l',hk,h=>by cases h;exact⟨List.prefix_refl _,fun t ht=>by cases ht⟩
 |t::ts,l,l',hk,h=>by
  rw[yG] at h
  split at h
  ·cases h
  ·rename_i l2 h2
   obtain⟨g1,g2⟩:=FI hk h2
   have hk2:=Nat.lt_of_lt_of_le hk g1.length_le
   obtain⟨q1,q2⟩:=uf hk2 h
   refine⟨g1.trans q1,fun x hx=> ?_⟩
   rcases List.mem_cons.1 hx with rfl|hx
   ·exact g2.pre hk2 q1
   ·exact q2 x hx
theorem tD {u:bq} {most:Nat}:∀{n k:Nat} {l l':List c8},vM u most n k l=some l'->(∀j,j<k->j<l.length->∀t,t<u.br.length->pQ u l j t)->l'.length<=k+n->l<+:l'/\∀j,j<l'.length->∀t,t<u.br.length->pQ u l' j t
 |0,k,l,l',h,hl,hn=>by
  cases h
  exact⟨List.prefix_refl _,fun j hj=>hl j (by omega) hj⟩
 |n+1,k,l,l',h,hl,hn=>by
  rw[vM] at h
  split at h
  ·rename_i hk
   split at h
   ·cases h
   ·rename_i l2 h2
    obtain⟨g1,g2⟩:=uf hk h2
    obtain⟨q1,q2⟩:=tD h (fun j hj hj2 t ht=>by
     by_cases e:j=k
     ·rw[e];exact g2 t (List.mem_range.2 ht)
     ·have hjl:j<l.length:=by omega
      exact(hl j (by omega) hjl t ht).pre hjl g1) (by omega)
    exact⟨g1.trans q1,q2⟩
  ·rename_i hk
   cases h
   exact⟨List.prefix_refl _,fun j hj=>hl j (by omega) hj⟩
theorem CT {u:bq} {most:Nat} {l:List c8} (h:jf u most=some l) (hl:l.length<=most):∀j,j<l.length->∀t,t<u.br.length->pQ u l j t:=
 (tD h (fun j hj=>by omega) (by omega)).2
end Go.Proofs.YtekfmjjmihomlaaGreatDoor
namespace Go.Proofs.YtekfmjjmihomlaaGreatDoor
open Go Go.cw Go.Proofs
open Go.Lib (decDigits itoa)
set_option linter.unusedSimpArgs false
set_option linter.unusedVariables false
theorem xc (n:Nat):∀d∈decDigits n,48<=d.toNat/\d.toNat<=57:=by
 induction n using Nat.strongRecOn with
 |_ n ih=>
  intro d hd
  by_cases h:n<10
  ·rw[decDigits,dif_pos h] at hd
   simp only[List.mem_cons,List.not_mem_nil,or_false] at hd
   subst hd
   rw[UInt8.toNat_ofNat']
   omega
  ·rw[decDigits.eq_def n,dif_neg h] at hd
   rcases List.mem_append.1 hd with hd|hd
   ·exact ih (n /10) (by omega) d hd
   ·simp only[List.mem_cons,List.not_mem_nil,or_false] at hd
    subst hd
    rw[UInt8.toNat_ofNat']
    omega
def KO (l:List UInt8):Nat:=l.foldl (fun a d=>a * 10+(d.toNat - 48)) 0
theorem qW (n:Nat):KO (decDigits n)=n:=by
 induction n using Nat.strongRecOn with
 |_ n ih=>
  by_cases h:n<10
  ·rw[decDigits,dif_pos h]
   simp only[KO,List.foldl_cons,List.foldl_nil,UInt8.toNat_ofNat']
   omega
  ·rw[decDigits.eq_def n,dif_neg h]
   unfold KO
   rw[List.foldl_append]
   have:=ih (n /10) (by omega)
   unfold KO at this
   rw[this]
   simp only[List.foldl_cons,List.foldl_nil,UInt8.toNat_ofNat']
   omega
theorem VE (n:Nat):decDigits n≠[]:=by
 by_cases h:n<10
 ·rw[decDigits,dif_pos h];simp
 ·rw[decDigits.eq_def n,dif_neg h];simp
theorem wZ (x:Int):∀d∈itoa x,d.toNat=45\/48<=d.toNat/\d.toNat<=57:=by
 intro d hd
 unfold itoa at hd
 split at hd
 ·rcases List.mem_cons.1 hd with rfl|hd
  ·exact .inl rfl
  ·exact .inr (xc _ d hd)
 ·exact .inr (xc _ d hd)
theorem xm (x:Int):itoa x≠[]:=by
 unfold itoa
 split
 ·simp
 ·exact VE _
theorem NH {x y:Int} (h:itoa x=itoa y):x=y:=by
 have h45:∀n:Nat,∀l:List UInt8,decDigits n≠45::l:=fun n l e=>by
  have:=xc n 45 (by rw[e];simp)
  have:(45:UInt8).toNat=45:=rfl
  omega
 unfold itoa at h
 split at h<;>split at h
 ·have e:=congrArg KO (List.cons.inj h).2
  rw[qW,qW] at e
  omega
 ·exact absurd h.symm (h45 _ _)
 ·exact absurd h (h45 _ _)
 ·have e:=congrArg KO h
  rw[qW,qW] at e
  omega
theorem LV {c:UInt8}:∀{a b r s:List UInt8},c∉a->c∉b->a++c::r=b++c::s->a=b/\r=s
 |[],[],r,s,_,_,h=>⟨rfl,by simpa using h⟩
 |[],y::b,r,s,_,hb,h=>by
  simp only[List.nil_append,List.cons_append,List.cons.injEq] at h
  exact absurd (by rw[h.1];simp) hb
 |x::a,[],r,s,ha,_,h=>by
  simp only[List.nil_append,List.cons_append,List.cons.injEq] at h
  exact absurd (by rw[h.1];simp) ha
 |x::a,y::b,r,s,ha,hb,h=>by
  simp only[List.cons_append,List.cons.injEq] at h
  obtain⟨h1,h2⟩:=LV (fun e=>ha (List.mem_cons_of_mem _ e)) (fun e=>hb (List.mem_cons_of_mem _ e)) h.2
  exact⟨by rw[h.1,h1],h2⟩
theorem G7 (x:Int) {c:UInt8} (hc:c.toNat=44\/c.toNat=58\/c.toNat=124):c∉itoa x:=fun h=>by
 have:=wZ x c h
 omega
theorem sh {c:UInt8} (hc:c.toNat=44\/c.toNat=58\/c.toNat=124) {x y:Int} {r s:List UInt8} (h:eU x [c]++r=eU y [c]++s):x=y/\r=s:=by
 unfold eU at h
 rw[List.append_assoc,List.append_assoc] at h
 obtain⟨h1,h2⟩:=LV (G7 x hc) (G7 y hc) h
 exact⟨NH h1,h2⟩
theorem G3 {x:Int} {e r s:List UInt8} (h:(124:UInt8)::r=eU x e++s):False:=by
 unfold eU at h
 have h1:=xm x
 cases hx:itoa x with
 |nil=>exact h1 hx
 |cons d l=>
  rw[hx] at h
  simp only[List.cons_append,List.cons.injEq] at h
  have h2:=wZ x d (by rw[hx];simp)
  rw[<-h.1] at h2
  have:(124:UInt8).toNat=124:=rfl
  omega
theorem qY:∀{l m:List Int} {r s:List UInt8},l.flatMap (fun w=>eU w [44])++124::r=m.flatMap (fun w=>eU w [44])++124::s->l=m/\r=s
 |[],[],r,s,h=>⟨rfl,by simpa using h⟩
 |[],y::m,r,s,h=>by
  rw[List.flatMap_cons,List.append_assoc] at h
  exact(G3 h).elim
 |x::l,[],r,s,h=>by
  rw[List.flatMap_cons,List.append_assoc] at h
  exact(G3 h.symm).elim
 |x::l,y::m,r,s,h=>by
  rw[List.flatMap_cons,List.flatMap_cons,List.append_assoc,List.append_assoc] at h
  obtain⟨h1,h2⟩:=sh (.inl rfl) h
  obtain⟨h3,h4⟩:=qY h2
  exact⟨by rw[h1,h3],h4⟩
theorem UN:∀{l m:List cy},l.flatMap yC=m.flatMap yC->l=m
 |[],[],_=>rfl
 |[],y::m,h=>by
  rw[List.flatMap_cons] at h
  have:=congrArg List.length h
  have h1:=xm y.cn
  have h2:0<(itoa y.cn).length:=List.length_pos_iff.2 h1
  simp[yC,eU] at this
  try omega
 |x::l,[],h=>by
  rw[List.flatMap_cons] at h
  have:=congrArg List.length h
  have h1:=xm x.cn
  have h2:0<(itoa x.cn).length:=List.length_pos_iff.2 h1
  simp[yC,eU] at this
  try omega
 |x::l,y::m,h=>by
  rw[List.flatMap_cons,List.flatMap_cons] at h
  rw[show yC x=eU x.cn [58]++eU x.word [44] from rfl,show yC y=eU y.cn [58]++eU y.word [44] from rfl,List.append_assoc,List.append_assoc] at h
  obtain⟨h1,h2⟩:=sh (.inr (.inl rfl)) h
  obtain⟨h3,h4⟩:=sh (.inl rfl) h2
  have h5:=UN h4
  obtain⟨a,b⟩:=x
  obtain⟨c,d⟩:=y
  simp only at h1 h3
  rw[h1,h3,h5]
theorem YH {m n:MS} {t:Nat} {r s:List UInt8} (h:uz m t++r=uz n t++s):m.at_.getD t 0=n.at_.getD t 0/\m.bw.getD t []=n.bw.getD t []/\r=s:=by
 unfold uz at h
 simp only[List.append_assoc] at h
 obtain⟨h1,h2⟩:=sh (.inl rfl) h
 obtain⟨h3,h4⟩:=qY h2
 exact⟨h1,h3,h4⟩
theorem QQ {m n:MS}:∀{ts:List Nat} {r s:List UInt8},ts.flatMap (uz m)++r=ts.flatMap (uz n)++s->(∀t∈ts,m.at_.getD t 0=n.at_.getD t 0/\m.bw.getD t []=n.bw.getD t [])/\r=s
 |[],r,s,h=>⟨fun t ht=>(by cases ht),h⟩
 |t::ts,r,s,h=>by
  rw[List.flatMap_cons,List.flatMap_cons,List.append_assoc,List.append_assoc] at h
  obtain⟨h1,h2,h3⟩:=YH h
  obtain⟨h4,h5⟩:=QQ h3
  refine⟨fun x hx=> ?_,h5⟩
  rcases List.mem_cons.1 hx with rfl|hx
  ·exact⟨h1,h2⟩
  ·exact h4 x hx
theorem zI {α:Type} (d:α) {l m:List α} (hl:l.length=m.length) (h:∀t,t<l.length->l.getD t d=m.getD t d):l=m:=by
 apply List.ext_getElem hl
 intro i h1 h2
 have:=h i h1
 simpa[List.getD,h1,h2] using this
theorem NI {u:bq} {m n:MS} (hm:ep u m) (hn:ep u n) (h:gz m=gz n):m=n:=by
 unfold gz at h
 rw[hm.mK,hn.mK] at h
 simp only[List.append_assoc] at h
 obtain⟨h1,h2⟩:=QQ h
 obtain⟨h3,h4⟩:=qY h2
 obtain⟨h5,h6⟩:=qY h4
 have h7:=UN h6
 have h8:m.at_=n.at_:=zI 0 (by rw[hm.mK,hn.mK]) fun t ht=>(h1 t (List.mem_range.2 (by rw[<-hm.mK];exact ht))).1
 have h9:m.bw=n.bw:=zI [] (by rw[hm.sl,hn.sl]) fun t ht=>(h1 t (List.mem_range.2 (by rw[<-hm.sl];exact ht))).2
 obtain⟨a,b,c,d,e⟩:=m
 obtain⟨a',b',c',d',e'⟩:=n
 simp only at h3 h5 h7 h8 h9
 rw[h3,h5,h7,h8,h9]
end Go.Proofs.YtekfmjjmihomlaaGreatDoor
namespace Go.Proofs.YtekfmjjmihomlaaGreatDoor
open Go Go.cw Go.Proofs
set_option linter.unusedSimpArgs false
set_option linter.unusedVariables false
theorem PI (u:bq) (hu:u.Wf) (hr:cN u):ep u (eC u):=GU u hr (fun d hd=>(hu.shared d hd).word) fun t ht=>(hr.gr ht).len.1
theorem DL {u:bq} (hu:u.Wf) (hr:cN u) {most:Nat} {l:List c8} (hs:jf u most=some l) (hf:jv u l) (hlm:l.length<=most) {i t:Nat} (hi:i<l.length) (ht:t<u.br.length) (hb:(l.getD i default).m.l3 u t=0):∃j,j<l.length/\((l.getD i default).m.step u t).1=(l.getD j default).m:=by
 obtain⟨f,hf1,hf2⟩:=List.mem_map.1 (CT hs hlm i hi t ht hb)
 obtain⟨j,hj,rfl⟩:=List.mem_iff_getElem.1 hf1
 rw[show l[j]=l.getD j default by simp[List.getD,hj]] at hf2
 have h1:=(hf.ok i hi).1
 exact⟨j,hj,NI (nz hu hr h1 ht (jH h1 ht hb).1) (hf.ok j hj).1 hf2.symm⟩
theorem oA {u:bq} {m:MS} (h:ep u m):m.stuck u=true↔∀t,t<u.br.length->m.l3 u t≠0:=by
 unfold MS.stuck
 rw[h.mK,List.all_eq_true]
 constructor
 ·exact fun h t ht=>of_decide_eq_true (h t (List.mem_range.2 ht))
 ·exact fun h t ht=>decide_eq_true (h t (List.mem_range.1 ht))
end Go.Proofs.YtekfmjjmihomlaaGreatDoor
