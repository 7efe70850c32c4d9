import Derived.Shelf.SlSortCmp.WholeK
import Derived.Test.YtekfmjjmihomlaaGreatProg
import Derived.Test.YtekfmjjmihomlaaGreatM36
import Derived.Test.YtekfmjjmihomlaaGreatM37
import Derived.Test.YtekfmjjmihomlaaGreatM35
import Derived.Shelf.SlSortCmp.NoneTotal
import Derived.Test.YtekfmjjmihomlaaGreatM16
import Derived.Test.YtekfmjjmihomlaaGreatRows
section
/- The library's sort by a comparison at this program, as a tool of the kit laid it in plain words. -/
namespace Go.Proofs
open Go.Shelf
def Tryz.zN:Go.Shelf.Ren:=⟨fun|6=>37|15=>74|14=>73|28=>112|29=>113|20=>104|21=>105|22=>106|23=>107|24=>108|25=>109|26=>110|27=>111|46=>138|47=>139|48=>140|49=>141|50=>142|57=>154|n=>n,fun|22=>30|24=>40|25=>41|3=>3|39=>136|0=>0|53=>171|55=>173|4=>4|46=>165|45=>164|50=>131|5=>5|9=>9|66=>197|70=>201|76=>216|77=>217|n=>n,fun|n=>n⟩
theorem Tryz.HK:Go.Proofs.SlLaysF0.n6 Tryz.prog Tryz.zN:={
 mixed:=by kernel_rfl
 f6:=⟨Tryz.f37.name,by decide,Tryz.func37.trans (congrArg some (by kernel_rfl))⟩
 f14:=⟨Tryz.f73.name,by decide,Tryz.func73.trans (congrArg some (by kernel_rfl))⟩
 f15:=Tryz.func74.trans (congrArg some (by kernel_rfl))
 f20:=⟨Tryz.f104.name,by decide,Tryz.func104.trans (congrArg some (by kernel_rfl))⟩
 f21:=⟨Tryz.f105.name,by decide,Tryz.func105.trans (congrArg some (by kernel_rfl))⟩
 f22:=⟨Tryz.f106.name,by decide,Tryz.func106.trans (congrArg some (by kernel_rfl))⟩
 f23:=⟨Tryz.f107.name,by decide,Tryz.func107.trans (congrArg some (by kernel_rfl))⟩
 f24:=⟨Tryz.f108.name,by decide,Tryz.func108.trans (congrArg some (by kernel_rfl))⟩
 f25:=⟨Tryz.f109.name,by decide,Tryz.func109.trans (congrArg some (by kernel_rfl))⟩
 f26:=⟨Tryz.f110.name,by decide,Tryz.func110.trans (congrArg some (by kernel_rfl))⟩
 f27:=⟨Tryz.f111.name,by decide,Tryz.func111.trans (congrArg some (by kernel_rfl))⟩
 f28:=Tryz.func112.trans (congrArg some (by kernel_rfl))
 f29:=Tryz.func113.trans (congrArg some (by kernel_rfl))
 f46:=⟨Tryz.f138.name,by decide,Tryz.func138.trans (congrArg some (by kernel_rfl))⟩
 f47:=Tryz.func139.trans (congrArg some (by kernel_rfl))
 f48:=Tryz.func140.trans (congrArg some (by kernel_rfl))
 f49:=⟨Tryz.f141.name,by decide,Tryz.func141.trans (congrArg some (by kernel_rfl))⟩
 f50:=⟨Tryz.f142.name,by decide,Tryz.func142.trans (congrArg some (by kernel_rfl))⟩
 f57:=⟨Tryz.f154.name,by decide,Tryz.func154.trans (congrArg some (by kernel_rfl))⟩
 t0:=Tryz.underlying0
 a0:=Tryz.isAgg0
 z0:=Tryz.sizeOf0
 v0:=Tryz.zeroValue0
 t3:=Tryz.underlying3
 a3:=Tryz.isAgg3
 z3:=Tryz.sizeOf3
 v3:=Tryz.zeroValue3
 t4:=Tryz.underlying4
 a4:=Tryz.isAgg4
 z4:=Tryz.sizeOf4
 v4:=Tryz.zeroValue4
 t5:=Tryz.underlying5
 a5:=Tryz.isAgg5
 z5:=Tryz.sizeOf5
 v5:=Tryz.zeroValue5
 t9:=Tryz.underlying9
 a9:=Tryz.isAgg9
 z9:=Tryz.sizeOf9
 v9:=Tryz.zeroValue9
 t22:=Tryz.underlying30
 a22:=Tryz.isAgg30
 z22:=Tryz.sizeOf30
 v22:=Tryz.zeroValue30
 t25:=Tryz.underlying41
 a25:=Tryz.isAgg41
 z25:=Tryz.sizeOf41
 v25:=Tryz.zeroValue41
 t39:=Tryz.underlying136
 a39:=Tryz.isAgg136
 z39:=Tryz.sizeOf136
 v39:=Tryz.zeroValue136
 t45:=Tryz.underlying164
 a45:=Tryz.isAgg164
 z45:=Tryz.sizeOf164
 v45:=Tryz.zeroValue164
 t46:=Tryz.underlying165
 a46:=Tryz.isAgg165
 z46:=Tryz.sizeOf165
 v46:=Tryz.zeroValue165
 t50:=Tryz.underlying131
 a50:=Tryz.isAgg131
 z50:=Tryz.sizeOf131
 v50:=Tryz.zeroValue131
 t53:=Tryz.underlying171
 a53:=Tryz.isAgg171
 z53:=Tryz.sizeOf171
 v53:=Tryz.zeroValue171
 t55:=Tryz.underlying173
 a55:=Tryz.isAgg173
 z55:=Tryz.sizeOf173
 v55:=Tryz.zeroValue173
 t66:=Tryz.underlying197
 a66:=Tryz.isAgg197
 z66:=Tryz.sizeOf197
 v66:=Tryz.zeroValue197
 t70:=Tryz.underlying201
 a70:=Tryz.isAgg201
 z70:=Tryz.sizeOf201
 v70:=Tryz.zeroValue201
 t76:=Tryz.underlying216
 a76:=Tryz.isAgg216
 z76:=Tryz.sizeOf216
 v76:=Tryz.zeroValue216
 t77:=Tryz.underlying217
 a77:=Tryz.isAgg217
 z77:=Tryz.sizeOf217
 v77:=Tryz.zeroValue217 }
end Go.Proofs
end
section
/- The library's sort by a comparison, as the walks take it: whatever the struct. -/
namespace Go.Proofs.YtekfmjjmihomlaaGreat
open Go Go.cO Go.Proofs Go.RowKit Go.Sort
set_option linter.unusedSimpArgs false
set_option linter.unusedVariables false
theorem uy {w w':World} (h:Go.RowKit.Below w.heap.size w w') (hd:w.drawn≤w'.drawn):∃q os',w'=grow (w.drewN q) os':=by
 refine⟨w'.drawn - w.drawn,w'.heap.extract w.heap.size w'.heap.size, ?_⟩
 obtain⟨hp,tp,dr,os,ou⟩:=w
 obtain⟨hp',tp',dr',os',ou'⟩:=w'
 have h1:=h.os
 have h2:=h.tape
 have h3:=h.output
 have h4:=h.size
 have h5:=h.block
 dsimp only at *
 subst h1 h2 h3
 simp only[grow,World.drewN,World.mk.injEq,true_and,and_true]
 refine⟨?_,by omega⟩
 apply Array.ext_getElem?
 intro i
 rw[Array.getElem?_append]
 split
 ·rename_i hi;exact h5 i hi
 ·rename_i hi
  rw[Array.getElem?_extract]
  split
  ·congr 1;omega
  ·rw[Array.getElem?_eq_none (by omega)]
def El {S:Type} (cells:S→List AV) (ok:S→Prop) (w:World) (M:Nat→Prop):Type:={ x:S×List Value //ok x.1∧cL (base w M) (cells x.1) x.2 }
section
variable {S:Type} {cells:S→List AV} {ok:S→Prop} {k:Nat} {cf:S→S→Int}
structure uq (P:Program) (g:Nat) (cells:S→List AV) (k:Nat) (ok:S→Prop) (cf:S→S→Int):Prop where
 len:∀s,(cells s).length=k
 pos:0<k
 fit:∀s,cK 0 (cells s)
 one:∀s,fb (cells s)=true
 cmp:∀a b,ok a→ok b→Pure P g [.agg (cells a), .agg (cells b)] (fun r=>r= .sc (.int .i64 (cf a b)))
 ord:iO cf
theorem I6 (h:iO cf) {α:Type} (f:α→S):SWO (ltOf fun x y:α=>cf (f x) (f y)) where
 irrefl x:=by
  have:=(h.zero (f x) (f x)).2 rfl
  simp[ltOf,this]
 trans x y z h1 h2:=by
  simp only[ltOf,decide_eq_true_eq] at *
  exact h.tr _ _ _ h1 h2
 ntrans x y z h1 h2:=by
  simp only[ltOf,decide_eq_false_iff_not] at *
  have n1:=h.neg (f x) (f y)
  have n2:=h.neg (f y) (f z)
  have n3:=h.neg (f x) (f z)
  by_cases e1:cf (f x) (f y)=0
  ·rw[(h.zero _ _).1 e1];exact h2
  ·by_cases e2:cf (f y) (f z)=0
   ·rw[←(h.zero _ _).1 e2];exact h1
   ·have:=h.tr (f z) (f y) (f x) (by omega) (by omega)
    omega
variable {w:World} {M:Nat→Prop} {blk off:Nat}
theorem jr {α:Type} [Inhabited α] {enc:α→List Value} {n i:Nat} {os:Array Obj} (d:Array α) (hi:i<w.heap.size) (hne:i≠blk):(sortWorldK enc k w blk off n d os).heap[i]?=w.heap[i]?:=by
 unfold sortWorldK putRowK
 rw[heap_grow_old _ _ (by simpa[putRow,mapBlock,Sort.ahead] using hi)]
 simp[putRow,mapBlock,Sort.ahead,Array.getElem?_modify,Ne.symm hne]
theorem pD {α:Type} [Inhabited α] {enc:α→List Value} {n:Nat} {os:Array Obj} {cur:Array Value} {e:TypeId} {fr:Nat×Nat} (d:Array α) (hb:w.heap[blk]?=some (.cells cur e fr)):
 (sortWorldK enc k w blk off n d os).heap[blk]?=some (.cells (putCells id off (flatK enc k d) cur) e fr):=by
 have hg:blk<w.heap.size:=(Array.getElem?_eq_some_iff.1 hb).1
 unfold sortWorldK putRowK
 rw[heap_grow_old _ _ (by simpa[putRow,mapBlock,Sort.ahead] using hg)]
 simp[putRow,mapBlock,Sort.ahead,Array.getElem?_modify,hb,onCells]
theorem vD {P:Program} {g:Nat} (h:uq P g cells k ok cf) (hM:uk w M) (hblk:M blk) (size:Nat) [Inhabited (El cells ok w M)]:
 CmpLays P g #[] (fun x:El cells ok w M=>x.1.2) k (fun x y=>cf x.1.1 y.1.1) blk off size w:=by
 intro m os dk _ x y
 have hsz:w.heap.size≤(sortWorldK (fun x:El cells ok w M=>x.1.2) k w blk off m dk os).heap.size:=size_sortWorldK_c _ _ _ _ _ _ _ _
 have hne:=fun(i:Nat) (hi:i<w.heap.size) (hn:i≠blk)=>jr (k:=k) (off:=off) (enc:=fun x:El cells ok w M=>x.1.2) (n:=m) (os:=os) dk hi hn
 generalize sortWorldK (fun x:El cells ok w M=>x.1.2) k w blk off m dk os=W at *
 have hle:(base w M).le (base W M):=by
  refine⟨fun _ h=>h,hsz,fun b hb hlt=> ?_,fun b hb=>hb.elim⟩
  rw[j5] at hb ⊢
  exact⟨hne b hlt fun e=>hb (e▸hblk),hb⟩
 have hF:uk W M:=by
  refine⟨fun b hb=>Nat.lt_of_lt_of_le (hM.lt b hb) hsz,fun t ht=> ?_⟩
  obtain⟨t1,t2,t3⟩:=hM.LH t ht
  refine⟨t1,Nat.lt_of_lt_of_le t2 hsz,fun j hj=> ?_⟩
  rw[←t3 j hj]
  exact World.cell?_of_block (a:=⟨t.1,j,none⟩) (hne _ t2 fun e=>t1 (by rw[show t.1=blk from e];exact hblk))
 obtain⟨⟨xs,xv⟩,x1,x2⟩:=x
 obtain⟨⟨ys,yv⟩,y1,y2⟩:=y
 have hc:=D0 ((h.cmp xs ys x1 y1).2 M W [.agg xv.toArray, .agg yv.toArray] hF (by
  rw[cL]
  refine⟨_,_,rfl,by rw[VR];exact⟨_,rfl,by simpa using cL.cD hle x2⟩, ?_⟩
  rw[cL]
  refine⟨_,_,rfl,by rw[VR];exact⟨_,rfl,by simpa using cL.cD hle y2⟩, ?_⟩
  rw[cL]))
 refine hc.mono ?_
 rintro e w' ⟨⟨v,r,rfl,rfl,_,hv,hb⟩,hd⟩
 rw[VR] at hv
 exact⟨by rw[hv],uy hb (hd v rfl)⟩
theorem sr {α:Type} [Inhabited α] {enc:α→List Value} {d:Array α} (hk:∀x,(enc x).length=k) (hpos:0<k) (h:∀i c,i<d.size→c<k→w.cell? ⟨blk,off+i * k+c,none⟩=some (enc d[i]!)[c]!∧w.frozen? ⟨blk,off+i * k+c,none⟩=false):HoldsK enc k w blk off d:=by
 intro t ht
 rw[size_flatK] at ht
 have e1:t /k<d.size:=(Nat.div_lt_iff_lt_mul hpos).2 ht
 have e2:t%k<k:=Nat.mod_lt _ hpos
 have:=h (t /k) (t%k) e1 e2
 rw[Nat.add_assoc,show t /k * k+t%k=t by rw[Nat.mul_comm];exact Nat.div_add_mod t k] at this
 rw[get_flatK _ _ _ _ ht]
 exact this
set_option maxHeartbeats 2000000 in
theorem wU {P:Program} {ρ:Go.Shelf.Ren} (L:SlLaysF0.n6 P ρ) (aE:∀w,(isAgg (ρ.t 24)).run P w= .ok true w) (zE:∀w,(Go.sizeOf (ρ.t 24)).run P w= .ok k w) (hen:gO P (ρ.f 6)) {g:Nat} (eg:∀args w,(callFunc g args).run P w= .ok (.enter g args) w)
 (h:uq P g cells k ok cf) [Inhabited S] (b:Nat) (l:List S) (hok:∀s∈l,ok s) (e:TypeId) (d:AV) (H:Hp) (nx:Nat) (hb:bd H b=some (.row e k d (l.map fun s=> .agg (cells s)))) (hlt:b<nx) (hl:l.length<4611686018427387904) (h0:l≠[]):
 cC P (ρ.f 6) [.sl b l.length, .fn (.func g) [] []] H nx (fun r H' n=>r= .dY []∧n=nx∧H'=(b,some (.row e k d ((fV cf l).map fun s=> .agg (cells s))))::H):=by
 refine⟨hen,fun w0 c vs hS hH hU hv=> ?_⟩
 rw[cL] at hv
 obtain⟨v,vs',rfl,hv,hv2⟩:=hv
 rw[cL] at hv2
 obtain⟨v2,vs2,rfl,hv2,hv3⟩:=hv2
 rw[cL] at hv3
 subst hv3
 rw[VR] at hv2
 obtain⟨ps,qs,rfl,hp1,hp2⟩:=hv2
 rw[cL] at hp1 hp2
 obtain rfl:ps=#[]:=Array.toList_eq_nil_iff.1 hp1
 obtain rfl:qs=#[]:=Array.toList_eq_nil_iff.1 hp2
 rw[VR] at hv
 obtain⟨hUb,a,cap,rfl,hr⟩:=hv
 have hcb:c.H b=some (.row e k d (l.map fun s=> .agg (cells s))):=by rw[hH];exact hb
 obtain⟨_,hr2⟩:=hr _ _ _ _ hcb
 have hr3:=hr2 (by simp)
 have hpos:=h.pos
 obtain⟨_,_,hor⟩:=hS.jZ b _ _ _ _ hcb (.inr hpos)
 have hln:0<l.length:=List.length_pos_iff.2 h0
 rcases hor with⟨_,hes⟩|⟨blk,o,z,hρ,hlow,⟨arr,harr,hsz⟩,hlz,hrow⟩
 ·exact absurd (List.map_eq_nil_iff.1 hes) h0
 rcases hr3 with⟨h1,_,_⟩|⟨blk',o',z',h1,rfl,hc1,hc2,hc3,_⟩
 ·rw[hρ] at h1;cases h1
 rw[hρ] at h1
 cases h1
 have hblk:blk<c.w.heap.size:=(Array.getElem?_eq_some_iff.1 harr).1
 rw[List.length_map] at hlz
 have hMb:c.M blk:= .inr ⟨b,_,o,z,hcb,hρ⟩
 -- the elements as they stand
 have hel:∀i,i<l.length→∃x:El cells ok c.w c.M,x.1.1=l.getD i default∧∀j,j<k→c.w.cell? ⟨blk,o+i * k+j,none⟩=x.1.2[j]?:=fun i hi=>by
  obtain⟨v,⟨hv1,hv2,_⟩,hv3⟩:=dF hrow i (by simpa using hi)
  rw[dN (f:=fun s=>AV.agg (cells s)) (h:=hi)] at hv3
  rw[VR] at hv3
  obtain⟨us,rfl,hus⟩:=hv3
  refine⟨⟨(l.getD i default,us.toList),hok _ (cY default hi),cL.lG (fun _ hb=>hb) (h.fit _) hus⟩,rfl,fun j hj=> ?_⟩
  rw[hv2 j hj]
  simp[Value.cells]
 haveI:Inhabited (El cells ok c.w c.M):=⟨(hel 0 hln).choose⟩
 obtain⟨dl,hdl,hdr⟩:=j7 (List.range l.length) (R:=fun i (x:El cells ok c.w c.M)=>x.1.1=l.getD i default∧∀j,j<k→c.w.cell? ⟨blk,o+i * k+j,none⟩=x.1.2[j]?) (fun i hi=>hel i (by simpa using hi))
 simp only[List.length_range] at hdl
 have hdg:∀i (hi:i<dl.length),dl[i].1.1=l.getD i default∧∀j,j<k→c.w.cell? ⟨blk,o+i * k+j,none⟩=dl[i].1.2[j]?:=fun i hi=>hdr i i _ (by rw[List.getElem?_range (by omega)]) (List.getElem?_eq_getElem hi)
 have hxl:∀x:El cells ok c.w c.M,x.1.2.length=k:=fun x=>by rw[x.2.2.length,h.len]
 have hHolds:HoldsK (fun x:El cells ok c.w c.M=>x.1.2) k c.w blk o dl.toArray:=by
  refine sr hxl hpos fun i j hi hj=> ?_
  have hi':i<dl.length:=by simpa using hi
  have:=(hdg i hi').2 j hj
  refine⟨?_, ?_⟩
  ·rw[this]
   have hj':j<dl[i].1.2.length:=by rw[hxl];exact hj
   simp[hi',hj']
  ·simp only[World.frozen?,harr]
   simp
 have hones:∀x:El cells ok c.w c.M,∀v∈x.1.2,v.oneCell'=true:=fun x=>x.2.2.CU (h.one _)
 have hcon:=AnyQ.slices_SortFunc L k aE zE (fun x:El cells ok c.w c.M=>x.1.2) hxl hones (fun x y=>cf x.1.1 y.1.1) (I6 h.ord fun x:El cells ok c.w c.M=>x.1.1) g #[] blk o cap dl.toArray c.w eg (vD h hS.fit hMb _) hHolds hblk (by simp;omega)
 rw[show dl.toArray.size=l.length by simp[hdl]] at hcon
 refine hcon.mono ?_
 rintro en w' ⟨rfl,d',n,os,⟨hpz,_,hpp⟩,hss,hw'⟩
 have hdz:d'.size=l.length:=by rw[hpz];simp[hdl]
 -- what stands in the row now
 have hl1:dl.map (fun x=>x.1.1)=l:=by
  apply List.ext_getElem (by simp[hdl])
  intro i q1 q2
  have:=(hdg i (by simpa using q1)).1
  rw[List.getElem_map,this]
  simp[List.getD,q2]
 have hperm:(d'.toList.map fun x=>x.1.1).Perm l:=by
  have h2:d'.toList.Perm dl:=by
   have e1:d'.extract 0 l.length=d':=by rw[←hdz];exact Array.extract_size
   have e2:dl.toArray.extract 0 l.length=dl.toArray:=by rw[←hdl,←List.size_toArray];exact Array.extract_size
   rw[e1,e2] at hpp
   simpa using hpp
  have h3:=h2.map (fun x:El cells ok c.w c.M=>x.1.1)
  rwa[hl1] at h3
 have hsort:(d'.toList.map fun x=>x.1.1).Pairwise fun x y=>uj cf x y=true:=by
  rw[List.pairwise_iff_getElem]
  intro i j hi hj hij
  have hj':j<d'.size:=by simpa using hj
  have:=hss i j (Nat.zero_le _) hij (by omega)
  rw[getElem!_pos d' j hj',getElem!_pos d' i (by omega)] at this
  simp only[ltOf,decide_eq_false_iff_not] at this
  have hneg:=h.ord.neg d'[i].1.1 d'[j].1.1
  simp only[List.getElem_map,Array.getElem_toList,uj,decide_eq_true_eq]
  omega
 have hres:=h.ord.GH hperm hsort
 have hlen:(fV cf l).length=l.length:=qU cf l
 have hHn:HoldsK (fun x:El cells ok c.w c.M=>x.1.2) k w' blk o d':=by
  rw[hw']
  exact holdsK_sortWorldK_c _ _ _ _ _ dl.toArray d' n os hHolds hblk (by rw[hpz])
 have hput:=hS.ox (b:=b) (e:=e) (sz:=k) d (es:=(fV cf l).map fun s=> .agg (cells s)) (w':=w') (blk:=blk) (o:=o) (z:=z) (arr:=putCells id o (flatK (fun x:El cells ok c.w c.M=>x.1.2) k d') arr) hpos
  (.inr ⟨_,_,_,hcb, .inl ⟨by simp[hlen],hρ⟩⟩) (.inr ⟨_,_,_,hcb,hρ⟩) (by rw[hw'];rfl) (by rw[hw'];rfl) (by rw[hw'];rfl) (by rw[hw'];exact size_sortWorldK_c _ _ _ _ _ _ _ _) (fun q hq hne=>by rw[hw'];exact jr d' hq hne) (by rw[hw'];exact pD d' harr) (by simp[putCells];exact hsz) (by simp[hlen];exact hlz) (fun hle i hi=>by
   have hi':i<d'.size:=by simpa[hlen,hdz] using hi
   have hx:=d'[i].2.2
   refine⟨.agg d'[i].1.2.toArray,⟨by simp[Value.cells,hxl],fun j hj=> ?_,fun j u hu=> ?_⟩, ?_⟩
   ·have:=(hHn.cell (i:=i) (c:=j) hi' hj).1
    rw[getElem!_pos d' i hi'] at this
    rw[this]
    have hj':j<d'[i].1.2.length:=by rw[hxl];exact hj
    simp[Value.cells,hj']
   ·simp only[Value.cells,List.getElem?_toArray] at hu
    exact hones d'[i] u (List.mem_of_getElem? hu)
   ·have e4:((fV cf l).map fun s=>AV.agg (cells s)).getD i .any= .agg (cells d'[i].1.1):=by
     rw[←hres]
     simp[List.getD,hi']
    rw[e4,VR]
    exact⟨_,rfl,by simpa using cL.cD (qo.trans hle) hx⟩)
 obtain⟨p1,p2⟩:=hput
 have hHeq:bd ((b,some (.row e k d ((fV cf l).map fun s=> .agg (cells s))))::H)=eN c.H b (some (.row e k d ((fV cf l).map fun s=> .agg (cells s)))):=by
  have:=dA H b (.row e k d ((fV cf l).map fun s=> .agg (cells s)))
  rw[hH];exact this
 refine⟨.tuple #[], .dY [],_,nx,eN c.ρ b (some (blk,o,z)),fun x=>c.U x∨x=b,rfl,⟨rfl,rfl,rfl⟩,fun x hx=>hx.elim (hU x) (fun e=>by omega), ?_, ?_, ?_⟩
 ·rw[hHeq];exact p1
 ·rw[hHeq];exact p2
 ·rw[VR];exact⟨#[],rfl,by rw[cL]⟩
end
end Go.Proofs.YtekfmjjmihomlaaGreat
end
section
/- Ends sorted; each once. -/
namespace Go.Proofs.YtekfmjjmihomlaaGreat
open Go Go.cO Go.Proofs Go.RowKit Go.Sort
set_option linter.unusedSimpArgs false
set_option linter.unusedVariables false
set_option maxRecDepth 8000
theorem wT {P:Program} {ρ:Go.Shelf.Ren} (L:SlLaysF0.n6 P ρ) (hen:gO P (ρ.f 6)) (b:Nat) (fv:AV) (H:Hp) (nx:Nat):
 cC P (ρ.f 6) [.sl b 0,fv] H nx (fun r H' n=>r= .dY []∧n=nx∧H'=H):=by
 refine⟨hen,fun w0 c vs hS hH hU hv=> ?_⟩
 rw[cL] at hv
 obtain⟨v,vs',rfl,hv,hv2⟩:=hv
 rw[cL] at hv2
 obtain⟨v2,vs2,rfl,hv2,hv3⟩:=hv2
 rw[cL] at hv3
 subst hv3
 rw[VR] at hv
 obtain⟨hUb,a,cap,rfl,hr⟩:=hv
 refine(AnyF.slices_SortFunc_none L a cap v2 c.w).mono ?_
 rintro e w' ⟨rfl,rfl⟩
 obtain⟨ρ',Hc,U,w,M0⟩:=c
 simp only at hH
 subst hH
 exact⟨.tuple #[], .dY [],H,nx,ρ',U,rfl,⟨rfl,rfl,rfl⟩,hU,hS,Cx.le.refl _,by rw[VR];exact⟨#[],rfl,by rw[cL]⟩⟩
def zg (e:dI):Prop:=e.bn.length<9223372036854775807∧e.mem.length<9223372036854775807
theorem wS:uq Tryz.prog 19 dI.cells 3 zg eF where
 len:=fun _=>rfl
 pos:=by omega
 fit:=fun _=>by simp
 one:=fun _=>rfl
 cmp:=fun a b ha hb=>kA a b ha.1 ha.2
 ord:=wa
theorem pC:gO Tryz.prog 37:=⟨Tryz.f37,Tryz.func37,by kernel_rfl,by kernel_rfl⟩
theorem zO (b:Nat) (l:List dI) (hok:∀e∈l,zg e) (hl:l.length≤65536) (H:Hp) (nx:Nat) (hb:∃d,bd H b=some (.row 40 3 d (l.map dI.av))) (hlt:b<nx):
 cC Tryz.prog 37 [.sl b l.length, .fn (.func 19) [] []] H nx (fun r H' n=>(∃d,bd H' b=some (.row 40 3 d ((fV eF l).map dI.av)))∧nx≤n∧∀y,y<nx→y≠b→bd H' y=bd H y):=by
 obtain⟨d,hb⟩:=hb
 by_cases h0:l=[]
 ·subst h0
  refine(wT Tryz.HK pC b _ H nx).mono ?_
  rintro r H' n ⟨rfl,rfl,rfl⟩
  exact⟨⟨d,by rw[hb];simp[fV]⟩,Nat.le_refl _,fun _ _ _=>rfl⟩
 ·refine(wU Tryz.HK (k:=3) (fun w=>cO.kP (by kernel_rfl) w) (fun w=>cO.run_sizeOf (by kernel_rfl) w) pC (enters_of Tryz.func19 (by kernel_rfl) rfl) wS b l hok 40 d H nx hb hlt (by omega) h0).mono ?_
  rintro r H' n ⟨rfl,rfl,rfl⟩
  exact⟨⟨d,cS _ _ _⟩,Nat.le_refl _,fun y _ hne=>cE hne⟩
end Go.Proofs.YtekfmjjmihomlaaGreat
end
section
/- Neighbours that are one go: the walk of the library's CompactFunc. -/
namespace Go.Proofs.YtekfmjjmihomlaaGreat
open Go Go.cO Go.Proofs
set_option linter.unusedSimpArgs false
set_option linter.unusedVariables false
set_option maxRecDepth 8000
def za (l:List dI):Nat→List dI
 |0=>[]
 |1=>[l.getD 0 default]
 |k+2=>if l.getD (k+1) default=l.getD k default then za l (k+1) else za l (k+1)++[l.getD (k+1) default]
theorem sU (l:List dI) {k:Nat} (hk:1≤k):za l (k+1)=if l.getD k default=l.getD (k - 1) default then za l k else za l k++[l.getD k default]:=by
 obtain⟨j,rfl⟩:∃j,k=j+1:=⟨k - 1,by omega⟩
 rw[za]
 rfl
theorem oK {l:List dI} {i:Nat} (h:i<l.length) (d:AV):(l.map dI.av).getD i d=(l.getD i default).av:=dN dI.av l i d h
abbrev AL (l:List dI):AV:= .im 3 .any (l.map dI.av)
theorem oQ (l:List dI):cK 0 (l.map dI.av):=(cA _ _).2 fun _ _=>by simp[bz]
theorem pT {α:Type} {l:List α} {i:Nat} {x:α} (h:i<l.length):(l.set i x).take (i+1)=l.take i++[x]:=by
 rw[List.take_succ_eq_append_getElem (by simpa using h),List.take_set_of_le (Nat.le_refl _)]
 simp
theorem IK {H:Hp} {k b len lo n:Nat} {e:TypeId} {sz:Nat} {d:AV} {es:List AV} (h:bd H b=some (.row e sz d es)) (hl:es.length=len):cO.dK H (k+1) (.sv b len lo n)= .im sz .any (((es.drop lo).take n).map (cO.dK H k)):=by
 simp only[cO.dK,h];rw[if_pos hl]
set_option maxHeartbeats 4000000 in
theorem qx (o:Nat) (l:List dI) (hl:l.length≤65536) (hok:∀e∈l,e.bn.length<9223372036854775807∧e.mem.length<9223372036854775807) (H:Hp) (nx:Nat) (ho:o<nx) (hr:∃d,bd H o=some (.row 40 3 d (l.map dI.av))):
 cC Tryz.prog 38 [.sl o l.length, .fn (.func 20) [] []] H nx (fun r H' n=>(r= .sl o l.length∨∃m,r= .sv o l.length 0 m)∧cO.dK H' 5 r=AL (za l l.length)):=by
 obtain⟨d0,r0'⟩:=hr
 have a0:(l.map dI.av).length=l.length:=by simp
 have same:∀i j,i<l.length→j<l.length→Pure Tryz.prog 20 [(l.getD i default).av,(l.getD j default).av] (fun r=>r=bl (decide (l.getD i default=l.getD j default))):=fun i j hi hj=>by
  obtain⟨p1,p2⟩:=hok _ (cY default hi)
  have:=jR (l.getD i default) (l.getD j default) p1 p2
  simpa only[pc] using this
 refine aQ BT rfl ?_
 by_cases h2:l.length<2
 ·refine cW ?_
  refine⟨.inl rfl, ?_⟩
  show cO.dK H 5 (.sl o l.length)=_
  rw[dt (k:=4) r0' (by simp),dD _ (oQ l)]
  have:za l l.length=l:=by
   match l,h2 with
   |[],_=>rfl
   |[x],_=>rfl
  rw[this]
 ·refine cW ?_
  refine aR (fun i:Nat=>[(0, .sl o l.length),(1, .fn (.func 20) [] []),(5,i64 i)]) (fun i H2 n=>1≤i∧i≤l.length∧nx≤n∧bd H2 o=some (.row 40 3 d0 (l.map dI.av))∧za l i=l.take i) (fun i=>l.length - i) 1 cM ⟨Nat.le_refl _,by omega,cX,bf,by rw[za];cases l with|nil=>simp at h2|cons x t=>rfl⟩ ?_
  clear r0'
  rintro i H2 n ⟨hi1,hi,hn,r0',hdd⟩
  by_cases hil:i<l.length
  ·have e0:∀d,(l.map dI.av).getD ((i:Int)).toNat d=(l.getD i default).av:=fun d=>by rw[Int.toNat_natCast];exact oK hil d
   have e1:∀d,(l.map dI.av).getD ((i:Int) - 1).toNat d=(l.getD (i - 1) default).av:=fun d=>by rw[show((i:Int) - 1).toNat=i - 1 by omega];exact oK (by omega) d
   have c0:=same i (i - 1) hil (by omega)
   have hsu:=sU l hi1
   by_cases he:l.getD i default=l.getD (i - 1) default
   ·rw[decide_eq_true he] at c0
    rw[if_pos he] at hsu
    refine cW ?_
    refine aR (fun σ:Nat×Nat×List dI=>[(0, .sl o l.length),(1, .fn (.func 20) [] []),(5,i64 σ.1),(6, .sv o l.length i (l.length - i)),(7,i64 σ.2.1)])
     (fun σ H2 n=>1≤σ.2.1∧i+σ.2.1≤l.length∧i≤σ.1∧σ.1+1≤i+σ.2.1∧σ.2.2.length=l.length∧(∀q,σ.1≤q→σ.2.2.getD q default=l.getD q default)∧σ.2.2.take σ.1=za l (i+σ.2.1)∧nx≤n∧∃d,bd H2 o=some (.row 40 3 d (σ.2.2.map dI.av))) (fun σ=>l.length - σ.2.1) (i,1,l) cM
     ⟨Nat.le_refl _,by show i+1≤l.length;omega,Nat.le_refl _,Nat.le_refl _,rfl,fun _ _=>rfl,by dsimp only;rw[hsu,hdd],cX,⟨_,bf⟩⟩ ?_
    clear c0 e0 e1 hsu hdd r0' hn
    rintro⟨k,j,es⟩ H3 n ⟨hj1,hj,hik,hkj,hel,hsame,hdd,hn,⟨d1,r1'⟩⟩
    dsimp only at hj1 hj hik hkj hel hsame hdd r1' ⊢
    have a1:(es.map dI.av).length=l.length:=by simp[hel]
    by_cases hjl:j<l.length - i
    ·have e0:∀d,(es.map dI.av).getD (i+((j:Int)).toNat) d=(l.getD (i+j) default).av:=fun d=>by rw[Int.toNat_natCast,oK (by omega) d,hsame _ (by omega)]
     have e1:∀d,(es.map dI.av).getD (i+((j:Int) - 1).toNat) d=(l.getD (i+j - 1) default).av:=fun d=>by rw[show i+((j:Int) - 1).toNat=i+j - 1 by omega,oK (by omega) d,hsame _ (by omega)]
     have e2:∀d,(es.map dI.av).getD ((k:Int)).toNat d=(es.getD k default).av:=fun d=>by rw[Int.toNat_natCast];exact oK (by omega) d
     have c0:=same (i+j) (i+j - 1) (by omega) (by omega)
     have hsu:=sU l (k:=i+j) (by omega)
     by_cases he2:l.getD (i+j) default=l.getD (i+j - 1) default
     ·rw[decide_eq_true he2] at c0
      rw[if_pos he2] at hsu
      refine cW ?_
      exact⟨(k,j+1,es),by dsimp only;omega,cM,by dsimp only;omega,by dsimp only;omega,hik,by dsimp only;omega,hel,hsame,by dsimp only;rw[←Nat.add_assoc,hsu];exact hdd,cX,⟨d1,bf⟩⟩
     ·rw[decide_eq_false he2] at c0
      rw[if_neg he2] at hsu
      refine cW ?_
      refine⟨(k+1,j+1,es.set k (l.getD (i+j) default)),by dsimp only;omega,cM,by dsimp only;omega,by dsimp only;omega,by dsimp only;omega,by dsimp only;omega,by simp[hel],fun q hq=> ?_, ?_,cX,⟨d1,by dsimp only;rw[List.map_set];exact bf⟩⟩
      ·have hq:k+1≤q:=hq
       dsimp only
       rw[getD_set_ne (by omega)];exact hsame q (by omega)
      ·dsimp only
       rw[←Nat.add_assoc,hsu,pT (by omega),hdd]
    ·obtain rfl:j=l.length - i:=by omega
     rw[show i+(l.length - i)=l.length by omega] at hdd
     refine cW ?_
     refine⟨.inr ⟨_,rfl⟩, ?_⟩
     rw[Int.toNat_natCast]
     have hkl:k≤l.length:=by omega
     generalize hZ:List.replicate (l.length - k) (fI true [Value.slice none 0 0,Value.slice none 0 0,Value.bool false])=Z
     have hZl:Z.length=l.length - k:=by rw[←hZ];simp
     show cO.dK ((o,some (.row 40 3 d1 ((es.map dI.av).take k++Z++(es.map dI.av).drop (k+(l.length - k)))))::H3) 5 (.sv o l.length 0 (k - 0))=_
     rw[IK (k:=4) (cS _ _ _) (by simp[hZl,hel];omega),List.drop_zero,Nat.sub_zero,List.append_assoc,List.take_append_of_le_length (by simp;omega),List.take_take,Nat.min_self,←List.map_take,hdd,dD _ (oQ _)]
   ·rw[decide_eq_false he] at c0
    rw[if_neg he] at hsu
    refine cW ?_
    refine⟨i+1,by omega,cM,by omega,by omega,cX,bf, ?_⟩
    rw[hsu,hdd,List.take_succ_eq_append_getElem hil,show l.getD i default=l[i] by simp[List.getD,hil]]
  ·obtain rfl:i=l.length:=by omega
   rw[List.take_length] at hdd
   refine cW ?_
   refine⟨.inl rfl, ?_⟩
   show cO.dK H2 5 (.sl o l.length)=_
   rw[dt (k:=4) r0' (by simp),dD _ (oQ l),hdd]
end Go.Proofs.YtekfmjjmihomlaaGreat
end
section
/- Ends: the walk. -/
namespace Go.Proofs.YtekfmjjmihomlaaGreat
open Go Go.cO Go.Proofs
set_option linter.unusedSimpArgs false
set_option linter.unusedVariables false
set_option maxRecDepth 8000
def AM (u:bh) (l:List cI):List dI:=za (fV eF (dz u l l.length)) (dz u l l.length).length
noncomputable def oL (u:bh) (most:Int):AV:=if(iG u most).1=0 then .dY [AL (AM u (iG u most).2),i64 0] else .dY [.sc (.slice none 0 0),i64 (iG u most).1]
theorem yP {u:bh} {l:List cI} (hr:cr u) (hf:gV u l) (hl:l.length≤65536) (k:Nat):∀e∈dz u l k,zg e:=by
 intro e he
 unfold dz at he
 obtain⟨f,hf1,hf2⟩:=List.mem_filterMap.1 he
 split at hf2
 ·cases hf2
  obtain⟨i,hi,rfl⟩:=List.mem_iff_getElem.1 (List.mem_of_mem_take hf1)
  obtain⟨h1,h2⟩:=hf.ok i hi
  rw[show l.getD i default=l[i] by simp[List.getD,hi]] at h1 h2
  have:=h1.ml
  have:=hr.AR
  refine⟨?_, ?_⟩
  ·show l[i].m.bn.length<_;omega
  ·show l[i].m.mem.length<_;omega
 ·cases hf2
set_option maxHeartbeats 2000000 in
theorem pe (u:bh) (hu:u.Wf) (most:Int):Pure Tryz.prog 13 [u.av,i64 most] (fun r=>r=oL u most):=by
 refine ef ?_ (by unfold oL;split<;>simp[bz,cK,cA])
 refine aQ BI rfl ?_
 by_cases hr:cr u
 ·by_cases hm:1≤most∧most≤65536
  ·unfold oL
   rw[jy hr hm]
   refine cW ?_
   let l:=(gX u most.toNat).getD []
   let I:Nat→Hp→Prop:=fun k H=>(∃d,bd H 0=some (.row 25 3 d [u.av]))∧(∃d,bd H 3=some (.row 30 1 d [.sl 7 (dz u l k).length]))∧(∃d,bd H 7=some (.row 40 3 d ((dz u l k).map dI.av)))
   refine aJ (R:=fun r H n=>8≤n∧xz u most I r H) (G7 (b:=3) 40 3 (by omega) (by omega) (d:=fI false [.slice none 0 0]) (te:=30) ?_ fun H2 q1 q2 q3=> ?_) ?_
   ·exact bf
   ·refine(np u hu hr most hm _ [.pt 0 1 0 0, .pt 3 1 0 0] H2 8 I ?_ ?_ ?_).mono fun r H n h=>⟨h.1,h.short⟩
    ·exact⟨⟨_,(q3 0 (by omega) (by omega)).trans bf⟩,⟨_,q1⟩,⟨_,q2⟩⟩
    ·rintro k H H' ⟨⟨d0,p0⟩,⟨d1,p1⟩,⟨d2,p2⟩⟩ hk
     exact⟨⟨d0,(hk 0 (by omega)).trans p0⟩,⟨d1,(hk 3 (by omega)).trans p1⟩,⟨d2,(hk 7 (by omega)).trans p2⟩⟩
    ·intro l' hl' k H n hk hn ⟨p0,p1,p2⟩
     have hll:l=l':=by show(gX u most.toNat).getD []=l';rw[hl'];rfl
     rw[hll] at p1 p2
     obtain⟨hf,hlm,_⟩:=qh hu hr (by omega) hl'
     refine(EF hr hf (by omega) hk (ub:=0) (ob:=3) (o:=7) (by omega) (by omega) (by omega) (by omega) p0 p1 p2).mono ?_
     rintro _ H' n' ⟨s1,s2,s3,s4⟩
     obtain⟨d0,p0⟩:=p0
     refine⟨⟨⟨d0,(s4 0 (by omega) (by omega) (by omega)).trans p0⟩, ?_, ?_⟩,s3,fun y y1 y2=>s4 y y2 (by omega) (by omega)⟩
     ·rw[hll];exact s1
     ·rw[hll];exact s2
   rintro r H' n' ⟨hn,hA⟩
   revert hA
   unfold xz
   cases hs:gX u most.toNat with
   |none=>
    rintro rfl
    refine cW ?_
    exact⟨rfl⟩
   |some l'=>
    rintro⟨rfl,⟨d0,p0⟩,⟨d1,p1⟩,p2⟩
    have hll:l=l':=by show(gX u most.toNat).getD []=l';rw[hs];rfl
    rw[hll] at p1 p2
    obtain⟨hf,hlm,_⟩:=qh hu hr (by omega) hs
    have hin:=yP hr hf (by omega) l'.length
    have hlen:=oM u l' l'.length
    refine cW ?_
    refine aJ (zO 7 (dz u l' l'.length) hin (by omega) _ _ p2 cX) ?_
    rintro r H3 n3 ⟨⟨d5,r5⟩,hn3,hk3⟩
    have r6:=(hk3 3 cX (by omega)).trans p1
    have hsl:(fV eF (dz u l' l'.length)).length=(dz u l' l'.length).length:=qU _ _
    refine cW ?_
    rw[←hsl]
    refine aJ (qx 7 (fV eF (dz u l' l'.length)) (by omega) (fun e he=>hin e ((pB _ _).mem_iff.1 he)) _ _ cX ⟨d5,r5⟩) ?_
    rintro r H4 n4 ⟨hform,hfz⟩
    rcases hform with rfl|⟨m,rfl⟩
    all_goals
     refine cW ?_
     refine⟨?_⟩
     dsimp only
     rw[if_pos rfl]
     show AV.dY [cO.dK H4 5 _,i64 0]=_
     rw[hfz,hsl]
     rfl
  ·unfold oL
   rw[kg hr hm]
   refine cW ?_
   refine aJ (mN u hu hr most hm _ _ _ _) ?_
   rintro r H' n' ⟨rfl,hn,hk⟩
   refine cW ?_
   exact⟨rfl⟩
 ·unfold oL
  rw[nn hr]
  refine cW ?_
  refine aJ (qi u hu hr most _ _ _ _) ?_
  rintro r H' n' ⟨rfl,hn,hk⟩
  refine cW ?_
  exact⟨rfl⟩
end Go.Proofs.YtekfmjjmihomlaaGreat
end
section
/- The unit that takes its lock twice; begins. -/
namespace Go.Proofs.YtekfmjjmihomlaaGreat
open Go Go.cO Go.Proofs
set_option linter.unusedSimpArgs false
set_option linter.unusedVariables false
set_option maxRecDepth 8000
instance K3 (n:Int):Decidable (dR n):=inferInstanceAs (Decidable (_∧_))
def KN (k nx o:Int):Node:=⟨k,0,0,0,⟨false,0,0⟩,⟨false,0,0⟩,nx,0,o⟩
def MG:cB:=⟨⟨(List.toArray [97])⟩,0,0,[KN 5 1 0,KN 5 2 1,KN 6 3 2,KN 6 4 3,KN 9 0 4]⟩
def dw:bh:=⟨[],[⟨⟨(List.toArray [108])⟩,0,0⟩],[MG]⟩
theorem zP:Pure Tryz.prog 43 [] (fun r=>r=dw.av):=by
 have h:Pure Tryz.prog 43 [] (fun r=>r= .agg [.sc (.slice none 0 0),cV dw.bx,dU dw.bj]):=by
  exact kQ (by rw[bz,cK,cK,cK,cK];exact⟨by simp[bz],by simp[bz,cA],by simp[bz,cA],trivial⟩) (by kernel_rfl)
 refine rb (u:= .agg [.sc (.slice none 0 0),cV dw.bx,dU dw.bj]) (h.mono fun r hr=> .inl hr) (by simp[bz]) fun c=> ?_
 exact cO.cz.agg (.cons (cO.cz.qN c c 3 .any) (.cons (fun _ h=>h) (.cons (fun _ h=>h) .nil)))
theorem lF:cr dw:=mQ.1 (by decide+kernel)
theorem nY:dw.Wf:=by
 refine⟨fun _ h=>by simp[dw] at h,by simp[dw],fun d h=> ?_,by simp[dw],fun g hg=> ?_,by simp[dw]⟩
 ·simp only[dw,List.mem_cons,List.not_mem_nil,or_false] at h
  subst h
  exact⟨by decide+kernel,by decide+kernel,by decide+kernel⟩
 simp only[dw,List.mem_cons,List.not_mem_nil,or_false] at hg
 subst hg
 refine⟨by decide+kernel,by decide+kernel,by decide+kernel,fun n hn=> ?_,by decide+kernel⟩
 simp only[MG,List.mem_cons,List.not_mem_nil,or_false] at hn
 rcases hn with rfl|rfl|rfl|rfl|rfl<;>
  exact⟨by decide+kernel,by decide+kernel,by decide+kernel,by decide+kernel,⟨by decide+kernel,by decide+kernel⟩,⟨by decide+kernel,by decide+kernel⟩,by decide+kernel,by decide+kernel,by decide+kernel⟩
def DP:List cI:=[⟨dV dw,-1,0⟩,⟨((dV dw).step dw 0).1,0,0⟩]
theorem GK:gX dw 9=some DP:=by decide+kernel
theorem GJ:gX dw 2=some DP:=by decide+kernel
theorem GI:gX dw 1=none:=by decide+kernel
theorem KO:iG dw 9=(0,DP):=by rw[jy lF (by decide),show(9:Int).toNat=9 from rfl,GK]
theorem L8:iG dw 2=(0,DP):=by rw[jy lF (by decide),show(2:Int).toNat=2 from rfl,GJ]
theorem L7:iG dw 1=(3,[]):=by rw[jy lF (by decide),show(1:Int).toNat=1 from rfl,GI]
def LG:dI:=⟨[],[],false⟩
theorem GL:AM dw DP=[LG]:=by
 unfold AM
 rw[show dz dw DP DP.length=[LG] by decide+kernel]
 unfold fV
 rw[List.mergeSort_singleton]
 decide+kernel
theorem I2:fD dw DP LG DP.length=some 1:=by decide+kernel
theorem I3:iy DP (some 1)=[0]:=by decide+kernel
theorem sI:Pure Tryz.prog 17 [] (fun r=>r=bl true):=by
 have c5:=zP
 have c0:=vI dw nY 9
 rw[KO] at c0
 have c1:=pe dw nY 2
 unfold oL at c1
 rw[L8,if_pos rfl,GL] at c1
 have c2:=pe dw nY 1
 unfold oL at c2
 rw[L7,if_neg (by decide)] at c2
 have c3':=DI dw nY 9 LG (by decide) (by decide)
 unfold qX at c3'
 rw[KO,if_pos rfl,I2,I3] at c3'
 have c3:Pure Tryz.prog 25 [dw.av,i64 9, .agg (List.map AV.sc [.slice none 0 0, .slice none 0 0, .bool false])] (fun r=>r= .dY [ct [0],bl true,i64 0]):=
  Pure.args c3' fun c=> .cons (fun _ h=>h) (.cons (fun _ h=>h) (.cons (cO.cz.agg (.cons (cO.cz.qN c c 2 .any) (.cons (cO.cz.qN c c 1 .any) (.cons (fun _ h=>h) .nil)))) .nil))
 refine aI BJ rfl ?_
 refine cW ?_
 exact rfl
end Go.Proofs.YtekfmjjmihomlaaGreat
end
section
/- What units and ends read as. -/
namespace Go.Proofs.YtekfmjjmihomlaaGreat
open Go Go.cO Go.Proofs Go.RowKit Go.ChangeShapes Go.WideShapes Go.ChangeAt
set_option linter.unusedSimpArgs false
set_option linter.unusedVariables false
theorem own:ownKnob Tryz.prog.godebug=none:=by kernel_rfl
theorem laidOut:laidOutB Tryz.prog=true:=by kernel_rfl
theorem CN {n:Int} (h:(Lit.int .i64 n).wf=true):dR n:=by
 simp only[Lit.wf,Bool.and_eq_true,decide_eq_true_eq] at h
 have e1:IntKind.i64.min=-9223372036854775808:=by decide
 have e2:IntKind.i64.max=9223372036854775807:=by decide
 unfold dR
 omega
theorem jk {t:TypeId} (ht:Tryz.prog.underlying t=some (.int .i64)):eW Tryz.prog t (fun n:Int=>[i64 n]) dR:=(zD ht).map (fun n=>n) (fun _ _=>rfl) fun _ h=>CN h
theorem vu {t e:TypeId} (ht:Tryz.prog.underlying t=some (.slice e)) (he:Tryz.prog.underlying e=some (.int .i64)) (hsz:Tryz.prog.cellsOf e=1) (hb:Tryz.prog.bytesOf e=8):eW Tryz.prog t (fun l:List Int=>[ct l]) (fun l=>(∀x∈l,dR x)∧l.length * 8≤140737488351232):=by
 refine(nD (ag:=false) (sz:=1) .any ht hsz (by omega) (jk he) (fun _=>rfl) (fun _ _=>rfl) (fun _=>rfl)).map (fun l=>l) (fun _ _=>rfl) ?_
 rintro l ⟨h1,h2⟩
 rw[hb] at h2
 exact⟨h1,h2⟩
theorem uL:eW Tryz.prog 89 cU.cells (fun p=>dR p.cP∧dR p.word):=by
 refine eW.map (α:=Int×Int×Unit) (fun p=>(⟨p.1,p.2.1⟩:cU))
  (lp (k:=2) Tryz.underlying89 (by kernel_rfl) (ft (k:=1) rfl (by kernel_rfl) (jk Tryz.underlying3) (ft (k:=1) rfl (by kernel_rfl) (jk Tryz.underlying2) oq))) ?_ ?_
 ·intro a _;rfl
 ·intro a h;exact⟨h.1,h.2.1⟩
theorem rW:eW Tryz.prog 37 (fun l:List cU=>[eS l]) (fun l=>(∀p∈l,dR p.cP∧dR p.word)∧l.length * 16≤140737488351232):=by
 have hb:Tryz.prog.bytesOf 89=16:=by kernel_rfl
 refine(nD (ag:=true) (sz:=2) .any Tryz.underlying37 (by kernel_rfl) (by omega) uL (fun _=>rfl) (fun _ _=>rfl) (fun h=>by cases h)).map (fun l=>l) (fun _ _=>rfl) ?_
 rintro l ⟨h1,h2⟩
 rw[hb] at h2
 exact⟨h1,h2⟩
structure dI.Wf (e:dI):Prop where
 bn:(∀p∈e.bn,dR p.cP∧dR p.word)∧e.bn.length * 16≤140737488351232
 mem:(∀x∈e.mem,dR x)∧e.mem.length * 8≤140737488351232
theorem qO:eW Tryz.prog 40 dI.cells dI.Wf:=by
 refine eW.map (α:=List cU×List Int×Bool×Unit) (fun p=>(⟨p.1,p.2.1,p.2.2.1⟩:dI))
  (lp (k:=3) Tryz.underlying40 (by kernel_rfl) (ft (k:=1) rfl (by kernel_rfl) rW (ft (k:=1) rfl (by kernel_rfl) (vu Tryz.underlying38 Tryz.underlying2 (by kernel_rfl) (by kernel_rfl)) (ft (k:=1) rfl (by kernel_rfl) (vt Tryz.underlying4) oq)))) ?_ ?_
 ·intro a _;rfl
 ·intro a h;exact⟨h.1,h.2.1⟩
end Go.Proofs.YtekfmjjmihomlaaGreat
end
section
/- Same and Compare: the law's walk. -/
namespace Go.Proofs.YtekfmjjmihomlaaGreat
open Go Go.cO Go.Proofs
set_option linter.unusedSimpArgs false
set_option linter.unusedVariables false
set_option maxRecDepth 8000
def yi (x:Int):Prop:=-1≤x∧x≤1
theorem we (x y:Int):yi (dy x y):=by unfold yi dy;repeat' split;all_goals omega
theorem vv:∀l:List Int,(∀x∈l,yi x)→yi (iN l)
 |[],_=>by unfold yi iN;omega
 |x::l,h=>by
  rw[iN]
  split
  ·exact vv l fun y hy=>h y (List.mem_cons_of_mem _ hy)
  ·exact h x (List.mem_cons_self ..)
theorem qv {α:Type} {f:α→α→Int} (hf:∀x y,yi (f x y)):∀a b:List α,yi (dh f a b)
 |[],[]=>by unfold yi dh;omega
 |[],_::_=>by unfold yi dh;omega
 |_::_,[]=>by unfold yi dh;omega
 |x::a,y::b=>by
  rw[dh]
  split
  ·exact qv hf a b
  ·exact hf x y
theorem D8 (p q:cU):yi (eY p q):=vv _ fun x hx=>by
 simp only[List.mem_cons,List.not_mem_nil,or_false] at hx
 rcases hx with rfl|rfl<;>exact we _ _
theorem D3 (a b:dI):yi (eF a b):=vv _ fun x hx=>by
 simp only[List.mem_cons,List.not_mem_nil,or_false] at hx
 rcases hx with rfl|rfl|rfl
 ·exact qv D8 _ _
 ·exact qv we _ _
 ·unfold yi oE;repeat' split
  all_goals omega
theorem j9 (a b:dI) (ha:a.bn.length * 16≤140737488351232∧a.mem.length * 8≤140737488351232) (hb:b.bn.length * 16≤140737488351232∧b.mem.length * 8≤140737488351232):Pure Tryz.prog 4 [a.av,b.av] (fun r=>r=bl true):=by
 have c0:=sI
 have c1:=wB a b (by omega) (by omega)
 have c2:=kA a b (by omega) (by omega)
 have c3:=jR a b (by omega) (by omega)
 have c4:=kA b a (by omega) (by omega)
 have c5:=jR a a (by omega) (by omega)
 rw[sR] at c4
 rw[decide_eq_true (wa.zero a a|>.2 rfl)] at c5
 obtain⟨h1,h2⟩:=D3 a b
 generalize eF a b=n at *
 have hw:IntKind.i64.wrap (-n)=-n:=by rw[IntKind.wrap_i64];omega
 refine aI KF rfl ?_
 refine cW ?_
 refine eh ?_
 simp
end Go.Proofs.YtekfmjjmihomlaaGreat
end
section
/- Same and Compare answer as the document's Compare does, each way round: for all ends. No conditions. -/
namespace Go.Proofs.YtekfmjjmihomlaaGreat
open Go Go.cO Go.Proofs Go.RowKit Go.ChangeShapes Go.WideShapes Go.ChangeAt
set_option linter.unusedSimpArgs false
set_option linter.unusedVariables false
set_option maxRecDepth 100000 in
theorem jH (os:Os) (started:os.Started) (H:Type) (enc:TypeId×Value→H):
 ReturnsInHanded {} Tryz.checked os 4 .any (Rows.exploreComparesSpec.pre6 enc Tryz.prog Tryz.f4 Rows.exploreComparesRow.domain false) (Rows.exploreComparesSpec.post enc Tryz.prog Tryz.f4 false true false false):=by
 refine returnsInHanded_of_change_sized (C:=Tryz.checked) own started (by kernel_rfl) Tryz.func4
  (ChangeSpec.witness6 (enc:=enc) (C:=Tryz.checked) false ⟨#[],#[.agg #[.slice none 0 0, .slice none 0 0, .bool false], .agg #[.slice none 0 0, .slice none 0 0, .bool false]],[]⟩ 8 (by kernel_rfl) (by kernel_rfl) (by kernel_rfl) (by kernel_rfl)) ?_
 intro W base args ds gs before hval hW _ hr _
 refine rO (ts:=[40,40]) (tb:=4) laidOut (by kernel_rfl) rfl Tryz.underlying4 (by kernel_rfl) (fun ds h=> ?_) (fun t ht=> ?_)
  (k8 (ag:=true) (by kernel_rfl) qO (fun h=>by cases h) (k8 (ag:=true) (by kernel_rfl) qO (fun h=>by cases h) rV))
  (fun a h=> ?_) hval hW hr
 ·match ds,h with
  |[d0,d1],_=>rfl
 ·have:∀t∈[40,40],Tryz.prog.readableRec t=true∧t<Tryz.prog.types.size:=by
   simp only[List.forall_mem_cons]
   refine⟨⟨by kernel_rfl,of_decide_eq_true (by kernel_rfl)⟩,⟨by kernel_rfl,of_decide_eq_true (by kernel_rfl)⟩,by simp⟩
  exact this t ht
 ·exact j9 a.1 a.2.1 ⟨h.1.bn.2,h.1.mem.2⟩ ⟨h.2.1.bn.2,h.2.1.mem.2⟩
theorem exploreCompares_holds:Rows.ExploreComparesSaid:=
 OpenClaim.holds_of_wide 4 Tryz.f4 rfl rfl rfl rfl rfl rfl rfl ⟨rfl,rfl,rfl,rfl,rfl⟩ rfl rfl rfl rfl rfl (by kernel_rfl) Tryz.func4 (by kernel_rfl)
  (of_decide_eq_true (by kernel_rfl)) (by unfold Func.isWrapper;first|(rw[if_pos (by decide+kernel)];kernel_rfl)|(rw[if_neg (by decide+kernel)];exact⟨rfl,rfl⟩))
  (fun os started H enc _=>jH os started H enc)
end Go.Proofs.YtekfmjjmihomlaaGreat
end
