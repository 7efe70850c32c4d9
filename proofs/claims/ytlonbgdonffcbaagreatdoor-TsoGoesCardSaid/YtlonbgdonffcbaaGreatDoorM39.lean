import Derived.Shelf.SlSortCmp.WholeK
import Derived.Test.YtlonbgdonffcbaaGreatDoorProg
import Derived.Test.YtlonbgdonffcbaaGreatDoorM37
import Derived.Test.YtlonbgdonffcbaaGreatDoorM38
import Derived.Shelf.SlSortCmp.NoneTotal
section
/- The library's sort by a comparison at this program, as a tool of the kit laid it in plain words. -/
namespace Go.Proofs
open Go.Shelf
def Tryz.CM:Go.Shelf.Ren:=⟨fun|6=>53|15=>70|14=>69|28=>101|29=>102|20=>93|21=>94|22=>95|23=>96|24=>97|25=>98|26=>99|27=>100|46=>112|47=>113|48=>114|49=>115|50=>116|57=>120|n=>n,fun|22=>28|24=>48|25=>56|3=>3|39=>137|0=>0|53=>166|55=>168|4=>4|46=>159|45=>158|50=>163|5=>5|9=>9|66=>181|70=>185|76=>196|77=>197|n=>n,fun|n=>n⟩
theorem Tryz.LO:Go.Proofs.SlLaysF0.n6 Tryz.prog Tryz.CM:={
 mixed:=by kernel_rfl
 f6:=⟨Tryz.f53.name,by decide,Tryz.func53.trans (congrArg some (by kernel_rfl))⟩
 f14:=⟨Tryz.f69.name,by decide,Tryz.func69.trans (congrArg some (by kernel_rfl))⟩
 f15:=Tryz.func70.trans (congrArg some (by kernel_rfl))
 f20:=⟨Tryz.f93.name,by decide,Tryz.func93.trans (congrArg some (by kernel_rfl))⟩
 f21:=⟨Tryz.f94.name,by decide,Tryz.func94.trans (congrArg some (by kernel_rfl))⟩
 f22:=⟨Tryz.f95.name,by decide,Tryz.func95.trans (congrArg some (by kernel_rfl))⟩
 f23:=⟨Tryz.f96.name,by decide,Tryz.func96.trans (congrArg some (by kernel_rfl))⟩
 f24:=⟨Tryz.f97.name,by decide,Tryz.func97.trans (congrArg some (by kernel_rfl))⟩
 f25:=⟨Tryz.f98.name,by decide,Tryz.func98.trans (congrArg some (by kernel_rfl))⟩
 f26:=⟨Tryz.f99.name,by decide,Tryz.func99.trans (congrArg some (by kernel_rfl))⟩
 f27:=⟨Tryz.f100.name,by decide,Tryz.func100.trans (congrArg some (by kernel_rfl))⟩
 f28:=Tryz.func101.trans (congrArg some (by kernel_rfl))
 f29:=Tryz.func102.trans (congrArg some (by kernel_rfl))
 f46:=⟨Tryz.f112.name,by decide,Tryz.func112.trans (congrArg some (by kernel_rfl))⟩
 f47:=Tryz.func113.trans (congrArg some (by kernel_rfl))
 f48:=Tryz.func114.trans (congrArg some (by kernel_rfl))
 f49:=⟨Tryz.f115.name,by decide,Tryz.func115.trans (congrArg some (by kernel_rfl))⟩
 f50:=⟨Tryz.f116.name,by decide,Tryz.func116.trans (congrArg some (by kernel_rfl))⟩
 f57:=⟨Tryz.f120.name,by decide,Tryz.func120.trans (congrArg some (by kernel_rfl))⟩
 t0:=Tryz.underlying0
 a0:=Tryz.isAgg0
 z0:=Tryz.sizeOf0
 v0:=Tryz.zeroValue0
 t3:=Tryz.underlying3
 a3:=Tryz.isAgg3
 z3:=Tryz.sizeOf3
 v3:=Tryz.zeroValue3
 t4:=Tryz.underlying4
 a4:=Tryz.isAgg4
 z4:=Tryz.sizeOf4
 v4:=Tryz.zeroValue4
 t5:=Tryz.underlying5
 a5:=Tryz.isAgg5
 z5:=Tryz.sizeOf5
 v5:=Tryz.zeroValue5
 t9:=Tryz.underlying9
 a9:=Tryz.isAgg9
 z9:=Tryz.sizeOf9
 v9:=Tryz.zeroValue9
 t22:=Tryz.underlying28
 a22:=Tryz.isAgg28
 z22:=Tryz.sizeOf28
 v22:=Tryz.zeroValue28
 t25:=Tryz.underlying56
 a25:=Tryz.isAgg56
 z25:=Tryz.sizeOf56
 v25:=Tryz.zeroValue56
 t39:=Tryz.underlying137
 a39:=Tryz.isAgg137
 z39:=Tryz.sizeOf137
 v39:=Tryz.zeroValue137
 t45:=Tryz.underlying158
 a45:=Tryz.isAgg158
 z45:=Tryz.sizeOf158
 v45:=Tryz.zeroValue158
 t46:=Tryz.underlying159
 a46:=Tryz.isAgg159
 z46:=Tryz.sizeOf159
 v46:=Tryz.zeroValue159
 t50:=Tryz.underlying163
 a50:=Tryz.isAgg163
 z50:=Tryz.sizeOf163
 v50:=Tryz.zeroValue163
 t53:=Tryz.underlying166
 a53:=Tryz.isAgg166
 z53:=Tryz.sizeOf166
 v53:=Tryz.zeroValue166
 t55:=Tryz.underlying168
 a55:=Tryz.isAgg168
 z55:=Tryz.sizeOf168
 v55:=Tryz.zeroValue168
 t66:=Tryz.underlying181
 a66:=Tryz.isAgg181
 z66:=Tryz.sizeOf181
 v66:=Tryz.zeroValue181
 t70:=Tryz.underlying185
 a70:=Tryz.isAgg185
 z70:=Tryz.sizeOf185
 v70:=Tryz.zeroValue185
 t76:=Tryz.underlying196
 a76:=Tryz.isAgg196
 z76:=Tryz.sizeOf196
 v76:=Tryz.zeroValue196
 t77:=Tryz.underlying197
 a77:=Tryz.isAgg197
 z77:=Tryz.sizeOf197
 v77:=Tryz.zeroValue197 }
end Go.Proofs
end
section
/- The library's sort by a comparison, as the walks take it: whatever the struct. -/
namespace Go.Proofs.YtlonbgdonffcbaaGreatDoor
open Go Go.cY Go.Proofs Go.RowKit Go.Sort
set_option linter.unusedSimpArgs false
set_option linter.unusedVariables false
theorem xN {w w':World} (h:Go.RowKit.Below w.heap.size w w') (hd:w.drawn≤w'.drawn):∃q os',w'=grow (w.drewN q) os':=by
 refine⟨w'.drawn - w.drawn,w'.heap.extract w.heap.size w'.heap.size, ?_⟩
 obtain⟨hp,tp,dr,os,ou⟩:=w
 obtain⟨hp',tp',dr',os',ou'⟩:=w'
 have h1:=h.os
 have h2:=h.tape
 have h3:=h.output
 have h4:=h.size
 have h5:=h.block
 dsimp only at *
 subst h1 h2 h3
 simp only[grow,World.drewN,World.mk.injEq,true_and,and_true]
 refine⟨?_,by omega⟩
 apply Array.ext_getElem?
 intro i
 rw[Array.getElem?_append]
 split
 ·rename_i hi;exact h5 i hi
 ·rename_i hi
  rw[Array.getElem?_extract]
  split
  ·congr 1;omega
  ·rw[Array.getElem?_eq_none (by omega)]
def El {S:Type} (cells:S→List AV) (ok:S→Prop) (w:World) (M:Nat→Prop):Type:={ x:S×List Value //ok x.1∧cR (base w M) (cells x.1) x.2 }
section
variable {S:Type} {cells:S→List AV} {ok:S→Prop} {k:Nat} {cf:S→S→Int}
structure xI (P:Program) (g:Nat) (cells:S→List AV) (k:Nat) (ok:S→Prop) (cf:S→S→Int):Prop where
 len:∀s,(cells s).length=k
 pos:0<k
 fit:∀s,cJ 0 (cells s)
 one:∀s,gZ (cells s)=true
 cmp:∀a b,ok a→ok b→Pure P g [.agg (cells a), .agg (cells b)] (fun r=>r= .sc (.int .i64 (cf a b)))
 ord:j3 cf
theorem NS (h:j3 cf) {α:Type} (f:α→S):SWO (ltOf fun x y:α=>cf (f x) (f y)) where
 irrefl x:=by
  have:=(h.zero (f x) (f x)).2 rfl
  simp[ltOf,this]
 trans x y z h1 h2:=by
  simp only[ltOf,decide_eq_true_eq] at *
  exact h.tr _ _ _ h1 h2
 ntrans x y z h1 h2:=by
  simp only[ltOf,decide_eq_false_iff_not] at *
  have n1:=h.neg (f x) (f y)
  have n2:=h.neg (f y) (f z)
  have n3:=h.neg (f x) (f z)
  by_cases e1:cf (f x) (f y)=0
  ·rw[(h.zero _ _).1 e1];exact h2
  ·by_cases e2:cf (f y) (f z)=0
   ·rw[←(h.zero _ _).1 e2];exact h1
   ·have:=h.tr (f z) (f y) (f x) (by omega) (by omega)
    omega
variable {w:World} {M:Nat→Prop} {blk off:Nat}
theorem lI {α:Type} [Inhabited α] {enc:α→List Value} {n i:Nat} {os:Array Go.Obj} (d:Array α) (hi:i<w.heap.size) (hne:i≠blk):(sortWorldK enc k w blk off n d os).heap[i]?=w.heap[i]?:=by
 unfold sortWorldK putRowK
 rw[heap_grow_old _ _ (by simpa[putRow,mapBlock,Sort.ahead] using hi)]
 simp[putRow,mapBlock,Sort.ahead,Array.getElem?_modify,Ne.symm hne]
theorem rM {α:Type} [Inhabited α] {enc:α→List Value} {n:Nat} {os:Array Go.Obj} {cur:Array Value} {e:TypeId} {fr:Nat×Nat} (d:Array α) (hb:w.heap[blk]?=some (.cells cur e fr)):
 (sortWorldK enc k w blk off n d os).heap[blk]?=some (.cells (putCells id off (flatK enc k d) cur) e fr):=by
 have hg:blk<w.heap.size:=(Array.getElem?_eq_some_iff.1 hb).1
 unfold sortWorldK putRowK
 rw[heap_grow_old _ _ (by simpa[putRow,mapBlock,Sort.ahead] using hg)]
 simp[putRow,mapBlock,Sort.ahead,Array.getElem?_modify,hb,onCells]
theorem xS {P:Program} {g:Nat} (h:xI P g cells k ok cf) (hM:u9 w M) (hblk:M blk) (size:Nat) [Inhabited (El cells ok w M)]:
 CmpLays P g #[] (fun x:El cells ok w M=>x.1.2) k (fun x y=>cf x.1.1 y.1.1) blk off size w:=by
 intro m os dk _ x y
 have hsz:w.heap.size≤(sortWorldK (fun x:El cells ok w M=>x.1.2) k w blk off m dk os).heap.size:=size_sortWorldK_c _ _ _ _ _ _ _ _
 have hne:=fun(i:Nat) (hi:i<w.heap.size) (hn:i≠blk)=>lI (k:=k) (off:=off) (enc:=fun x:El cells ok w M=>x.1.2) (n:=m) (os:=os) dk hi hn
 generalize sortWorldK (fun x:El cells ok w M=>x.1.2) k w blk off m dk os=W at *
 have hle:(base w M).le (base W M):=by
  refine⟨fun _ h=>h,hsz,fun b hb hlt=> ?_,fun b hb=>hb.elim⟩
  rw[kh] at hb ⊢
  exact⟨hne b hlt fun e=>hb (e▸hblk),hb⟩
 have hF:u9 W M:=by
  refine⟨fun b hb=>Nat.lt_of_lt_of_le (hM.lt b hb) hsz,fun t ht=> ?_⟩
  obtain⟨t1,t2,t3⟩:=hM.PY t ht
  refine⟨t1,Nat.lt_of_lt_of_le t2 hsz,fun j hj=> ?_⟩
  rw[←t3 j hj]
  exact World.cell?_of_block (a:=⟨t.1,j,none⟩) (hne _ t2 fun e=>t1 (by rw[show t.1=blk from e];exact hblk))
 obtain⟨⟨xs,xv⟩,x1,x2⟩:=x
 obtain⟨⟨ys,yv⟩,y1,y2⟩:=y
 have hc:=I6 ((h.cmp xs ys x1 y1).2 M W [.agg xv.toArray, .agg yv.toArray] hF (by
  rw[cR]
  refine⟨_,_,rfl,by rw[VR];exact⟨_,rfl,by simpa using cR.cP hle x2⟩, ?_⟩
  rw[cR]
  refine⟨_,_,rfl,by rw[VR];exact⟨_,rfl,by simpa using cR.cP hle y2⟩, ?_⟩
  rw[cR]))
 refine hc.mono ?_
 rintro e w' ⟨⟨v,r,rfl,rfl,_,hv,hb⟩,hd⟩
 rw[VR] at hv
 exact⟨by rw[hv],xN hb (hd v rfl)⟩
theorem vX {α:Type} [Inhabited α] {enc:α→List Value} {d:Array α} (hk:∀x,(enc x).length=k) (hpos:0<k) (h:∀i c,i<d.size→c<k→w.cell? ⟨blk,off+i * k+c,none⟩=some (enc d[i]!)[c]!∧w.frozen? ⟨blk,off+i * k+c,none⟩=false):HoldsK enc k w blk off d:=by
 intro t ht
 rw[size_flatK] at ht
 have e1:t /k<d.size:=(Nat.div_lt_iff_lt_mul hpos).2 ht
 have e2:t%k<k:=Nat.mod_lt _ hpos
 have:=h (t /k) (t%k) e1 e2
 rw[Nat.add_assoc,show t /k * k+t%k=t by rw[Nat.mul_comm];exact Nat.div_add_mod t k] at this
 rw[get_flatK _ _ _ _ ht]
 exact this
set_option maxHeartbeats 2000000 in
theorem yb {P:Program} {ρ:Go.Shelf.Ren} (L:SlLaysF0.n6 P ρ) (aE:∀w,(isAgg (ρ.t 24)).run P w= .ok true w) (zE:∀w,(Go.sizeOf (ρ.t 24)).run P w= .ok k w) (hen:iO P (ρ.f 6)) {g:Nat} (eg:∀args w,(callFunc g args).run P w= .ok (.enter g args) w)
 (h:xI P g cells k ok cf) [Inhabited S] (b:Nat) (l:List S) (hok:∀s∈l,ok s) (e:TypeId) (d:AV) (H:Hp) (nx:Nat) (hb:bf H b=some (.row e k d (l.map fun s=> .agg (cells s)))) (hlt:b<nx) (hl:l.length<4611686018427387904) (h0:l≠[]):
 bz P (ρ.f 6) [.sl b l.length, .fn (.func g) [] []] H nx (fun r H' n=>r= .dB []∧n=nx∧H'=(b,some (.row e k d ((fY cf l).map fun s=> .agg (cells s))))::H):=by
 refine⟨hen,fun w0 c vs hS hH hU hv=> ?_⟩
 rw[cR] at hv
 obtain⟨v,vs',rfl,hv,hv2⟩:=hv
 rw[cR] at hv2
 obtain⟨v2,vs2,rfl,hv2,hv3⟩:=hv2
 rw[cR] at hv3
 subst hv3
 rw[VR] at hv2
 obtain⟨ps,qs,rfl,hp1,hp2⟩:=hv2
 rw[cR] at hp1 hp2
 obtain rfl:ps=#[]:=Array.toList_eq_nil_iff.1 hp1
 obtain rfl:qs=#[]:=Array.toList_eq_nil_iff.1 hp2
 rw[VR] at hv
 obtain⟨hUb,a,cap,rfl,hr⟩:=hv
 have hcb:c.H b=some (.row e k d (l.map fun s=> .agg (cells s))):=by rw[hH];exact hb
 obtain⟨_,hr2⟩:=hr _ _ _ _ hcb
 have hr3:=hr2 (by simp)
 have hpos:=h.pos
 obtain⟨_,_,hor⟩:=hS.jr b _ _ _ _ hcb (.inr hpos)
 have hln:0<l.length:=List.length_pos_iff.2 h0
 rcases hor with⟨_,hes⟩|⟨blk,o,z,hρ,hlow,⟨arr,harr,hsz⟩,hlz,hrow⟩
 ·exact absurd (List.map_eq_nil_iff.1 hes) h0
 rcases hr3 with⟨h1,_,_⟩|⟨blk',o',z',h1,rfl,hc1,hc2,hc3,_⟩
 ·rw[hρ] at h1;cases h1
 rw[hρ] at h1
 cases h1
 have hblk:blk<c.w.heap.size:=(Array.getElem?_eq_some_iff.1 harr).1
 rw[List.length_map] at hlz
 have hMb:c.M blk:= .inr ⟨b,_,o,z,hcb,hρ⟩
 -- the elements as they stand
 have hel:∀i,i<l.length→∃x:El cells ok c.w c.M,x.1.1=l.getD i default∧∀j,j<k→c.w.cell? ⟨blk,o+i * k+j,none⟩=x.1.2[j]?:=fun i hi=>by
  obtain⟨v,⟨hv1,hv2,_⟩,hv3⟩:=dN hrow i (by simpa using hi)
  rw[dR (f:=fun s=>AV.agg (cells s)) (h:=hi)] at hv3
  rw[VR] at hv3
  obtain⟨us,rfl,hus⟩:=hv3
  refine⟨⟨(l.getD i default,us.toList),hok _ (gk default hi),cR.lJ (fun _ hb=>hb) (h.fit _) hus⟩,rfl,fun j hj=> ?_⟩
  rw[hv2 j hj]
  simp[Value.cells]
 haveI:Inhabited (El cells ok c.w c.M):=⟨(hel 0 hln).choose⟩
 obtain⟨dl,hdl,hdr⟩:=km (List.range l.length) (R:=fun i (x:El cells ok c.w c.M)=>x.1.1=l.getD i default∧∀j,j<k→c.w.cell? ⟨blk,o+i * k+j,none⟩=x.1.2[j]?) (fun i hi=>hel i (by simpa using hi))
 simp only[List.length_range] at hdl
 have hdg:∀i (hi:i<dl.length),dl[i].1.1=l.getD i default∧∀j,j<k→c.w.cell? ⟨blk,o+i * k+j,none⟩=dl[i].1.2[j]?:=fun i hi=>hdr i i _ (by rw[List.getElem?_range (by omega)]) (List.getElem?_eq_getElem hi)
 have hxl:∀x:El cells ok c.w c.M,x.1.2.length=k:=fun x=>by rw[x.2.2.length,h.len]
 have hHolds:HoldsK (fun x:El cells ok c.w c.M=>x.1.2) k c.w blk o dl.toArray:=by
  refine vX hxl hpos fun i j hi hj=> ?_
  have hi':i<dl.length:=by simpa using hi
  have:=(hdg i hi').2 j hj
  refine⟨?_, ?_⟩
  ·rw[this]
   have hj':j<dl[i].1.2.length:=by rw[hxl];exact hj
   simp[hi',hj']
  ·simp only[World.frozen?,harr]
   simp
 have hones:∀x:El cells ok c.w c.M,∀v∈x.1.2,v.oneCell'=true:=fun x=>x.2.2.HG (h.one _)
 have hcon:=AnyQ.slices_SortFunc L k aE zE (fun x:El cells ok c.w c.M=>x.1.2) hxl hones (fun x y=>cf x.1.1 y.1.1) (NS h.ord fun x:El cells ok c.w c.M=>x.1.1) g #[] blk o cap dl.toArray c.w eg (xS h hS.fit hMb _) hHolds hblk (by simp;omega)
 rw[show dl.toArray.size=l.length by simp[hdl]] at hcon
 refine hcon.mono ?_
 rintro en w' ⟨rfl,d',n,os,⟨hpz,_,hpp⟩,hss,hw'⟩
 have hdz:d'.size=l.length:=by rw[hpz];simp[hdl]
 -- what stands in the row now
 have hl1:dl.map (fun x=>x.1.1)=l:=by
  apply List.ext_getElem (by simp[hdl])
  intro i q1 q2
  have:=(hdg i (by simpa using q1)).1
  rw[List.getElem_map,this]
  simp[List.getD,q2]
 have hperm:(d'.toList.map fun x=>x.1.1).Perm l:=by
  have h2:d'.toList.Perm dl:=by
   have e1:d'.extract 0 l.length=d':=by rw[←hdz];exact Array.extract_size
   have e2:dl.toArray.extract 0 l.length=dl.toArray:=by rw[←hdl,←List.size_toArray];exact Array.extract_size
   rw[e1,e2] at hpp
   simpa using hpp
  have h3:=h2.map (fun x:El cells ok c.w c.M=>x.1.1)
  rwa[hl1] at h3
 have hsort:(d'.toList.map fun x=>x.1.1).Pairwise fun x y=>tA cf x y=true:=by
  rw[List.pairwise_iff_getElem]
  intro i j hi hj hij
  have hj':j<d'.size:=by simpa using hj
  have:=hss i j (Nat.zero_le _) hij (by omega)
  rw[getElem!_pos d' j hj',getElem!_pos d' i (by omega)] at this
  simp only[ltOf,decide_eq_false_iff_not] at this
  have hneg:=h.ord.neg d'[i].1.1 d'[j].1.1
  simp only[List.getElem_map,Array.getElem_toList,tA,decide_eq_true_eq]
  omega
 have hres:=h.ord.KK hperm hsort
 have hlen:(fY cf l).length=l.length:=jt cf l
 have hHn:HoldsK (fun x:El cells ok c.w c.M=>x.1.2) k w' blk o d':=by
  rw[hw']
  exact holdsK_sortWorldK_c _ _ _ _ _ dl.toArray d' n os hHolds hblk (by rw[hpz])
 have hput:=hS.pM (b:=b) (e:=e) (sz:=k) d (es:=(fY cf l).map fun s=> .agg (cells s)) (w':=w') (blk:=blk) (o:=o) (z:=z) (arr:=putCells id o (flatK (fun x:El cells ok c.w c.M=>x.1.2) k d') arr) hpos
  (.inr ⟨_,_,_,hcb, .inl ⟨by simp[hlen],hρ⟩⟩) (.inr ⟨_,_,_,hcb,hρ⟩) (by rw[hw'];rfl) (by rw[hw'];rfl) (by rw[hw'];rfl) (by rw[hw'];exact size_sortWorldK_c _ _ _ _ _ _ _ _) (fun q hq hne=>by rw[hw'];exact lI d' hq hne) (by rw[hw'];exact rM d' harr) (by simp[putCells];exact hsz) (by simp[hlen];exact hlz) (fun hle i hi=>by
   have hi':i<d'.size:=by simpa[hlen,hdz] using hi
   have hx:=d'[i].2.2
   refine⟨.agg d'[i].1.2.toArray,⟨by simp[Value.cells,hxl],fun j hj=> ?_,fun j u hu=> ?_⟩, ?_⟩
   ·have:=(hHn.cell (i:=i) (c:=j) hi' hj).1
    rw[getElem!_pos d' i hi'] at this
    rw[this]
    have hj':j<d'[i].1.2.length:=by rw[hxl];exact hj
    simp[Value.cells,hj']
   ·simp only[Value.cells,List.getElem?_toArray] at hu
    exact hones d'[i] u (List.mem_of_getElem? hu)
   ·have e4:((fY cf l).map fun s=>AV.agg (cells s)).getD i .any= .agg (cells d'[i].1.1):=by
     rw[←hres]
     simp[List.getD,hi']
    rw[e4,VR]
    exact⟨_,rfl,by simpa using cR.cP (tg.trans hle) hx⟩)
 obtain⟨p1,p2⟩:=hput
 have hHeq:bf ((b,some (.row e k d ((fY cf l).map fun s=> .agg (cells s))))::H)=ef c.H b (some (.row e k d ((fY cf l).map fun s=> .agg (cells s)))):=by
  have:=ct H b (.row e k d ((fY cf l).map fun s=> .agg (cells s)))
  rw[hH];exact this
 refine⟨.tuple #[], .dB [],_,nx,ef c.ρ b (some (blk,o,z)),fun x=>c.U x∨x=b,rfl,⟨rfl,rfl,rfl⟩,fun x hx=>hx.elim (hU x) (fun e=>by omega), ?_, ?_, ?_⟩
 ·rw[hHeq];exact p1
 ·rw[hHeq];exact p2
 ·rw[VR];exact⟨#[],rfl,by rw[cR]⟩
end
end Go.Proofs.YtlonbgdonffcbaaGreatDoor
end
section
/- Ends sorted; each once. -/
namespace Go.Proofs.YtlonbgdonffcbaaGreatDoor
open Go Go.cY Go.Proofs Go.RowKit Go.Sort
set_option linter.unusedSimpArgs false
set_option linter.unusedVariables false
set_option maxRecDepth 8000
theorem y9 {P:Program} {ρ:Go.Shelf.Ren} (L:SlLaysF0.n6 P ρ) (hen:iO P (ρ.f 6)) (b:Nat) (fv:AV) (H:Hp) (nx:Nat):
 bz P (ρ.f 6) [.sl b 0,fv] H nx (fun r H' n=>r= .dB []∧n=nx∧H'=H):=by
 refine⟨hen,fun w0 c vs hS hH hU hv=> ?_⟩
 rw[cR] at hv
 obtain⟨v,vs',rfl,hv,hv2⟩:=hv
 rw[cR] at hv2
 obtain⟨v2,vs2,rfl,hv2,hv3⟩:=hv2
 rw[cR] at hv3
 subst hv3
 rw[VR] at hv
 obtain⟨hUb,a,cap,rfl,hr⟩:=hv
 refine(AnyF.slices_SortFunc_none L a cap v2 c.w).mono ?_
 rintro e w' ⟨rfl,rfl⟩
 obtain⟨ρ',Hc,U,w,M0⟩:=c
 simp only at hH
 subst hH
 exact⟨.tuple #[], .dB [],H,nx,ρ',U,rfl,⟨rfl,rfl,rfl⟩,hU,hS,Cx.le.refl _,by rw[VR];exact⟨#[],rfl,by rw[cR]⟩⟩
def kR (e:cL):Prop:=e.bh.length<9223372036854775807∧e.mem.length<9223372036854775807
theorem y8:xI Tryz.prog 18 cL.cells 3 kR dy where
 len:=fun _=>rfl
 pos:=by omega
 fit:=fun _=>by simp
 one:=fun _=>rfl
 cmp:=fun a b ha hb=>nw a b ha.1 ha.2
 ord:=jI
theorem rL:iO Tryz.prog 53:=⟨Tryz.f53,Tryz.func53,by kernel_rfl,by kernel_rfl⟩
theorem CN (b:Nat) (l:List cL) (hok:∀e∈l,kR e) (hl:l.length≤65536) (H:Hp) (nx:Nat) (hb:∃d,bf H b=some (.row 48 3 d (l.map cL.av))) (hlt:b<nx):
 bz Tryz.prog 53 [.sl b l.length, .fn (.func 18) [] []] H nx (fun r H' n=>(∃d,bf H' b=some (.row 48 3 d ((fY dy l).map cL.av)))∧nx≤n∧∀y,y<nx→y≠b→bf H' y=bf H y):=by
 obtain⟨d,hb⟩:=hb
 by_cases h0:l=[]
 ·subst h0
  refine(y9 Tryz.LO rL b _ H nx).mono ?_
  rintro r H' n ⟨rfl,rfl,rfl⟩
  exact⟨⟨d,by rw[hb];simp[fY]⟩,Nat.le_refl _,fun _ _ _=>rfl⟩
 ·refine(yb Tryz.LO (k:=3) (fun w=>cY.lh (by kernel_rfl) w) (fun w=>cY.run_sizeOf (by kernel_rfl) w) rL (enters_of Tryz.func18 (by kernel_rfl) rfl) y8 b l hok 48 d H nx hb hlt (by omega) h0).mono ?_
  rintro r H' n ⟨rfl,rfl,rfl⟩
  exact⟨⟨d,cN _ _ _⟩,Nat.le_refl _,fun y _ hne=>bj hne⟩
end Go.Proofs.YtlonbgdonffcbaaGreatDoor
end
section
/- Ends: the walk. -/
namespace Go.Proofs.YtlonbgdonffcbaaGreatDoor
open Go Go.cY Go.Proofs
set_option linter.unusedSimpArgs false
set_option linter.unusedVariables false
set_option maxRecDepth 8000
def cX (p:Bool) (o:Obj) (most:Int):Int×List bw:=
 if fC o=false then(160,[]) else if ¬(1≤most∧most≤65536) then(2,[]) else match mF p o most.toNat with
  |none=>(3,[])
  |some l=>(0,l)
def yr (e:Int) (v:AV):AV:=if e=0 then .dB [v,i64 0] else .dB [iw,i64 e]
theorem pS {p:Bool} {o:Obj} {most:Int} (h:(cX p o most).1=0):fC o=true∧(1≤most∧most≤65536)∧mF p o most.toNat=some (cX p o most).2:=by
 unfold cX at *
 by_cases h1:fC o=false
 ·rw[if_pos h1] at h;cases h
 ·rw[if_neg h1] at h ⊢
  by_cases h2:1≤most∧most≤65536
  ·rw[if_neg (fun e=>e h2)] at h ⊢
   refine⟨by simpa using h1,h2, ?_⟩
   revert h
   cases mF p o most.toNat with
   |none=>intro h;cases h
   |some l=>intro _;rfl
  ·rw[if_pos h2] at h;cases h
theorem IY {p:Bool} {o:Obj} {most:Int} {l:List bw} (h:fC o=true) (hm:1≤most∧most≤65536) (hl:mF p o most.toNat=some l):cX p o most=(0,l):=by
 unfold cX
 rw[if_neg (by rw[h];simp),if_neg (fun e=>e hm),hl]
theorem yq {p:Bool} {o:Obj} (ho:o.Wf) {g:Nat} (hg:cz o→lM p o g) (most:Int):Pure Tryz.prog 30 [o.av,i64 most, .fn (.func g) [] []] (fun r=>r=yr (cX p o most).1 (fN o (cX p o most).2)):=by
 unfold cX
 by_cases h1:fC o=false
 ·rw[if_pos h1];exact I0 ho h1 most g
 ·rw[if_neg h1]
  have h1:fC o=true:=by simpa using h1
  by_cases h2:1≤most∧most≤65536
  ·rw[if_neg (fun e=>e h2)]
   have:=DE ho h1 (hg (nU h1)) most h2
   revert this
   cases mF p o most.toNat with
   |none=>exact fun h=>h
   |some l=>exact fun h=>h
  ·rw[if_pos h2];exact AG ho h1 most h2 g
theorem mi {p:Bool} {o:Obj} (ho:o.Wf) {most:Int} (h:(cX p o most).1=0):cz o∧gw p o (cX p o most).2∧(cX p o most).2.length≤65536:=by
 obtain⟨h1,h2,h3⟩:=pS h
 have ok:=nU h1
 obtain⟨g1,g2,_⟩:=IZ ok ho.words (by omega) h3
 exact⟨ok,g1,by omega⟩
def dM (o:Obj) (l:List bw) (k:Nat):List cL:=(l.take k).filterMap fun f=>if f.m.bg.all fZ then some (jl o f.m) else none
theorem vE {o:Obj} {l:List bw} {k:Nat} (hk:k<l.length):dM o l (k+1)=dM o l k++(if(l.getD k default).m.bg.all fZ then[jl o (l.getD k default).m] else[]):=by
 unfold dM
 rw[List.take_succ_eq_append_getElem hk,List.filterMap_append,show l.getD k default=l[k] by simp[List.getD,hk]]
 congr 1
 simp only[List.filterMap_cons,List.filterMap_nil]
 split
 ·rename_i h;split at h<;>simp_all
 ·rename_i h;split at h<;>simp_all
theorem qX (o:Obj) (l:List bw) (k:Nat):(dM o l k).length≤k:=by
 unfold dM
 refine Nat.le_trans (List.length_filterMap_le _ _) ?_
 rw[List.length_take];omega
def gz (o:Obj) (l:List bw):List cL:=kU (fY dy (dM o l l.length)) (dM o l l.length).length
theorem sV {p:Bool} {o:Obj} {l:List bw} (ok:cz o) (hf:gw p o l) (hl:l.length≤65536) (k:Nat):∀e∈dM o l k,kR e:=by
 intro e he
 unfold dM at he
 obtain⟨f,hf1,hf2⟩:=List.mem_filterMap.1 he
 split at hf2
 ·cases hf2
  obtain⟨i,hi,rfl⟩:=List.mem_iff_getElem.1 (List.mem_of_mem_take hf1)
  obtain⟨h1,h2⟩:=hf.ok i hi
  rw[show l.getD i default=l[i] by simp[List.getD,hi]] at h1 h2
  have h3:=h1.iE.mem
  have h4:=ok.mem
  refine⟨?_, ?_⟩
  ·show l[i].m.bh.length<_;omega
  ·show(l[i].m.mem.take _).length<_;rw[List.length_take];omega
 ·cases hf2
def o7 (p:Bool) (o:Obj) (most:Int) (H0:Hp) (nx:Nat) (r:AV) (H:Hp) (n:Nat):Prop:=
 nx≤n∧(∀y,y<nx→bf H y=bf H0 y)∧
  if(cX p o most).1=0 then ∃b,r= .dB [.sl b (gz o (cX p o most).2).length,i64 0]∧nx≤b∧b<n∧∃d,bf H b=some (.row 48 3 d ((gz o (cX p o most).2).map cL.av))
  else r= .dB [iw,i64 (cX p o most).1]
theorem oU {o:Obj} (h:fC o=true):0≤o.shared∧o.shared≤o.mem.length:=by
 simp only[fC,Bool.and_eq_true,eX,decide_eq_true_eq] at h
 omega
theorem qJ (l:List cC):kj l= .sc (.slice none 0 0)∨∃L,kj l= .im 2 .any L:=by
 cases l with
 |nil=>exact .inl rfl
 |cons x l=>exact .inr ⟨_,rfl⟩
set_option maxHeartbeats 4000000 in
theorem sW {p:Bool} {o:Obj} (ho:o.Wf) {g:Nat} (hg:cz o→lM p o g) (most:Int) (H0:Hp) (nx:Nat):bz Tryz.prog 23 [o.av,i64 most, .fn (.func g) [] []] H0 nx (o7 p o most H0 nx):=by
 have c0:=yq ho hg most
 unfold o7
 by_cases h0:(cX p o most).1=0
 ·obtain⟨ok,hfs,hll⟩:=mi ho h0
  obtain⟨hok,_,_⟩:=pS h0
  have hsh:=oU hok
  rw[h0] at c0
  simp only[if_pos h0]
  generalize (cX p o most).2=l at *
  unfold yr at c0
  rw[if_pos rfl] at c0
  refine aO BO rfl ?_
  refine ca ?_
  rw[List.length_map]
  have a0:(l.map (bw.av o)).length=l.length:=List.length_map _
  refine aQ (fun i:Nat=>[(3, .pt nx 1 0 0),(10, .sl (nx+17) (dM o l i).length),(23,fN o l),(24,i64 l.length),(25,i64 i)])
   (fun i H n=>i≤l.length∧nx+18≤n∧(∃d,bf H nx=some (.row 25 5 d [o.av]))∧(∃d,bf H (nx+17)=some (.row 48 3 d ((dM o l i).map cL.av)))∧∀y,y<nx→bf H y=bf H0 y) (fun i=>l.length - i) 0
   ⟨_,_,_,Rt.nil 10 48 3 (by omega) rfl,cG,Nat.zero_le _,cO,⟨_,bo⟩,⟨_,bo⟩,fun y hy=>cA⟩ ?_
  rintro i H n ⟨hi,hn,⟨d0,r0'⟩,⟨d1,r1'⟩,hkp⟩
  have hel:=qX o l i
  have a1:((dM o l i).map cL.av).length=(dM o l i).length:=List.length_map _
  by_cases hil:i<l.length
  ·have e0:∀d,(l.map (bw.av o)).getD ((i:Int)).toNat d= .agg [(l.getD i default).m.frozen o,i64 (l.getD i default).from_,kj (l.getD i default).xE]:=fun d=>by rw[Int.toNat_natCast,dR (bw.av o) l i d hil];rfl
   obtain⟨hm,hp⟩:=hfs.ok i hil
   have hlk:=hm.look ok (by omega)
   have hgm:=hm.iE.mem
   have hsu:=vE (o:=o) hil
   generalize (l.getD i default).m=m at *
   have c1:=my o m hlk.bg
   have c2:=zj (o:=o) hlk (by rw[hgm];exact hsh)
   simp only[bk.frozen] at c1 c2
   have hby:=qJ (l.getD i default).xE
   generalize kj (l.getD i default).xE=B at e0 hby
   have a2:(l.map (bw.av o)).length=l.length:=List.length_map _
   cases he:m.bg.all fZ with
   |true=>
    rw[he] at c1
    rw[he,if_pos rfl] at hsu
    rcases hby with rfl|⟨B,rfl⟩
    all_goals
     refine ca ?_
     exact⟨i+1,by omega,_,_,_,Rt.refl _ _ _,by rw[hsu,List.length_append];exact cG,by omega,cO,⟨_,bo⟩,⟨_,by rw[hsu,List.map_append];exact bo⟩,fun y hy=>Eq.trans cA (hkp y hy)⟩
   |false=>
    rw[he] at c1
    rw[he,if_neg (by simp),List.append_nil] at hsu
    rcases hby with rfl|⟨B,rfl⟩
    all_goals
     refine ca ?_
     exact⟨i+1,by omega,_,_,_,Rt.refl _ _ _,by rw[hsu];exact cG,by omega,cO,⟨_,bo⟩,⟨_,by rw[hsu];exact bo⟩,fun y hy=>Eq.trans cA (hkp y hy)⟩
  ·obtain rfl:i=l.length:=by omega
   have hin:=sV ok hfs hll l.length
   have hE:gz o l=kU (fY dy (dM o l l.length)) (dM o l l.length).length:=rfl
   rw[hE]
   clear hE
   generalize dM o l l.length=es at *
   refine ca ?_
   refine aP (CN (nx+17) es hin (by omega) _ _ ⟨d1, ?_⟩ cO) ?_
   ·exact bo
   rintro r H3 n3 ⟨⟨d5,r5⟩,hn3,hk3⟩
   have hsl:(fY dy es).length=es.length:=jt _ _
   refine ca ?_
   rw[←hsl]
   refine aP (tm (nx+17) (fY dy es) (by omega) (fun e he=>hin e ((kO _ _).mem_iff.1 he)) _ _ cO ⟨d5, ?_⟩) ?_
   ·exact bo
   rintro r H4 n4 ⟨b,rfl,hb,hbn,hn4,⟨d6,r6⟩,hk4⟩
   refine ca ?_
   have hn3:nx≤n3:=by omega
   refine⟨⟨by omega,fun y hy=> ?_,b,rfl, ?_,cO,d6,bo⟩⟩
   ·refine Eq.trans cA ((hk4 y ?_ (by omega)).trans (Eq.trans cA ((hk3 y ?_ (by omega)).trans (Eq.trans cA (hkp y hy)))))
    ·exact cO
    ·exact cO
   ·rcases hb with rfl|hb
    ·omega
    ·exact Nat.le_trans (by exact cO) hb
 ·simp only[if_neg h0]
  unfold yr at c0
  rw[if_neg h0] at c0
  generalize (cX p o most).1=e at *
  have r0:=decide_eq_true h0
  refine aO BO rfl ?_
  refine ca ?_
  exact⟨⟨cO,fun y hy=>cA,rfl⟩⟩
end Go.Proofs.YtlonbgdonffcbaaGreatDoor
end
section
/- What deletes from a list of ends: the walk. -/
namespace Go.Proofs.YtlonbgdonffcbaaGreatDoor
open Go Go.cY Go.Proofs
set_option linter.unusedSimpArgs false
set_option linter.unusedVariables false
set_option maxRecDepth 8000
theorem CI {e p:cL} (he:kR e) {eb:Nat} {H:Hp} {nx:Nat} (hb:∃d,bf H eb=some (.row 48 3 d [e.av])) (hlt:eb<nx):jB Tryz.prog 41 [p.av, .pt eb 1 0 0] H nx (bl (decide (e=p))):=by
 obtain⟨d,hb⟩:=hb
 have c0:=mQ e p he.1 he.2
 simp only[lP] at c0
 refine aS FV rfl ?_
 refine ca ?_
 exact⟨⟨rfl,fun y hy=>cA⟩⟩
def ky (f:cL→Bool):List cL→Nat→Int
 |[],_=>-1
 |e::l,k=>if f e=true then k else ky f l (k+1)
theorem v8 (f:cL→Bool):∀(l:List cL) (k:Nat),decide (0≤ky f l k)=l.any f
 |[],k=>by simp[ky]
 |e::l,k=>by
  rw[ky,List.any_cons]
  split
  ·rename_i h;rw[h];simp
  ·rename_i h
   rw[v8 f l (k+1)]
   simp only[Bool.not_eq_true] at h
   rw[h];rfl
theorem qg (f:cL→Bool):∀(l:List cL) (k:Nat),ky f l k=-1∧(∀x∈l,f x=false)∨∃i:Nat,ky f l k=(k+i:Nat)∧i<l.length∧(∀x∈l.take i,f x=false)∧f (l.getD i default)=true
 |[],k=> .inl ⟨rfl,fun x hx=>by cases hx⟩
 |e::l,k=>by
  rw[ky]
  split
  ·rename_i h
   exact .inr ⟨0,rfl,by simp,by simp,h⟩
  ·rename_i h
   simp only[Bool.not_eq_true] at h
   rcases qg f l (k+1) with⟨h1,h2⟩|⟨i,h1,h2,h3,h4⟩
   ·refine .inl ⟨h1,fun x hx=> ?_⟩
    rcases List.mem_cons.1 hx with rfl|hx
    ·exact h
    ·exact h2 x hx
   ·refine .inr ⟨i+1,by rw[h1];congr 1;omega,by simpa using h2,fun x hx=> ?_,h4⟩
    rw[List.take_succ_cons] at hx
    rcases List.mem_cons.1 hx with rfl|hx
    ·exact h
    ·exact h3 x hx
theorem sy (f:cL→Bool) {l:List cL} {i:Nat} (h:i<l.length) (k:Nat):ky f (l.drop i) k=if f (l.getD i default)=true then(k:Int) else ky f (l.drop (i+1)) (k+1):=by
 rw[List.drop_eq_getElem_cons h,ky,show l.getD i default=l[i] by simp[List.getD,h]]
theorem JR {e:cL} (he:kR e) {l:List cL} (hl:l.length≤65536) {eb:Nat} {H:Hp} {nx:Nat} (hb:∃d,bf H eb=some (.row 48 3 d [e.av])) (hlt:eb<nx):
 jB Tryz.prog 66 [eC l, .fn (.func 41) [] [.pt eb 1 0 0]] H nx (i64 (ky (fun p=>decide (e=p)) l 0)):=by
 obtain⟨d0,hb⟩:=hb
 refine aS BT rfl ?_
 refine ca ?_
 rw[List.length_map]
 refine aQ (fun i:Nat=>[(0,eC l),(1, .fn (.func 41) [] [.pt eb 1 0 0]),(7,i64 l.length),(8,i64 i)])
  (fun i H2 n=>i≤l.length∧nx≤n∧ky (fun p=>decide (e=p)) (l.drop i) i=ky (fun p=>decide (e=p)) l 0∧∀y,y<nx→bf H2 y=bf H y) (fun i=>l.length - i) 0
  ⟨_,_,_,Rt.refl _ _ _,cG,Nat.zero_le _,cO,rfl,fun y hy=>cA⟩ ?_
 rintro i H2 n ⟨hi,hn,hix,hk⟩
 have a0:(l.map cL.av).length=l.length:=List.length_map _
 by_cases hil:i<l.length
 ·have e0:∀d,(l.map cL.av).getD ((i:Int)).toNat d=(l.getD i default).av:=fun d=>by rw[Int.toNat_natCast];exact iY hil d
  rw[sy _ hil] at hix
  generalize l.getD i default=x at *
  refine ca ?_
  refine aR (CI (p:=x) he ⟨d0, ?_⟩ cO) trivial ?_
  ·exact Eq.trans cA ((hk eb hlt).trans hb)
  by_cases hx:e=x
  ·rw[if_pos (decide_eq_true hx)] at hix
   have r0:=decide_eq_true hx
   refine ca ?_
   exact⟨⟨by rw[←hix],fun y hy=>Eq.trans cA (hk y hy)⟩⟩
  ·rw[if_neg (by simpa using hx)] at hix
   have r0:=decide_eq_false hx
   refine ca ?_
   exact⟨i+1,by omega,_,_,_,Rt.refl _ _ _,cG,by omega,cO,hix,fun y hy=>Eq.trans cA (hk y hy)⟩
 ·obtain rfl:i=l.length:=by omega
  rw[List.drop_length] at hix
  refine ca ?_
  exact⟨⟨by rw[←hix];rfl,fun y hy=>Eq.trans cA (hk y hy)⟩⟩
theorem I2 {e:cL} (he:kR e) {l:List cL} (hl:l.length≤65536) {eb:Nat} {H:Hp} {nx:Nat} (hb:∃d,bf H eb=some (.row 48 3 d [e.av])) (hlt:eb<nx):
 jB Tryz.prog 40 [eC l, .fn (.func 41) [] [.pt eb 1 0 0]] H nx (bl (l.any fun p=>decide (e=p))):=by
 obtain⟨d0,hb⟩:=hb
 refine aS FU rfl ?_
 refine ca ?_
 refine aR (JR he hl ⟨d0, ?_⟩ cO) trivial ?_
 ·exact Eq.trans cA hb
 have h1:=v8 (fun p=>decide (e=p)) l 0
 generalize ky (fun p=>decide (e=p)) l 0=i at *
 rw[←h1]
 refine ca ?_
 exact⟨⟨rfl,fun y hy=>cA⟩⟩
theorem yx {e:cL} (he:kR e) {l:List cL} (hl:l.length≤65536) {pb:Nat} {H:Hp} {nx:Nat} (hb:∃d,bf H pb=some (.row 28 1 d [eC l])) (hlt:pb<nx):
 jB Tryz.prog 39 [e.av, .pt pb 1 0 0] H nx (bl (l.any fun p=>decide (e=p))):=by
 obtain⟨d0,hb⟩:=hb
 refine aS FT rfl ?_
 refine ca ?_
 refine aR (I2 he hl (eb:=nx) ⟨.any, ?_⟩ cO) trivial ?_
 ·exact bo
 refine ca ?_
 exact⟨⟨rfl,fun y hy=>cA⟩⟩
theorem zO {l:List cL} (hl:l.length≤65536) (hok:∀e∈l,kR e) {pl:List cL} (hpl:pl.length≤65536) {b pb:Nat} {H:Hp} {nx:Nat} (hb:∃d,bf H b=some (.row 48 3 d (l.map cL.av))) (hlt:b<nx) (hpb:∃d,bf H pb=some (.row 28 1 d [eC pl])) (hplt:pb<nx):
 jB Tryz.prog 66 [.sl b l.length, .fn (.func 39) [] [.pt pb 1 0 0]] H nx (i64 (ky (fun e=>pl.any fun p=>decide (e=p)) l 0)):=by
 obtain⟨d0,hb⟩:=hb
 obtain⟨d1,hpb⟩:=hpb
 refine aS BT rfl ?_
 refine ca ?_
 refine aQ (fun i:Nat=>[(0, .sl b l.length),(1, .fn (.func 39) [] [.pt pb 1 0 0]),(7,i64 l.length),(8,i64 i)])
  (fun i H2 n=>i≤l.length∧nx≤n∧ky (fun e=>pl.any fun p=>decide (e=p)) (l.drop i) i=ky (fun e=>pl.any fun p=>decide (e=p)) l 0∧∀y,y<nx→bf H2 y=bf H y) (fun i=>l.length - i) 0
  ⟨_,_,_,Rt.refl _ _ _,cG,Nat.zero_le _,cO,rfl,fun y hy=>cA⟩ ?_
 rintro i H2 n ⟨hi,hn,hix,hk⟩
 have a0:(l.map cL.av).length=l.length:=List.length_map _
 have r1':=(hk b hlt).trans hb
 by_cases hil:i<l.length
 ·have e0:∀d,(l.map cL.av).getD ((i:Int)).toNat d=(l.getD i default).av:=fun d=>by rw[Int.toNat_natCast];exact iY hil d
  rw[sy _ hil] at hix
  have hin:=hok _ (fu default hil)
  generalize l.getD i default=x at *
  refine ca ?_
  refine aR (yx hin hpl (pb:=pb) ⟨d1, ?_⟩ cO) trivial ?_
  ·exact Eq.trans cA ((hk pb hplt).trans hpb)
  generalize (pl.any fun p=>decide (x=p))=B at *
  cases B with
  |true=>
   rw[if_pos rfl] at hix
   refine ca ?_
   exact⟨⟨by rw[←hix],fun y hy=>Eq.trans cA (hk y hy)⟩⟩
  |false=>
   rw[if_neg (by simp)] at hix
   refine ca ?_
   exact⟨i+1,by omega,_,_,_,Rt.refl _ _ _,cG,by omega,cO,hix,fun y hy=>Eq.trans cA (hk y hy)⟩
 ·obtain rfl:i=l.length:=by omega
  rw[List.drop_length] at hix
  refine ca ?_
  exact⟨⟨by rw[←hix];rfl,fun y hy=>Eq.trans cA (hk y hy)⟩⟩
def nM (l pl:List cL):List cL:=l.filter fun e=> !(pl.any fun p=>decide (e=p))
set_option maxHeartbeats 4000000 in
theorem vA {l:List cL} (hl:l.length≤65536) (hok:∀e∈l,kR e) {pl:List cL} (hpl:pl.length≤65536) {b pb:Nat} {H:Hp} {nx:Nat} (hb:∃d,bf H b=some (.row 48 3 d (l.map cL.av))) (hlt:b<nx) (hpb:∃d,bf H pb=some (.row 28 1 d [eC pl])) (hplt:pb<nx) (hne:b≠pb):
 bz Tryz.prog 38 [.sl b l.length, .fn (.func 39) [] [.pt pb 1 0 0]] H nx (fun r H' n=>(r= .sl b l.length∨∃m,r= .sv b l.length 0 m)∧cY.eM H' 5 r=eC (nM l pl)):=by
 have hidx:=zO hl hok hpl hb hlt hpb hplt
 obtain⟨d0,r0'⟩:=hb
 obtain⟨d1,r1'⟩:=hpb
 have a0:(l.map cL.av).length=l.length:=List.length_map _
 have dW:=qg (fun e=>pl.any fun p=>decide (e=p)) l 0
 refine aO FQ rfl ?_
 refine ca ?_
 refine aR (zO hl hok hpl (b:=b) (pb:=pb) ⟨d0, ?_⟩ cO ⟨d1, ?_⟩ cO) trivial ?_
 ·exact bo
 ·exact bo
 rcases dW with⟨h1,h2⟩|⟨i,h1,hil,h2,h3⟩
 ·rw[h1]
  refine ca ?_
  refine⟨.inl rfl, ?_⟩
  have:nM l pl=l:=by
   unfold nM
   rw[List.filter_eq_self]
   intro e he
   rw[h2 e he];rfl
  rw[this]
  show cY.eM _ 5 (.sl b l.length)=_
  rw[mN (k:=4) bo a0,eK _ (iZ l)]
 ·rw[h1,Nat.zero_add]
  have hst:(l.take (i+1)).filter (fun e=> !(pl.any fun p=>decide (e=p)))=l.take i:=by
   rw[List.take_succ_eq_append_getElem hil,List.filter_append]
   have e1:(l.take i).filter (fun e=> !(pl.any fun p=>decide (e=p)))=l.take i:=by
    rw[List.filter_eq_self]
    intro e he
    rw[h2 e he];rfl
   have e2:l[i]=l.getD i default:=by simp[List.getD,hil]
   rw[e1,e2,List.filter_cons,h3]
   simp
  refine ca ?_
  refine aQ (fun σ:Nat×Nat×List cL=>[(0, .sl b l.length),(1, .fn (.func 39) [] [.pt pb 1 0 0]),(5,i64 σ.1),(6,i64 σ.2.1)])
   (fun σ H2 n=>σ.1+1≤σ.2.1∧σ.2.1≤l.length∧σ.2.2.length=l.length∧(∀q,σ.2.1≤q→σ.2.2.getD q default=l.getD q default)∧σ.2.2.take σ.1=(l.take σ.2.1).filter (fun e=> !(pl.any fun p=>decide (e=p)))∧nx≤n∧(∃d,bf H2 b=some (.row 48 3 d (σ.2.2.map cL.av)))∧∃d,bf H2 pb=some (.row 28 1 d [eC pl])) (fun σ=>l.length - σ.2.1) (i,i+1,l)
   ⟨_,_,_,Rt.refl _ _ _,cG,Nat.le_refl _,by show i+1≤l.length;omega,rfl,fun _ _=>rfl,hst.symm,cO,⟨_,bo⟩,⟨_,bo⟩⟩ ?_
  clear r0' r1' hidx hst h1 h2 h3
  rintro⟨k,j,es⟩ H3 n ⟨hkj,hj,hel,hsame,hdd,hn,⟨d0,r0'⟩,⟨d1,r1'⟩⟩
  dsimp only at hkj hj hel hsame hdd r0' ⊢
  have a1:(es.map cL.av).length=l.length:=by simp[hel]
  by_cases hjl:j<l.length
  ·have e0:∀d,(es.map cL.av).getD ((j:Int)).toNat d=(l.getD j default).av:=fun d=>by rw[Int.toNat_natCast,iY (by omega) d,hsame _ (by omega)]
   have e2:∀d,(es.map cL.av).getD ((k:Int)).toNat d=(es.getD k default).av:=fun d=>by rw[Int.toNat_natCast];exact iY (by omega) d
   have hin:=hok _ (fu default hjl)
   have hnx:(l.take (j+1)).filter (fun e=> !(pl.any fun p=>decide (e=p)))=(l.take j).filter (fun e=> !(pl.any fun p=>decide (e=p)))++(if(pl.any fun p=>decide (l.getD j default=p))=true then[] else[l.getD j default]):=by
    rw[List.take_succ_eq_append_getElem hjl,List.filter_append,show l.getD j default=l[j] by simp[List.getD,hjl]]
    congr 1
    rw[List.filter_cons]
    cases(pl.any fun p=>decide (l[j]=p))<;>rfl
   generalize l.getD j default=x at *
   refine ca ?_
   refine aR (yx hin hpl (pb:=pb) ⟨d1, ?_⟩ cO) trivial ?_
   ·exact bo
   generalize (pl.any fun p=>decide (x=p))=B at *
   cases B with
   |true=>
    rw[if_pos rfl,List.append_nil] at hnx
    refine ca ?_
    exact⟨(k,j+1,es),by dsimp only;omega,_,_,_,Rt.refl _ _ _,cG,by dsimp only;omega,by dsimp only;omega,hel,fun q hq=>hsame q (by dsimp only at hq;omega),by dsimp only;rw[hnx];exact hdd,cO,⟨d0,bo⟩,⟨d1,bo⟩⟩
   |false=>
    rw[if_neg (by simp)] at hnx
    refine ca ?_
    refine⟨(k+1,j+1,es.set k x),by dsimp only;omega,_,_,_,Rt.refl _ _ _,cG,by dsimp only;omega,by dsimp only;omega,by simp[hel],fun q hq=> ?_, ?_,cO,⟨d0,by dsimp only;rw[List.map_set];exact bo⟩,⟨d1,bo⟩⟩
    ·have hq:j+1≤q:=hq
     dsimp only
     rw[getD_set_ne (by omega)];exact hsame q (by omega)
    ·dsimp only
     rw[hnx,mB (by omega),hdd]
  ·obtain rfl:j=l.length:=by omega
   rw[List.take_length] at hdd
   refine ca ?_
   refine⟨.inr ⟨_,rfl⟩, ?_⟩
   rw[Int.toNat_natCast]
   have hkl:k≤l.length:=by omega
   generalize hZ:List.replicate (l.length - k) (gO true [Value.slice none 0 0,Value.slice none 0 0,Value.bool false])=Z
   have hZl:Z.length=l.length - k:=by rw[←hZ];simp
   have hr2:∀G:Hp,(∃d,bf G b=some (.row 48 3 d ((es.map cL.av).take k++Z++(es.map cL.av).drop (k+(l.length - k)))))→cY.eM G 5 (.sv b l.length 0 (k - 0))=eC (nM l pl):=by
    rintro G ⟨d,hG⟩
    rw[MS (k:=4) hG (by simp[hZl,hel];omega),List.drop_zero,Nat.sub_zero,List.append_assoc,List.take_append_of_le_length (by simp;omega),List.take_take,Nat.min_self,←List.map_take,hdd,eK _ (iZ _)]
    rfl
   exact hr2 _ ⟨d0,bo⟩
end Go.Proofs.YtlonbgdonffcbaaGreatDoor
end
section
/- Ends, Plain, Weak: the walks. -/
namespace Go.Proofs.YtlonbgdonffcbaaGreatDoor
open Go Go.cY Go.Proofs
set_option linter.unusedSimpArgs false
set_option linter.unusedVariables false
set_option maxRecDepth 8000
def e9 (p:Bool) (o:Obj) (most:Int):List cL:=if(cX p o most).1=0 then gz o (cX p o most).2 else[]
theorem lV (l:List cL) (e:Int):cB 0 (.dB [eC l,i64 e]):=by
 have:=iZ l
 simp[cB,cJ,this]
theorem nF {o:Obj} (ho:o.Wf) (most:Int) (H0:Hp) (nx:Nat):bz Tryz.prog 8 [o.av,i64 most] H0 nx (o7 false o most H0 nx):=by
 refine aO O4 rfl ?_
 refine ca ?_
 refine aP (sW (p:=false) ho (fun ok=>lX ok) most _ _) ?_
 rintro r H1 n1 ⟨hn,hk,hr⟩
 unfold o7
 by_cases h0:(cX false o most).1=0
 ·rw[if_pos h0] at hr
  obtain⟨b,rfl,hb,hbn,d,r1⟩:=hr
  refine ca ?_
  refine⟨⟨cO,fun y hy=>Eq.trans cA ((hk y cO).trans cA), ?_⟩⟩
  rw[if_pos h0]
  exact⟨b,rfl,Nat.le_trans (by exact cO) hb,cO,d,bo⟩
 ·rw[if_neg h0] at hr
  subst hr
  refine ca ?_
  refine⟨⟨cO,fun y hy=>Eq.trans cA ((hk y cO).trans cA), ?_⟩⟩
  rw[if_neg h0]
theorem o7.eM {p:Bool} {o:Obj} {most:Int} {H0 H:Hp} {nx n:Nat} {r:AV} (h:o7 p o most H0 nx r H n):cY.eM H 6 r=if(cX p o most).1=0 then .dB [eC (gz o (cX p o most).2),i64 0] else .dB [iw,i64 (cX p o most).1]:=by
 obtain⟨_,_,hr⟩:=h
 by_cases h0:(cX p o most).1=0
 ·rw[if_pos h0] at hr ⊢
  obtain⟨b,rfl,hb,hbn,d,r1⟩:=hr
  refine(zJ _ _ _).trans ?_
  rw[List.map_cons,List.map_cons,List.map_nil,mN (k:=4) r1 (by simp),eK _ (iZ _)]
  rfl
 ·rw[if_neg h0] at hr ⊢
  subst hr;rfl
theorem sX {p:Bool} {o:Obj} {most:Int} {P:Program} {f:FuncId} {args:List AV} (h:Pure P f args (fun r=>r=if(cX p o most).1=0 then .dB [eC (gz o (cX p o most).2),i64 0] else .dB [iw,i64 (cX p o most).1])):Pure P f args (fun r=>r= .dB [eC (e9 p o most),i64 (cX p o most).1]):=by
 refine iV h (lV _ _) fun c=> ?_
 unfold e9
 by_cases h0:(cX p o most).1=0
 ·rw[if_pos h0,if_pos h0,h0];exact fun _ h=>h
 ·rw[if_neg h0,if_neg h0]
  exact cc.dB (.cons (cc.rB _ _ _ _) (.cons (fun _ h=>h) .nil))
theorem zI (p:Bool) (o:Obj) (most:Int):cB 0 (if(cX p o most).1=0 then .dB [eC (gz o (cX p o most).2),i64 0] else .dB [iw,i64 (cX p o most).1]):=by
 split
 ·exact lV _ _
 ·simp[cB,cJ]
theorem OR {o:Obj} (ho:o.Wf) (most:Int):Pure Tryz.prog 8 [o.av,i64 most] (fun r=>r= .dB [eC (e9 false o most),i64 (cX false o most).1]):=
 sX (cq ((nF ho most [] 0).mono fun r H n h=>h.eM) (zI _ _ _))
theorem w3 {o:Obj} (ho:o.Wf) (most:Int) (H0:Hp) (nx:Nat):bz Tryz.prog 22 [o.av,i64 most] H0 nx (o7 true o most H0 nx):=by
 refine aO FE rfl ?_
 refine ca ?_
 refine aP (sW (p:=true) ho (fun ok=>yQ ok) most _ _) ?_
 rintro r H1 n1 ⟨hn,hk,hr⟩
 unfold o7
 by_cases h0:(cX true o most).1=0
 ·rw[if_pos h0] at hr
  obtain⟨b,rfl,hb,hbn,d,r1⟩:=hr
  refine ca ?_
  refine⟨⟨cO,fun y hy=>Eq.trans cA ((hk y cO).trans cA), ?_⟩⟩
  rw[if_pos h0]
  exact⟨b,rfl,Nat.le_trans (by exact cO) hb,cO,d,bo⟩
 ·rw[if_neg h0] at hr
  subst hr
  refine ca ?_
  refine⟨⟨cO,fun y hy=>Eq.trans cA ((hk y cO).trans cA), ?_⟩⟩
  rw[if_neg h0]
theorem HJ {o:Obj} (ho:o.Wf) (most:Int):Pure Tryz.prog 22 [o.av,i64 most] (fun r=>r= .dB [eC (e9 true o most),i64 (cX true o most).1]):=
 sX (cq ((w3 ho most [] 0).mono fun r H n h=>h.eM) (zI _ _ _))
def tP (o:Obj) (most:Int):List cL:=if(cX false o most).1=0 then nM (gz o (cX false o most).2) (e9 true o most) else[]
theorem tq (l:List cL):∀k,k≤l.length→∀e∈kU l k,e∈l
 |0,_,e,h=>by cases h
 |1,hk,e,h=>by
  rw[kU,List.mem_singleton] at h
  subst h
  exact fu default (by omega)
 |k+2,hk,e,h=>by
  rw[kU] at h
  split at h
  ·exact tq l (k+1) (by omega) e h
  ·rcases List.mem_append.1 h with h|h
   ·exact tq l (k+1) (by omega) e h
   ·rw[List.mem_singleton] at h
    subst h
    exact fu default (by omega)
theorem sU {o:Obj} {l:List bw} {e:cL} (h:e∈gz o l):e∈dM o l l.length:=
 (kO dy _).mem_iff.1 (tq _ _ (by rw[jt];exact Nat.le_refl _) e h)
theorem AW (o:Obj) (l:List bw):(gz o l).length≤l.length:=Nat.le_trans (zA _ _) (qX o l l.length)
theorem qW {p:Bool} {o:Obj} (ho:o.Wf) (most:Int):(∀e∈e9 p o most,kR e)∧(e9 p o most).length≤65536:=by
 unfold e9
 split
 ·rename_i h0
  obtain⟨ok,hf,hl⟩:=mi ho h0
  exact⟨fun e he=>sV ok hf hl _ e (sU he),Nat.le_trans (AW _ _) hl⟩
 ·exact⟨fun e he=>(by cases he),by simp⟩
set_option maxHeartbeats 1000000 in
theorem PM {o:Obj} (ho:o.Wf) (most:Int):Pure Tryz.prog 17 [o.av,i64 most] (fun r=>r= .dB [eC (tP o most),i64 (cX false o most).1]):=by
 have key:Pure Tryz.prog 17 [o.av,i64 most] (fun r=>r=if(cX false o most).1=0 then .dB [eC (nM (gz o (cX false o most).2) (e9 true o most)),i64 0] else .dB [iw,i64 (cX false o most).1]):=by
  refine cq ?_ (by split;exact lV _ _;simp[cB,cJ])
  have c0:=HJ ho most
  obtain⟨hpin,hpl⟩:=qW (p:=true) ho most
  obtain⟨hin,hel⟩:=qW (p:=false) ho most
  have hfp:=iZ (e9 true o most)
  refine aO FB rfl ?_
  refine ca ?_
  refine aP (nF ho most _ _) ?_
  rintro r H1 n1 ⟨hn,hk,hr⟩
  unfold e9 at hin hel
  have hk0:=hk 0 (by omega)
  by_cases h0:(cX false o most).1=0
  ·rw[if_pos h0] at hr hin hel
   rw[if_pos h0]
   obtain⟨b,rfl,hb,hbn,d,r1⟩:=hr
   generalize gz o (cX false o most).2=es at *
   generalize e9 true o most=pl at *
   generalize (cX true o most).1=pe at *
   have r0':bf H1 0=some (.row 25 5 .any [o.av]):=hk0.trans bo
   refine ca ?_
   show gB Tryz.prog 38 [.sl b es.length, .fn (.func 39) [] [.pt (n1+12) 1 0 0]] _ _ _
   refine aP (vA (l:=es) (pl:=pl) (b:=b) (pb:=n1+12) hel hin hpl ⟨d, ?_⟩ ?_ ⟨gO false [.slice none 0 0], ?_⟩ ?_ ?_) ?_
   ·exact bo
   ·exact cO
   ·exact bo
   ·exact cO
   ·omega
   rintro r H4 n4 ⟨hform,hfz⟩
   rcases hform with rfl|⟨m,rfl⟩
   all_goals
    refine ca ?_
    refine⟨?_⟩
    show AV.dB [cY.eM H4 5 _,i64 0]=_
    rw[hfz]
  ·rw[if_neg h0] at hr
   rw[if_neg h0]
   subst hr
   generalize (cX false o most).1=e at *
   have r0:=decide_eq_true h0
   refine ca ?_
   exact⟨rfl⟩
 refine iV key (lV _ _) fun c=> ?_
 unfold tP
 by_cases h0:(cX false o most).1=0
 ·rw[if_pos h0,if_pos h0,h0];exact fun _ h=>h
 ·rw[if_neg h0,if_neg h0]
  exact cc.dB (.cons (cc.rB _ _ _ _) (.cons (fun _ h=>h) .nil))
end Go.Proofs.YtlonbgdonffcbaaGreatDoor
end
