import Derived.Shelf.SlSortCmp.WholeK
import Derived.Test.YtekfmjjmihomlaaGreatProg
import Derived.Test.YtekfmjjmihomlaaGreatM36
import Derived.Test.YtekfmjjmihomlaaGreatM37
import Derived.Test.YtekfmjjmihomlaaGreatM35
import Derived.Shelf.SlSortCmp.NoneTotal
import Derived.Test.YtekfmjjmihomlaaGreatM16
import Derived.Test.YtekfmjjmihomlaaGreatRows
section
/- The library's sort by a comparison at this program, as a tool of the kit laid it in plain words. -/
namespace Go.Proofs
open Go.Shelf
def Tryz.zg:Go.Shelf.Ren:=⟨fun|6=>37|15=>74|14=>73|28=>112|29=>113|20=>104|21=>105|22=>106|23=>107|24=>108|25=>109|26=>110|27=>111|46=>138|47=>139|48=>140|49=>141|50=>142|57=>154|n=>n,fun|22=>30|24=>40|25=>41|3=>3|39=>136|0=>0|53=>171|55=>173|4=>4|46=>165|45=>164|50=>131|5=>5|9=>9|66=>197|70=>201|76=>216|77=>217|n=>n,fun|n=>n⟩
theorem Tryz.H7:Go.Proofs.SlLaysF0.n6 Tryz.prog Tryz.zg:={
 mixed:=by kernel_rfl
 f6:=⟨Tryz.f37.name,by decide,Tryz.func37.trans (congrArg some (by kernel_rfl))⟩
 f14:=⟨Tryz.f73.name,by decide,Tryz.func73.trans (congrArg some (by kernel_rfl))⟩
 f15:=Tryz.func74.trans (congrArg some (by kernel_rfl))
 f20:=⟨Tryz.f104.name,by decide,Tryz.func104.trans (congrArg some (by kernel_rfl))⟩
 f21:=⟨Tryz.f105.name,by decide,Tryz.func105.trans (congrArg some (by kernel_rfl))⟩
 f22:=⟨Tryz.f106.name,by decide,Tryz.func106.trans (congrArg some (by kernel_rfl))⟩
 f23:=⟨Tryz.f107.name,by decide,Tryz.func107.trans (congrArg some (by kernel_rfl))⟩
 f24:=⟨Tryz.f108.name,by decide,Tryz.func108.trans (congrArg some (by kernel_rfl))⟩
 f25:=⟨Tryz.f109.name,by decide,Tryz.func109.trans (congrArg some (by kernel_rfl))⟩
 f26:=⟨Tryz.f110.name,by decide,Tryz.func110.trans (congrArg some (by kernel_rfl))⟩
 f27:=⟨Tryz.f111.name,by decide,Tryz.func111.trans (congrArg some (by kernel_rfl))⟩
 f28:=Tryz.func112.trans (congrArg some (by kernel_rfl))
 f29:=Tryz.func113.trans (congrArg some (by kernel_rfl))
 f46:=⟨Tryz.f138.name,by decide,Tryz.func138.trans (congrArg some (by kernel_rfl))⟩
 f47:=Tryz.func139.trans (congrArg some (by kernel_rfl))
 f48:=Tryz.func140.trans (congrArg some (by kernel_rfl))
 f49:=⟨Tryz.f141.name,by decide,Tryz.func141.trans (congrArg some (by kernel_rfl))⟩
 f50:=⟨Tryz.f142.name,by decide,Tryz.func142.trans (congrArg some (by kernel_rfl))⟩
 f57:=⟨Tryz.f154.name,by decide,Tryz.func154.trans (congrArg some (by kernel_rfl))⟩
 t0:=Tryz.underlying0
 a0:=Tryz.isAgg0
 z0:=Tryz.sizeOf0
 v0:=Tryz.zeroValue0
 t3:=Tryz.underlying3
 a3:=Tryz.isAgg3
 z3:=Tryz.sizeOf3
 v3:=Tryz.zeroValue3
 t4:=Tryz.underlying4
 a4:=Tryz.isAgg4
 z4:=Tryz.sizeOf4
 v4:=Tryz.zeroValue4
 t5:=Tryz.underlying5
 a5:=Tryz.isAgg5
 z5:=Tryz.sizeOf5
 v5:=Tryz.zeroValue5
 t9:=Tryz.underlying9
 a9:=Tryz.isAgg9
 z9:=Tryz.sizeOf9
 v9:=Tryz.zeroValue9
 t22:=Tryz.underlying30
 a22:=Tryz.isAgg30
 z22:=Tryz.sizeOf30
 v22:=Tryz.zeroValue30
 t25:=Tryz.underlying41
 a25:=Tryz.isAgg41
 z25:=Tryz.sizeOf41
 v25:=Tryz.zeroValue41
 t39:=Tryz.underlying136
 a39:=Tryz.isAgg136
 z39:=Tryz.sizeOf136
 v39:=Tryz.zeroValue136
 t45:=Tryz.underlying164
 a45:=Tryz.isAgg164
 z45:=Tryz.sizeOf164
 v45:=Tryz.zeroValue164
 t46:=Tryz.underlying165
 a46:=Tryz.isAgg165
 z46:=Tryz.sizeOf165
 v46:=Tryz.zeroValue165
 t50:=Tryz.underlying131
 a50:=Tryz.isAgg131
 z50:=Tryz.sizeOf131
 v50:=Tryz.zeroValue131
 t53:=Tryz.underlying171
 a53:=Tryz.isAgg171
 z53:=Tryz.sizeOf171
 v53:=Tryz.zeroValue171
 t55:=Tryz.underlying173
 a55:=Tryz.isAgg173
 z55:=Tryz.sizeOf173
 v55:=Tryz.zeroValue173
 t66:=Tryz.underlying197
 a66:=Tryz.isAgg197
 z66:=Tryz.sizeOf197
 v66:=Tryz.zeroValue197
 t70:=Tryz.underlying201
 a70:=Tryz.isAgg201
 z70:=Tryz.sizeOf201
 v70:=Tryz.zeroValue201
 t76:=Tryz.underlying216
 a76:=Tryz.isAgg216
 z76:=Tryz.sizeOf216
 v76:=Tryz.zeroValue216
 t77:=Tryz.underlying217
 a77:=Tryz.isAgg217
 z77:=Tryz.sizeOf217
 v77:=Tryz.zeroValue217 }
end Go.Proofs
end
section
/- The library's sort by a comparison, as the walks take it: whatever the struct. -/
namespace Go.Proofs.YtekfmjjmihomlaaGreat
open Go Go.cN Go.Proofs Go.RowKit Go.Sort
set_option linter.unusedSimpArgs false
set_option linter.unusedVariables false
theorem vQ {w w':World} (h:Go.RowKit.Below w.heap.size w w') (hd:w.drawn≤w'.drawn):∃q os',w'=grow (w.drewN q) os':=by
 refine⟨w'.drawn - w.drawn,w'.heap.extract w.heap.size w'.heap.size, ?_⟩
 obtain⟨hp,tp,dr,os,ou⟩:=w
 obtain⟨hp',tp',dr',os',ou'⟩:=w'
 have h1:=h.os
 have h2:=h.tape
 have h3:=h.output
 have h4:=h.size
 have h5:=h.block
 dsimp only at *
 subst h1 h2 h3
 simp only[grow,World.drewN,World.mk.injEq,true_and,and_true]
 refine⟨?_,by omega⟩
 apply Array.ext_getElem?
 intro i
 rw[Array.getElem?_append]
 split
 ·rename_i hi;exact h5 i hi
 ·rename_i hi
  rw[Array.getElem?_extract]
  split
  ·congr 1;omega
  ·rw[Array.getElem?_eq_none (by omega)]
def El {S:Type} (cells:S→List AV) (ok:S→Prop) (w:World) (M:Nat→Prop):Type:={ x:S×List Value //ok x.1∧cL (base w M) (cells x.1) x.2 }
section
variable {S:Type} {cells:S→List AV} {ok:S→Prop} {k:Nat} {cf:S→S→Int}
structure vK (P:Program) (g:Nat) (cells:S→List AV) (k:Nat) (ok:S→Prop) (cf:S→S→Int):Prop where
 len:∀s,(cells s).length=k
 pos:0<k
 fit:∀s,cM 0 (cells s)
 one:∀s,fi (cells s)=true
 cmp:∀a b,ok a→ok b→Pure P g [.agg (cells a), .agg (cells b)] (fun r=>r= .sc (.int .i64 (cf a b)))
 ord:iR cf
theorem JL (h:iR cf) {α:Type} (f:α→S):SWO (ltOf fun x y:α=>cf (f x) (f y)) where
 irrefl x:=by
  have:=(h.zero (f x) (f x)).2 rfl
  simp[ltOf,this]
 trans x y z h1 h2:=by
  simp only[ltOf,decide_eq_true_eq] at *
  exact h.tr _ _ _ h1 h2
 ntrans x y z h1 h2:=by
  simp only[ltOf,decide_eq_false_iff_not] at *
  have n1:=h.neg (f x) (f y)
  have n2:=h.neg (f y) (f z)
  have n3:=h.neg (f x) (f z)
  by_cases e1:cf (f x) (f y)=0
  ·rw[(h.zero _ _).1 e1];exact h2
  ·by_cases e2:cf (f y) (f z)=0
   ·rw[←(h.zero _ _).1 e2];exact h1
   ·have:=h.tr (f z) (f y) (f x) (by omega) (by omega)
    omega
variable {w:World} {M:Nat→Prop} {blk off:Nat}
theorem jw {α:Type} [Inhabited α] {enc:α→List Value} {n i:Nat} {os:Array Obj} (d:Array α) (hi:i<w.heap.size) (hne:i≠blk):(sortWorldK enc k w blk off n d os).heap[i]?=w.heap[i]?:=by
 unfold sortWorldK putRowK
 rw[heap_grow_old _ _ (by simpa[putRow,mapBlock,Sort.ahead] using hi)]
 simp[putRow,mapBlock,Sort.ahead,Array.getElem?_modify,Ne.symm hne]
theorem pP {α:Type} [Inhabited α] {enc:α→List Value} {n:Nat} {os:Array Obj} {cur:Array Value} {e:TypeId} {fr:Nat×Nat} (d:Array α) (hb:w.heap[blk]?=some (.cells cur e fr)):
 (sortWorldK enc k w blk off n d os).heap[blk]?=some (.cells (putCells id off (flatK enc k d) cur) e fr):=by
 have hg:blk<w.heap.size:=(Array.getElem?_eq_some_iff.1 hb).1
 unfold sortWorldK putRowK
 rw[heap_grow_old _ _ (by simpa[putRow,mapBlock,Sort.ahead] using hg)]
 simp[putRow,mapBlock,Sort.ahead,Array.getElem?_modify,hb,onCells]
theorem vV {P:Program} {g:Nat} (h:vK P g cells k ok cf) (hM:vI w M) (hblk:M blk) (size:Nat) [Inhabited (El cells ok w M)]:
 CmpLays P g #[] (fun x:El cells ok w M=>x.1.2) k (fun x y=>cf x.1.1 y.1.1) blk off size w:=by
 intro m os dk _ x y
 have hsz:w.heap.size≤(sortWorldK (fun x:El cells ok w M=>x.1.2) k w blk off m dk os).heap.size:=size_sortWorldK_c _ _ _ _ _ _ _ _
 have hne:=fun(i:Nat) (hi:i<w.heap.size) (hn:i≠blk)=>jw (k:=k) (off:=off) (enc:=fun x:El cells ok w M=>x.1.2) (n:=m) (os:=os) dk hi hn
 generalize sortWorldK (fun x:El cells ok w M=>x.1.2) k w blk off m dk os=W at *
 have hle:(base w M).le (base W M):=by
  refine⟨fun _ h=>h,hsz,fun b hb hlt=> ?_,fun b hb=>hb.elim⟩
  rw[ja] at hb ⊢
  exact⟨hne b hlt fun e=>hb (e▸hblk),hb⟩
 have hF:vI W M:=by
  refine⟨fun b hb=>Nat.lt_of_lt_of_le (hM.lt b hb) hsz,fun t ht=> ?_⟩
  obtain⟨t1,t2,t3⟩:=hM.LZ t ht
  refine⟨t1,Nat.lt_of_lt_of_le t2 hsz,fun j hj=> ?_⟩
  rw[←t3 j hj]
  exact World.cell?_of_block (a:=⟨t.1,j,none⟩) (hne _ t2 fun e=>t1 (by rw[show t.1=blk from e];exact hblk))
 obtain⟨⟨xs,xv⟩,x1,x2⟩:=x
 obtain⟨⟨ys,yv⟩,y1,y2⟩:=y
 have hc:=EI ((h.cmp xs ys x1 y1).2 M W [.agg xv.toArray, .agg yv.toArray] hF (by
  rw[cL]
  refine⟨_,_,rfl,by rw[VR];exact⟨_,rfl,by simpa using cL.cE hle x2⟩, ?_⟩
  rw[cL]
  refine⟨_,_,rfl,by rw[VR];exact⟨_,rfl,by simpa using cL.cE hle y2⟩, ?_⟩
  rw[cL]))
 refine hc.mono ?_
 rintro e w' ⟨⟨v,r,rfl,rfl,_,hv,hb⟩,hd⟩
 rw[VR] at hv
 exact⟨by rw[hv],vQ hb (hd v rfl)⟩
theorem tK {α:Type} [Inhabited α] {enc:α→List Value} {d:Array α} (hk:∀x,(enc x).length=k) (hpos:0<k) (h:∀i c,i<d.size→c<k→w.cell? ⟨blk,off+i * k+c,none⟩=some (enc d[i]!)[c]!∧w.frozen? ⟨blk,off+i * k+c,none⟩=false):HoldsK enc k w blk off d:=by
 intro t ht
 rw[size_flatK] at ht
 have e1:t /k<d.size:=(Nat.div_lt_iff_lt_mul hpos).2 ht
 have e2:t%k<k:=Nat.mod_lt _ hpos
 have:=h (t /k) (t%k) e1 e2
 rw[Nat.add_assoc,show t /k * k+t%k=t by rw[Nat.mul_comm];exact Nat.div_add_mod t k] at this
 rw[get_flatK _ _ _ _ ht]
 exact this
set_option maxHeartbeats 2000000 in
theorem wi {P:Program} {ρ:Go.Shelf.Ren} (L:SlLaysF0.n6 P ρ) (aE:∀w,(isAgg (ρ.t 24)).run P w= .ok true w) (zE:∀w,(Go.sizeOf (ρ.t 24)).run P w= .ok k w) (hen:gU P (ρ.f 6)) {g:Nat} (eg:∀args w,(callFunc g args).run P w= .ok (.enter g args) w)
 (h:vK P g cells k ok cf) [Inhabited S] (b:Nat) (l:List S) (hok:∀s∈l,ok s) (e:TypeId) (d:AV) (H:Hp) (nx:Nat) (hb:bd H b=some (.row e k d (l.map fun s=> .agg (cells s)))) (hlt:b<nx) (hl:l.length<4611686018427387904) (h0:l≠[]):
 cC P (ρ.f 6) [.sl b l.length, .fn (.func g) [] []] H nx (fun r H' n=>r= .da []∧n=nx∧H'=(b,some (.row e k d ((fA cf l).map fun s=> .agg (cells s))))::H):=by
 refine⟨hen,fun w0 c vs hS hH hU hv=> ?_⟩
 rw[cL] at hv
 obtain⟨v,vs',rfl,hv,hv2⟩:=hv
 rw[cL] at hv2
 obtain⟨v2,vs2,rfl,hv2,hv3⟩:=hv2
 rw[cL] at hv3
 subst hv3
 rw[VR] at hv2
 obtain⟨ps,qs,rfl,hp1,hp2⟩:=hv2
 rw[cL] at hp1 hp2
 obtain rfl:ps=#[]:=Array.toList_eq_nil_iff.1 hp1
 obtain rfl:qs=#[]:=Array.toList_eq_nil_iff.1 hp2
 rw[VR] at hv
 obtain⟨hUb,a,cap,rfl,hr⟩:=hv
 have hcb:c.H b=some (.row e k d (l.map fun s=> .agg (cells s))):=by rw[hH];exact hb
 obtain⟨_,hr2⟩:=hr _ _ _ _ hcb
 have hr3:=hr2 (by simp)
 have hpos:=h.pos
 obtain⟨_,_,hor⟩:=hS.j5 b _ _ _ _ hcb (.inr hpos)
 have hln:0<l.length:=List.length_pos_iff.2 h0
 rcases hor with⟨_,hes⟩|⟨blk,o,z,hρ,hlow,⟨arr,harr,hsz⟩,hlz,hrow⟩
 ·exact absurd (List.map_eq_nil_iff.1 hes) h0
 rcases hr3 with⟨h1,_,_⟩|⟨blk',o',z',h1,rfl,hc1,hc2,hc3,_⟩
 ·rw[hρ] at h1;cases h1
 rw[hρ] at h1
 cases h1
 have hblk:blk<c.w.heap.size:=(Array.getElem?_eq_some_iff.1 harr).1
 rw[List.length_map] at hlz
 have hMb:c.M blk:= .inr ⟨b,_,o,z,hcb,hρ⟩
 -- the elements as they stand
 have hel:∀i,i<l.length→∃x:El cells ok c.w c.M,x.1.1=l.getD i default∧∀j,j<k→c.w.cell? ⟨blk,o+i * k+j,none⟩=x.1.2[j]?:=fun i hi=>by
  obtain⟨v,⟨hv1,hv2,_⟩,hv3⟩:=dH hrow i (by simpa using hi)
  rw[dJ (f:=fun s=>AV.agg (cells s)) (h:=hi)] at hv3
  rw[VR] at hv3
  obtain⟨us,rfl,hus⟩:=hv3
  refine⟨⟨(l.getD i default,us.toList),hok _ (cW default hi),cL.lK (fun _ hb=>hb) (h.fit _) hus⟩,rfl,fun j hj=> ?_⟩
  rw[hv2 j hj]
  simp[Value.cells]
 haveI:Inhabited (El cells ok c.w c.M):=⟨(hel 0 hln).choose⟩
 obtain⟨dl,hdl,hdr⟩:=jc (List.range l.length) (R:=fun i (x:El cells ok c.w c.M)=>x.1.1=l.getD i default∧∀j,j<k→c.w.cell? ⟨blk,o+i * k+j,none⟩=x.1.2[j]?) (fun i hi=>hel i (by simpa using hi))
 simp only[List.length_range] at hdl
 have hdg:∀i (hi:i<dl.length),dl[i].1.1=l.getD i default∧∀j,j<k→c.w.cell? ⟨blk,o+i * k+j,none⟩=dl[i].1.2[j]?:=fun i hi=>hdr i i _ (by rw[List.getElem?_range (by omega)]) (List.getElem?_eq_getElem hi)
 have hxl:∀x:El cells ok c.w c.M,x.1.2.length=k:=fun x=>by rw[x.2.2.length,h.len]
 have hHolds:HoldsK (fun x:El cells ok c.w c.M=>x.1.2) k c.w blk o dl.toArray:=by
  refine tK hxl hpos fun i j hi hj=> ?_
  have hi':i<dl.length:=by simpa using hi
  have:=(hdg i hi').2 j hj
  refine⟨?_, ?_⟩
  ·rw[this]
   have hj':j<dl[i].1.2.length:=by rw[hxl];exact hj
   simp[hi',hj']
  ·simp only[World.frozen?,harr]
   simp
 have hones:∀x:El cells ok c.w c.M,∀v∈x.1.2,v.oneCell'=true:=fun x=>x.2.2.DB (h.one _)
 have hcon:=AnyQ.slices_SortFunc L k aE zE (fun x:El cells ok c.w c.M=>x.1.2) hxl hones (fun x y=>cf x.1.1 y.1.1) (JL h.ord fun x:El cells ok c.w c.M=>x.1.1) g #[] blk o cap dl.toArray c.w eg (vV h hS.fit hMb _) hHolds hblk (by simp;omega)
 rw[show dl.toArray.size=l.length by simp[hdl]] at hcon
 refine hcon.mono ?_
 rintro en w' ⟨rfl,d',n,os,⟨hpz,_,hpp⟩,hss,hw'⟩
 have hdz:d'.size=l.length:=by rw[hpz];simp[hdl]
 -- what stands in the row now
 have hl1:dl.map (fun x=>x.1.1)=l:=by
  apply List.ext_getElem (by simp[hdl])
  intro i q1 q2
  have:=(hdg i (by simpa using q1)).1
  rw[List.getElem_map,this]
  simp[List.getD,q2]
 have hperm:(d'.toList.map fun x=>x.1.1).Perm l:=by
  have h2:d'.toList.Perm dl:=by
   have e1:d'.extract 0 l.length=d':=by rw[←hdz];exact Array.extract_size
   have e2:dl.toArray.extract 0 l.length=dl.toArray:=by rw[←hdl,←List.size_toArray];exact Array.extract_size
   rw[e1,e2] at hpp
   simpa using hpp
  have h3:=h2.map (fun x:El cells ok c.w c.M=>x.1.1)
  rwa[hl1] at h3
 have hsort:(d'.toList.map fun x=>x.1.1).Pairwise fun x y=>vH cf x y=true:=by
  rw[List.pairwise_iff_getElem]
  intro i j hi hj hij
  have hj':j<d'.size:=by simpa using hj
  have:=hss i j (Nat.zero_le _) hij (by omega)
  rw[getElem!_pos d' j hj',getElem!_pos d' i (by omega)] at this
  simp only[ltOf,decide_eq_false_iff_not] at this
  have hneg:=h.ord.neg d'[i].1.1 d'[j].1.1
  simp only[List.getElem_map,Array.getElem_toList,vH,decide_eq_true_eq]
  omega
 have hres:=h.ord.GX hperm hsort
 have hlen:(fA cf l).length=l.length:=qi cf l
 have hHn:HoldsK (fun x:El cells ok c.w c.M=>x.1.2) k w' blk o d':=by
  rw[hw']
  exact holdsK_sortWorldK_c _ _ _ _ _ dl.toArray d' n os hHolds hblk (by rw[hpz])
 have hput:=hS.pI (b:=b) (e:=e) (sz:=k) d (es:=(fA cf l).map fun s=> .agg (cells s)) (w':=w') (blk:=blk) (o:=o) (z:=z) (arr:=putCells id o (flatK (fun x:El cells ok c.w c.M=>x.1.2) k d') arr) hpos
  (.inr ⟨_,_,_,hcb, .inl ⟨by simp[hlen],hρ⟩⟩) (.inr ⟨_,_,_,hcb,hρ⟩) (by rw[hw'];rfl) (by rw[hw'];rfl) (by rw[hw'];rfl) (by rw[hw'];exact size_sortWorldK_c _ _ _ _ _ _ _ _) (fun q hq hne=>by rw[hw'];exact jw d' hq hne) (by rw[hw'];exact pP d' harr) (by simp[putCells];exact hsz) (by simp[hlen];exact hlz) (fun hle i hi=>by
   have hi':i<d'.size:=by simpa[hlen,hdz] using hi
   have hx:=d'[i].2.2
   refine⟨.agg d'[i].1.2.toArray,⟨by simp[Value.cells,hxl],fun j hj=> ?_,fun j u hu=> ?_⟩, ?_⟩
   ·have:=(hHn.cell (i:=i) (c:=j) hi' hj).1
    rw[getElem!_pos d' i hi'] at this
    rw[this]
    have hj':j<d'[i].1.2.length:=by rw[hxl];exact hj
    simp[Value.cells,hj']
   ·simp only[Value.cells,List.getElem?_toArray] at hu
    exact hones d'[i] u (List.mem_of_getElem? hu)
   ·have e4:((fA cf l).map fun s=>AV.agg (cells s)).getD i .any= .agg (cells d'[i].1.1):=by
     rw[←hres]
     simp[List.getD,hi']
    rw[e4,VR]
    exact⟨_,rfl,by simpa using cL.cE (rK.trans hle) hx⟩)
 obtain⟨p1,p2⟩:=hput
 have hHeq:bd ((b,some (.row e k d ((fA cf l).map fun s=> .agg (cells s))))::H)=eQ c.H b (some (.row e k d ((fA cf l).map fun s=> .agg (cells s)))):=by
  have:=dB H b (.row e k d ((fA cf l).map fun s=> .agg (cells s)))
  rw[hH];exact this
 refine⟨.tuple #[], .da [],_,nx,eQ c.ρ b (some (blk,o,z)),fun x=>c.U x∨x=b,rfl,⟨rfl,rfl,rfl⟩,fun x hx=>hx.elim (hU x) (fun e=>by omega), ?_, ?_, ?_⟩
 ·rw[hHeq];exact p1
 ·rw[hHeq];exact p2
 ·rw[VR];exact⟨#[],rfl,by rw[cL]⟩
end
end Go.Proofs.YtekfmjjmihomlaaGreat
end
section
/- Ends sorted; each once. -/
namespace Go.Proofs.YtekfmjjmihomlaaGreat
open Go Go.cN Go.Proofs Go.RowKit Go.Sort
set_option linter.unusedSimpArgs false
set_option linter.unusedVariables false
set_option maxRecDepth 8000
theorem wh {P:Program} {ρ:Go.Shelf.Ren} (L:SlLaysF0.n6 P ρ) (hen:gU P (ρ.f 6)) (b:Nat) (fv:AV) (H:Hp) (nx:Nat):
 cC P (ρ.f 6) [.sl b 0,fv] H nx (fun r H' n=>r= .da []∧n=nx∧H'=H):=by
 refine⟨hen,fun w0 c vs hS hH hU hv=> ?_⟩
 rw[cL] at hv
 obtain⟨v,vs',rfl,hv,hv2⟩:=hv
 rw[cL] at hv2
 obtain⟨v2,vs2,rfl,hv2,hv3⟩:=hv2
 rw[cL] at hv3
 subst hv3
 rw[VR] at hv
 obtain⟨hUb,a,cap,rfl,hr⟩:=hv
 refine(AnyF.slices_SortFunc_none L a cap v2 c.w).mono ?_
 rintro e w' ⟨rfl,rfl⟩
 obtain⟨ρ',Hc,U,w,M0⟩:=c
 simp only at hH
 subst hH
 exact⟨.tuple #[], .da [],H,nx,ρ',U,rfl,⟨rfl,rfl,rfl⟩,hU,hS,Cx.le.refl _,by rw[VR];exact⟨#[],rfl,by rw[cL]⟩⟩
def wz (e:dE):Prop:=e.bo.length<9223372036854775807∧e.mem.length<9223372036854775807
theorem wg:vK Tryz.prog 19 dE.cells 3 wz eB where
 len:=fun _=>rfl
 pos:=by omega
 fit:=fun _=>by simp
 one:=fun _=>rfl
 cmp:=fun a b ha hb=>qC a b ha.1 ha.2
 ord:=rR
theorem pO:gU Tryz.prog 37:=⟨Tryz.f37,Tryz.func37,by kernel_rfl,by kernel_rfl⟩
theorem zh (b:Nat) (l:List dE) (hok:∀e∈l,wz e) (hl:l.length≤65536) (H:Hp) (nx:Nat) (hb:∃d,bd H b=some (.row 40 3 d (l.map dE.av))) (hlt:b<nx):
 cC Tryz.prog 37 [.sl b l.length, .fn (.func 19) [] []] H nx (fun r H' n=>(∃d,bd H' b=some (.row 40 3 d ((fA eB l).map dE.av)))∧nx≤n∧∀y,y<nx→y≠b→bd H' y=bd H y):=by
 obtain⟨d,hb⟩:=hb
 by_cases h0:l=[]
 ·subst h0
  refine(wh Tryz.H7 pO b _ H nx).mono ?_
  rintro r H' n ⟨rfl,rfl,rfl⟩
  exact⟨⟨d,by rw[hb];simp[fA]⟩,Nat.le_refl _,fun _ _ _=>rfl⟩
 ·refine(wi Tryz.H7 (k:=3) (fun w=>cN.kS (by kernel_rfl) w) (fun w=>cN.run_sizeOf (by kernel_rfl) w) pO (enters_of Tryz.func19 (by kernel_rfl) rfl) wg b l hok 40 d H nx hb hlt (by omega) h0).mono ?_
  rintro r H' n ⟨rfl,rfl,rfl⟩
  exact⟨⟨d,cR _ _ _⟩,Nat.le_refl _,fun y _ hne=>cF hne⟩
end Go.Proofs.YtekfmjjmihomlaaGreat
end
section
/- Neighbours that are one go: the walk of the library's CompactFunc. -/
namespace Go.Proofs.YtekfmjjmihomlaaGreat
open Go Go.cN Go.Proofs
set_option linter.unusedSimpArgs false
set_option linter.unusedVariables false
set_option maxRecDepth 8000
def p9 (l:List dE):Nat→List dE
 |0=>[]
 |1=>[l.getD 0 default]
 |k+2=>if l.getD (k+1) default=l.getD k default then p9 l (k+1) else p9 l (k+1)++[l.getD (k+1) default]
theorem xG (l:List dE):∀k,(p9 l k).length≤k
 |0=>Nat.le_refl _
 |1=>Nat.le_refl _
 |k+2=>by
  rw[p9]
  have:=xG l (k+1)
  split
  ·omega
  ·rw[List.length_append,List.length_cons,List.length_nil];omega
theorem si (l:List dE) {k:Nat} (hk:1≤k):p9 l (k+1)=if l.getD k default=l.getD (k - 1) default then p9 l k else p9 l k++[l.getD k default]:=by
 obtain⟨j,rfl⟩:∃j,k=j+1:=⟨k - 1,by omega⟩
 rw[p9]
 rfl
theorem oY {l:List dE} {i:Nat} (h:i<l.length) (d:AV):(l.map dE.av).getD i d=(l.getD i default).av:=dJ dE.av l i d h
abbrev mb (l:List dE):AV:= .im 3 .any (l.map dE.av)
theorem o7 (l:List dE):cM 0 (l.map dE.av):=(cB _ _).2 fun _ _=>by simp[cA]
theorem pe {α:Type} {l:List α} {i:Nat} {x:α} (h:i<l.length):(l.set i x).take (i+1)=l.take i++[x]:=by
 rw[List.take_succ_eq_append_getElem (by simpa using h),List.take_set_of_le (Nat.le_refl _)]
 simp
theorem I1 {H:Hp} {k b len lo n:Nat} {e:TypeId} {sz:Nat} {d:AV} {es:List AV} (h:bd H b=some (.row e sz d es)) (hl:es.length=len):cN.dM H (k+1) (.sv b len lo n)= .im sz .any (((es.drop lo).take n).map (cN.dM H k)):=by
 simp only[cN.dM,h];rw[if_pos hl]
set_option maxHeartbeats 4000000 in
theorem rV (o:Nat) (l:List dE) (hl:l.length≤65536) (hok:∀e∈l,e.bo.length<9223372036854775807∧e.mem.length<9223372036854775807) (H:Hp) (nx:Nat) (ho:o<nx) (hr:∃d,bd H o=some (.row 40 3 d (l.map dE.av))):
 cC Tryz.prog 38 [.sl o l.length, .fn (.func 20) [] []] H nx (fun r H' n=>(r= .sl o l.length∨∃m,r= .sv o l.length 0 m)∧cN.dM H' 5 r=mb (p9 l l.length)):=by
 obtain⟨d0,r0'⟩:=hr
 have a0:(l.map dE.av).length=l.length:=by simp
 have same:∀i j,i<l.length→j<l.length→Pure Tryz.prog 20 [(l.getD i default).av,(l.getD j default).av] (fun r=>r=bl (decide (l.getD i default=l.getD j default))):=fun i j hi hj=>by
  obtain⟨p1,p2⟩:=hok _ (cW default hi)
  have:=pL (l.getD i default) (l.getD j default) p1 p2
  simpa only[qD] using this
 refine aQ CA rfl ?_
 by_cases h2:l.length<2
 ·refine cU ?_
  refine⟨.inl rfl, ?_⟩
  show cN.dM H 5 (.sl o l.length)=_
  rw[dw (k:=4) r0' (by simp),dF _ (o7 l)]
  have:p9 l l.length=l:=by
   match l,h2 with
   |[],_=>rfl
   |[x],_=>rfl
  rw[this]
 ·refine cU ?_
  refine aR (fun i:Nat=>[(0, .sl o l.length),(1, .fn (.func 20) [] []),(5,i64 i)]) (fun i H2 n=>1≤i∧i≤l.length∧nx≤n∧bd H2 o=some (.row 40 3 d0 (l.map dE.av))∧p9 l i=l.take i) (fun i=>l.length - i) 1 cK ⟨Nat.le_refl _,by omega,cZ,bg,by rw[p9];cases l with|nil=>simp at h2|cons x t=>rfl⟩ ?_
  clear r0'
  rintro i H2 n ⟨hi1,hi,hn,r0',hdd⟩
  by_cases hil:i<l.length
  ·have e0:∀d,(l.map dE.av).getD ((i:Int)).toNat d=(l.getD i default).av:=fun d=>by rw[Int.toNat_natCast];exact oY hil d
   have e1:∀d,(l.map dE.av).getD ((i:Int) - 1).toNat d=(l.getD (i - 1) default).av:=fun d=>by rw[show((i:Int) - 1).toNat=i - 1 by omega];exact oY (by omega) d
   have c0:=same i (i - 1) hil (by omega)
   have hsu:=si l hi1
   by_cases he:l.getD i default=l.getD (i - 1) default
   ·rw[decide_eq_true he] at c0
    rw[if_pos he] at hsu
    refine cU ?_
    refine aR (fun σ:Nat×Nat×List dE=>[(0, .sl o l.length),(1, .fn (.func 20) [] []),(5,i64 σ.1),(6, .sv o l.length i (l.length - i)),(7,i64 σ.2.1)])
     (fun σ H2 n=>1≤σ.2.1∧i+σ.2.1≤l.length∧i≤σ.1∧σ.1+1≤i+σ.2.1∧σ.2.2.length=l.length∧(∀q,σ.1≤q→σ.2.2.getD q default=l.getD q default)∧σ.2.2.take σ.1=p9 l (i+σ.2.1)∧nx≤n∧∃d,bd H2 o=some (.row 40 3 d (σ.2.2.map dE.av))) (fun σ=>l.length - σ.2.1) (i,1,l) cK
     ⟨Nat.le_refl _,by show i+1≤l.length;omega,Nat.le_refl _,Nat.le_refl _,rfl,fun _ _=>rfl,by dsimp only;rw[hsu,hdd],cZ,⟨_,bg⟩⟩ ?_
    clear c0 e0 e1 hsu hdd r0' hn
    rintro⟨k,j,es⟩ H3 n ⟨hj1,hj,hik,hkj,hel,hsame,hdd,hn,⟨d1,r1'⟩⟩
    dsimp only at hj1 hj hik hkj hel hsame hdd r1' ⊢
    have a1:(es.map dE.av).length=l.length:=by simp[hel]
    by_cases hjl:j<l.length - i
    ·have e0:∀d,(es.map dE.av).getD (i+((j:Int)).toNat) d=(l.getD (i+j) default).av:=fun d=>by rw[Int.toNat_natCast,oY (by omega) d,hsame _ (by omega)]
     have e1:∀d,(es.map dE.av).getD (i+((j:Int) - 1).toNat) d=(l.getD (i+j - 1) default).av:=fun d=>by rw[show i+((j:Int) - 1).toNat=i+j - 1 by omega,oY (by omega) d,hsame _ (by omega)]
     have e2:∀d,(es.map dE.av).getD ((k:Int)).toNat d=(es.getD k default).av:=fun d=>by rw[Int.toNat_natCast];exact oY (by omega) d
     have c0:=same (i+j) (i+j - 1) (by omega) (by omega)
     have hsu:=si l (k:=i+j) (by omega)
     by_cases he2:l.getD (i+j) default=l.getD (i+j - 1) default
     ·rw[decide_eq_true he2] at c0
      rw[if_pos he2] at hsu
      refine cU ?_
      exact⟨(k,j+1,es),by dsimp only;omega,cK,by dsimp only;omega,by dsimp only;omega,hik,by dsimp only;omega,hel,hsame,by dsimp only;rw[←Nat.add_assoc,hsu];exact hdd,cZ,⟨d1,bg⟩⟩
     ·rw[decide_eq_false he2] at c0
      rw[if_neg he2] at hsu
      refine cU ?_
      refine⟨(k+1,j+1,es.set k (l.getD (i+j) default)),by dsimp only;omega,cK,by dsimp only;omega,by dsimp only;omega,by dsimp only;omega,by dsimp only;omega,by simp[hel],fun q hq=> ?_, ?_,cZ,⟨d1,by dsimp only;rw[List.map_set];exact bg⟩⟩
      ·have hq:k+1≤q:=hq
       dsimp only
       rw[getD_set_ne (by omega)];exact hsame q (by omega)
      ·dsimp only
       rw[←Nat.add_assoc,hsu,pe (by omega),hdd]
    ·obtain rfl:j=l.length - i:=by omega
     rw[show i+(l.length - i)=l.length by omega] at hdd
     refine cU ?_
     refine⟨.inr ⟨_,rfl⟩, ?_⟩
     rw[Int.toNat_natCast]
     have hkl:k≤l.length:=by omega
     generalize hZ:List.replicate (l.length - k) (fO true [Value.slice none 0 0,Value.slice none 0 0,Value.bool false])=Z
     have hZl:Z.length=l.length - k:=by rw[←hZ];simp
     show cN.dM ((o,some (.row 40 3 d1 ((es.map dE.av).take k++Z++(es.map dE.av).drop (k+(l.length - k)))))::H3) 5 (.sv o l.length 0 (k - 0))=_
     rw[I1 (k:=4) (cR _ _ _) (by simp[hZl,hel];omega),List.drop_zero,Nat.sub_zero,List.append_assoc,List.take_append_of_le_length (by simp;omega),List.take_take,Nat.min_self,←List.map_take,hdd,dF _ (o7 _)]
   ·rw[decide_eq_false he] at c0
    rw[if_neg he] at hsu
    refine cU ?_
    refine⟨i+1,by omega,cK,by omega,by omega,cZ,bg, ?_⟩
    rw[hsu,hdd,List.take_succ_eq_append_getElem hil,show l.getD i default=l[i] by simp[List.getD,hil]]
  ·obtain rfl:i=l.length:=by omega
   rw[List.take_length] at hdd
   refine cU ?_
   refine⟨.inl rfl, ?_⟩
   show cN.dM H2 5 (.sl o l.length)=_
   rw[dw (k:=4) r0' (by simp),dF _ (o7 l),hdd]
end Go.Proofs.YtekfmjjmihomlaaGreat
end
section
/- Ends: the walk. -/
namespace Go.Proofs.YtekfmjjmihomlaaGreat
open Go Go.cN Go.Proofs
set_option linter.unusedSimpArgs false
set_option linter.unusedVariables false
set_option maxRecDepth 8000
def l8 (u:bf) (l:List cD):List dE:=p9 (fA eB (dP u l l.length)) (dP u l l.length).length
noncomputable def l7 (u:bf) (most:Int):AV:=if(fg u most).1=0 then .da [mb (l8 u (fg u most).2),i64 0] else .da [.sc (.slice none 0 0),i64 (fg u most).1]
theorem qF {u:bf} {l:List cD} (hr:ch u) (hf:gJ u l) (hl:l.length≤65536) (k:Nat):∀e∈dP u l k,wz e:=by
 intro e he
 unfold dP at he
 obtain⟨f,hf1,hf2⟩:=List.mem_filterMap.1 he
 split at hf2
 ·cases hf2
  obtain⟨i,hi,rfl⟩:=List.mem_iff_getElem.1 (List.mem_of_mem_take hf1)
  obtain⟨h1,h2⟩:=hf.ok i hi
  rw[show l.getD i default=l[i] by simp[List.getD,hi]] at h1 h2
  have:=h1.ml
  have:=hr.A8
  refine⟨?_, ?_⟩
  ·show l[i].m.bo.length<_;omega
  ·show l[i].m.mem.length<_;omega
 ·cases hf2
set_option maxHeartbeats 2000000 in
theorem iY (u:bf) (hu:u.Wf) (most:Int):Pure Tryz.prog 13 [u.av,i64 most] (fun r=>r=l7 u most):=by
 refine eo ?_ (by unfold l7;split<;>simp[cA,cM,cB])
 refine aQ BY rfl ?_
 by_cases hr:ch u
 ·by_cases hm:1≤most∧most≤65536
  ·unfold l7
   rw[gL hr hm]
   refine cU ?_
   let l:=(fD u most.toNat).getD []
   let I:Nat→Hp→Prop:=fun k H=>(∃d,bd H 0=some (.row 25 3 d [u.av]))∧(∃d,bd H 3=some (.row 30 1 d [.sl 7 (dP u l k).length]))∧(∃d,bd H 7=some (.row 40 3 d ((dP u l k).map dE.av)))
   refine aJ (R:=fun r H n=>8≤n∧yR u most I r H) (HN (b:=3) 40 3 (by omega) (by omega) (d:=fO false [.slice none 0 0]) (te:=30) ?_ fun H2 q1 q2 q3=> ?_) ?_
   ·exact bg
   ·refine(oF u hu hr most hm _ [.pt 0 1 0 0, .pt 3 1 0 0] H2 8 I ?_ ?_ ?_).mono fun r H n h=>⟨h.1,h.short⟩
    ·exact⟨⟨_,(q3 0 (by omega) (by omega)).trans bg⟩,⟨_,q1⟩,⟨_,q2⟩⟩
    ·rintro k H H' ⟨⟨d0,p0⟩,⟨d1,p1⟩,⟨d2,p2⟩⟩ hk
     exact⟨⟨d0,(hk 0 (by omega)).trans p0⟩,⟨d1,(hk 3 (by omega)).trans p1⟩,⟨d2,(hk 7 (by omega)).trans p2⟩⟩
    ·intro l' hl' k H n hk hn ⟨p0,p1,p2⟩
     have hll:l=l':=by show(fD u most.toNat).getD []=l';rw[hl'];rfl
     rw[hll] at p1 p2
     obtain⟨hf,hlm,_⟩:=lY hu hr (by omega) hl'
     refine(EW hr hf (by omega) hk (ub:=0) (ob:=3) (o:=7) (by omega) (by omega) (by omega) (by omega) p0 p1 p2).mono ?_
     rintro _ H' n' ⟨s1,s2,s3,s4⟩
     obtain⟨d0,p0⟩:=p0
     refine⟨⟨⟨d0,(s4 0 (by omega) (by omega) (by omega)).trans p0⟩, ?_, ?_⟩,s3,fun y y1 y2=>s4 y y2 (by omega) (by omega)⟩
     ·rw[hll];exact s1
     ·rw[hll];exact s2
   rintro r H' n' ⟨hn,hA⟩
   revert hA
   unfold yR
   cases hs:fD u most.toNat with
   |none=>
    rintro rfl
    refine cU ?_
    exact⟨rfl⟩
   |some l'=>
    rintro⟨rfl,⟨d0,p0⟩,⟨d1,p1⟩,p2⟩
    have hll:l=l':=by show(fD u most.toNat).getD []=l';rw[hs];rfl
    rw[hll] at p1 p2
    obtain⟨hf,hlm,_⟩:=lY hu hr (by omega) hs
    have hin:=qF hr hf (by omega) l'.length
    have hlen:=oZ u l' l'.length
    refine cU ?_
    refine aJ (zh 7 (dP u l' l'.length) hin (by omega) _ _ p2 cZ) ?_
    rintro r H3 n3 ⟨⟨d5,r5⟩,hn3,hk3⟩
    have r6:=(hk3 3 cZ (by omega)).trans p1
    have hsl:(fA eB (dP u l' l'.length)).length=(dP u l' l'.length).length:=qi _ _
    refine cU ?_
    rw[←hsl]
    refine aJ (rV 7 (fA eB (dP u l' l'.length)) (by omega) (fun e he=>hin e ((lI _ _).mem_iff.1 he)) _ _ cZ ⟨d5,r5⟩) ?_
    rintro r H4 n4 ⟨hform,hfz⟩
    rcases hform with rfl|⟨m,rfl⟩
    all_goals
     refine cU ?_
     refine⟨?_⟩
     dsimp only
     rw[if_pos rfl]
     show AV.da [cN.dM H4 5 _,i64 0]=_
     rw[hfz,hsl]
     rfl
  ·unfold l7
   rw[jH hr hm]
   refine cU ?_
   refine aJ (mW u hu hr most hm _ _ _ _) ?_
   rintro r H' n' ⟨rfl,hn,hk⟩
   refine cU ?_
   exact⟨rfl⟩
 ·unfold l7
  rw[lX hr]
  refine cU ?_
  refine aJ (rC u hu hr most _ _ _ _) ?_
  rintro r H' n' ⟨rfl,hn,hk⟩
  refine cU ?_
  exact⟨rfl⟩
end Go.Proofs.YtekfmjjmihomlaaGreat
end
section
/- The unit that takes its lock twice; begins. -/
namespace Go.Proofs.YtekfmjjmihomlaaGreat
open Go Go.cN Go.Proofs
set_option linter.unusedSimpArgs false
set_option linter.unusedVariables false
set_option maxRecDepth 8000
instance LM (n:Int):Decidable (dh n):=inferInstanceAs (Decidable (_∧_))
def K2 (k nx o:Int):Node:=⟨k,0,0,0,⟨false,0,0⟩,⟨false,0,0⟩,nx,0,o⟩
def MX:bz:=⟨⟨(List.toArray [97])⟩,0,0,[K2 5 1 0,K2 5 2 1,K2 6 3 2,K2 6 4 3,K2 9 0 4]⟩
def eA:bf:=⟨[],[⟨⟨(List.toArray [108])⟩,0,0⟩],[MX]⟩
theorem zi:Pure Tryz.prog 43 [] (fun r=>r=eA.av):=by
 have h:Pure Tryz.prog 43 [] (fun r=>r= .agg [.sc (.slice none 0 0),cV eA.bx,dQ eA.bj]):=by
  exact kT (by rw[cA,cM,cM,cM,cM];exact⟨by simp[cA],by simp[cA,cB],by simp[cA,cB],trivial⟩) (by kernel_rfl)
 refine sC (u:= .agg [.sc (.slice none 0 0),cV eA.bx,dQ eA.bj]) (h.mono fun r hr=> .inl hr) (by simp[cA]) fun c=> ?_
 exact cN.dA.agg (.cons (cN.dA.qa c c 3 .any) (.cons (fun _ h=>h) (.cons (fun _ h=>h) .nil)))
theorem lJ:ch eA:=mZ.1 (by decide+kernel)
theorem np:eA.Wf:=by
 refine⟨fun _ h=>by simp[eA] at h,by simp[eA],fun d h=> ?_,by simp[eA],fun g hg=> ?_,by simp[eA]⟩
 ·simp only[eA,List.mem_cons,List.not_mem_nil,or_false] at h
  subst h
  exact⟨by decide+kernel,by decide+kernel,by decide+kernel⟩
 simp only[eA,List.mem_cons,List.not_mem_nil,or_false] at hg
 subst hg
 refine⟨by decide+kernel,by decide+kernel,by decide+kernel,fun n hn=> ?_,by decide+kernel⟩
 simp only[MX,List.mem_cons,List.not_mem_nil,or_false] at hn
 rcases hn with rfl|rfl|rfl|rfl|rfl<;>
  exact⟨by decide+kernel,by decide+kernel,by decide+kernel,by decide+kernel,⟨by decide+kernel,by decide+kernel⟩,⟨by decide+kernel,by decide+kernel⟩,by decide+kernel,by decide+kernel,by decide+kernel⟩
def D7:List cD:=[⟨dX eA,-1,0⟩,⟨((dX eA).step eA 0).1,0,0⟩]
theorem G0:fD eA 9=some D7:=by decide+kernel
theorem GZ:fD eA 2=some D7:=by decide+kernel
theorem GY:fD eA 1=none:=by decide+kernel
theorem K3:fg eA 9=(0,D7):=by rw[gL lJ (by decide),show(9:Int).toNat=9 from rfl,G0]
theorem MP:fg eA 2=(0,D7):=by rw[gL lJ (by decide),show(2:Int).toNat=2 from rfl,GZ]
theorem MO:fg eA 1=(3,[]):=by rw[gL lJ (by decide),show(1:Int).toNat=1 from rfl,GY]
def LY:dE:=⟨[],[],false⟩
theorem G1:l8 eA D7=[LY]:=by
 unfold l8
 rw[show dP eA D7 D7.length=[LY] by decide+kernel]
 unfold fA
 rw[List.mergeSort_singleton]
 decide+kernel
theorem JH:fI eA D7 LY D7.length=some 1:=by decide+kernel
theorem JI:jC D7 (some 1)=[0]:=by decide+kernel
theorem sZ:Pure Tryz.prog 17 [] (fun r=>r=bl true):=by
 have c5:=zi
 have c0:=oU eA np 9
 rw[K3] at c0
 have c1:=iY eA np 2
 unfold l7 at c1
 rw[MP,if_pos rfl,G1] at c1
 have c2:=iY eA np 1
 unfold l7 at c2
 rw[MO,if_neg (by decide)] at c2
 have c3':=D0 eA np 9 LY (by decide) (by decide)
 unfold ql at c3'
 rw[K3,if_pos rfl,JH,JI] at c3'
 have c3:Pure Tryz.prog 25 [eA.av,i64 9, .agg (List.map AV.sc [.slice none 0 0, .slice none 0 0, .bool false])] (fun r=>r= .da [cu [0],bl true,i64 0]):=
  Pure.args c3' fun c=> .cons (fun _ h=>h) (.cons (fun _ h=>h) (.cons (cN.dA.agg (.cons (cN.dA.qa c c 2 .any) (.cons (cN.dA.qa c c 1 .any) (.cons (fun _ h=>h) .nil)))) .nil))
 refine aI B0 rfl ?_
 refine cU ?_
 exact rfl
end Go.Proofs.YtekfmjjmihomlaaGreat
end
section
/- What units and ends read as. -/
namespace Go.Proofs.YtekfmjjmihomlaaGreat
open Go Go.cN Go.Proofs Go.RowKit Go.ChangeShapes Go.WideShapes Go.ChangeAt
set_option linter.unusedSimpArgs false
set_option linter.unusedVariables false
theorem own:ownKnob Tryz.prog.godebug=none:=by kernel_rfl
theorem laidOut:laidOutB Tryz.prog=true:=by kernel_rfl
theorem C4 {n:Int} (h:(Lit.int .i64 n).wf=true):dh n:=by
 simp only[Lit.wf,Bool.and_eq_true,decide_eq_true_eq] at h
 have e1:IntKind.i64.min=-9223372036854775808:=by decide
 have e2:IntKind.i64.max=9223372036854775807:=by decide
 unfold dh
 omega
theorem yC {n:Int} (h:(Lit.int .u8 n).wf=true):0≤n∧n<256:=by
 simp only[Lit.wf,Bool.and_eq_true,decide_eq_true_eq] at h
 have e1:IntKind.u8.min=0:=by decide
 have e2:IntKind.u8.max=255:=by decide
 omega
theorem dU {t:TypeId} (ht:Tryz.prog.underlying t=some (.int .i64)):dj Tryz.prog t (fun n:Int=>[i64 n]) dh:=(nA ht).map (fun n=>n) (fun _ _=>rfl) fun _ h=>C4 h
theorem qb:dj Tryz.prog 107 j4.cells j4.Wf:=by
 refine dj.map (α:=Bool×Int×Int×Unit) (fun p=>(⟨p.1,p.2.1,p.2.2.1⟩:j4))
  (fT (k:=3) Tryz.underlying107 (by kernel_rfl) (cX (k:=1) rfl (by kernel_rfl) (wL Tryz.underlying4) (cX (k:=1) rfl (by kernel_rfl) (dU Tryz.underlying3) (cX (k:=1) rfl (by kernel_rfl) (dU Tryz.underlying2) gq)))) ?_ ?_
 ·intro a _;rfl
 ·intro a h;exact⟨h.2.1,h.2.2.1⟩
theorem wN:dj Tryz.prog 109 Node.cells Node.Wf:=by
 refine dj.map (α:=Int×Int×Int×Int×j4×j4×Int×Int×Int×Unit) (fun p=>(⟨p.1,p.2.1,p.2.2.1,p.2.2.2.1,p.2.2.2.2.1,p.2.2.2.2.2.1,p.2.2.2.2.2.2.1,p.2.2.2.2.2.2.2.1,p.2.2.2.2.2.2.2.2.1⟩:Node))
  (fT (k:=13) Tryz.underlying109 (by kernel_rfl) (cX (k:=1) rfl (by kernel_rfl) (nA Tryz.underlying47) (cX (k:=1) rfl (by kernel_rfl) (nA Tryz.underlying105) (cX (k:=1) rfl (by kernel_rfl) (dU Tryz.underlying3) (cX (k:=1) rfl (by kernel_rfl) (dU Tryz.underlying3) (cX (k:=3) rfl (by kernel_rfl) qb (cX (k:=3) rfl (by kernel_rfl) qb (cX (k:=1) rfl (by kernel_rfl) (dU Tryz.underlying3) (cX (k:=1) rfl (by kernel_rfl) (dU Tryz.underlying3) (cX (k:=1) rfl (by kernel_rfl) (dU Tryz.underlying3) gq)))))))))) ?_ ?_
 ·intro a _;rfl
 ·intro a h
  obtain⟨h1,h2,h3,h4,h5,h6,h7,h8,h9,_⟩:=h
  exact⟨yC h1,yC h2,h3,h4,h5,h6,h7,h8,h9⟩
theorem wM:dj Tryz.prog 103 Decl.cells Decl.Wf:=by
 refine dj.map (α:=ByteArray×Int×Int×Unit) (fun p=>(⟨p.1,p.2.1,p.2.2.1⟩:Decl))
  (fT (k:=3) Tryz.underlying103 (by kernel_rfl) (cX (k:=1) rfl (by kernel_rfl) (mC Tryz.underlying9) (cX (k:=1) rfl (by kernel_rfl) (dU Tryz.underlying2) (cX (k:=1) rfl (by kernel_rfl) (dU Tryz.underlying3) gq)))) ?_ ?_
 ·intro a _;rfl
 ·intro a h;exact⟨h.1,h.2.1,h.2.2.1⟩
theorem u6:dj Tryz.prog 62 (fun l:List Node=>[lz l]) (fun l=>(∀x∈l,x.Wf)∧l.length * 88≤140737488351232):=by
 have hb:Tryz.prog.bytesOf 109=96:=by kernel_rfl
 refine(jr (ag:=true) (sz:=13) .any Tryz.underlying62 (by kernel_rfl) (by omega) wN (fun _=>rfl) (fun _ _=>rfl) (fun h=>by cases h)).map (fun l=>l) (fun _ _=>rfl) ?_
 rintro l ⟨h1,h2⟩
 rw[hb] at h2
 have hr:reachBytes=140737488351232:=rfl
 exact⟨h1,by omega⟩
theorem u5:dj Tryz.prog 64 bz.cells bz.Wf:=by
 refine dj.map (α:=ByteArray×Int×Int×List Node×Unit) (fun p=>(⟨p.1,p.2.1,p.2.2.1,p.2.2.2.1⟩:bz))
  (fT (k:=4) Tryz.underlying64 (by kernel_rfl) (cX (k:=1) rfl (by kernel_rfl) (mC Tryz.underlying9) (cX (k:=1) rfl (by kernel_rfl) (dU Tryz.underlying3) (cX (k:=1) rfl (by kernel_rfl) (dU Tryz.underlying3) (cX (k:=1) rfl (by kernel_rfl) u6 gq))))) ?_ ?_
 ·intro a _;rfl
 ·intro a h
  obtain⟨h1,h2,h3,⟨h4,h5⟩,_⟩:=h
  exact⟨h1,h2,h3,h4,h5⟩
theorem nO:dj Tryz.prog 22 (fun l:List Decl=>[cV l]) (fun l=>(∀x∈l,x.Wf)∧l.length * 32≤140737488351232):=by
 have hb:Tryz.prog.bytesOf 103=32:=by kernel_rfl
 refine(jr (ag:=true) (sz:=3) .any Tryz.underlying22 (by kernel_rfl) (by omega) wM (fun _=>rfl) (fun _ _=>rfl) (fun h=>by cases h)).map (fun l=>l) (fun _ _=>rfl) ?_
 rintro l ⟨h1,h2⟩
 rw[hb] at h2
 exact⟨h1,h2⟩
theorem ry:dj Tryz.prog 23 (fun l:List bz=>[dQ l]) (fun l=>(∀x∈l,x.Wf)∧l.length * 56≤140737488351232):=by
 have hb:Tryz.prog.bytesOf 64=56:=by kernel_rfl
 refine(jr (ag:=true) (sz:=4) .any Tryz.underlying23 (by kernel_rfl) (by omega) u5 (fun _=>rfl) (fun _ _=>rfl) (fun h=>by cases h)).map (fun l=>l) (fun _ _=>rfl) ?_
 rintro l ⟨h1,h2⟩
 rw[hb] at h2
 exact⟨h1,h2⟩
theorem wO:dj Tryz.prog 25 bf.cells bf.Wf:=by
 refine dj.map (α:=List Decl×List Decl×List bz×Unit) (fun p=>(⟨p.1,p.2.1,p.2.2.1⟩:bf))
  (fT (k:=3) Tryz.underlying25 (by kernel_rfl) (cX (k:=1) rfl (by kernel_rfl) nO (cX (k:=1) rfl (by kernel_rfl) nO (cX (k:=1) rfl (by kernel_rfl) ry gq)))) ?_ ?_
 ·intro a _;rfl
 ·intro a h
  obtain⟨⟨h1,h2⟩,⟨h3,h4⟩,⟨h5,h6⟩,_⟩:=h
  exact⟨h1,h2,h3,h4,h5,h6⟩
structure dE.Wf (e:dE):Prop where
 bo:(∀p∈e.bo,dh p.cT∧dh p.word)∧e.bo.length * 16≤140737488351232
 mem:(∀x∈e.mem,dh x)∧e.mem.length * 8≤140737488351232
end Go.Proofs.YtekfmjjmihomlaaGreat
end
section
/- More is the same: the least that is enough. -/
namespace Go.Proofs.YtekfmjjmihomlaaGreat
open Go Go.cN Go.Proofs
set_option linter.unusedSimpArgs false
set_option linter.unusedVariables false
set_option maxRecDepth 8000
theorem DX {u:bf} {most k t:Nat} {l l':List cD} (h:nb u most k t l=some l'):l.length≤l'.length:=by
 unfold nb at h
 repeat' split at h
 all_goals first
  |(cases h;exact Nat.le_refl _)
  |(cases h;simp)
  |cases h
theorem pJ {u:bf} {most k:Nat}:∀{ts:List Nat} {l l':List cD},n9 u most k ts l=some l'→l.length≤l'.length
 |[],l,l',h=>by cases h;exact Nat.le_refl _
 |t::ts,l,l',h=>by
  rw[n9] at h
  split at h
  ·cases h
  ·rename_i l2 h2
   exact Nat.le_trans (DX h2) (pJ h)
theorem oE {u:bf} {most:Nat}:∀{n k:Nat} {l l':List cD},kU u most n k l=some l'→l.length≤l'.length
 |0,k,l,l',h=>by cases h;exact Nat.le_refl _
 |n+1,k,l,l',h=>by
  rw[kU] at h
  split at h
  ·split at h
   ·cases h
   ·rename_i l2 h2
    exact Nat.le_trans (pJ h2) (oE h)
  ·cases h;exact Nat.le_refl _
theorem zo {u:bf} {most m2 k t:Nat} {l l':List cD} (h:nb u most k t l=some l') (hm:l'.length≤m2):nb u m2 k t l=some l':=by
 unfold nb at h ⊢
 split at h
 ·rename_i h1;rw[if_pos h1];exact h
 rename_i h1
 rw[if_neg h1]
 split at h
 ·rename_i h2;rw[if_pos h2];exact h
 rename_i h2
 rw[if_neg h2]
 split at h
 ·cases h
 ·cases h
  rw[List.length_append,List.length_cons,List.length_nil] at hm
  rw[if_neg (by omega)]
theorem qe {u:bf} {most m2 k:Nat}:∀{ts:List Nat} {l l':List cD},n9 u most k ts l=some l'→l'.length≤m2→n9 u m2 k ts l=some l'
 |[],l,l',h,hm=>h
 |t::ts,l,l',h,hm=>by
  rw[n9] at h ⊢
  split at h
  ·cases h
  ·rename_i l2 h2
   have:=pJ h
   rw[zo h2 (by omega)]
   exact qe h hm
theorem po {u:bf} {most m2:Nat}:∀{n n2 k:Nat} {l l':List cD},kU u most n k l=some l'→l'.length≤k+n→l'.length≤m2→l'.length≤k+n2→kU u m2 n2 k l=some l'
 |0,n2,k,l,l',h,h1,h2,h3=>by
  cases h
  cases n2 with
  |zero=>rfl
  |succ n2=>rw[kU,if_neg (by omega)]
 |n+1,n2,k,l,l',h,h1,h2,h3=>by
  have hlen:=oE h
  rw[kU] at h
  split at h
  ·rename_i hk
   split at h
   ·cases h
   ·rename_i l2 h4
    have:=oE h
    cases n2 with
    |zero=>omega
    |succ n2=>
     rw[kU,if_pos hk,qe h4 (by omega)]
     exact po h (by omega) h2 (by omega)
  ·rename_i hk
   cases h
   cases n2 with
   |zero=>rfl
   |succ n2=>rw[kU,if_neg hk]
theorem pq {u:bf} {most m2:Nat} {l:List cD} (h:fD u most=some l) (h1:l.length≤most) (h2:l.length≤m2):fD u m2=some l:=by
 unfold fD at h ⊢
 exact po h (by omega) h2 (by omega)
theorem yY {u:bf} {most m2:Nat} {l:List cD} (hu:u.Wf) (hr:ch u) (h:fD u most=some l) (h1:l.length≤most) (hm:1≤m2) (h2:m2<l.length):fD u m2=none:=by
 cases h3:fD u m2 with
 |none=>rfl
 |some l2=>
  have h4:=(lY hu hr hm h3).2.1
  have:=pq h3 h4 (m2:=most) (by omega)
  rw[h] at this
  cases this
  omega
theorem vN (u:bf) (hu:u.Wf) (most:Int):((fg u most).1≠0∧(fg u most).2=[])∨∃l,ch u∧1≤most∧most≤65536∧fD u most.toNat=some l∧fg u most=(0,l)∧gJ u l∧l.length≤most.toNat:=by
 by_cases hr:ch u
 ·by_cases hm:1≤most∧most≤65536
  ·rw[gL hr hm]
   cases h:fD u most.toNat with
   |none=>exact .inl ⟨by decide,rfl⟩
   |some l=>
    obtain⟨h1,h2,_⟩:=lY hu hr (by omega) h
    exact .inr ⟨l,hr,hm.1,hm.2,rfl,rfl,h1,h2⟩
  ·rw[jH hr hm]
   exact .inl ⟨by decide,rfl⟩
 ·rw[lX hr]
  exact .inl ⟨by decide,rfl⟩
theorem sG (a b:List dE) (ha:∀e∈a,wz e) (hl:a.length≤65536) (hl2:b.length≤65536):Pure Tryz.prog 15 [mb a,mb b] (fun r=>r=bl (decide (a=b))):=by
 have a0:(a.map dE.av).length=a.length:=by simp
 have a1:(b.map dE.av).length=b.length:=by simp
 refine aI BZ rfl ?_
 by_cases hne:a.length=b.length
 ·refine cU ?_
  refine aR (fun i:Nat=>[(0,mb a),(1,mb b),(5,i64 i)]) (fun i H n=>i≤a.length∧∀j:Nat,j<i→a.getD j default=b.getD j default) (fun i=>a.length - i) 0 cK ⟨Nat.zero_le _,fun j hj=>by omega⟩ ?_
  rintro i H n ⟨hi,hall⟩
  by_cases hil:i<a.length
  ·have e0:∀d,(a.map dE.av).getD ((i:Int)).toNat d=(a.getD i default).av:=fun d=>by rw[Int.toNat_natCast];exact dJ dE.av a i d hil
   have e1:∀d,(b.map dE.av).getD ((i:Int)).toNat d=(b.getD i default).av:=fun d=>by rw[Int.toNat_natCast];exact dJ dE.av b i d (by omega)
   obtain⟨q1,q2⟩:=ha _ (cW default hil)
   have c0:=wU (a.getD i default) (b.getD i default) q1 q2
   by_cases hc0:eB (a.getD i default) (b.getD i default)=0
   ·have r0:=hc0
    refine cU ?_
    exact⟨i+1,by omega,cK,by omega,fun j hj=>by
     by_cases e:j=i
     ·rw[e];exact(rR.zero _ _).1 hc0
     ·exact hall j (by omega)⟩
   ·refine cU ?_
    refine eX (Eq.symm ?_)
    exact decide_eq_false fun e=>hc0 ((rR.zero _ _).2 (by rw[e]))
  ·refine cU ?_
   refine eX (Eq.symm ?_)
   refine decide_eq_true ?_
   apply List.ext_getElem hne
   intro j q1 q2
   have:=hall j (by omega)
   simpa[List.getD,q1,q2] using this
 ·refine cU ?_
  refine eX (Eq.symm ?_)
  exact decide_eq_false fun e=>hne (by rw[e])
end Go.Proofs.YtekfmjjmihomlaaGreat
end
section
/- Ends: in order, each once. -/
namespace Go.Proofs.YtekfmjjmihomlaaGreat
open Go Go.cN Go.Proofs
set_option linter.unusedSimpArgs false
set_option linter.unusedVariables false
theorem v7 (l:List dE):∀k,∀e∈p9 l k,∃j,j<k∧e=l.getD j default
 |0,e,h=>by simp[p9] at h
 |1,e,h=>by simp only[p9,List.mem_cons,List.not_mem_nil,or_false] at h;exact⟨0,by omega,h⟩
 |k+2,e,h=>by
  rw[p9] at h
  split at h
  ·obtain⟨j,h1,h2⟩:=v7 l (k+1) e h
   exact⟨j,by omega,h2⟩
  ·rcases List.mem_append.1 h with h|h
   ·obtain⟨j,h1,h2⟩:=v7 l (k+1) e h
    exact⟨j,by omega,h2⟩
   ·simp only[List.mem_cons,List.not_mem_nil,or_false] at h
    exact⟨k+1,by omega,h⟩
theorem ni (l:List dE):∀k j,j<k→l.getD j default∈p9 l k
 |0,j,h=>by omega
 |1,j,h=>by
  obtain rfl:j=0:=by omega
  simp[p9]
 |k+2,j,h=>by
  rw[p9]
  split
  ·rename_i e
   by_cases hj:j=k+1
   ·rw[hj,e];exact ni l (k+1) k (by omega)
   ·exact ni l (k+1) j (by omega)
  ·by_cases hj:j=k+1
   ·rw[hj];exact List.mem_append.2 (.inr (by simp))
   ·exact List.mem_append.2 (.inl (ni l (k+1) j (by omega)))
theorem yf {u:bf} {l:List cD} {e:dE}:e∈l8 u l↔e∈dP u l l.length:=by
 have hp:=lI eB (dP u l l.length)
 unfold l8
 constructor
 ·intro h
  obtain⟨j,hj,rfl⟩:=v7 _ _ _ h
  exact hp.mem_iff.1 (cW default (by rw[hp.length_eq];exact hj))
 ·intro h
  obtain⟨j,hj,rfl⟩:=List.mem_iff_getElem.1 (hp.mem_iff.2 h)
  have:=ni (fA eB (dP u l l.length)) (dP u l l.length).length j (by rw[←hp.length_eq];exact hj)
  rwa[show(fA eB (dP u l l.length)).getD j default=(fA eB (dP u l l.length))[j] by simp[List.getD,hj]] at this
theorem ye (u:bf) (l:List cD):(l8 u l).length≤l.length:=by
 unfold l8
 refine Nat.le_trans (xG _ _) ?_
 unfold dP
 refine Nat.le_trans (List.length_filterMap_le _ _) ?_
 rw[List.take_length]
 exact Nat.le_refl _
end Go.Proofs.YtekfmjjmihomlaaGreat
end
section
/- Count is the least that is enough: the law's walk. -/
namespace Go.Proofs.YtekfmjjmihomlaaGreat
open Go Go.cN Go.Proofs
set_option linter.unusedSimpArgs false
set_option linter.unusedVariables false
set_option maxRecDepth 8000
theorem kx (u:bf) (hu:u.Wf) (most:Int) (hw:dh most):Pure Tryz.prog 5 [u.av,i64 most] (fun r=>r=bl true):=by
 have c0:=sZ
 have c1:=oU u hu most
 refine aI KU rfl ?_
 rcases vN u hu most with⟨h1,h2⟩|⟨l,hr,hm1,hm2,hs,hE,hf,hlm⟩
 ·rw[h2] at c1
  generalize (fg u most).1=e at *
  refine cU ?_
  exact rfl
 ·have hpos:=hf.pos
  have c2:=iY u hu most
  have c3:=iY u hu l.length
  have hE2:fg u l.length=(0,l):=by
   rw[gL hr (by omega),Int.toNat_natCast,pq hs hlm (Nat.le_refl _)]
  unfold l7 at c2 c3
  rw[hE2,if_pos rfl] at c3
  rw[hE,if_pos rfl] at c2
  rw[hE] at c1
  dsimp only at c1 c2 c3
  have hel:=ye u l
  have c4:=sG (l8 u l) (l8 u l) (fun e he=>qF hr hf (by omega) _ e (yf.1 he)) (by omega) (by omega)
  rw[decide_eq_true rfl] at c4
  by_cases h1:l.length=1
  ·have e1:((l.length:Nat):Int)=1:=by omega
   rw[e1] at c1 c3
   have r0:decide ((1:Int)<1)=false:=rfl
   have r1:decide (most<1)=false:=decide_eq_false (by omega)
   have r2:decide ((0:Int)≠0)=false:=rfl
   refine cU ?_
   first|exact rfl|trivial
  ·have hE3:fg u ((l.length:Int) - 1)=(3,[]):=by
    rw[gL hr (by omega),yY hu hr hs hlm (by omega) (by omega)]
   have c5:=iY u hu ((l.length:Int) - 1)
   unfold l7 at c5
   rw[hE3,if_neg (by decide)] at c5
   dsimp only at c5
   have r0:decide ((l.length:Int)<1)=false:=decide_eq_false (by omega)
   have r1:decide (most<(l.length:Int))=false:=decide_eq_false (by omega)
   have r2:decide ((0:Int)≠0)=false:=rfl
   refine cU ?_
   first|exact rfl|trivial
end Go.Proofs.YtekfmjjmihomlaaGreat
end
section
/- Count is the least most that is enough; with more the answer is the same: for every unit. No conditions. -/
namespace Go.Proofs.YtekfmjjmihomlaaGreat
open Go Go.cN Go.Proofs Go.RowKit Go.ChangeShapes Go.WideShapes Go.ChangeAt
set_option linter.unusedSimpArgs false
set_option linter.unusedVariables false
set_option maxRecDepth 100000 in
theorem je (os:Os) (started:os.Started) (H:Type) (enc:TypeId×Value→H):
 ReturnsInHanded {} Tryz.checked os 5 .any (Rows.exploreEnoughSpec.pre6 enc Tryz.prog Tryz.f5 Rows.exploreEnoughRow.domain false) (Rows.exploreEnoughSpec.post enc Tryz.prog Tryz.f5 false true false false):=by
 refine returnsInHanded_of_change_sized (C:=Tryz.checked) own started (by kernel_rfl) Tryz.func5
  (ChangeSpec.witness6 (enc:=enc) (C:=Tryz.checked) false ⟨#[],#[.agg #[.slice none 0 0, .slice none 0 0, .slice none 0 0], .int .i64 0],[]⟩ 8 (by kernel_rfl) (by kernel_rfl) (by kernel_rfl) (by kernel_rfl)) ?_
 intro W base args ds gs before hval hW _ hr _
 refine rl (ts:=[25,3]) (tb:=4) laidOut (by kernel_rfl) rfl Tryz.underlying4 (by kernel_rfl) (fun ds h=> ?_) (fun t ht=> ?_)
  (kd (ag:=true) (by kernel_rfl) wO (fun h=>by cases h) (kd (ag:=false) (by kernel_rfl) (dU Tryz.underlying3) (fun _ _ _=>rfl) rv))
  (fun a h=> ?_) hval hW hr
 ·match ds,h with
  |[d0,d1],_=>rfl
 ·have:∀t∈[25,3],Tryz.prog.readableRec t=true∧t<Tryz.prog.types.size:=by
   simp only[List.forall_mem_cons]
   refine⟨⟨by kernel_rfl,of_decide_eq_true (by kernel_rfl)⟩,⟨by kernel_rfl,of_decide_eq_true (by kernel_rfl)⟩,by simp⟩
  exact this t ht
 ·exact kx a.1 h.1 a.2.1 h.2.1
theorem exploreEnough_holds:Rows.ExploreEnoughSaid:=
 OpenClaim.holds_of_wide 5 Tryz.f5 rfl rfl rfl rfl rfl rfl rfl ⟨rfl,rfl,rfl,rfl,rfl⟩ rfl rfl rfl rfl rfl (by kernel_rfl) Tryz.func5 (by kernel_rfl)
  (of_decide_eq_true (by kernel_rfl)) (by unfold Func.isWrapper;first|(rw[if_pos (by decide+kernel)];kernel_rfl)|(rw[if_neg (by decide+kernel)];exact⟨rfl,rfl⟩))
  (fun os started H enc _=>je os started H enc)
end Go.Proofs.YtekfmjjmihomlaaGreat
end
