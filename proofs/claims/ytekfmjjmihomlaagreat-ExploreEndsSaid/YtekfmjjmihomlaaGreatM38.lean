import Derived.Shelf.SlSortCmp.WholeK
import Derived.Test.YtekfmjjmihomlaaGreatProg
import Derived.Test.YtekfmjjmihomlaaGreatM36
import Derived.Test.YtekfmjjmihomlaaGreatM37
import Derived.Test.YtekfmjjmihomlaaGreatM35
import Derived.Shelf.SlSortCmp.NoneTotal
import Derived.Test.YtekfmjjmihomlaaGreatM16
import Derived.Test.YtekfmjjmihomlaaGreatRows
import Derived.Test.YtekfmjjmihomlaaGreatM33
section
/- The library's sort by a comparison at this program, as a tool of the kit laid it in plain words. -/
namespace Go.Proofs
open Go.Shelf
def Tryz.EL:Go.Shelf.Ren:=⟨fun|6=>37|15=>74|14=>73|28=>112|29=>113|20=>104|21=>105|22=>106|23=>107|24=>108|25=>109|26=>110|27=>111|46=>138|47=>139|48=>140|49=>141|50=>142|57=>154|n=>n,fun|22=>30|24=>40|25=>41|3=>3|39=>136|0=>0|53=>171|55=>173|4=>4|46=>165|45=>164|50=>131|5=>5|9=>9|66=>197|70=>201|76=>216|77=>217|n=>n,fun|n=>n⟩
theorem Tryz.NY:Go.Proofs.SlLaysF0.n6 Tryz.prog Tryz.EL:={
 mixed:=by kernel_rfl
 f6:=⟨Tryz.f37.name,by decide,Tryz.func37.trans (congrArg some (by kernel_rfl))⟩
 f14:=⟨Tryz.f73.name,by decide,Tryz.func73.trans (congrArg some (by kernel_rfl))⟩
 f15:=Tryz.func74.trans (congrArg some (by kernel_rfl))
 f20:=⟨Tryz.f104.name,by decide,Tryz.func104.trans (congrArg some (by kernel_rfl))⟩
 f21:=⟨Tryz.f105.name,by decide,Tryz.func105.trans (congrArg some (by kernel_rfl))⟩
 f22:=⟨Tryz.f106.name,by decide,Tryz.func106.trans (congrArg some (by kernel_rfl))⟩
 f23:=⟨Tryz.f107.name,by decide,Tryz.func107.trans (congrArg some (by kernel_rfl))⟩
 f24:=⟨Tryz.f108.name,by decide,Tryz.func108.trans (congrArg some (by kernel_rfl))⟩
 f25:=⟨Tryz.f109.name,by decide,Tryz.func109.trans (congrArg some (by kernel_rfl))⟩
 f26:=⟨Tryz.f110.name,by decide,Tryz.func110.trans (congrArg some (by kernel_rfl))⟩
 f27:=⟨Tryz.f111.name,by decide,Tryz.func111.trans (congrArg some (by kernel_rfl))⟩
 f28:=Tryz.func112.trans (congrArg some (by kernel_rfl))
 f29:=Tryz.func113.trans (congrArg some (by kernel_rfl))
 f46:=⟨Tryz.f138.name,by decide,Tryz.func138.trans (congrArg some (by kernel_rfl))⟩
 f47:=Tryz.func139.trans (congrArg some (by kernel_rfl))
 f48:=Tryz.func140.trans (congrArg some (by kernel_rfl))
 f49:=⟨Tryz.f141.name,by decide,Tryz.func141.trans (congrArg some (by kernel_rfl))⟩
 f50:=⟨Tryz.f142.name,by decide,Tryz.func142.trans (congrArg some (by kernel_rfl))⟩
 f57:=⟨Tryz.f154.name,by decide,Tryz.func154.trans (congrArg some (by kernel_rfl))⟩
 t0:=Tryz.underlying0
 a0:=Tryz.isAgg0
 z0:=Tryz.sizeOf0
 v0:=Tryz.zeroValue0
 t3:=Tryz.underlying3
 a3:=Tryz.isAgg3
 z3:=Tryz.sizeOf3
 v3:=Tryz.zeroValue3
 t4:=Tryz.underlying4
 a4:=Tryz.isAgg4
 z4:=Tryz.sizeOf4
 v4:=Tryz.zeroValue4
 t5:=Tryz.underlying5
 a5:=Tryz.isAgg5
 z5:=Tryz.sizeOf5
 v5:=Tryz.zeroValue5
 t9:=Tryz.underlying9
 a9:=Tryz.isAgg9
 z9:=Tryz.sizeOf9
 v9:=Tryz.zeroValue9
 t22:=Tryz.underlying30
 a22:=Tryz.isAgg30
 z22:=Tryz.sizeOf30
 v22:=Tryz.zeroValue30
 t25:=Tryz.underlying41
 a25:=Tryz.isAgg41
 z25:=Tryz.sizeOf41
 v25:=Tryz.zeroValue41
 t39:=Tryz.underlying136
 a39:=Tryz.isAgg136
 z39:=Tryz.sizeOf136
 v39:=Tryz.zeroValue136
 t45:=Tryz.underlying164
 a45:=Tryz.isAgg164
 z45:=Tryz.sizeOf164
 v45:=Tryz.zeroValue164
 t46:=Tryz.underlying165
 a46:=Tryz.isAgg165
 z46:=Tryz.sizeOf165
 v46:=Tryz.zeroValue165
 t50:=Tryz.underlying131
 a50:=Tryz.isAgg131
 z50:=Tryz.sizeOf131
 v50:=Tryz.zeroValue131
 t53:=Tryz.underlying171
 a53:=Tryz.isAgg171
 z53:=Tryz.sizeOf171
 v53:=Tryz.zeroValue171
 t55:=Tryz.underlying173
 a55:=Tryz.isAgg173
 z55:=Tryz.sizeOf173
 v55:=Tryz.zeroValue173
 t66:=Tryz.underlying197
 a66:=Tryz.isAgg197
 z66:=Tryz.sizeOf197
 v66:=Tryz.zeroValue197
 t70:=Tryz.underlying201
 a70:=Tryz.isAgg201
 z70:=Tryz.sizeOf201
 v70:=Tryz.zeroValue201
 t76:=Tryz.underlying216
 a76:=Tryz.isAgg216
 z76:=Tryz.sizeOf216
 v76:=Tryz.zeroValue216
 t77:=Tryz.underlying217
 a77:=Tryz.isAgg217
 z77:=Tryz.sizeOf217
 v77:=Tryz.zeroValue217 }
end Go.Proofs
end
section
/- The library's sort by a comparison, as the walks take it: whatever the struct. -/
namespace Go.Proofs.YtekfmjjmihomlaaGreat
open Go Go.cZ Go.Proofs Go.RowKit Go.Sort
set_option linter.unusedSimpArgs false
set_option linter.unusedVariables false
theorem yZ {w w':World} (h:Go.RowKit.Below w.heap.size w w') (hd:w.drawn≤w'.drawn):∃q os',w'=grow (w.drewN q) os':=by
 refine⟨w'.drawn - w.drawn,w'.heap.extract w.heap.size w'.heap.size, ?_⟩
 obtain⟨hp,tp,dr,os,ou⟩:=w
 obtain⟨hp',tp',dr',os',ou'⟩:=w'
 have h1:=h.os
 have h2:=h.tape
 have h3:=h.output
 have h4:=h.size
 have h5:=h.block
 dsimp only at *
 subst h1 h2 h3
 simp only[grow,World.drewN,World.mk.injEq,true_and,and_true]
 refine⟨?_,by omega⟩
 apply Array.ext_getElem?
 intro i
 rw[Array.getElem?_append]
 split
 ·rename_i hi;exact h5 i hi
 ·rename_i hi
  rw[Array.getElem?_extract]
  split
  ·congr 1;omega
  ·rw[Array.getElem?_eq_none (by omega)]
def El {S:Type} (cells:S→List AV) (ok:S→Prop) (w:World) (M:Nat→Prop):Type:={ x:S×List Value //ok x.1∧cd (base w M) (cells x.1) x.2 }
section
variable {S:Type} {cells:S→List AV} {ok:S→Prop} {k:Nat} {cf:S→S→Int}
structure yU (P:Program) (g:Nat) (cells:S→List AV) (k:Nat) (ok:S→Prop) (cf:S→S→Int):Prop where
 len:∀s,(cells s).length=k
 pos:0<k
 fit:∀s,cT 0 (cells s)
 one:∀s,iF (cells s)=true
 cmp:∀a b,ok a→ok b→Pure P g [.agg (cells a), .agg (cells b)] (fun r=>r= .sc (.int .i64 (cf a b)))
 ord:jq cf
theorem PG (h:jq cf) {α:Type} (f:α→S):SWO (ltOf fun x y:α=>cf (f x) (f y)) where
 irrefl x:=by
  have:=(h.zero (f x) (f x)).2 rfl
  simp[ltOf,this]
 trans x y z h1 h2:=by
  simp only[ltOf,decide_eq_true_eq] at *
  exact h.tr _ _ _ h1 h2
 ntrans x y z h1 h2:=by
  simp only[ltOf,decide_eq_false_iff_not] at *
  have n1:=h.neg (f x) (f y)
  have n2:=h.neg (f y) (f z)
  have n3:=h.neg (f x) (f z)
  by_cases e1:cf (f x) (f y)=0
  ·rw[(h.zero _ _).1 e1];exact h2
  ·by_cases e2:cf (f y) (f z)=0
   ·rw[←(h.zero _ _).1 e2];exact h1
   ·have:=h.tr (f z) (f y) (f x) (by omega) (by omega)
    omega
variable {w:World} {M:Nat→Prop} {blk off:Nat}
theorem la {α:Type} [Inhabited α] {enc:α→List Value} {n i:Nat} {os:Array Obj} (d:Array α) (hi:i<w.heap.size) (hne:i≠blk):(sortWorldK enc k w blk off n d os).heap[i]?=w.heap[i]?:=by
 unfold sortWorldK putRowK
 rw[heap_grow_old _ _ (by simpa[putRow,mapBlock,Sort.ahead] using hi)]
 simp[putRow,mapBlock,Sort.ahead,Array.getElem?_modify,Ne.symm hne]
theorem sD {α:Type} [Inhabited α] {enc:α→List Value} {n:Nat} {os:Array Obj} {cur:Array Value} {e:TypeId} {fr:Nat×Nat} (d:Array α) (hb:w.heap[blk]?=some (.cells cur e fr)):
 (sortWorldK enc k w blk off n d os).heap[blk]?=some (.cells (putCells id off (flatK enc k d) cur) e fr):=by
 have hg:blk<w.heap.size:=(Array.getElem?_eq_some_iff.1 hb).1
 unfold sortWorldK putRowK
 rw[heap_grow_old _ _ (by simpa[putRow,mapBlock,Sort.ahead] using hg)]
 simp[putRow,mapBlock,Sort.ahead,Array.getElem?_modify,hb,onCells]
theorem yd {P:Program} {g:Nat} (h:yU P g cells k ok cf) (hM:yS w M) (hblk:M blk) (size:Nat) [Inhabited (El cells ok w M)]:
 CmpLays P g #[] (fun x:El cells ok w M=>x.1.2) k (fun x y=>cf x.1.1 y.1.1) blk off size w:=by
 intro m os dk _ x y
 have hsz:w.heap.size≤(sortWorldK (fun x:El cells ok w M=>x.1.2) k w blk off m dk os).heap.size:=size_sortWorldK_c _ _ _ _ _ _ _ _
 have hne:=fun(i:Nat) (hi:i<w.heap.size) (hn:i≠blk)=>la (k:=k) (off:=off) (enc:=fun x:El cells ok w M=>x.1.2) (n:=m) (os:=os) dk hi hn
 generalize sortWorldK (fun x:El cells ok w M=>x.1.2) k w blk off m dk os=W at *
 have hle:(base w M).le (base W M):=by
  refine⟨fun _ h=>h,hsz,fun b hb hlt=> ?_,fun b hb=>hb.elim⟩
  rw[lO] at hb ⊢
  exact⟨hne b hlt fun e=>hb (e▸hblk),hb⟩
 have hF:yS W M:=by
  refine⟨fun b hb=>Nat.lt_of_lt_of_le (hM.lt b hb) hsz,fun t ht=> ?_⟩
  obtain⟨t1,t2,t3⟩:=hM.RP t ht
  refine⟨t1,Nat.lt_of_lt_of_le t2 hsz,fun j hj=> ?_⟩
  rw[←t3 j hj]
  exact World.cell?_of_block (a:=⟨t.1,j,none⟩) (hne _ t2 fun e=>t1 (by rw[show t.1=blk from e];exact hblk))
 obtain⟨⟨xs,xv⟩,x1,x2⟩:=x
 obtain⟨⟨ys,yv⟩,y1,y2⟩:=y
 have hc:=KP ((h.cmp xs ys x1 y1).2 M W [.agg xv.toArray, .agg yv.toArray] hF (by
  rw[cd]
  refine⟨_,_,rfl,by rw[VR];exact⟨_,rfl,by simpa using cd.cS hle x2⟩, ?_⟩
  rw[cd]
  refine⟨_,_,rfl,by rw[VR];exact⟨_,rfl,by simpa using cd.cS hle y2⟩, ?_⟩
  rw[cd]))
 refine hc.mono ?_
 rintro e w' ⟨⟨v,r,rfl,rfl,_,hv,hb⟩,hd⟩
 rw[VR] at hv
 exact⟨by rw[hv],yZ hb (hd v rfl)⟩
theorem wN {α:Type} [Inhabited α] {enc:α→List Value} {d:Array α} (hk:∀x,(enc x).length=k) (hpos:0<k) (h:∀i c,i<d.size→c<k→w.cell? ⟨blk,off+i * k+c,none⟩=some (enc d[i]!)[c]!∧w.frozen? ⟨blk,off+i * k+c,none⟩=false):HoldsK enc k w blk off d:=by
 intro t ht
 rw[size_flatK] at ht
 have e1:t /k<d.size:=(Nat.div_lt_iff_lt_mul hpos).2 ht
 have e2:t%k<k:=Nat.mod_lt _ hpos
 have:=h (t /k) (t%k) e1 e2
 rw[Nat.add_assoc,show t /k * k+t%k=t by rw[Nat.mul_comm];exact Nat.div_add_mod t k] at this
 rw[get_flatK _ _ _ _ ht]
 exact this
set_option maxHeartbeats 2000000 in
theorem AJ {P:Program} {ρ:Go.Shelf.Ren} (L:SlLaysF0.n6 P ρ) (aE:∀w,(isAgg (ρ.t 24)).run P w= .ok true w) (zE:∀w,(Go.sizeOf (ρ.t 24)).run P w= .ok k w) (hen:jB P (ρ.f 6)) {g:Nat} (eg:∀args w,(callFunc g args).run P w= .ok (.enter g args) w)
 (h:yU P g cells k ok cf) [Inhabited S] (b:Nat) (l:List S) (hok:∀s∈l,ok s) (e:TypeId) (d:AV) (H:Hp) (nx:Nat) (hb:bn H b=some (.row e k d (l.map fun s=> .agg (cells s)))) (hlt:b<nx) (hl:l.length<4611686018427387904) (h0:l≠[]):
 cP P (ρ.f 6) [.sl b l.length, .fn (.func g) [] []] H nx (fun r H' n=>r= .dV []∧n=nx∧H'=(b,some (.row e k d ((gH cf l).map fun s=> .agg (cells s))))::H):=by
 refine⟨hen,fun w0 c vs hS hH hU hv=> ?_⟩
 rw[cd] at hv
 obtain⟨v,vs',rfl,hv,hv2⟩:=hv
 rw[cd] at hv2
 obtain⟨v2,vs2,rfl,hv2,hv3⟩:=hv2
 rw[cd] at hv3
 subst hv3
 rw[VR] at hv2
 obtain⟨ps,qs,rfl,hp1,hp2⟩:=hv2
 rw[cd] at hp1 hp2
 obtain rfl:ps=#[]:=Array.toList_eq_nil_iff.1 hp1
 obtain rfl:qs=#[]:=Array.toList_eq_nil_iff.1 hp2
 rw[VR] at hv
 obtain⟨hUb,a,cap,rfl,hr⟩:=hv
 have hcb:c.H b=some (.row e k d (l.map fun s=> .agg (cells s))):=by rw[hH];exact hb
 obtain⟨_,hr2⟩:=hr _ _ _ _ hcb
 have hr3:=hr2 (by simp)
 have hpos:=h.pos
 obtain⟨_,_,hor⟩:=hS.kz b _ _ _ _ hcb (.inr hpos)
 have hln:0<l.length:=List.length_pos_iff.2 h0
 rcases hor with⟨_,hes⟩|⟨blk,o,z,hρ,hlow,⟨arr,harr,hsz⟩,hlz,hrow⟩
 ·exact absurd (List.map_eq_nil_iff.1 hes) h0
 rcases hr3 with⟨h1,_,_⟩|⟨blk',o',z',h1,rfl,hc1,hc2,hc3,_⟩
 ·rw[hρ] at h1;cases h1
 rw[hρ] at h1
 cases h1
 have hblk:blk<c.w.heap.size:=(Array.getElem?_eq_some_iff.1 harr).1
 rw[List.length_map] at hlz
 have hMb:c.M blk:= .inr ⟨b,_,o,z,hcb,hρ⟩
 -- the elements as they stand
 have hel:∀i,i<l.length→∃x:El cells ok c.w c.M,x.1.1=l.getD i default∧∀j,j<k→c.w.cell? ⟨blk,o+i * k+j,none⟩=x.1.2[j]?:=fun i hi=>by
  obtain⟨v,⟨hv1,hv2,_⟩,hv3⟩:=du hrow i (by simpa using hi)
  rw[dB (f:=fun s=>AV.agg (cells s)) (h:=hi)] at hv3
  rw[VR] at hv3
  obtain⟨us,rfl,hus⟩:=hv3
  refine⟨⟨(l.getD i default,us.toList),hok _ (cW default hi),cd.nQ (fun _ hb=>hb) (h.fit _) hus⟩,rfl,fun j hj=> ?_⟩
  rw[hv2 j hj]
  simp[Value.cells]
 haveI:Inhabited (El cells ok c.w c.M):=⟨(hel 0 hln).choose⟩
 obtain⟨dl,hdl,hdr⟩:=lQ (List.range l.length) (R:=fun i (x:El cells ok c.w c.M)=>x.1.1=l.getD i default∧∀j,j<k→c.w.cell? ⟨blk,o+i * k+j,none⟩=x.1.2[j]?) (fun i hi=>hel i (by simpa using hi))
 simp only[List.length_range] at hdl
 have hdg:∀i (hi:i<dl.length),dl[i].1.1=l.getD i default∧∀j,j<k→c.w.cell? ⟨blk,o+i * k+j,none⟩=dl[i].1.2[j]?:=fun i hi=>hdr i i _ (by rw[List.getElem?_range (by omega)]) (List.getElem?_eq_getElem hi)
 have hxl:∀x:El cells ok c.w c.M,x.1.2.length=k:=fun x=>by rw[x.2.2.length,h.len]
 have hHolds:HoldsK (fun x:El cells ok c.w c.M=>x.1.2) k c.w blk o dl.toArray:=by
  refine wN hxl hpos fun i j hi hj=> ?_
  have hi':i<dl.length:=by simpa using hi
  have:=(hdg i hi').2 j hj
  refine⟨?_, ?_⟩
  ·rw[this]
   have hj':j<dl[i].1.2.length:=by rw[hxl];exact hj
   simp[hi',hj']
  ·simp only[World.frozen?,harr]
   simp
 have hones:∀x:El cells ok c.w c.M,∀v∈x.1.2,v.oneCell'=true:=fun x=>x.2.2.I8 (h.one _)
 have hcon:=AnyQ.slices_SortFunc L k aE zE (fun x:El cells ok c.w c.M=>x.1.2) hxl hones (fun x y=>cf x.1.1 y.1.1) (PG h.ord fun x:El cells ok c.w c.M=>x.1.1) g #[] blk o cap dl.toArray c.w eg (yd h hS.fit hMb _) hHolds hblk (by simp;omega)
 rw[show dl.toArray.size=l.length by simp[hdl]] at hcon
 refine hcon.mono ?_
 rintro en w' ⟨rfl,d',n,os,⟨hpz,_,hpp⟩,hss,hw'⟩
 have hdz:d'.size=l.length:=by rw[hpz];simp[hdl]
 -- what stands in the row now
 have hl1:dl.map (fun x=>x.1.1)=l:=by
  apply List.ext_getElem (by simp[hdl])
  intro i q1 q2
  have:=(hdg i (by simpa using q1)).1
  rw[List.getElem_map,this]
  simp[List.getD,q2]
 have hperm:(d'.toList.map fun x=>x.1.1).Perm l:=by
  have h2:d'.toList.Perm dl:=by
   have e1:d'.extract 0 l.length=d':=by rw[←hdz];exact Array.extract_size
   have e2:dl.toArray.extract 0 l.length=dl.toArray:=by rw[←hdl,←List.size_toArray];exact Array.extract_size
   rw[e1,e2] at hpp
   simpa using hpp
  have h3:=h2.map (fun x:El cells ok c.w c.M=>x.1.1)
  rwa[hl1] at h3
 have hsort:(d'.toList.map fun x=>x.1.1).Pairwise fun x y=>tf cf x y=true:=by
  rw[List.pairwise_iff_getElem]
  intro i j hi hj hij
  have hj':j<d'.size:=by simpa using hj
  have:=hss i j (Nat.zero_le _) hij (by omega)
  rw[getElem!_pos d' j hj',getElem!_pos d' i (by omega)] at this
  simp only[ltOf,decide_eq_false_iff_not] at this
  have hneg:=h.ord.neg d'[i].1.1 d'[j].1.1
  simp only[List.getElem_map,Array.getElem_toList,tf,decide_eq_true_eq]
  omega
 have hres:=h.ord.MQ hperm hsort
 have hlen:(gH cf l).length=l.length:=pM cf l
 have hHn:HoldsK (fun x:El cells ok c.w c.M=>x.1.2) k w' blk o d':=by
  rw[hw']
  exact holdsK_sortWorldK_c _ _ _ _ _ dl.toArray d' n os hHolds hblk (by rw[hpz])
 have hput:=hS.qA (b:=b) (e:=e) (sz:=k) d (es:=(gH cf l).map fun s=> .agg (cells s)) (w':=w') (blk:=blk) (o:=o) (z:=z) (arr:=putCells id o (flatK (fun x:El cells ok c.w c.M=>x.1.2) k d') arr) hpos
  (.inr ⟨_,_,_,hcb, .inl ⟨by simp[hlen],hρ⟩⟩) (.inr ⟨_,_,_,hcb,hρ⟩) (by rw[hw'];rfl) (by rw[hw'];rfl) (by rw[hw'];rfl) (by rw[hw'];exact size_sortWorldK_c _ _ _ _ _ _ _ _) (fun q hq hne=>by rw[hw'];exact la d' hq hne) (by rw[hw'];exact sD d' harr) (by simp[putCells];exact hsz) (by simp[hlen];exact hlz) (fun hle i hi=>by
   have hi':i<d'.size:=by simpa[hlen,hdz] using hi
   have hx:=d'[i].2.2
   refine⟨.agg d'[i].1.2.toArray,⟨by simp[Value.cells,hxl],fun j hj=> ?_,fun j u hu=> ?_⟩, ?_⟩
   ·have:=(hHn.cell (i:=i) (c:=j) hi' hj).1
    rw[getElem!_pos d' i hi'] at this
    rw[this]
    have hj':j<d'[i].1.2.length:=by rw[hxl];exact hj
    simp[Value.cells,hj']
   ·simp only[Value.cells,List.getElem?_toArray] at hu
    exact hones d'[i] u (List.mem_of_getElem? hu)
   ·have e4:((gH cf l).map fun s=>AV.agg (cells s)).getD i .any= .agg (cells d'[i].1.1):=by
     rw[←hres]
     simp[List.getD,hi']
    rw[e4,VR]
    exact⟨_,rfl,by simpa using cd.cS (uV.trans hle) hx⟩)
 obtain⟨p1,p2⟩:=hput
 have hHeq:bn ((b,some (.row e k d ((gH cf l).map fun s=> .agg (cells s))))::H)=fQ c.H b (some (.row e k d ((gH cf l).map fun s=> .agg (cells s)))):=by
  have:=df H b (.row e k d ((gH cf l).map fun s=> .agg (cells s)))
  rw[hH];exact this
 refine⟨.tuple #[], .dV [],_,nx,fQ c.ρ b (some (blk,o,z)),fun x=>c.U x∨x=b,rfl,⟨rfl,rfl,rfl⟩,fun x hx=>hx.elim (hU x) (fun e=>by omega), ?_, ?_, ?_⟩
 ·rw[hHeq];exact p1
 ·rw[hHeq];exact p2
 ·rw[VR];exact⟨#[],rfl,by rw[cd]⟩
end
end Go.Proofs.YtekfmjjmihomlaaGreat
end
section
/- Ends sorted; each once. -/
namespace Go.Proofs.YtekfmjjmihomlaaGreat
open Go Go.cZ Go.Proofs Go.RowKit Go.Sort
set_option linter.unusedSimpArgs false
set_option linter.unusedVariables false
set_option maxRecDepth 8000
theorem AI {P:Program} {ρ:Go.Shelf.Ren} (L:SlLaysF0.n6 P ρ) (hen:jB P (ρ.f 6)) (b:Nat) (fv:AV) (H:Hp) (nx:Nat):
 cP P (ρ.f 6) [.sl b 0,fv] H nx (fun r H' n=>r= .dV []∧n=nx∧H'=H):=by
 refine⟨hen,fun w0 c vs hS hH hU hv=> ?_⟩
 rw[cd] at hv
 obtain⟨v,vs',rfl,hv,hv2⟩:=hv
 rw[cd] at hv2
 obtain⟨v2,vs2,rfl,hv2,hv3⟩:=hv2
 rw[cd] at hv3
 subst hv3
 rw[VR] at hv
 obtain⟨hUb,a,cap,rfl,hr⟩:=hv
 refine(AnyF.slices_SortFunc_none L a cap v2 c.w).mono ?_
 rintro e w' ⟨rfl,rfl⟩
 obtain⟨ρ',Hc,U,w,M0⟩:=c
 simp only at hH
 subst hH
 exact⟨.tuple #[], .dV [],H,nx,ρ',U,rfl,⟨rfl,rfl,rfl⟩,hU,hS,Cx.le.refl _,by rw[VR];exact⟨#[],rfl,by rw[cd]⟩⟩
def vR (e:cj):Prop:=e.bu.length<9223372036854775807∧e.mem.length<9223372036854775807
theorem AH:yU Tryz.prog 19 cj.cells 3 vR dz where
 len:=fun _=>rfl
 pos:=by omega
 fit:=fun _=>by simp
 one:=fun _=>rfl
 cmp:=fun a b ha hb=>tA a b ha.1 ha.2
 ord:=gJ
theorem sC:jB Tryz.prog 37:=⟨Tryz.f37,Tryz.func37,by kernel_rfl,by kernel_rfl⟩
theorem EM (b:Nat) (l:List cj) (hok:∀e∈l,vR e) (hl:l.length≤65536) (H:Hp) (nx:Nat) (hb:∃d,bn H b=some (.row 40 3 d (l.map cj.av))) (hlt:b<nx):
 cP Tryz.prog 37 [.sl b l.length, .fn (.func 19) [] []] H nx (fun r H' n=>(∃d,bn H' b=some (.row 40 3 d ((gH dz l).map cj.av)))∧nx≤n∧∀y,y<nx→y≠b→bn H' y=bn H y):=by
 obtain⟨d,hb⟩:=hb
 by_cases h0:l=[]
 ·subst h0
  refine(AI Tryz.NY sC b _ H nx).mono ?_
  rintro r H' n ⟨rfl,rfl,rfl⟩
  exact⟨⟨d,by rw[hb];simp[gH]⟩,Nat.le_refl _,fun _ _ _=>rfl⟩
 ·refine(AJ Tryz.NY (k:=3) (fun w=>cZ.mN (by kernel_rfl) w) (fun w=>cZ.run_sizeOf (by kernel_rfl) w) sC (enters_of Tryz.func19 (by kernel_rfl) rfl) AH b l hok 40 d H nx hb hlt (by omega) h0).mono ?_
  rintro r H' n ⟨rfl,rfl,rfl⟩
  exact⟨⟨d,cO _ _ _⟩,Nat.le_refl _,fun y _ hne=>cG hne⟩
end Go.Proofs.YtekfmjjmihomlaaGreat
end
section
/- Neighbours that are one go: the walk of the library's CompactFunc. -/
namespace Go.Proofs.YtekfmjjmihomlaaGreat
open Go Go.cZ Go.Proofs
set_option linter.unusedSimpArgs false
set_option linter.unusedVariables false
set_option maxRecDepth 8000
def px (l:List cj):Nat→List cj
 |0=>[]
 |1=>[l.getD 0 default]
 |k+2=>if l.getD (k+1) default=l.getD k default then px l (k+1) else px l (k+1)++[l.getD (k+1) default]
theorem A3 (l:List cj):∀k,(px l k).length≤k
 |0=>Nat.le_refl _
 |1=>Nat.le_refl _
 |k+2=>by
  rw[px]
  have:=A3 l (k+1)
  split
  ·omega
  ·rw[List.length_append,List.length_cons,List.length_nil];omega
theorem vq (l:List cj) {k:Nat} (hk:1≤k):px l (k+1)=if l.getD k default=l.getD (k - 1) default then px l k else px l k++[l.getD k default]:=by
 obtain⟨j,rfl⟩:∃j,k=j+1:=⟨k - 1,by omega⟩
 rw[px]
 rfl
theorem qu {l:List cj} {i:Nat} (h:i<l.length) (d:AV):(l.map cj.av).getD i d=(l.getD i default).av:=dB cj.av l i d h
abbrev jh (l:List cj):AV:= .im 3 .any (l.map cj.av)
theorem qw (l:List cj):cT 0 (l.map cj.av):=(cC _ _).2 fun _ _=>by simp[cE]
theorem sa {α:Type} {l:List α} {i:Nat} {x:α} (h:i<l.length):(l.set i x).take (i+1)=l.take i++[x]:=by
 rw[List.take_succ_eq_append_getElem (by simpa using h),List.take_set_of_le (Nat.le_refl _)]
 simp
theorem OS {H:Hp} {k b len lo n:Nat} {e:TypeId} {sz:Nat} {d:AV} {es:List AV} (h:bn H b=some (.row e sz d es)) (hl:es.length=len):cZ.dX H (k+1) (.sv b len lo n)= .im sz .any (((es.drop lo).take n).map (cZ.dX H k)):=by
 simp only[cZ.dX,h];rw[if_pos hl]
set_option maxHeartbeats 4000000 in
theorem u6 (o:Nat) (l:List cj) (hl:l.length≤65536) (hok:∀e∈l,e.bu.length<9223372036854775807∧e.mem.length<9223372036854775807) (H:Hp) (nx:Nat) (ho:o<nx) (hr:∃d,bn H o=some (.row 40 3 d (l.map cj.av))):
 cP Tryz.prog 38 [.sl o l.length, .fn (.func 20) [] []] H nx (fun r H' n=>(r= .sl o l.length∨∃m,r= .sv o l.length 0 m)∧cZ.dX H' 5 r=jh (px l l.length)):=by
 obtain⟨d0,r0'⟩:=hr
 have a0:(l.map cj.av).length=l.length:=by simp
 have same:∀i j,i<l.length→j<l.length→Pure Tryz.prog 20 [(l.getD i default).av,(l.getD j default).av] (fun r=>r=bl (decide (l.getD i default=l.getD j default))):=fun i j hi hj=>by
  obtain⟨p1,p2⟩:=hok _ (cW default hi)
  have:=rz (l.getD i default) (l.getD j default) p1 p2
  simpa only[tB] using this
 refine aQ HF rfl ?_
 by_cases h2:l.length<2
 ·refine cV ?_
  refine⟨.inl rfl, ?_⟩
  show cZ.dX H 5 (.sl o l.length)=_
  rw[dF (k:=4) r0' (by simp),cc _ (qw l)]
  have:px l l.length=l:=by
   match l,h2 with
   |[],_=>rfl
   |[x],_=>rfl
  rw[this]
 ·refine cV ?_
  refine aP (fun i:Nat=>[(0, .sl o l.length),(1, .fn (.func 20) [] []),(5,i64 i)]) (fun i H2 n=>1≤i∧i≤l.length∧nx≤n∧bn H2 o=some (.row 40 3 d0 (l.map cj.av))∧px l i=l.take i) (fun i=>l.length - i) 1 cI ⟨Nat.le_refl _,by omega,c8,bq,by rw[px];cases l with|nil=>simp at h2|cons x t=>rfl⟩ ?_
  clear r0'
  rintro i H2 n ⟨hi1,hi,hn,r0',hdd⟩
  by_cases hil:i<l.length
  ·have e0:∀d,(l.map cj.av).getD ((i:Int)).toNat d=(l.getD i default).av:=fun d=>by rw[Int.toNat_natCast];exact qu hil d
   have e1:∀d,(l.map cj.av).getD ((i:Int) - 1).toNat d=(l.getD (i - 1) default).av:=fun d=>by rw[show((i:Int) - 1).toNat=i - 1 by omega];exact qu (by omega) d
   have c0:=same i (i - 1) hil (by omega)
   have hsu:=vq l hi1
   by_cases he:l.getD i default=l.getD (i - 1) default
   ·rw[decide_eq_true he] at c0
    rw[if_pos he] at hsu
    refine cV ?_
    refine aP (fun σ:Nat×Nat×List cj=>[(0, .sl o l.length),(1, .fn (.func 20) [] []),(5,i64 σ.1),(6, .sv o l.length i (l.length - i)),(7,i64 σ.2.1)])
     (fun σ H2 n=>1≤σ.2.1∧i+σ.2.1≤l.length∧i≤σ.1∧σ.1+1≤i+σ.2.1∧σ.2.2.length=l.length∧(∀q,σ.1≤q→σ.2.2.getD q default=l.getD q default)∧σ.2.2.take σ.1=px l (i+σ.2.1)∧nx≤n∧∃d,bn H2 o=some (.row 40 3 d (σ.2.2.map cj.av))) (fun σ=>l.length - σ.2.1) (i,1,l) cI
     ⟨Nat.le_refl _,by show i+1≤l.length;omega,Nat.le_refl _,Nat.le_refl _,rfl,fun _ _=>rfl,by dsimp only;rw[hsu,hdd],c8,⟨_,bq⟩⟩ ?_
    clear c0 e0 e1 hsu hdd r0' hn
    rintro⟨k,j,es⟩ H3 n ⟨hj1,hj,hik,hkj,hel,hsame,hdd,hn,⟨d1,r1'⟩⟩
    dsimp only at hj1 hj hik hkj hel hsame hdd r1' ⊢
    have a1:(es.map cj.av).length=l.length:=by simp[hel]
    by_cases hjl:j<l.length - i
    ·have e0:∀d,(es.map cj.av).getD (i+((j:Int)).toNat) d=(l.getD (i+j) default).av:=fun d=>by rw[Int.toNat_natCast,qu (by omega) d,hsame _ (by omega)]
     have e1:∀d,(es.map cj.av).getD (i+((j:Int) - 1).toNat) d=(l.getD (i+j - 1) default).av:=fun d=>by rw[show i+((j:Int) - 1).toNat=i+j - 1 by omega,qu (by omega) d,hsame _ (by omega)]
     have e2:∀d,(es.map cj.av).getD ((k:Int)).toNat d=(es.getD k default).av:=fun d=>by rw[Int.toNat_natCast];exact qu (by omega) d
     have c0:=same (i+j) (i+j - 1) (by omega) (by omega)
     have hsu:=vq l (k:=i+j) (by omega)
     by_cases he2:l.getD (i+j) default=l.getD (i+j - 1) default
     ·rw[decide_eq_true he2] at c0
      rw[if_pos he2] at hsu
      refine cV ?_
      exact⟨(k,j+1,es),by dsimp only;omega,cI,by dsimp only;omega,by dsimp only;omega,hik,by dsimp only;omega,hel,hsame,by dsimp only;rw[←Nat.add_assoc,hsu];exact hdd,c8,⟨d1,bq⟩⟩
     ·rw[decide_eq_false he2] at c0
      rw[if_neg he2] at hsu
      refine cV ?_
      refine⟨(k+1,j+1,es.set k (l.getD (i+j) default)),by dsimp only;omega,cI,by dsimp only;omega,by dsimp only;omega,by dsimp only;omega,by dsimp only;omega,by simp[hel],fun q hq=> ?_, ?_,c8,⟨d1,by dsimp only;rw[List.map_set];exact bq⟩⟩
      ·have hq:k+1≤q:=hq
       dsimp only
       rw[getD_set_ne (by omega)];exact hsame q (by omega)
      ·dsimp only
       rw[←Nat.add_assoc,hsu,sa (by omega),hdd]
    ·obtain rfl:j=l.length - i:=by omega
     rw[show i+(l.length - i)=l.length by omega] at hdd
     refine cV ?_
     refine⟨.inr ⟨_,rfl⟩, ?_⟩
     rw[Int.toNat_natCast]
     have hkl:k≤l.length:=by omega
     generalize hZ:List.replicate (l.length - k) (fZ true [Value.slice none 0 0,Value.slice none 0 0,Value.bool false])=Z
     have hZl:Z.length=l.length - k:=by rw[←hZ];simp
     show cZ.dX ((o,some (.row 40 3 d1 ((es.map cj.av).take k++Z++(es.map cj.av).drop (k+(l.length - k)))))::H3) 5 (.sv o l.length 0 (k - 0))=_
     rw[OS (k:=4) (cO _ _ _) (by simp[hZl,hel];omega),List.drop_zero,Nat.sub_zero,List.append_assoc,List.take_append_of_le_length (by simp;omega),List.take_take,Nat.min_self,←List.map_take,hdd,cc _ (qw _)]
   ·rw[decide_eq_false he] at c0
    rw[if_neg he] at hsu
    refine cV ?_
    refine⟨i+1,by omega,cI,by omega,by omega,c8,bq, ?_⟩
    rw[hsu,hdd,List.take_succ_eq_append_getElem hil,show l.getD i default=l[i] by simp[List.getD,hil]]
  ·obtain rfl:i=l.length:=by omega
   rw[List.take_length] at hdd
   refine cV ?_
   refine⟨.inl rfl, ?_⟩
   show cZ.dX H2 5 (.sl o l.length)=_
   rw[dF (k:=4) r0' (by simp),cc _ (qw l),hdd]
end Go.Proofs.YtekfmjjmihomlaaGreat
end
section
/- Ends: the walk. -/
namespace Go.Proofs.YtekfmjjmihomlaaGreat
open Go Go.cZ Go.Proofs
set_option linter.unusedSimpArgs false
set_option linter.unusedVariables false
set_option maxRecDepth 8000
def jy (u:bt) (l:List cQ):List cj:=px (gH dz (dj u l l.length)) (dj u l l.length).length
noncomputable def mZ (u:bt) (most:Int):AV:=if(gB u most).1=0 then .dV [jh (jy u (gB u most).2),i64 0] else .dV [.sc (.slice none 0 0),i64 (gB u most).1]
theorem oq {u:bt} {l:List cQ} (hr:dC u) (hf:gw u l) (hl:l.length≤65536) (k:Nat):∀e∈dj u l k,vR e:=by
 intro e he
 unfold dj at he
 obtain⟨f,hf1,hf2⟩:=List.mem_filterMap.1 he
 split at hf2
 ·cases hf2
  obtain⟨i,hi,rfl⟩:=List.mem_iff_getElem.1 (List.mem_of_mem_take hf1)
  obtain⟨h1,h2⟩:=hf.ok i hi
  rw[show l.getD i default=l[i] by simp[List.getD,hi]] at h1 h2
  have:=h1.ml
  have:=hr.vO
  refine⟨?_, ?_⟩
  ·show l[i].m.bu.length<_;omega
  ·show l[i].m.mem.length<_;omega
 ·cases hf2
set_option maxHeartbeats 2000000 in
theorem ot (u:bt) (hu:u.Wf) (most:Int):Pure Tryz.prog 13 [u.av,i64 most] (fun r=>r=mZ u most):=by
 refine dY ?_ (by unfold mZ;split<;>simp[cE,cT,cC])
 refine aQ G0 rfl ?_
 by_cases hr:dC u
 ·by_cases hm:1≤most∧most≤65536
  ·unfold mZ
   rw[j3 hr hm]
   refine cV ?_
   let l:=(gN u most.toNat).getD []
   let I:Nat→Hp→Prop:=fun k H=>(∃d,bn H 0=some (.row 25 3 d [u.av]))∧(∃d,bn H 3=some (.row 30 1 d [.sl 7 (dj u l k).length]))∧(∃d,bn H 7=some (.row 40 3 d ((dj u l k).map cj.av)))
   refine aO (R:=fun r H n=>8≤n∧CG u most I r H) (NK (b:=3) 40 3 (by omega) (by omega) (d:=fZ false [.slice none 0 0]) (te:=30) ?_ fun H2 q1 q2 q3=> ?_) ?_
   ·exact bq
   ·refine(qb u hu hr most hm _ [.pt 0 1 0 0, .pt 3 1 0 0] H2 8 I ?_ ?_ ?_).mono fun r H n h=>⟨h.1,h.short⟩
    ·exact⟨⟨_,(q3 0 (by omega) (by omega)).trans bq⟩,⟨_,q1⟩,⟨_,q2⟩⟩
    ·rintro k H H' ⟨⟨d0,p0⟩,⟨d1,p1⟩,⟨d2,p2⟩⟩ hk
     exact⟨⟨d0,(hk 0 (by omega)).trans p0⟩,⟨d1,(hk 3 (by omega)).trans p1⟩,⟨d2,(hk 7 (by omega)).trans p2⟩⟩
    ·intro l' hl' k H n hk hn ⟨p0,p1,p2⟩
     have hll:l=l':=by show(gN u most.toNat).getD []=l';rw[hl'];rfl
     rw[hll] at p1 p2
     obtain⟨hf,hlm,_⟩:=qE hu hr (by omega) hl'
     refine(K3 hr hf (by omega) hk (ub:=0) (ob:=3) (o:=7) (by omega) (by omega) (by omega) (by omega) p0 p1 p2).mono ?_
     rintro _ H' n' ⟨s1,s2,s3,s4⟩
     obtain⟨d0,p0⟩:=p0
     refine⟨⟨⟨d0,(s4 0 (by omega) (by omega) (by omega)).trans p0⟩, ?_, ?_⟩,s3,fun y y1 y2=>s4 y y2 (by omega) (by omega)⟩
     ·rw[hll];exact s1
     ·rw[hll];exact s2
   rintro r H' n' ⟨hn,hA⟩
   revert hA
   unfold CG
   cases hs:gN u most.toNat with
   |none=>
    rintro rfl
    refine cV ?_
    exact⟨rfl⟩
   |some l'=>
    rintro⟨rfl,⟨d0,p0⟩,⟨d1,p1⟩,p2⟩
    have hll:l=l':=by show(gN u most.toNat).getD []=l';rw[hs];rfl
    rw[hll] at p1 p2
    obtain⟨hf,hlm,_⟩:=qE hu hr (by omega) hs
    have hin:=oq hr hf (by omega) l'.length
    have hlen:=my u l' l'.length
    refine cV ?_
    refine aO (EM 7 (dj u l' l'.length) hin (by omega) _ _ p2 c8) ?_
    rintro r H3 n3 ⟨⟨d5,r5⟩,hn3,hk3⟩
    have r6:=(hk3 3 c8 (by omega)).trans p1
    have hsl:(gH dz (dj u l' l'.length)).length=(dj u l' l'.length).length:=pM _ _
    refine cV ?_
    rw[←hsl]
    refine aO (u6 7 (gH dz (dj u l' l'.length)) (by omega) (fun e he=>hin e ((nN _ _).mem_iff.1 he)) _ _ c8 ⟨d5,r5⟩) ?_
    rintro r H4 n4 ⟨hform,hfz⟩
    rcases hform with rfl|⟨m,rfl⟩
    all_goals
     refine cV ?_
     refine⟨?_⟩
     dsimp only
     rw[if_pos rfl]
     show AV.dV [cZ.dX H4 5 _,i64 0]=_
     rw[hfz,hsl]
     rfl
  ·unfold mZ
   rw[jL hr hm]
   refine cV ?_
   refine aO (oi u hu hr most hm _ _ _ _) ?_
   rintro r H' n' ⟨rfl,hn,hk⟩
   refine cV ?_
   exact⟨rfl⟩
 ·unfold mZ
  rw[lM hr]
  refine cV ?_
  refine aO (uP u hu hr most _ _ _ _) ?_
  rintro r H' n' ⟨rfl,hn,hk⟩
  refine cV ?_
  exact⟨rfl⟩
end Go.Proofs.YtekfmjjmihomlaaGreat
end
section
/- The unit that takes its lock twice; begins. -/
namespace Go.Proofs.YtekfmjjmihomlaaGreat
open Go Go.cZ Go.Proofs
set_option linter.unusedSimpArgs false
set_option linter.unusedVariables false
set_option maxRecDepth 8000
instance RF (n:Int):Decidable (eM n):=inferInstanceAs (Decidable (_∧_))
def Q1 (k nx o:Int):Node:=⟨k,0,0,0,⟨false,0,0⟩,⟨false,0,0⟩,nx,0,o⟩
def SN:cA:=⟨⟨(List.toArray [97])⟩,0,0,[Q1 5 1 0,Q1 5 2 1,Q1 6 3 2,Q1 6 4 3,Q1 9 0 4]⟩
def ep:bt:=⟨[],[⟨⟨(List.toArray [108])⟩,0,0⟩],[SN]⟩
theorem EN:Pure Tryz.prog 43 [] (fun r=>r=ep.av):=by
 have h:Pure Tryz.prog 43 [] (fun r=>r= .agg [.sc (.slice none 0 0),bw ep.bx,cR ep.bo]):=by
  exact mO (by rw[cE,cT,cT,cT,cT];exact⟨by simp[cE],by simp[cE,cC],by simp[cE,cC],trivial⟩) (by kernel_rfl)
 refine qQ (u:= .agg [.sc (.slice none 0 0),bw ep.bx,cR ep.bo]) (h.mono fun r hr=> .inl hr) (by simp[cE]) fun c=> ?_
 exact cZ.dZ.agg (.cons (cZ.dZ.kJ c c 3 .any) (.cons (fun _ h=>h) (.cons (fun _ h=>h) .nil)))
theorem nO:dC ep:=ly.1 (by decide+kernel)
theorem qS:ep.Wf:=by
 refine⟨fun _ h=>by simp[ep] at h,by simp[ep],fun d h=> ?_,by simp[ep],fun g hg=> ?_,by simp[ep]⟩
 ·simp only[ep,List.mem_cons,List.not_mem_nil,or_false] at h
  subst h
  exact⟨by decide+kernel,by decide+kernel,by decide+kernel⟩
 simp only[ep,List.mem_cons,List.not_mem_nil,or_false] at hg
 subst hg
 refine⟨by decide+kernel,by decide+kernel,by decide+kernel,fun n hn=> ?_,by decide+kernel⟩
 simp only[SN,List.mem_cons,List.not_mem_nil,or_false] at hn
 rcases hn with rfl|rfl|rfl|rfl|rfl<;>
  exact⟨by decide+kernel,by decide+kernel,by decide+kernel,by decide+kernel,⟨by decide+kernel,by decide+kernel⟩,⟨by decide+kernel,by decide+kernel⟩,by decide+kernel,by decide+kernel,by decide+kernel⟩
def KC:List cQ:=[⟨dA ep,-1,0⟩,⟨((dA ep).step ep 0).1,0,0⟩]
theorem MU:gN ep 9=some KC:=by decide+kernel
theorem MT:gN ep 2=some KC:=by decide+kernel
theorem MR:gN ep 1=none:=by decide+kernel
theorem Q2:gB ep 9=(0,KC):=by rw[j3 nO (by decide),show(9:Int).toNat=9 from rfl,MU]
theorem SI:gB ep 2=(0,KC):=by rw[j3 nO (by decide),show(2:Int).toNat=2 from rfl,MT]
theorem SH:gB ep 1=(3,[]):=by rw[j3 nO (by decide),show(1:Int).toNat=1 from rfl,MR]
def RO:cj:=⟨[],[],false⟩
theorem MV:jy ep KC=[RO]:=by
 unfold jy
 rw[show dj ep KC KC.length=[RO] by decide+kernel]
 unfold gH
 rw[List.mergeSort_singleton]
 decide+kernel
theorem O9:gT ep KC RO KC.length=some 1:=by decide+kernel
theorem PC:kO KC (some 1)=[0]:=by decide+kernel
theorem ve:Pure Tryz.prog 17 [] (fun r=>r=bl true):=by
 have c5:=EN
 have c0:=qp ep qS 9
 rw[Q2] at c0
 have c1:=ot ep qS 2
 unfold mZ at c1
 rw[SI,if_pos rfl,MV] at c1
 have c2:=ot ep qS 1
 unfold mZ at c2
 rw[SH,if_neg (by decide)] at c2
 have c3':=J6 ep qS 9 RO (by decide) (by decide)
 unfold uC at c3'
 rw[Q2,if_pos rfl,O9,PC] at c3'
 have c3:Pure Tryz.prog 25 [ep.av,i64 9, .agg (List.map AV.sc [.slice none 0 0, .slice none 0 0, .bool false])] (fun r=>r= .dV [cm [0],bl true,i64 0]):=
  Pure.args c3' fun c=> .cons (fun _ h=>h) (.cons (fun _ h=>h) (.cons (cZ.dZ.agg (.cons (cZ.dZ.kJ c c 2 .any) (.cons (cZ.dZ.kJ c c 1 .any) (.cons (fun _ h=>h) .nil)))) .nil))
 refine aI G4 rfl ?_
 refine cV ?_
 exact rfl
end Go.Proofs.YtekfmjjmihomlaaGreat
end
section
/- What units and ends read as. -/
namespace Go.Proofs.YtekfmjjmihomlaaGreat
open Go Go.cZ Go.Proofs Go.RowKit Go.ChangeShapes Go.WideShapes Go.ChangeAt
set_option linter.unusedSimpArgs false
set_option linter.unusedVariables false
theorem own:ownKnob Tryz.prog.godebug=none:=by kernel_rfl
theorem laidOut:laidOutB Tryz.prog=true:=by kernel_rfl
theorem IX {n:Int} (h:(Lit.int .i64 n).wf=true):eM n:=by
 simp only[Lit.wf,Bool.and_eq_true,decide_eq_true_eq] at h
 have e1:IntKind.i64.min=-9223372036854775808:=by decide
 have e2:IntKind.i64.max=9223372036854775807:=by decide
 unfold eM
 omega
theorem BW {n:Int} (h:(Lit.int .u8 n).wf=true):0≤n∧n<256:=by
 simp only[Lit.wf,Bool.and_eq_true,decide_eq_true_eq] at h
 have e1:IntKind.u8.min=0:=by decide
 have e2:IntKind.u8.max=255:=by decide
 omega
theorem eG {t:TypeId} (ht:Tryz.prog.underlying t=some (.int .i64)):eS Tryz.prog t (fun n:Int=>[i64 n]) eM:=(pJ ht).map (fun n=>n) (fun _ _=>rfl) fun _ h=>IX h
theorem tn:eS Tryz.prog 107 iR.cells iR.Wf:=by
 refine eS.map (α:=Bool×Int×Int×Unit) (fun p=>(⟨p.1,p.2.1,p.2.2.1⟩:iR))
  (gp (k:=3) Tryz.underlying107 (by kernel_rfl) (dD (k:=1) rfl (by kernel_rfl) (zZ Tryz.underlying4) (dD (k:=1) rfl (by kernel_rfl) (eG Tryz.underlying3) (dD (k:=1) rfl (by kernel_rfl) (eG Tryz.underlying2) jS)))) ?_ ?_
 ·intro a _;rfl
 ·intro a h;exact⟨h.2.1,h.2.2.1⟩
theorem z7:eS Tryz.prog 109 Node.cells Node.Wf:=by
 refine eS.map (α:=Int×Int×Int×Int×iR×iR×Int×Int×Int×Unit) (fun p=>(⟨p.1,p.2.1,p.2.2.1,p.2.2.2.1,p.2.2.2.2.1,p.2.2.2.2.2.1,p.2.2.2.2.2.2.1,p.2.2.2.2.2.2.2.1,p.2.2.2.2.2.2.2.2.1⟩:Node))
  (gp (k:=13) Tryz.underlying109 (by kernel_rfl) (dD (k:=1) rfl (by kernel_rfl) (pJ Tryz.underlying47) (dD (k:=1) rfl (by kernel_rfl) (pJ Tryz.underlying105) (dD (k:=1) rfl (by kernel_rfl) (eG Tryz.underlying3) (dD (k:=1) rfl (by kernel_rfl) (eG Tryz.underlying3) (dD (k:=3) rfl (by kernel_rfl) tn (dD (k:=3) rfl (by kernel_rfl) tn (dD (k:=1) rfl (by kernel_rfl) (eG Tryz.underlying3) (dD (k:=1) rfl (by kernel_rfl) (eG Tryz.underlying3) (dD (k:=1) rfl (by kernel_rfl) (eG Tryz.underlying3) jS)))))))))) ?_ ?_
 ·intro a _;rfl
 ·intro a h
  obtain⟨h1,h2,h3,h4,h5,h6,h7,h8,h9,_⟩:=h
  exact⟨BW h1,BW h2,h3,h4,h5,h6,h7,h8,h9⟩
theorem z6:eS Tryz.prog 103 Decl.cells Decl.Wf:=by
 refine eS.map (α:=ByteArray×Int×Int×Unit) (fun p=>(⟨p.1,p.2.1,p.2.2.1⟩:Decl))
  (gp (k:=3) Tryz.underlying103 (by kernel_rfl) (dD (k:=1) rfl (by kernel_rfl) (oR Tryz.underlying9) (dD (k:=1) rfl (by kernel_rfl) (eG Tryz.underlying2) (dD (k:=1) rfl (by kernel_rfl) (eG Tryz.underlying3) jS)))) ?_ ?_
 ·intro a _;rfl
 ·intro a h;exact⟨h.1,h.2.1,h.2.2.1⟩
theorem pb:eS Tryz.prog 22 (fun l:List Decl=>[bw l]) (fun l=>(∀x∈l,x.Wf)∧l.length * 32≤140737488351232):=by
 have hb:Tryz.prog.bytesOf 103=32:=by kernel_rfl
 refine(l4 (ag:=true) (sz:=3) .any Tryz.underlying22 (by kernel_rfl) (by omega) z6 (fun _=>rfl) (fun _ _=>rfl) (fun h=>by cases h)).map (fun l=>l) (fun _ _=>rfl) ?_
 rintro l ⟨h1,h2⟩
 rw[hb] at h2
 exact⟨h1,h2⟩
structure cj.Wf (e:cj):Prop where
 bu:(∀p∈e.bu,eM p.ch∧eM p.word)∧e.bu.length * 16≤140737488351232
 mem:(∀x∈e.mem,eM x)∧e.mem.length * 8≤140737488351232
end Go.Proofs.YtekfmjjmihomlaaGreat
end
section
/- A unit that came in, its nodes' bytes told as they are. -/
namespace Go.Proofs.YtekfmjjmihomlaaGreat
open Go Go.cZ Go.Proofs Go.RowKit Go.ChangeShapes Go.WideShapes Go.ChangeAt
set_option linter.unusedSimpArgs false
set_option linter.unusedVariables false
theorem sW:eS Tryz.prog 62 (fun l:List Node=>[oO l]) (fun l=>(∀x∈l,x.Wf)∧l.length * 96≤140737488351232):=by
 have hb:Tryz.prog.bytesOf 109=96:=by kernel_rfl
 refine(l4 (ag:=true) (sz:=13) .any Tryz.underlying62 (by kernel_rfl) (by omega) z7 (fun _=>rfl) (fun _ _=>rfl) (fun h=>by cases h)).map (fun l=>l) (fun _ _=>rfl) ?_
 rintro l ⟨h1,h2⟩
 rw[hb] at h2
 exact⟨h1,h2⟩
def cA.Fit (g:cA):Prop:=g.Wf∧g.nodes.length * 96≤140737488351232
def bt.Fit (u:bt):Prop:=u.Wf∧∀g∈u.bo,g.nodes.length * 96≤140737488351232
theorem sV:eS Tryz.prog 64 cA.cells cA.Fit:=by
 refine eS.map (α:=ByteArray×Int×Int×List Node×Unit) (fun p=>(⟨p.1,p.2.1,p.2.2.1,p.2.2.2.1⟩:cA))
  (gp (k:=4) Tryz.underlying64 (by kernel_rfl) (dD (k:=1) rfl (by kernel_rfl) (oR Tryz.underlying9) (dD (k:=1) rfl (by kernel_rfl) (eG Tryz.underlying3) (dD (k:=1) rfl (by kernel_rfl) (eG Tryz.underlying3) (dD (k:=1) rfl (by kernel_rfl) sW jS))))) ?_ ?_
 ·intro a _;rfl
 ·intro a h
  obtain⟨h1,h2,h3,⟨h4,h5⟩,_⟩:=h
  exact⟨⟨h1,h2,h3,h4,Nat.le_trans (Nat.mul_le_mul_left _ (by omega)) h5⟩,h5⟩
theorem ri:eS Tryz.prog 23 (fun l:List cA=>[cR l]) (fun l=>(∀x∈l,x.Fit)∧l.length * 56≤140737488351232):=by
 have hb:Tryz.prog.bytesOf 64=56:=by kernel_rfl
 refine(l4 (ag:=true) (sz:=4) .any Tryz.underlying23 (by kernel_rfl) (by omega) sV (fun _=>rfl) (fun _ _=>rfl) (fun h=>by cases h)).map (fun l=>l) (fun _ _=>rfl) ?_
 rintro l ⟨h1,h2⟩
 rw[hb] at h2
 exact⟨h1,h2⟩
theorem ux:eS Tryz.prog 25 bt.cells bt.Fit:=by
 refine eS.map (α:=List Decl×List Decl×List cA×Unit) (fun p=>(⟨p.1,p.2.1,p.2.2.1⟩:bt))
  (gp (k:=3) Tryz.underlying25 (by kernel_rfl) (dD (k:=1) rfl (by kernel_rfl) pb (dD (k:=1) rfl (by kernel_rfl) pb (dD (k:=1) rfl (by kernel_rfl) ri jS)))) ?_ ?_
 ·intro a _;rfl
 ·intro a h
  obtain⟨⟨h1,h2⟩,⟨h3,h4⟩,⟨h5,h6⟩,_⟩:=h
  exact⟨⟨h1,h2,h3,h4,fun g hg=>(h5 g hg).1,h6⟩,fun g hg=>(h5 g hg).2⟩
end Go.Proofs.YtekfmjjmihomlaaGreat
end
section
/- The document's machine in rows: what a store makes of it (turned out of Xw). -/
namespace Go.Proofs.YtekfmjjmihomlaaGreat
open Go Go.cZ Go.Proofs
set_option linter.unusedSimpArgs false
set_option linter.unusedVariables false
structure NC (u:bt) (m:MS) (mr a s me ho pr:Nat) (ids:List Nat) (H:Hp):Prop where
 rM:∃d,bn H mr=some (.row 80 8 d [m.rows u a s me ho pr])
 rA:∃d,bn H a=some (.row 3 1 d (m.at_.map i64))
 rS:∃d,bn H s=some (.row 38 1 d (dG ids m.br))
 rL:∀t,t<m.br.length→∃d,bn H (ids.getD t 0)=some (.row 2 1 d ((m.br.getD t []).map i64))
 rE:∃d,bn H me=some (.row 2 1 d (m.mem.map i64))
 rH:∃d,bn H ho=some (.row 3 1 d (m.hold.map i64))
 rP:∃d,bn H pr=some (.row 89 2 d (m.bu.map cg.av))
 len:ids.length=m.br.length
 nodup:(mr::a::s::me::ho::pr::ids).Nodup
abbrev ML.Nt (L:ML) (u:bt) (m:MS) (H:Hp):Prop:=NC u m L.mr L.a L.s L.me L.ho L.pr L.ids H
theorem NC.zB {u:bt} {m:MS} {mr a s me ho pr:Nat} {ids:List Nat} {H:Hp} (h:NC u m mr a s me ho pr ids H) (k:Nat):cZ.dX H (k+4) (.pt mr 1 0 0)=m.fz u:=by
 obtain⟨d1,h1⟩:=h.rM
 obtain⟨d2,h2⟩:=h.rA
 obtain⟨d3,h3⟩:=h.rS
 obtain⟨d4,h4⟩:=h.rE
 obtain⟨d5,h5⟩:=h.rH
 obtain⟨d6,h6⟩:=h.rP
 have hsl:(dG ids m.br).length=m.br.length:=by unfold dG;rw[List.length_map,List.length_zip,h.len];simp
 have hs:(dG ids m.br).map (cZ.dX H (k+1))=m.br.map cm:=by
  apply List.ext_getElem (by simp[hsl])
  intro t q1 q2
  have ht:t<m.br.length:=by simpa using q2
  have hti:t<ids.length:=by rw[h.len];exact ht
  obtain⟨d,hd⟩:=h.rL t ht
  rw[show ids.getD t 0=ids[t] by simp[List.getD,hti],show m.br.getD t []=m.br[t] by simp[List.getD,ht]] at hd
  rw[List.getElem_map,List.getElem_map]
  simp only[dG,List.getElem_map,List.getElem_zip]
  rw[dF hd (by simp),cc _ ((cC _ _).2 fun _ _=>by simp[cE])]
 simp only[cZ.dX,h1]
 simp only[List.length_cons,List.length_nil,if_true,List.map_cons,List.map_nil,MS.rows]
 rw[j4]
 simp only[List.map_cons,List.map_nil]
 rw[dF h2 (by simp),dF h3 hsl,dF h4 (by simp),dF h5 (by simp),dF h6 (by simp),hs]
 rw[cc _ ((cC _ _).2 fun _ _=>by simp[cE]),cc _ ((cC _ _).2 fun _ _=>by simp[cE]),cc _ ((cC _ _).2 fun _ _=>by simp[cE]),cc _ ((cC _ _).2 fun _ _=>by simp[cE])]
 rw[cx _ (show cE 0 (bw u.shared) by simp[cE,cC]),cx _ (show cE 0 (bw u.bx) by simp[cE,cC]),cx _ (show cE 0 (cR u.bo) by simp[cE,cC])]
 rfl
theorem NC.K8 {u:bt} {m:MS} {mr a s me ho pr:Nat} {ids:List Nat} {H:Hp} (h:NC u m mr a s me ho pr ids H) (k:Nat):cZ.dX H (k+3) (m.rows u a s me ho pr)=m.av u:=by
 obtain⟨d1,h1⟩:=h.rM
 obtain⟨d2,h2⟩:=h.rA
 obtain⟨d3,h3⟩:=h.rS
 obtain⟨d4,h4⟩:=h.rE
 obtain⟨d5,h5⟩:=h.rH
 obtain⟨d6,h6⟩:=h.rP
 have hsl:(dG ids m.br).length=m.br.length:=by unfold dG;rw[List.length_map,List.length_zip,h.len];simp
 have hs:(dG ids m.br).map (cZ.dX H (k+1))=m.br.map cm:=by
  apply List.ext_getElem (by simp[hsl])
  intro t q1 q2
  have ht:t<m.br.length:=by simpa using q2
  have hti:t<ids.length:=by rw[h.len];exact ht
  obtain⟨d,hd⟩:=h.rL t ht
  rw[show ids.getD t 0=ids[t] by simp[List.getD,hti],show m.br.getD t []=m.br[t] by simp[List.getD,ht]] at hd
  rw[List.getElem_map,List.getElem_map]
  simp only[dG,List.getElem_map,List.getElem_zip]
  rw[dF hd (by simp),cc _ ((cC _ _).2 fun _ _=>by simp[cE])]
 rw[MS.rows,j4]
 simp only[List.map_cons,List.map_nil]
 rw[dF h2 (by simp),dF h3 hsl,dF h4 (by simp),dF h5 (by simp),dF h6 (by simp),hs]
 rw[cc _ ((cC _ _).2 fun _ _=>by simp[cE]),cc _ ((cC _ _).2 fun _ _=>by simp[cE]),cc _ ((cC _ _).2 fun _ _=>by simp[cE]),cc _ ((cC _ _).2 fun _ _=>by simp[cE])]
 rw[cx _ (show cE 0 (bw u.shared) by simp[cE,cC]),cx _ (show cE 0 (bw u.bx) by simp[cE,cC]),cx _ (show cE 0 (cR u.bo) by simp[cE,cC])]
 rfl
section
variable {u:bt} {m:MS} {L:ML} {H H':Hp}
theorem ML.Nt.mem (h:L.Nt u m H):(∀x∈[L.a,L.s,L.me,L.ho,L.pr],x∈L.all):=by
 intro x hx
 simp only[List.mem_cons,List.not_mem_nil,or_false] at hx
 simp only[ML.all,List.mem_cons]
 omega
theorem mG (h:L.Nt u m H) {t:Nat} (ht:t<m.br.length):L.it t∈L.all:=by
 have:L.it t∈L.ids:=dN (by rw[h.len];exact ht)
 simp only[ML.all,List.mem_cons]
 exact .inr (.inr (.inr (.inr (.inr (.inr this)))))
theorem O2 (h:L.Nt u m H) {t s:Nat} (ht:t<m.br.length) (hs:s<m.br.length) (e:s≠t):L.it s≠L.it t:=by
 have h1:=(List.nodup_cons.1 (List.nodup_cons.1 (List.nodup_cons.1 (List.nodup_cons.1 (List.nodup_cons.1 (List.nodup_cons.1 h.nodup).2).2).2).2).2).2
 have hl:=h.len
 intro he
 have ht':t<L.ids.length:=by omega
 have hs':s<L.ids.length:=by omega
 have:L.ids[s]=L.ids[t]:=by simpa[ML.it,List.getD,ht',hs'] using he
 exact e ((List.getElem_inj h1).1 this)
theorem jm (h:L.Nt u m H) {t:Nat} (ht:t<m.br.length):L.NA t:=by
 have hn:=h.nodup
 have hi:L.it t∈L.ids:=dN (by rw[h.len];exact ht)
 have hne:∀x,x∉L.ids→L.it t≠x:=fun x hx e=>hx (e▸hi)
 simp only[List.nodup_cons,List.mem_cons,not_or] at hn
 obtain⟨⟨a1,a2,a3,a4,a5,a6⟩,⟨b1,b2,b3,b4,b5⟩,⟨c1,c2,c3,c4⟩,⟨d1,d2,d3⟩,⟨e1,e2⟩,f1,_⟩:=hn
 exact⟨⟨a1,a2,a3,a4,a5,b1,b2,b3,b4,c1,c2,c3,d1,d2,e1⟩,hne _ a6,hne _ b5,hne _ c4,hne _ d3,hne _ e2,hne _ f1⟩
theorem ML.Nt.cS (h:L.Nt u m H) (hk:∀y∈L.all,bn H' y=bn H y):L.Nt u m H':=by
 have hm:=h.mem
 obtain⟨d1,h1⟩:=h.rM
 obtain⟨d2,h2⟩:=h.rA
 obtain⟨d3,h3⟩:=h.rS
 obtain⟨d4,h4⟩:=h.rE
 obtain⟨d5,h5⟩:=h.rH
 obtain⟨d6,h6⟩:=h.rP
 refine⟨⟨d1,(hk _ (by simp)).trans h1⟩,⟨d2,(hk _ (hm _ (by simp))).trans h2⟩,⟨d3,(hk _ (hm _ (by simp))).trans h3⟩,fun t ht=> ?_,⟨d4,(hk _ (hm _ (by simp))).trans h4⟩,⟨d5,(hk _ (hm _ (by simp))).trans h5⟩,⟨d6,(hk _ (hm _ (by simp))).trans h6⟩,h.len,h.nodup⟩
 obtain⟨d,hd⟩:=h.rL t ht
 exact⟨d,(hk _ (mG h ht)).trans hd⟩
theorem ML.Nt.dc (h:L.Nt u m H) {t:Nat} (ht:t<m.br.length) (k w:Int) (hit:∃d,bn H' (L.it t)=some (.row 2 1 d (((m.br.getD t []).map i64).set k.toNat (i64 w)))) (hk:∀y∈L.all,y≠L.it t→bn H' y=bn H y):L.Nt u (m.dc t k w) H':=by
 obtain⟨-,n1,n2,n3,n4,n5,n6⟩:=jm h ht
 have hm:=h.mem
 obtain⟨d1,h1⟩:=h.rM
 obtain⟨d2,h2⟩:=h.rA
 obtain⟨d3,h3⟩:=h.rS
 obtain⟨d4,h4⟩:=h.rE
 obtain⟨d5,h5⟩:=h.rH
 obtain⟨d6,h6⟩:=h.rP
 have hl:(m.dc t k w).br.length=m.br.length:=by simp[MS.dc]
 have hrow:dG L.ids (m.dc t k w).br=dG L.ids m.br:=by
  unfold dG MS.dc
  apply List.ext_getElem (by simp)
  intro i q1 q2
  simp only[List.getElem_map,List.getElem_zip,AV.sl.injEq,true_and]
  rw[List.getElem_set]
  have hi:i<m.br.length:=by simp at q2;omega
  split
  ·rename_i e;subst e;rw[List.length_set];simp[List.getD,hi]
  ·rfl
 refine⟨⟨d1, ?_⟩,⟨d2,(hk _ (hm _ (by simp)) fu).trans h2⟩,⟨d3,by rw[hrow];exact(hk _ (hm _ (by simp)) fu).trans h3⟩,fun s hs=> ?_,⟨d4,(hk _ (hm _ (by simp)) fu).trans h4⟩,⟨d5,(hk _ (hm _ (by simp)) fu).trans h5⟩,⟨d6,(hk _ (hm _ (by simp)) fu).trans h6⟩,by rw[hl];exact h.len,h.nodup⟩
 ·rw[show(m.dc t k w).rows u L.a L.s L.me L.ho L.pr=m.rows u L.a L.s L.me L.ho L.pr by simp[MS.rows,MS.dc]]
  exact(hk _ (by simp) fu).trans h1
 ·rw[hl] at hs
  by_cases e:s=t
  ·subst e
   obtain⟨d,hd⟩:=hit
   refine⟨d,hd.trans ?_⟩
   rw[show(m.dc s k w).br.getD s []=(m.br.getD s []).set k.toNat w from eL hs,List.map_set]
  ·obtain⟨d,hd⟩:=h.rL s hs
   refine⟨d, ?_⟩
   rw[show(m.dc t k w).br.getD s []=m.br.getD s [] from getD_set_ne (Ne.symm e)]
   exact(hk _ (mG h hs) (O2 h ht hs e)).trans hd
theorem ML.Nt.fV (h:L.Nt u m H) {t:Nat} (ht:t<m.br.length) (k w:Int) (hme:∃d,bn H' L.me=some (.row 2 1 d ((m.mem.map i64).set k.toNat (i64 w)))) (hk:∀y∈L.all,y≠L.me→bn H' y=bn H y):L.Nt u { m with mem:=m.mem.set k.toNat w } H':=by
 obtain⟨⟨a1,a2,a3,a4,a5,b1,b2,b3,b4,c1,c2,c3,e1,e2,f1⟩,n1,n2,n3,n4,n5,n6⟩:=jm h ht
 have hm:=h.mem
 obtain⟨d1,h1⟩:=h.rM
 obtain⟨d2,h2⟩:=h.rA
 obtain⟨d3,h3⟩:=h.rS
 obtain⟨d4,h4⟩:=hme
 obtain⟨d5,h5⟩:=h.rH
 obtain⟨d6,h6⟩:=h.rP
 refine⟨⟨d1, ?_⟩,⟨d2,(hk _ (hm _ (by simp)) fu).trans h2⟩,⟨d3,(hk _ (hm _ (by simp)) fu).trans h3⟩,fun s hs=> ?_,⟨d4,by rw[List.map_set];exact h4⟩,⟨d5,(hk _ (hm _ (by simp)) fu).trans h5⟩,⟨d6,(hk _ (hm _ (by simp)) fu).trans h6⟩,h.len,h.nodup⟩
 ·rw[show({ m with mem:=m.mem.set k.toNat w }:MS).rows u L.a L.s L.me L.ho L.pr=m.rows u L.a L.s L.me L.ho L.pr by simp[MS.rows]]
  exact(hk _ (by simp) fu).trans h1
 ·obtain⟨d,hd⟩:=h.rL s hs
  obtain⟨m1,m2,m3,m4,m5,m6⟩:=(jm h hs).it
  exact⟨d,(hk _ (mG h hs) fu).trans hd⟩
theorem ML.Nt.wM (h:L.Nt u m H) {t:Nat} (ht:t<m.br.length) (k w:Int) (hho:∃d,bn H' L.ho=some (.row 3 1 d ((m.hold.map i64).set k.toNat (i64 w)))) (hk:∀y∈L.all,y≠L.ho→bn H' y=bn H y):L.Nt u { m with hold:=m.hold.set k.toNat w } H':=by
 obtain⟨⟨a1,a2,a3,a4,a5,b1,b2,b3,b4,c1,c2,c3,e1,e2,f1⟩,n1,n2,n3,n4,n5,n6⟩:=jm h ht
 have hm:=h.mem
 obtain⟨d1,h1⟩:=h.rM
 obtain⟨d2,h2⟩:=h.rA
 obtain⟨d3,h3⟩:=h.rS
 obtain⟨d4,h4⟩:=h.rE
 obtain⟨d5,h5⟩:=hho
 obtain⟨d6,h6⟩:=h.rP
 refine⟨⟨d1, ?_⟩,⟨d2,(hk _ (hm _ (by simp)) fu).trans h2⟩,⟨d3,(hk _ (hm _ (by simp)) fu).trans h3⟩,fun s hs=> ?_,⟨d4,(hk _ (hm _ (by simp)) fu).trans h4⟩,⟨d5,by rw[List.map_set];exact h5⟩,⟨d6,(hk _ (hm _ (by simp)) fu).trans h6⟩,h.len,h.nodup⟩
 ·rw[show({ m with hold:=m.hold.set k.toNat w }:MS).rows u L.a L.s L.me L.ho L.pr=m.rows u L.a L.s L.me L.ho L.pr by simp[MS.rows]]
  exact(hk _ (by simp) fu).trans h1
 ·obtain⟨d,hd⟩:=h.rL s hs
  obtain⟨m1,m2,m3,m4,m5,m6⟩:=(jm h hs).it
  exact⟨d,(hk _ (mG h hs) fu).trans hd⟩
theorem ML.Nt.CO (h:L.Nt u m H) {t:Nat} (ht:t<m.br.length) (k:Nat) (w:Int) (hat:∃d,bn H' L.a=some (.row 3 1 d ((m.at_.map i64).set k (i64 w)))) (hk:∀y∈L.all,y≠L.a→bn H' y=bn H y):L.Nt u { m with at_:=m.at_.set k w } H':=by
 obtain⟨⟨a1,a2,a3,a4,a5,b1,b2,b3,b4,c1,c2,c3,e1,e2,f1⟩,n1,n2,n3,n4,n5,n6⟩:=jm h ht
 have hm:=h.mem
 obtain⟨d1,h1⟩:=h.rM
 obtain⟨d2,h2⟩:=hat
 obtain⟨d3,h3⟩:=h.rS
 obtain⟨d4,h4⟩:=h.rE
 obtain⟨d5,h5⟩:=h.rH
 obtain⟨d6,h6⟩:=h.rP
 refine⟨⟨d1, ?_⟩,⟨d2,by rw[List.map_set];exact h2⟩,⟨d3,(hk _ (hm _ (by simp)) fu).trans h3⟩,fun s hs=> ?_,⟨d4,(hk _ (hm _ (by simp)) fu).trans h4⟩,⟨d5,(hk _ (hm _ (by simp)) fu).trans h5⟩,⟨d6,(hk _ (hm _ (by simp)) fu).trans h6⟩,h.len,h.nodup⟩
 ·rw[show({ m with at_:=m.at_.set k w }:MS).rows u L.a L.s L.me L.ho L.pr=m.rows u L.a L.s L.me L.ho L.pr by simp[MS.rows]]
  exact(hk _ (by simp) fu).trans h1
 ·obtain⟨d,hd⟩:=h.rL s hs
  obtain⟨m1,m2,m3,m4,m5,m6⟩:=(jm h hs).it
  exact⟨d,(hk _ (mG h hs) fu).trans hd⟩
theorem ML.Nt.zb (h:L.Nt u m H) {t:Nat} (ht:t<m.br.length) (p:cg) (hmr:∃d,bn H' L.mr=some (.row 80 8 d [({ m with bu:=m.bu++[p] }:MS).rows u L.a L.s L.me L.ho L.pr])) (hpr:∃d,bn H' L.pr=some (.row 89 2 d (m.bu.map cg.av++[p.av]))) (hk:∀y∈L.all,y≠L.pr→y≠L.mr→bn H' y=bn H y):L.Nt u { m with bu:=m.bu++[p] } H':=by
 obtain⟨⟨a1,a2,a3,a4,a5,b1,b2,b3,b4,c1,c2,c3,e1,e2,f1⟩,n1,n2,n3,n4,n5,n6⟩:=jm h ht
 have hm:=h.mem
 obtain⟨d2,h2⟩:=h.rA
 obtain⟨d3,h3⟩:=h.rS
 obtain⟨d4,h4⟩:=h.rE
 obtain⟨d5,h5⟩:=h.rH
 obtain⟨d6,h6⟩:=hpr
 refine⟨hmr,⟨d2,(hk _ (hm _ (by simp)) fu fu).trans h2⟩,⟨d3,(hk _ (hm _ (by simp)) fu fu).trans h3⟩,fun s hs=> ?_,⟨d4,(hk _ (hm _ (by simp)) fu fu).trans h4⟩,⟨d5,(hk _ (hm _ (by simp)) fu fu).trans h5⟩,⟨d6,by rw[List.map_append];exact h6⟩,h.len,h.nodup⟩
 obtain⟨d,hd⟩:=h.rL s hs
 obtain⟨m1,m2,m3,m4,m5,m6⟩:=(jm h hs).it
 exact⟨d,(hk _ (mG h hs) fu fu).trans hd⟩
end
end Go.Proofs.YtekfmjjmihomlaaGreat
end
