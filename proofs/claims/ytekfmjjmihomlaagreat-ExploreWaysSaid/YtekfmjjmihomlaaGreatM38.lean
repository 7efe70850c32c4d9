import Derived.Shelf.SlSortCmp.WholeK
import Derived.Test.YtekfmjjmihomlaaGreatProg
import Derived.Test.YtekfmjjmihomlaaGreatM36
import Derived.Test.YtekfmjjmihomlaaGreatM37
import Derived.Test.YtekfmjjmihomlaaGreatM35
import Derived.Shelf.SlSortCmp.NoneTotal
import Derived.Test.YtekfmjjmihomlaaGreatM16
import Derived.Test.YtekfmjjmihomlaaGreatRows
section
/- The library's sort by a comparison at this program, as a tool of the kit laid it in plain words. -/
namespace Go.Proofs
open Go.Shelf
def Tryz.DL:Go.Shelf.Ren:=⟨fun|6=>37|15=>74|14=>73|28=>112|29=>113|20=>104|21=>105|22=>106|23=>107|24=>108|25=>109|26=>110|27=>111|46=>138|47=>139|48=>140|49=>141|50=>142|57=>154|n=>n,fun|22=>30|24=>40|25=>41|3=>3|39=>136|0=>0|53=>171|55=>173|4=>4|46=>165|45=>164|50=>131|5=>5|9=>9|66=>197|70=>201|76=>216|77=>217|n=>n,fun|n=>n⟩
theorem Tryz.MN:Go.Proofs.SlLaysF0.n6 Tryz.prog Tryz.DL:={
 mixed:=by kernel_rfl
 f6:=⟨Tryz.f37.name,by decide,Tryz.func37.trans (congrArg some (by kernel_rfl))⟩
 f14:=⟨Tryz.f73.name,by decide,Tryz.func73.trans (congrArg some (by kernel_rfl))⟩
 f15:=Tryz.func74.trans (congrArg some (by kernel_rfl))
 f20:=⟨Tryz.f104.name,by decide,Tryz.func104.trans (congrArg some (by kernel_rfl))⟩
 f21:=⟨Tryz.f105.name,by decide,Tryz.func105.trans (congrArg some (by kernel_rfl))⟩
 f22:=⟨Tryz.f106.name,by decide,Tryz.func106.trans (congrArg some (by kernel_rfl))⟩
 f23:=⟨Tryz.f107.name,by decide,Tryz.func107.trans (congrArg some (by kernel_rfl))⟩
 f24:=⟨Tryz.f108.name,by decide,Tryz.func108.trans (congrArg some (by kernel_rfl))⟩
 f25:=⟨Tryz.f109.name,by decide,Tryz.func109.trans (congrArg some (by kernel_rfl))⟩
 f26:=⟨Tryz.f110.name,by decide,Tryz.func110.trans (congrArg some (by kernel_rfl))⟩
 f27:=⟨Tryz.f111.name,by decide,Tryz.func111.trans (congrArg some (by kernel_rfl))⟩
 f28:=Tryz.func112.trans (congrArg some (by kernel_rfl))
 f29:=Tryz.func113.trans (congrArg some (by kernel_rfl))
 f46:=⟨Tryz.f138.name,by decide,Tryz.func138.trans (congrArg some (by kernel_rfl))⟩
 f47:=Tryz.func139.trans (congrArg some (by kernel_rfl))
 f48:=Tryz.func140.trans (congrArg some (by kernel_rfl))
 f49:=⟨Tryz.f141.name,by decide,Tryz.func141.trans (congrArg some (by kernel_rfl))⟩
 f50:=⟨Tryz.f142.name,by decide,Tryz.func142.trans (congrArg some (by kernel_rfl))⟩
 f57:=⟨Tryz.f154.name,by decide,Tryz.func154.trans (congrArg some (by kernel_rfl))⟩
 t0:=Tryz.underlying0
 a0:=Tryz.isAgg0
 z0:=Tryz.sizeOf0
 v0:=Tryz.zeroValue0
 t3:=Tryz.underlying3
 a3:=Tryz.isAgg3
 z3:=Tryz.sizeOf3
 v3:=Tryz.zeroValue3
 t4:=Tryz.underlying4
 a4:=Tryz.isAgg4
 z4:=Tryz.sizeOf4
 v4:=Tryz.zeroValue4
 t5:=Tryz.underlying5
 a5:=Tryz.isAgg5
 z5:=Tryz.sizeOf5
 v5:=Tryz.zeroValue5
 t9:=Tryz.underlying9
 a9:=Tryz.isAgg9
 z9:=Tryz.sizeOf9
 v9:=Tryz.zeroValue9
 t22:=Tryz.underlying30
 a22:=Tryz.isAgg30
 z22:=Tryz.sizeOf30
 v22:=Tryz.zeroValue30
 t25:=Tryz.underlying41
 a25:=Tryz.isAgg41
 z25:=Tryz.sizeOf41
 v25:=Tryz.zeroValue41
 t39:=Tryz.underlying136
 a39:=Tryz.isAgg136
 z39:=Tryz.sizeOf136
 v39:=Tryz.zeroValue136
 t45:=Tryz.underlying164
 a45:=Tryz.isAgg164
 z45:=Tryz.sizeOf164
 v45:=Tryz.zeroValue164
 t46:=Tryz.underlying165
 a46:=Tryz.isAgg165
 z46:=Tryz.sizeOf165
 v46:=Tryz.zeroValue165
 t50:=Tryz.underlying131
 a50:=Tryz.isAgg131
 z50:=Tryz.sizeOf131
 v50:=Tryz.zeroValue131
 t53:=Tryz.underlying171
 a53:=Tryz.isAgg171
 z53:=Tryz.sizeOf171
 v53:=Tryz.zeroValue171
 t55:=Tryz.underlying173
 a55:=Tryz.isAgg173
 z55:=Tryz.sizeOf173
 v55:=Tryz.zeroValue173
 t66:=Tryz.underlying197
 a66:=Tryz.isAgg197
 z66:=Tryz.sizeOf197
 v66:=Tryz.zeroValue197
 t70:=Tryz.underlying201
 a70:=Tryz.isAgg201
 z70:=Tryz.sizeOf201
 v70:=Tryz.zeroValue201
 t76:=Tryz.underlying216
 a76:=Tryz.isAgg216
 z76:=Tryz.sizeOf216
 v76:=Tryz.zeroValue216
 t77:=Tryz.underlying217
 a77:=Tryz.isAgg217
 z77:=Tryz.sizeOf217
 v77:=Tryz.zeroValue217 }
end Go.Proofs
end
section
/- The library's sort by a comparison, as the walks take it: whatever the struct. -/
namespace Go.Proofs.YtekfmjjmihomlaaGreat
open Go Go.cV Go.Proofs Go.RowKit Go.Sort
set_option linter.unusedSimpArgs false
set_option linter.unusedVariables false
theorem xq {w w':World} (h:Go.RowKit.Below w.heap.size w w') (hd:w.drawn≤w'.drawn):∃q os',w'=grow (w.drewN q) os':=by
 refine⟨w'.drawn - w.drawn,w'.heap.extract w.heap.size w'.heap.size, ?_⟩
 obtain⟨hp,tp,dr,os,ou⟩:=w
 obtain⟨hp',tp',dr',os',ou'⟩:=w'
 have h1:=h.os
 have h2:=h.tape
 have h3:=h.output
 have h4:=h.size
 have h5:=h.block
 dsimp only at *
 subst h1 h2 h3
 simp only[grow,World.drewN,World.mk.injEq,true_and,and_true]
 refine⟨?_,by omega⟩
 apply Array.ext_getElem?
 intro i
 rw[Array.getElem?_append]
 split
 ·rename_i hi;exact h5 i hi
 ·rename_i hi
  rw[Array.getElem?_extract]
  split
  ·congr 1;omega
  ·rw[Array.getElem?_eq_none (by omega)]
def El {S:Type} (cells:S→List AV) (ok:S→Prop) (w:World) (M:Nat→Prop):Type:={ x:S×List Value //ok x.1∧c8 (base w M) (cells x.1) x.2 }
section
variable {S:Type} {cells:S→List AV} {ok:S→Prop} {k:Nat} {cf:S→S→Int}
structure xl (P:Program) (g:Nat) (cells:S→List AV) (k:Nat) (ok:S→Prop) (cf:S→S→Int):Prop where
 len:∀s,(cells s).length=k
 pos:0<k
 fit:∀s,cP 0 (cells s)
 one:∀s,iB (cells s)=true
 cmp:∀a b,ok a→ok b→Pure P g [.agg (cells a), .agg (cells b)] (fun r=>r= .sc (.int .i64 (cf a b)))
 ord:jg cf
theorem N6 (h:jg cf) {α:Type} (f:α→S):SWO (ltOf fun x y:α=>cf (f x) (f y)) where
 irrefl x:=by
  have:=(h.zero (f x) (f x)).2 rfl
  simp[ltOf,this]
 trans x y z h1 h2:=by
  simp only[ltOf,decide_eq_true_eq] at *
  exact h.tr _ _ _ h1 h2
 ntrans x y z h1 h2:=by
  simp only[ltOf,decide_eq_false_iff_not] at *
  have n1:=h.neg (f x) (f y)
  have n2:=h.neg (f y) (f z)
  have n3:=h.neg (f x) (f z)
  by_cases e1:cf (f x) (f y)=0
  ·rw[(h.zero _ _).1 e1];exact h2
  ·by_cases e2:cf (f y) (f z)=0
   ·rw[←(h.zero _ _).1 e2];exact h1
   ·have:=h.tr (f z) (f y) (f x) (by omega) (by omega)
    omega
variable {w:World} {M:Nat→Prop} {blk off:Nat}
theorem lR {α:Type} [Inhabited α] {enc:α→List Value} {n i:Nat} {os:Array Obj} (d:Array α) (hi:i<w.heap.size) (hne:i≠blk):(sortWorldK enc k w blk off n d os).heap[i]?=w.heap[i]?:=by
 unfold sortWorldK putRowK
 rw[heap_grow_old _ _ (by simpa[putRow,mapBlock,Sort.ahead] using hi)]
 simp[putRow,mapBlock,Sort.ahead,Array.getElem?_modify,Ne.symm hne]
theorem rG {α:Type} [Inhabited α] {enc:α→List Value} {n:Nat} {os:Array Obj} {cur:Array Value} {e:TypeId} {fr:Nat×Nat} (d:Array α) (hb:w.heap[blk]?=some (.cells cur e fr)):
 (sortWorldK enc k w blk off n d os).heap[blk]?=some (.cells (putCells id off (flatK enc k d) cur) e fr):=by
 have hg:blk<w.heap.size:=(Array.getElem?_eq_some_iff.1 hb).1
 unfold sortWorldK putRowK
 rw[heap_grow_old _ _ (by simpa[putRow,mapBlock,Sort.ahead] using hg)]
 simp[putRow,mapBlock,Sort.ahead,Array.getElem?_modify,hb,onCells]
theorem xx {P:Program} {g:Nat} (h:xl P g cells k ok cf) (hM:xj w M) (hblk:M blk) (size:Nat) [Inhabited (El cells ok w M)]:
 CmpLays P g #[] (fun x:El cells ok w M=>x.1.2) k (fun x y=>cf x.1.1 y.1.1) blk off size w:=by
 intro m os dk _ x y
 have hsz:w.heap.size≤(sortWorldK (fun x:El cells ok w M=>x.1.2) k w blk off m dk os).heap.size:=size_sortWorldK_c _ _ _ _ _ _ _ _
 have hne:=fun(i:Nat) (hi:i<w.heap.size) (hn:i≠blk)=>lR (k:=k) (off:=off) (enc:=fun x:El cells ok w M=>x.1.2) (n:=m) (os:=os) dk hi hn
 generalize sortWorldK (fun x:El cells ok w M=>x.1.2) k w blk off m dk os=W at *
 have hle:(base w M).le (base W M):=by
  refine⟨fun _ h=>h,hsz,fun b hb hlt=> ?_,fun b hb=>hb.elim⟩
  rw[lB] at hb ⊢
  exact⟨hne b hlt fun e=>hb (e▸hblk),hb⟩
 have hF:xj W M:=by
  refine⟨fun b hb=>Nat.lt_of_lt_of_le (hM.lt b hb) hsz,fun t ht=> ?_⟩
  obtain⟨t1,t2,t3⟩:=hM.QF t ht
  refine⟨t1,Nat.lt_of_lt_of_le t2 hsz,fun j hj=> ?_⟩
  rw[←t3 j hj]
  exact World.cell?_of_block (a:=⟨t.1,j,none⟩) (hne _ t2 fun e=>t1 (by rw[show t.1=blk from e];exact hblk))
 obtain⟨⟨xs,xv⟩,x1,x2⟩:=x
 obtain⟨⟨ys,yv⟩,y1,y2⟩:=y
 have hc:=JG ((h.cmp xs ys x1 y1).2 M W [.agg xv.toArray, .agg yv.toArray] hF (by
  rw[c8]
  refine⟨_,_,rfl,by rw[VR];exact⟨_,rfl,by simpa using c8.cO hle x2⟩, ?_⟩
  rw[c8]
  refine⟨_,_,rfl,by rw[VR];exact⟨_,rfl,by simpa using c8.cO hle y2⟩, ?_⟩
  rw[c8]))
 refine hc.mono ?_
 rintro e w' ⟨⟨v,r,rfl,rfl,_,hv,hb⟩,hd⟩
 rw[VR] at hv
 exact⟨by rw[hv],xq hb (hd v rfl)⟩
theorem v8 {α:Type} [Inhabited α] {enc:α→List Value} {d:Array α} (hk:∀x,(enc x).length=k) (hpos:0<k) (h:∀i c,i<d.size→c<k→w.cell? ⟨blk,off+i * k+c,none⟩=some (enc d[i]!)[c]!∧w.frozen? ⟨blk,off+i * k+c,none⟩=false):HoldsK enc k w blk off d:=by
 intro t ht
 rw[size_flatK] at ht
 have e1:t /k<d.size:=(Nat.div_lt_iff_lt_mul hpos).2 ht
 have e2:t%k<k:=Nat.mod_lt _ hpos
 have:=h (t /k) (t%k) e1 e2
 rw[Nat.add_assoc,show t /k * k+t%k=t by rw[Nat.mul_comm];exact Nat.div_add_mod t k] at this
 rw[get_flatK _ _ _ _ ht]
 exact this
set_option maxHeartbeats 2000000 in
theorem z8 {P:Program} {ρ:Go.Shelf.Ren} (L:SlLaysF0.n6 P ρ) (aE:∀w,(isAgg (ρ.t 24)).run P w= .ok true w) (zE:∀w,(Go.sizeOf (ρ.t 24)).run P w= .ok k w) (hen:iy P (ρ.f 6)) {g:Nat} (eg:∀args w,(callFunc g args).run P w= .ok (.enter g args) w)
 (h:xl P g cells k ok cf) [Inhabited S] (b:Nat) (l:List S) (hok:∀s∈l,ok s) (e:TypeId) (d:AV) (H:Hp) (nx:Nat) (hb:bd H b=some (.row e k d (l.map fun s=> .agg (cells s)))) (hlt:b<nx) (hl:l.length<4611686018427387904) (h0:l≠[]):
 cJ P (ρ.f 6) [.sl b l.length, .fn (.func g) [] []] H nx (fun r H' n=>r= .dH []∧n=nx∧H'=(b,some (.row e k d ((gx cf l).map fun s=> .agg (cells s))))::H):=by
 refine⟨hen,fun w0 c vs hS hH hU hv=> ?_⟩
 rw[c8] at hv
 obtain⟨v,vs',rfl,hv,hv2⟩:=hv
 rw[c8] at hv2
 obtain⟨v2,vs2,rfl,hv2,hv3⟩:=hv2
 rw[c8] at hv3
 subst hv3
 rw[VR] at hv2
 obtain⟨ps,qs,rfl,hp1,hp2⟩:=hv2
 rw[c8] at hp1 hp2
 obtain rfl:ps=#[]:=Array.toList_eq_nil_iff.1 hp1
 obtain rfl:qs=#[]:=Array.toList_eq_nil_iff.1 hp2
 rw[VR] at hv
 obtain⟨hUb,a,cap,rfl,hr⟩:=hv
 have hcb:c.H b=some (.row e k d (l.map fun s=> .agg (cells s))):=by rw[hH];exact hb
 obtain⟨_,hr2⟩:=hr _ _ _ _ hcb
 have hr3:=hr2 (by simp)
 have hpos:=h.pos
 obtain⟨_,_,hor⟩:=hS.kq b _ _ _ _ hcb (.inr hpos)
 have hln:0<l.length:=List.length_pos_iff.2 h0
 rcases hor with⟨_,hes⟩|⟨blk,o,z,hρ,hlow,⟨arr,harr,hsz⟩,hlz,hrow⟩
 ·exact absurd (List.map_eq_nil_iff.1 hes) h0
 rcases hr3 with⟨h1,_,_⟩|⟨blk',o',z',h1,rfl,hc1,hc2,hc3,_⟩
 ·rw[hρ] at h1;cases h1
 rw[hρ] at h1
 cases h1
 have hblk:blk<c.w.heap.size:=(Array.getElem?_eq_some_iff.1 harr).1
 rw[List.length_map] at hlz
 have hMb:c.M blk:= .inr ⟨b,_,o,z,hcb,hρ⟩
 -- the elements as they stand
 have hel:∀i,i<l.length→∃x:El cells ok c.w c.M,x.1.1=l.getD i default∧∀j,j<k→c.w.cell? ⟨blk,o+i * k+j,none⟩=x.1.2[j]?:=fun i hi=>by
  obtain⟨v,⟨hv1,hv2,_⟩,hv3⟩:=di hrow i (by simpa using hi)
  rw[cu (f:=fun s=>AV.agg (cells s)) (h:=hi)] at hv3
  rw[VR] at hv3
  obtain⟨us,rfl,hus⟩:=hv3
  refine⟨⟨(l.getD i default,us.toList),hok _ (cX default hi),c8.mn (fun _ hb=>hb) (h.fit _) hus⟩,rfl,fun j hj=> ?_⟩
  rw[hv2 j hj]
  simp[Value.cells]
 haveI:Inhabited (El cells ok c.w c.M):=⟨(hel 0 hln).choose⟩
 obtain⟨dl,hdl,hdr⟩:=lD (List.range l.length) (R:=fun i (x:El cells ok c.w c.M)=>x.1.1=l.getD i default∧∀j,j<k→c.w.cell? ⟨blk,o+i * k+j,none⟩=x.1.2[j]?) (fun i hi=>hel i (by simpa using hi))
 simp only[List.length_range] at hdl
 have hdg:∀i (hi:i<dl.length),dl[i].1.1=l.getD i default∧∀j,j<k→c.w.cell? ⟨blk,o+i * k+j,none⟩=dl[i].1.2[j]?:=fun i hi=>hdr i i _ (by rw[List.getElem?_range (by omega)]) (List.getElem?_eq_getElem hi)
 have hxl:∀x:El cells ok c.w c.M,x.1.2.length=k:=fun x=>by rw[x.2.2.length,h.len]
 have hHolds:HoldsK (fun x:El cells ok c.w c.M=>x.1.2) k c.w blk o dl.toArray:=by
  refine v8 hxl hpos fun i j hi hj=> ?_
  have hi':i<dl.length:=by simpa using hi
  have:=(hdg i hi').2 j hj
  refine⟨?_, ?_⟩
  ·rw[this]
   have hj':j<dl[i].1.2.length:=by rw[hxl];exact hj
   simp[hi',hj']
  ·simp only[World.frozen?,harr]
   simp
 have hones:∀x:El cells ok c.w c.M,∀v∈x.1.2,v.oneCell'=true:=fun x=>x.2.2.HY (h.one _)
 have hcon:=AnyQ.slices_SortFunc L k aE zE (fun x:El cells ok c.w c.M=>x.1.2) hxl hones (fun x y=>cf x.1.1 y.1.1) (N6 h.ord fun x:El cells ok c.w c.M=>x.1.1) g #[] blk o cap dl.toArray c.w eg (xx h hS.fit hMb _) hHolds hblk (by simp;omega)
 rw[show dl.toArray.size=l.length by simp[hdl]] at hcon
 refine hcon.mono ?_
 rintro en w' ⟨rfl,d',n,os,⟨hpz,_,hpp⟩,hss,hw'⟩
 have hdz:d'.size=l.length:=by rw[hpz];simp[hdl]
 -- what stands in the row now
 have hl1:dl.map (fun x=>x.1.1)=l:=by
  apply List.ext_getElem (by simp[hdl])
  intro i q1 q2
  have:=(hdg i (by simpa using q1)).1
  rw[List.getElem_map,this]
  simp[List.getD,q2]
 have hperm:(d'.toList.map fun x=>x.1.1).Perm l:=by
  have h2:d'.toList.Perm dl:=by
   have e1:d'.extract 0 l.length=d':=by rw[←hdz];exact Array.extract_size
   have e2:dl.toArray.extract 0 l.length=dl.toArray:=by rw[←hdl,←List.size_toArray];exact Array.extract_size
   rw[e1,e2] at hpp
   simpa using hpp
  have h3:=h2.map (fun x:El cells ok c.w c.M=>x.1.1)
  rwa[hl1] at h3
 have hsort:(d'.toList.map fun x=>x.1.1).Pairwise fun x y=>xh cf x y=true:=by
  rw[List.pairwise_iff_getElem]
  intro i j hi hj hij
  have hj':j<d'.size:=by simpa using hj
  have:=hss i j (Nat.zero_le _) hij (by omega)
  rw[getElem!_pos d' j hj',getElem!_pos d' i (by omega)] at this
  simp only[ltOf,decide_eq_false_iff_not] at this
  have hneg:=h.ord.neg d'[i].1.1 d'[j].1.1
  simp only[List.getElem_map,Array.getElem_toList,xh,decide_eq_true_eq]
  omega
 have hres:=h.ord.LD hperm hsort
 have hlen:(gx cf l).length=l.length:=tI cf l
 have hHn:HoldsK (fun x:El cells ok c.w c.M=>x.1.2) k w' blk o d':=by
  rw[hw']
  exact holdsK_sortWorldK_c _ _ _ _ _ dl.toArray d' n os hHolds hblk (by rw[hpz])
 have hput:=hS.qt (b:=b) (e:=e) (sz:=k) d (es:=(gx cf l).map fun s=> .agg (cells s)) (w':=w') (blk:=blk) (o:=o) (z:=z) (arr:=putCells id o (flatK (fun x:El cells ok c.w c.M=>x.1.2) k d') arr) hpos
  (.inr ⟨_,_,_,hcb, .inl ⟨by simp[hlen],hρ⟩⟩) (.inr ⟨_,_,_,hcb,hρ⟩) (by rw[hw'];rfl) (by rw[hw'];rfl) (by rw[hw'];rfl) (by rw[hw'];exact size_sortWorldK_c _ _ _ _ _ _ _ _) (fun q hq hne=>by rw[hw'];exact lR d' hq hne) (by rw[hw'];exact rG d' harr) (by simp[putCells];exact hsz) (by simp[hlen];exact hlz) (fun hle i hi=>by
   have hi':i<d'.size:=by simpa[hlen,hdz] using hi
   have hx:=d'[i].2.2
   refine⟨.agg d'[i].1.2.toArray,⟨by simp[Value.cells,hxl],fun j hj=> ?_,fun j u hu=> ?_⟩, ?_⟩
   ·have:=(hHn.cell (i:=i) (c:=j) hi' hj).1
    rw[getElem!_pos d' i hi'] at this
    rw[this]
    have hj':j<d'[i].1.2.length:=by rw[hxl];exact hj
    simp[Value.cells,hj']
   ·simp only[Value.cells,List.getElem?_toArray] at hu
    exact hones d'[i] u (List.mem_of_getElem? hu)
   ·have e4:((gx cf l).map fun s=>AV.agg (cells s)).getD i .any= .agg (cells d'[i].1.1):=by
     rw[←hres]
     simp[List.getD,hi']
    rw[e4,VR]
    exact⟨_,rfl,by simpa using c8.cO (tf.trans hle) hx⟩)
 obtain⟨p1,p2⟩:=hput
 have hHeq:bd ((b,some (.row e k d ((gx cf l).map fun s=> .agg (cells s))))::H)=fM c.H b (some (.row e k d ((gx cf l).map fun s=> .agg (cells s)))):=by
  have:=dX H b (.row e k d ((gx cf l).map fun s=> .agg (cells s)))
  rw[hH];exact this
 refine⟨.tuple #[], .dH [],_,nx,fM c.ρ b (some (blk,o,z)),fun x=>c.U x∨x=b,rfl,⟨rfl,rfl,rfl⟩,fun x hx=>hx.elim (hU x) (fun e=>by omega), ?_, ?_, ?_⟩
 ·rw[hHeq];exact p1
 ·rw[hHeq];exact p2
 ·rw[VR];exact⟨#[],rfl,by rw[c8]⟩
end
end Go.Proofs.YtekfmjjmihomlaaGreat
end
section
/- Ends sorted; each once. -/
namespace Go.Proofs.YtekfmjjmihomlaaGreat
open Go Go.cV Go.Proofs Go.RowKit Go.Sort
set_option linter.unusedSimpArgs false
set_option linter.unusedVariables false
set_option maxRecDepth 8000
theorem z7 {P:Program} {ρ:Go.Shelf.Ren} (L:SlLaysF0.n6 P ρ) (hen:iy P (ρ.f 6)) (b:Nat) (fv:AV) (H:Hp) (nx:Nat):
 cJ P (ρ.f 6) [.sl b 0,fv] H nx (fun r H' n=>r= .dH []∧n=nx∧H'=H):=by
 refine⟨hen,fun w0 c vs hS hH hU hv=> ?_⟩
 rw[c8] at hv
 obtain⟨v,vs',rfl,hv,hv2⟩:=hv
 rw[c8] at hv2
 obtain⟨v2,vs2,rfl,hv2,hv3⟩:=hv2
 rw[c8] at hv3
 subst hv3
 rw[VR] at hv
 obtain⟨hUb,a,cap,rfl,hr⟩:=hv
 refine(AnyF.slices_SortFunc_none L a cap v2 c.w).mono ?_
 rintro e w' ⟨rfl,rfl⟩
 obtain⟨ρ',Hc,U,w,M0⟩:=c
 simp only at hH
 subst hH
 exact⟨.tuple #[], .dH [],H,nx,ρ',U,rfl,⟨rfl,rfl,rfl⟩,hU,hS,Cx.le.refl _,by rw[VR];exact⟨#[],rfl,by rw[c8]⟩⟩
def D6 (e:dc):Prop:=e.bk.length<9223372036854775807∧e.mem.length<9223372036854775807
theorem z6:xl Tryz.prog 19 dc.cells 3 D6 ep where
 len:=fun _=>rfl
 pos:=by omega
 fit:=fun _=>by simp
 one:=fun _=>rfl
 cmp:=fun a b ha hb=>sL a b ha.1 ha.2
 ord:=JJ
theorem rF:iy Tryz.prog 37:=⟨Tryz.f37,Tryz.func37,by kernel_rfl,by kernel_rfl⟩
theorem DM (b:Nat) (l:List dc) (hok:∀e∈l,D6 e) (hl:l.length≤65536) (H:Hp) (nx:Nat) (hb:∃d,bd H b=some (.row 40 3 d (l.map dc.av))) (hlt:b<nx):
 cJ Tryz.prog 37 [.sl b l.length, .fn (.func 19) [] []] H nx (fun r H' n=>(∃d,bd H' b=some (.row 40 3 d ((gx ep l).map dc.av)))∧nx≤n∧∀y,y<nx→y≠b→bd H' y=bd H y):=by
 obtain⟨d,hb⟩:=hb
 by_cases h0:l=[]
 ·subst h0
  refine(z7 Tryz.MN rF b _ H nx).mono ?_
  rintro r H' n ⟨rfl,rfl,rfl⟩
  exact⟨⟨d,by rw[hb];simp[gx]⟩,Nat.le_refl _,fun _ _ _=>rfl⟩
 ·refine(z8 Tryz.MN (k:=3) (fun w=>cV.lz (by kernel_rfl) w) (fun w=>cV.run_sizeOf (by kernel_rfl) w) rF (enters_of Tryz.func19 (by kernel_rfl) rfl) z6 b l hok 40 d H nx hb hlt (by omega) h0).mono ?_
  rintro r H' n ⟨rfl,rfl,rfl⟩
  exact⟨⟨d,cI _ _ _⟩,Nat.le_refl _,fun y _ hne=>bz hne⟩
end Go.Proofs.YtekfmjjmihomlaaGreat
end
section
/- Neighbours that are one go: the walk of the library's CompactFunc. -/
namespace Go.Proofs.YtekfmjjmihomlaaGreat
open Go Go.cV Go.Proofs
set_option linter.unusedSimpArgs false
set_option linter.unusedVariables false
set_option maxRecDepth 8000
def D1 (l:List dc):Nat→List dc
 |0=>[]
 |1=>[l.getD 0 default]
 |k+2=>if l.getD (k+1) default=l.getD k default then D1 l (k+1) else D1 l (k+1)++[l.getD (k+1) default]
theorem vF (l:List dc) {k:Nat} (hk:1≤k):D1 l (k+1)=if l.getD k default=l.getD (k - 1) default then D1 l k else D1 l k++[l.getD k default]:=by
 obtain⟨j,rfl⟩:∃j,k=j+1:=⟨k - 1,by omega⟩
 rw[D1]
 rfl
theorem qP {l:List dc} {i:Nat} (h:i<l.length) (d:AV):(l.map dc.av).getD i d=(l.getD i default).av:=cu dc.av l i d h
abbrev EX (l:List dc):AV:= .im 3 .any (l.map dc.av)
theorem qT (l:List dc):cP 0 (l.map dc.av):=(bu _ _).2 fun _ _=>by simp[bw]
theorem ry {α:Type} {l:List α} {i:Nat} {x:α} (h:i<l.length):(l.set i x).take (i+1)=l.take i++[x]:=by
 rw[List.take_succ_eq_append_getElem (by simpa using h),List.take_set_of_le (Nat.le_refl _)]
 simp
theorem NK {H:Hp} {k b len lo n:Nat} {e:TypeId} {sz:Nat} {d:AV} {es:List AV} (h:bd H b=some (.row e sz d es)) (hl:es.length=len):cV.dR H (k+1) (.sv b len lo n)= .im sz .any (((es.drop lo).take n).map (cV.dR H k)):=by
 simp only[cV.dR,h];rw[if_pos hl]
set_option maxHeartbeats 4000000 in
theorem tq (o:Nat) (l:List dc) (hl:l.length≤65536) (hok:∀e∈l,e.bk.length<9223372036854775807∧e.mem.length<9223372036854775807) (H:Hp) (nx:Nat) (ho:o<nx) (hr:∃d,bd H o=some (.row 40 3 d (l.map dc.av))):
 cJ Tryz.prog 38 [.sl o l.length, .fn (.func 20) [] []] H nx (fun r H' n=>(r= .sl o l.length∨∃m,r= .sv o l.length 0 m)∧cV.dR H' 5 r=EX (D1 l l.length)):=by
 obtain⟨d0,r0'⟩:=hr
 have a0:(l.map dc.av).length=l.length:=by simp
 have same:∀i j,i<l.length→j<l.length→Pure Tryz.prog 20 [(l.getD i default).av,(l.getD j default).av] (fun r=>r=bl (decide (l.getD i default=l.getD j default))):=fun i j hi hj=>by
  obtain⟨p1,p2⟩:=hok _ (cX default hi)
  have:=qz (l.getD i default) (l.getD j default) p1 p2
  simpa only[sM] using this
 refine aQ GB rfl ?_
 by_cases h2:l.length<2
 ·refine cN ?_
  refine⟨.inl rfl, ?_⟩
  show cV.dR H 5 (.sl o l.length)=_
  rw[dG (k:=4) r0' (by simp),cc _ (qT l)]
  have:D1 l l.length=l:=by
   match l,h2 with
   |[],_=>rfl
   |[x],_=>rfl
  rw[this]
 ·refine cN ?_
  refine aP (fun i:Nat=>[(0, .sl o l.length),(1, .fn (.func 20) [] []),(5,i64 i)]) (fun i H2 n=>1≤i∧i≤l.length∧nx≤n∧bd H2 o=some (.row 40 3 d0 (l.map dc.av))∧D1 l i=l.take i) (fun i=>l.length - i) 1 cC ⟨Nat.le_refl _,by omega,cU,bf,by rw[D1];cases l with|nil=>simp at h2|cons x t=>rfl⟩ ?_
  clear r0'
  rintro i H2 n ⟨hi1,hi,hn,r0',hdd⟩
  by_cases hil:i<l.length
  ·have e0:∀d,(l.map dc.av).getD ((i:Int)).toNat d=(l.getD i default).av:=fun d=>by rw[Int.toNat_natCast];exact qP hil d
   have e1:∀d,(l.map dc.av).getD ((i:Int) - 1).toNat d=(l.getD (i - 1) default).av:=fun d=>by rw[show((i:Int) - 1).toNat=i - 1 by omega];exact qP (by omega) d
   have c0:=same i (i - 1) hil (by omega)
   have hsu:=vF l hi1
   by_cases he:l.getD i default=l.getD (i - 1) default
   ·rw[decide_eq_true he] at c0
    rw[if_pos he] at hsu
    refine cN ?_
    refine aP (fun σ:Nat×Nat×List dc=>[(0, .sl o l.length),(1, .fn (.func 20) [] []),(5,i64 σ.1),(6, .sv o l.length i (l.length - i)),(7,i64 σ.2.1)])
     (fun σ H2 n=>1≤σ.2.1∧i+σ.2.1≤l.length∧i≤σ.1∧σ.1+1≤i+σ.2.1∧σ.2.2.length=l.length∧(∀q,σ.1≤q→σ.2.2.getD q default=l.getD q default)∧σ.2.2.take σ.1=D1 l (i+σ.2.1)∧nx≤n∧∃d,bd H2 o=some (.row 40 3 d (σ.2.2.map dc.av))) (fun σ=>l.length - σ.2.1) (i,1,l) cC
     ⟨Nat.le_refl _,by show i+1≤l.length;omega,Nat.le_refl _,Nat.le_refl _,rfl,fun _ _=>rfl,by dsimp only;rw[hsu,hdd],cU,⟨_,bf⟩⟩ ?_
    clear c0 e0 e1 hsu hdd r0' hn
    rintro⟨k,j,es⟩ H3 n ⟨hj1,hj,hik,hkj,hel,hsame,hdd,hn,⟨d1,r1'⟩⟩
    dsimp only at hj1 hj hik hkj hel hsame hdd r1' ⊢
    have a1:(es.map dc.av).length=l.length:=by simp[hel]
    by_cases hjl:j<l.length - i
    ·have e0:∀d,(es.map dc.av).getD (i+((j:Int)).toNat) d=(l.getD (i+j) default).av:=fun d=>by rw[Int.toNat_natCast,qP (by omega) d,hsame _ (by omega)]
     have e1:∀d,(es.map dc.av).getD (i+((j:Int) - 1).toNat) d=(l.getD (i+j - 1) default).av:=fun d=>by rw[show i+((j:Int) - 1).toNat=i+j - 1 by omega,qP (by omega) d,hsame _ (by omega)]
     have e2:∀d,(es.map dc.av).getD ((k:Int)).toNat d=(es.getD k default).av:=fun d=>by rw[Int.toNat_natCast];exact qP (by omega) d
     have c0:=same (i+j) (i+j - 1) (by omega) (by omega)
     have hsu:=vF l (k:=i+j) (by omega)
     by_cases he2:l.getD (i+j) default=l.getD (i+j - 1) default
     ·rw[decide_eq_true he2] at c0
      rw[if_pos he2] at hsu
      refine cN ?_
      exact⟨(k,j+1,es),by dsimp only;omega,cC,by dsimp only;omega,by dsimp only;omega,hik,by dsimp only;omega,hel,hsame,by dsimp only;rw[←Nat.add_assoc,hsu];exact hdd,cU,⟨d1,bf⟩⟩
     ·rw[decide_eq_false he2] at c0
      rw[if_neg he2] at hsu
      refine cN ?_
      refine⟨(k+1,j+1,es.set k (l.getD (i+j) default)),by dsimp only;omega,cC,by dsimp only;omega,by dsimp only;omega,by dsimp only;omega,by dsimp only;omega,by simp[hel],fun q hq=> ?_, ?_,cU,⟨d1,by dsimp only;rw[List.map_set];exact bf⟩⟩
      ·have hq:k+1≤q:=hq
       dsimp only
       rw[getD_set_ne (by omega)];exact hsame q (by omega)
      ·dsimp only
       rw[←Nat.add_assoc,hsu,ry (by omega),hdd]
    ·obtain rfl:j=l.length - i:=by omega
     rw[show i+(l.length - i)=l.length by omega] at hdd
     refine cN ?_
     refine⟨.inr ⟨_,rfl⟩, ?_⟩
     rw[Int.toNat_natCast]
     have hkl:k≤l.length:=by omega
     generalize hZ:List.replicate (l.length - k) (fU true [Value.slice none 0 0,Value.slice none 0 0,Value.bool false])=Z
     have hZl:Z.length=l.length - k:=by rw[←hZ];simp
     show cV.dR ((o,some (.row 40 3 d1 ((es.map dc.av).take k++Z++(es.map dc.av).drop (k+(l.length - k)))))::H3) 5 (.sv o l.length 0 (k - 0))=_
     rw[NK (k:=4) (cI _ _ _) (by simp[hZl,hel];omega),List.drop_zero,Nat.sub_zero,List.append_assoc,List.take_append_of_le_length (by simp;omega),List.take_take,Nat.min_self,←List.map_take,hdd,cc _ (qT _)]
   ·rw[decide_eq_false he] at c0
    rw[if_neg he] at hsu
    refine cN ?_
    refine⟨i+1,by omega,cC,by omega,by omega,cU,bf, ?_⟩
    rw[hsu,hdd,List.take_succ_eq_append_getElem hil,show l.getD i default=l[i] by simp[List.getD,hil]]
  ·obtain rfl:i=l.length:=by omega
   rw[List.take_length] at hdd
   refine cN ?_
   refine⟨.inl rfl, ?_⟩
   show cV.dR H2 5 (.sl o l.length)=_
   rw[dG (k:=4) r0' (by simp),cc _ (qT l),hdd]
end Go.Proofs.YtekfmjjmihomlaaGreat
end
section
/- Ends: the walk. -/
namespace Go.Proofs.YtekfmjjmihomlaaGreat
open Go Go.cV Go.Proofs
set_option linter.unusedSimpArgs false
set_option linter.unusedVariables false
set_option maxRecDepth 8000
def EY (u:bj) (l:List cH):List dc:=D1 (gx ep (ec u l l.length)) (ec u l l.length).length
noncomputable def qQ (u:bj) (most:Int):AV:=if(eo u most).1=0 then .dH [EX (EY u (eo u most).2),i64 0] else .dH [.sc (.slice none 0 0),i64 (eo u most).1]
theorem BY {u:bj} {l:List cH} (hr:ct u) (hf:gR u l) (hl:l.length≤65536) (k:Nat):∀e∈ec u l k,D6 e:=by
 intro e he
 unfold ec at he
 obtain⟨f,hf1,hf2⟩:=List.mem_filterMap.1 he
 split at hf2
 ·cases hf2
  obtain⟨i,hi,rfl⟩:=List.mem_iff_getElem.1 (List.mem_of_mem_take hf1)
  obtain⟨h1,h2⟩:=hf.ok i hi
  rw[show l.getD i default=l[i] by simp[List.getD,hi]] at h1 h2
  have:=h1.ml
  have:=hr.tv
  refine⟨?_, ?_⟩
  ·show l[i].m.bk.length<_;omega
  ·show l[i].m.mem.length<_;omega
 ·cases hf2
set_option maxHeartbeats 2000000 in
theorem sO (u:bj) (hu:u.Wf) (most:Int):Pure Tryz.prog 13 [u.av,i64 most] (fun r=>r=qQ u most):=by
 refine dP ?_ (by unfold qQ;split<;>simp[bw,cP,bu])
 refine aQ FW rfl ?_
 by_cases hr:ct u
 ·by_cases hm:1≤most∧most≤65536
  ·unfold qQ
   rw[iX hr hm]
   refine cN ?_
   let l:=(fp u most.toNat).getD []
   let I:Nat→Hp→Prop:=fun k H=>(∃d,bd H 0=some (.row 25 3 d [u.av]))∧(∃d,bd H 3=some (.row 30 1 d [.sl 7 (ec u l k).length]))∧(∃d,bd H 7=some (.row 40 3 d ((ec u l k).map dc.av)))
   refine aL (R:=fun r H n=>8≤n∧BG u most I r H) (MA (b:=3) 40 3 (by omega) (by omega) (d:=fU false [.slice none 0 0]) (te:=30) ?_ fun H2 q1 q2 q3=> ?_) ?_
   ·exact bf
   ·refine(nN u hu hr most hm _ [.pt 0 1 0 0, .pt 3 1 0 0] H2 8 I ?_ ?_ ?_).mono fun r H n h=>⟨h.1,h.short⟩
    ·exact⟨⟨_,(q3 0 (by omega) (by omega)).trans bf⟩,⟨_,q1⟩,⟨_,q2⟩⟩
    ·rintro k H H' ⟨⟨d0,p0⟩,⟨d1,p1⟩,⟨d2,p2⟩⟩ hk
     exact⟨⟨d0,(hk 0 (by omega)).trans p0⟩,⟨d1,(hk 3 (by omega)).trans p1⟩,⟨d2,(hk 7 (by omega)).trans p2⟩⟩
    ·intro l' hl' k H n hk hn ⟨p0,p1,p2⟩
     have hll:l=l':=by show(fp u most.toNat).getD []=l';rw[hl'];rfl
     rw[hll] at p1 p2
     obtain⟨hf,hlm,_⟩:=nM hu hr (by omega) hl'
     refine(JV hr hf (by omega) hk (ub:=0) (ob:=3) (o:=7) (by omega) (by omega) (by omega) (by omega) p0 p1 p2).mono ?_
     rintro _ H' n' ⟨s1,s2,s3,s4⟩
     obtain⟨d0,p0⟩:=p0
     refine⟨⟨⟨d0,(s4 0 (by omega) (by omega) (by omega)).trans p0⟩, ?_, ?_⟩,s3,fun y y1 y2=>s4 y y2 (by omega) (by omega)⟩
     ·rw[hll];exact s1
     ·rw[hll];exact s2
   rintro r H' n' ⟨hn,hA⟩
   revert hA
   unfold BG
   cases hs:fp u most.toNat with
   |none=>
    rintro rfl
    refine cN ?_
    exact⟨rfl⟩
   |some l'=>
    rintro⟨rfl,⟨d0,p0⟩,⟨d1,p1⟩,p2⟩
    have hll:l=l':=by show(fp u most.toNat).getD []=l';rw[hs];rfl
    rw[hll] at p1 p2
    obtain⟨hf,hlm,_⟩:=nM hu hr (by omega) hs
    have hin:=BY hr hf (by omega) l'.length
    have hlen:=qR u l' l'.length
    refine cN ?_
    refine aL (DM 7 (ec u l' l'.length) hin (by omega) _ _ p2 cU) ?_
    rintro r H3 n3 ⟨⟨d5,r5⟩,hn3,hk3⟩
    have r6:=(hk3 3 cU (by omega)).trans p1
    have hsl:(gx ep (ec u l' l'.length)).length=(ec u l' l'.length).length:=tI _ _
    refine cN ?_
    rw[←hsl]
    refine aL (tq 7 (gx ep (ec u l' l'.length)) (by omega) (fun e he=>hin e ((rD _ _).mem_iff.1 he)) _ _ cU ⟨d5,r5⟩) ?_
    rintro r H4 n4 ⟨hform,hfz⟩
    rcases hform with rfl|⟨m,rfl⟩
    all_goals
     refine cN ?_
     refine⟨?_⟩
     dsimp only
     rw[if_pos rfl]
     show AV.dH [cV.dR H4 5 _,i64 0]=_
     rw[hfz,hsl]
     rfl
  ·unfold qQ
   rw[iA hr hm]
   refine cN ?_
   refine aL (l3 u hu hr most hm _ _ _ _) ?_
   rintro r H' n' ⟨rfl,hn,hk⟩
   refine cN ?_
   exact⟨rfl⟩
 ·unfold qQ
  rw[jm hr]
  refine cN ?_
  refine aL (pS u hu hr most _ _ _ _) ?_
  rintro r H' n' ⟨rfl,hn,hk⟩
  refine cN ?_
  exact⟨rfl⟩
end Go.Proofs.YtekfmjjmihomlaaGreat
end
section
/- The unit that takes its lock twice; begins. -/
namespace Go.Proofs.YtekfmjjmihomlaaGreat
open Go Go.cV Go.Proofs
set_option linter.unusedSimpArgs false
set_option linter.unusedVariables false
set_option maxRecDepth 8000
instance P5 (n:Int):Decidable (dz n):=inferInstanceAs (Decidable (_∧_))
def PQ (k nx o:Int):Node:=⟨k,0,0,0,⟨false,0,0⟩,⟨false,0,0⟩,nx,0,o⟩
def RB:cB:=⟨⟨(List.toArray [97])⟩,0,0,[PQ 5 1 0,PQ 5 2 1,PQ 6 3 2,PQ 6 4 3,PQ 9 0 4]⟩
def eZ:bj:=⟨[],[⟨⟨(List.toArray [108])⟩,0,0⟩],[RB]⟩
theorem DN:Pure Tryz.prog 43 [] (fun r=>r=eZ.av):=by
 have h:Pure Tryz.prog 43 [] (fun r=>r= .agg [.sc (.slice none 0 0),bn eZ.bo,cL eZ.bh]):=by
  exact mA (by rw[bw,cP,cP,cP,cP];exact⟨by simp[bw],by simp[bw,bu],by simp[bw,bu],trivial⟩) (by kernel_rfl)
 refine pb (u:= .agg [.sc (.slice none 0 0),bn eZ.bo,cL eZ.bh]) (h.mono fun r hr=> .inl hr) (by simp[bw]) fun c=> ?_
 exact cV.dQ.agg (.cons (cV.dQ.jy c c 3 .any) (.cons (fun _ h=>h) (.cons (fun _ h=>h) .nil)))
theorem mj:ct eZ:=l6.1 (by decide+kernel)
theorem pd:eZ.Wf:=by
 refine⟨fun _ h=>by simp[eZ] at h,by simp[eZ],fun d h=> ?_,by simp[eZ],fun g hg=> ?_,by simp[eZ]⟩
 ·simp only[eZ,List.mem_cons,List.not_mem_nil,or_false] at h
  subst h
  exact⟨by decide+kernel,by decide+kernel,by decide+kernel⟩
 simp only[eZ,List.mem_cons,List.not_mem_nil,or_false] at hg
 subst hg
 refine⟨by decide+kernel,by decide+kernel,by decide+kernel,fun n hn=> ?_,by decide+kernel⟩
 simp only[RB,List.mem_cons,List.not_mem_nil,or_false] at hn
 rcases hn with rfl|rfl|rfl|rfl|rfl<;>
  exact⟨by decide+kernel,by decide+kernel,by decide+kernel,by decide+kernel,⟨by decide+kernel,by decide+kernel⟩,⟨by decide+kernel,by decide+kernel⟩,by decide+kernel,by decide+kernel,by decide+kernel⟩
def I4:List cH:=[⟨cq eZ,-1,0⟩,⟨((cq eZ).step eZ 0).1,0,0⟩]
theorem LI:fp eZ 9=some I4:=by decide+kernel
theorem LH:fp eZ 2=some I4:=by decide+kernel
theorem LG:fp eZ 1=none:=by decide+kernel
theorem PS:eo eZ 9=(0,I4):=by rw[iX mj (by decide),show(9:Int).toNat=9 from rfl,LI]
theorem Q6:eo eZ 2=(0,I4):=by rw[iX mj (by decide),show(2:Int).toNat=2 from rfl,LH]
theorem Q5:eo eZ 1=(3,[]):=by rw[iX mj (by decide),show(1:Int).toNat=1 from rfl,LG]
def QE:dc:=⟨[],[],false⟩
theorem LJ:EY eZ I4=[QE]:=by
 unfold EY
 rw[show ec eZ I4 I4.length=[QE] by decide+kernel]
 unfold gx
 rw[List.mergeSort_singleton]
 decide+kernel
theorem N1:fK eZ I4 QE I4.length=some 1:=by decide+kernel
theorem N2:gB I4 (some 1)=[0]:=by decide+kernel
theorem uu:Pure Tryz.prog 17 [] (fun r=>r=bl true):=by
 have c5:=DN
 have c0:=yC eZ pd 9
 rw[PS] at c0
 have c1:=sO eZ pd 2
 unfold qQ at c1
 rw[Q6,if_pos rfl,LJ] at c1
 have c2:=sO eZ pd 1
 unfold qQ at c2
 rw[Q5,if_neg (by decide)] at c2
 have c3':=x9 eZ pd 9 QE (by decide) (by decide)
 unfold rQ at c3'
 rw[PS,if_pos rfl,N1,N2] at c3'
 have c3:Pure Tryz.prog 25 [eZ.av,i64 9, .agg (List.map AV.sc [.slice none 0 0, .slice none 0 0, .bool false])] (fun r=>r= .dH [cW [0],bl true,i64 0]):=
  Pure.args c3' fun c=> .cons (fun _ h=>h) (.cons (fun _ h=>h) (.cons (cV.dQ.agg (.cons (cV.dQ.jy c c 2 .any) (.cons (cV.dQ.jy c c 1 .any) (.cons (fun _ h=>h) .nil)))) .nil))
 refine aI FX rfl ?_
 refine cN ?_
 exact rfl
end Go.Proofs.YtekfmjjmihomlaaGreat
end
section
/- What units and ends read as. -/
namespace Go.Proofs.YtekfmjjmihomlaaGreat
open Go Go.cV Go.Proofs Go.RowKit Go.ChangeShapes Go.WideShapes Go.ChangeAt
set_option linter.unusedSimpArgs false
set_option linter.unusedVariables false
theorem own:ownKnob Tryz.prog.godebug=none:=by kernel_rfl
theorem laidOut:laidOutB Tryz.prog=true:=by kernel_rfl
theorem HK {n:Int} (h:(Lit.int .i64 n).wf=true):dz n:=by
 simp only[Lit.wf,Bool.and_eq_true,decide_eq_true_eq] at h
 have e1:IntKind.i64.min=-9223372036854775808:=by decide
 have e2:IntKind.i64.max=9223372036854775807:=by decide
 unfold dz
 omega
theorem AX {n:Int} (h:(Lit.int .u8 n).wf=true):0≤n∧n<256:=by
 simp only[Lit.wf,Bool.and_eq_true,decide_eq_true_eq] at h
 have e1:IntKind.u8.min=0:=by decide
 have e2:IntKind.u8.max=255:=by decide
 omega
theorem dY {t:TypeId} (ht:Tryz.prog.underlying t=some (.int .i64)):dq Tryz.prog t (fun n:Int=>[i64 n]) dz:=(od ht).map (fun n=>n) (fun _ _=>rfl) fun _ h=>HK h
theorem tC:dq Tryz.prog 107 jH.cells jH.Wf:=by
 refine dq.map (α:=Bool×Int×Int×Unit) (fun p=>(⟨p.1,p.2.1,p.2.2.1⟩:jH))
  (fS (k:=3) Tryz.underlying107 (by kernel_rfl) (cZ (k:=1) rfl (by kernel_rfl) (qo Tryz.underlying4) (cZ (k:=1) rfl (by kernel_rfl) (dY Tryz.underlying3) (cZ (k:=1) rfl (by kernel_rfl) (dY Tryz.underlying2) gG)))) ?_ ?_
 ·intro a _;rfl
 ·intro a h;exact⟨h.2.1,h.2.2.1⟩
theorem yn:dq Tryz.prog 109 Node.cells Node.Wf:=by
 refine dq.map (α:=Int×Int×Int×Int×jH×jH×Int×Int×Int×Unit) (fun p=>(⟨p.1,p.2.1,p.2.2.1,p.2.2.2.1,p.2.2.2.2.1,p.2.2.2.2.2.1,p.2.2.2.2.2.2.1,p.2.2.2.2.2.2.2.1,p.2.2.2.2.2.2.2.2.1⟩:Node))
  (fS (k:=13) Tryz.underlying109 (by kernel_rfl) (cZ (k:=1) rfl (by kernel_rfl) (od Tryz.underlying47) (cZ (k:=1) rfl (by kernel_rfl) (od Tryz.underlying105) (cZ (k:=1) rfl (by kernel_rfl) (dY Tryz.underlying3) (cZ (k:=1) rfl (by kernel_rfl) (dY Tryz.underlying3) (cZ (k:=3) rfl (by kernel_rfl) tC (cZ (k:=3) rfl (by kernel_rfl) tC (cZ (k:=1) rfl (by kernel_rfl) (dY Tryz.underlying3) (cZ (k:=1) rfl (by kernel_rfl) (dY Tryz.underlying3) (cZ (k:=1) rfl (by kernel_rfl) (dY Tryz.underlying3) gG)))))))))) ?_ ?_
 ·intro a _;rfl
 ·intro a h
  obtain⟨h1,h2,h3,h4,h5,h6,h7,h8,h9,_⟩:=h
  exact⟨AX h1,AX h2,h3,h4,h5,h6,h7,h8,h9⟩
theorem yl:dq Tryz.prog 103 Decl.cells Decl.Wf:=by
 refine dq.map (α:=ByteArray×Int×Int×Unit) (fun p=>(⟨p.1,p.2.1,p.2.2.1⟩:Decl))
  (fS (k:=3) Tryz.underlying103 (by kernel_rfl) (cZ (k:=1) rfl (by kernel_rfl) (nu Tryz.underlying9) (cZ (k:=1) rfl (by kernel_rfl) (dY Tryz.underlying2) (cZ (k:=1) rfl (by kernel_rfl) (dY Tryz.underlying3) gG)))) ?_ ?_
 ·intro a _;rfl
 ·intro a h;exact⟨h.1,h.2.1,h.2.2.1⟩
theorem xA:dq Tryz.prog 62 (fun l:List Node=>[np l]) (fun l=>(∀x∈l,x.Wf)∧l.length * 88≤140737488351232):=by
 have hb:Tryz.prog.bytesOf 109=96:=by kernel_rfl
 refine(iL (ag:=true) (sz:=13) .any Tryz.underlying62 (by kernel_rfl) (by omega) yn (fun _=>rfl) (fun _ _=>rfl) (fun h=>by cases h)).map (fun l=>l) (fun _ _=>rfl) ?_
 rintro l ⟨h1,h2⟩
 rw[hb] at h2
 have hr:reachBytes=140737488351232:=rfl
 exact⟨h1,by omega⟩
theorem wz:dq Tryz.prog 64 cB.cells cB.Wf:=by
 refine dq.map (α:=ByteArray×Int×Int×List Node×Unit) (fun p=>(⟨p.1,p.2.1,p.2.2.1,p.2.2.2.1⟩:cB))
  (fS (k:=4) Tryz.underlying64 (by kernel_rfl) (cZ (k:=1) rfl (by kernel_rfl) (nu Tryz.underlying9) (cZ (k:=1) rfl (by kernel_rfl) (dY Tryz.underlying3) (cZ (k:=1) rfl (by kernel_rfl) (dY Tryz.underlying3) (cZ (k:=1) rfl (by kernel_rfl) xA gG))))) ?_ ?_
 ·intro a _;rfl
 ·intro a h
  obtain⟨h1,h2,h3,⟨h4,h5⟩,_⟩:=h
  exact⟨h1,h2,h3,h4,h5⟩
theorem pD:dq Tryz.prog 22 (fun l:List Decl=>[bn l]) (fun l=>(∀x∈l,x.Wf)∧l.length * 32≤140737488351232):=by
 have hb:Tryz.prog.bytesOf 103=32:=by kernel_rfl
 refine(iL (ag:=true) (sz:=3) .any Tryz.underlying22 (by kernel_rfl) (by omega) yl (fun _=>rfl) (fun _ _=>rfl) (fun h=>by cases h)).map (fun l=>l) (fun _ _=>rfl) ?_
 rintro l ⟨h1,h2⟩
 rw[hb] at h2
 exact⟨h1,h2⟩
theorem uK:dq Tryz.prog 23 (fun l:List cB=>[cL l]) (fun l=>(∀x∈l,x.Wf)∧l.length * 56≤140737488351232):=by
 have hb:Tryz.prog.bytesOf 64=56:=by kernel_rfl
 refine(iL (ag:=true) (sz:=4) .any Tryz.underlying23 (by kernel_rfl) (by omega) wz (fun _=>rfl) (fun _ _=>rfl) (fun h=>by cases h)).map (fun l=>l) (fun _ _=>rfl) ?_
 rintro l ⟨h1,h2⟩
 rw[hb] at h2
 exact⟨h1,h2⟩
theorem yo:dq Tryz.prog 25 bj.cells bj.Wf:=by
 refine dq.map (α:=List Decl×List Decl×List cB×Unit) (fun p=>(⟨p.1,p.2.1,p.2.2.1⟩:bj))
  (fS (k:=3) Tryz.underlying25 (by kernel_rfl) (cZ (k:=1) rfl (by kernel_rfl) pD (cZ (k:=1) rfl (by kernel_rfl) pD (cZ (k:=1) rfl (by kernel_rfl) uK gG)))) ?_ ?_
 ·intro a _;rfl
 ·intro a h
  obtain⟨⟨h1,h2⟩,⟨h3,h4⟩,⟨h5,h6⟩,_⟩:=h
  exact⟨h1,h2,h3,h4,h5,h6⟩
theorem ym {t e:TypeId} (ht:Tryz.prog.underlying t=some (.slice e)) (he:Tryz.prog.underlying e=some (.int .i64)) (hsz:Tryz.prog.cellsOf e=1) (hb:Tryz.prog.bytesOf e=8):dq Tryz.prog t (fun l:List Int=>[cW l]) (fun l=>(∀x∈l,dz x)∧l.length * 8≤140737488351232):=by
 refine(iL (ag:=false) (sz:=1) .any ht hsz (by omega) (dY he) (fun _=>rfl) (fun _ _=>rfl) (fun _=>rfl)).map (fun l=>l) (fun _ _=>rfl) ?_
 rintro l ⟨h1,h2⟩
 rw[hb] at h2
 exact⟨h1,h2⟩
theorem xB:dq Tryz.prog 89 cM.cells (fun p=>dz p.cS∧dz p.word):=by
 refine dq.map (α:=Int×Int×Unit) (fun p=>(⟨p.1,p.2.1⟩:cM))
  (fS (k:=2) Tryz.underlying89 (by kernel_rfl) (cZ (k:=1) rfl (by kernel_rfl) (dY Tryz.underlying3) (cZ (k:=1) rfl (by kernel_rfl) (dY Tryz.underlying2) gG))) ?_ ?_
 ·intro a _;rfl
 ·intro a h;exact⟨h.1,h.2.1⟩
theorem nt:dq Tryz.prog 37 (fun l:List cM=>[dE l]) (fun l=>(∀p∈l,dz p.cS∧dz p.word)∧l.length * 16≤140737488351232):=by
 have hb:Tryz.prog.bytesOf 89=16:=by kernel_rfl
 refine(iL (ag:=true) (sz:=2) .any Tryz.underlying37 (by kernel_rfl) (by omega) xB (fun _=>rfl) (fun _ _=>rfl) (fun h=>by cases h)).map (fun l=>l) (fun _ _=>rfl) ?_
 rintro l ⟨h1,h2⟩
 rw[hb] at h2
 exact⟨h1,h2⟩
structure dc.Wf (e:dc):Prop where
 bk:(∀p∈e.bk,dz p.cS∧dz p.word)∧e.bk.length * 16≤140737488351232
 mem:(∀x∈e.mem,dz x)∧e.mem.length * 8≤140737488351232
theorem C7:dq Tryz.prog 40 dc.cells dc.Wf:=by
 refine dq.map (α:=List cM×List Int×Bool×Unit) (fun p=>(⟨p.1,p.2.1,p.2.2.1⟩:dc))
  (fS (k:=3) Tryz.underlying40 (by kernel_rfl) (cZ (k:=1) rfl (by kernel_rfl) nt (cZ (k:=1) rfl (by kernel_rfl) (ym Tryz.underlying38 Tryz.underlying2 (by kernel_rfl) (by kernel_rfl)) (cZ (k:=1) rfl (by kernel_rfl) (qo Tryz.underlying4) gG)))) ?_ ?_
 ·intro a _;rfl
 ·intro a h;exact⟨h.1,h.2.1⟩
end Go.Proofs.YtekfmjjmihomlaaGreat
end
