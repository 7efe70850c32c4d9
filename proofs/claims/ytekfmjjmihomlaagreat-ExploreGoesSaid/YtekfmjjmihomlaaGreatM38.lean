import Derived.Shelf.SlSortCmp.WholeK
import Derived.Test.YtekfmjjmihomlaaGreatProg
import Derived.Test.YtekfmjjmihomlaaGreatM36
import Derived.Test.YtekfmjjmihomlaaGreatM37
import Derived.Test.YtekfmjjmihomlaaGreatM35
import Derived.Shelf.SlSortCmp.NoneTotal
import Derived.Test.YtekfmjjmihomlaaGreatM16
import Derived.Test.YtekfmjjmihomlaaGreatRows
import Derived.Test.YtekfmjjmihomlaaGreatM31
import Derived.Test.YtekfmjjmihomlaaGreatM33
section
/- The library's sort by a comparison at this program, as a tool of the kit laid it in plain words. -/
namespace Go.Proofs
open Go.Shelf
def Tryz.AD:Go.Shelf.Ren:=⟨fun|6=>37|15=>74|14=>73|28=>112|29=>113|20=>104|21=>105|22=>106|23=>107|24=>108|25=>109|26=>110|27=>111|46=>138|47=>139|48=>140|49=>141|50=>142|57=>154|n=>n,fun|22=>30|24=>40|25=>41|3=>3|39=>136|0=>0|53=>171|55=>173|4=>4|46=>165|45=>164|50=>131|5=>5|9=>9|66=>197|70=>201|76=>216|77=>217|n=>n,fun|n=>n⟩
theorem Tryz.IM:Go.Proofs.SlLaysF0.n6 Tryz.prog Tryz.AD:={
 mixed:=by kernel_rfl
 f6:=⟨Tryz.f37.name,by decide,Tryz.func37.trans (congrArg some (by kernel_rfl))⟩
 f14:=⟨Tryz.f73.name,by decide,Tryz.func73.trans (congrArg some (by kernel_rfl))⟩
 f15:=Tryz.func74.trans (congrArg some (by kernel_rfl))
 f20:=⟨Tryz.f104.name,by decide,Tryz.func104.trans (congrArg some (by kernel_rfl))⟩
 f21:=⟨Tryz.f105.name,by decide,Tryz.func105.trans (congrArg some (by kernel_rfl))⟩
 f22:=⟨Tryz.f106.name,by decide,Tryz.func106.trans (congrArg some (by kernel_rfl))⟩
 f23:=⟨Tryz.f107.name,by decide,Tryz.func107.trans (congrArg some (by kernel_rfl))⟩
 f24:=⟨Tryz.f108.name,by decide,Tryz.func108.trans (congrArg some (by kernel_rfl))⟩
 f25:=⟨Tryz.f109.name,by decide,Tryz.func109.trans (congrArg some (by kernel_rfl))⟩
 f26:=⟨Tryz.f110.name,by decide,Tryz.func110.trans (congrArg some (by kernel_rfl))⟩
 f27:=⟨Tryz.f111.name,by decide,Tryz.func111.trans (congrArg some (by kernel_rfl))⟩
 f28:=Tryz.func112.trans (congrArg some (by kernel_rfl))
 f29:=Tryz.func113.trans (congrArg some (by kernel_rfl))
 f46:=⟨Tryz.f138.name,by decide,Tryz.func138.trans (congrArg some (by kernel_rfl))⟩
 f47:=Tryz.func139.trans (congrArg some (by kernel_rfl))
 f48:=Tryz.func140.trans (congrArg some (by kernel_rfl))
 f49:=⟨Tryz.f141.name,by decide,Tryz.func141.trans (congrArg some (by kernel_rfl))⟩
 f50:=⟨Tryz.f142.name,by decide,Tryz.func142.trans (congrArg some (by kernel_rfl))⟩
 f57:=⟨Tryz.f154.name,by decide,Tryz.func154.trans (congrArg some (by kernel_rfl))⟩
 t0:=Tryz.underlying0
 a0:=Tryz.isAgg0
 z0:=Tryz.sizeOf0
 v0:=Tryz.zeroValue0
 t3:=Tryz.underlying3
 a3:=Tryz.isAgg3
 z3:=Tryz.sizeOf3
 v3:=Tryz.zeroValue3
 t4:=Tryz.underlying4
 a4:=Tryz.isAgg4
 z4:=Tryz.sizeOf4
 v4:=Tryz.zeroValue4
 t5:=Tryz.underlying5
 a5:=Tryz.isAgg5
 z5:=Tryz.sizeOf5
 v5:=Tryz.zeroValue5
 t9:=Tryz.underlying9
 a9:=Tryz.isAgg9
 z9:=Tryz.sizeOf9
 v9:=Tryz.zeroValue9
 t22:=Tryz.underlying30
 a22:=Tryz.isAgg30
 z22:=Tryz.sizeOf30
 v22:=Tryz.zeroValue30
 t25:=Tryz.underlying41
 a25:=Tryz.isAgg41
 z25:=Tryz.sizeOf41
 v25:=Tryz.zeroValue41
 t39:=Tryz.underlying136
 a39:=Tryz.isAgg136
 z39:=Tryz.sizeOf136
 v39:=Tryz.zeroValue136
 t45:=Tryz.underlying164
 a45:=Tryz.isAgg164
 z45:=Tryz.sizeOf164
 v45:=Tryz.zeroValue164
 t46:=Tryz.underlying165
 a46:=Tryz.isAgg165
 z46:=Tryz.sizeOf165
 v46:=Tryz.zeroValue165
 t50:=Tryz.underlying131
 a50:=Tryz.isAgg131
 z50:=Tryz.sizeOf131
 v50:=Tryz.zeroValue131
 t53:=Tryz.underlying171
 a53:=Tryz.isAgg171
 z53:=Tryz.sizeOf171
 v53:=Tryz.zeroValue171
 t55:=Tryz.underlying173
 a55:=Tryz.isAgg173
 z55:=Tryz.sizeOf173
 v55:=Tryz.zeroValue173
 t66:=Tryz.underlying197
 a66:=Tryz.isAgg197
 z66:=Tryz.sizeOf197
 v66:=Tryz.zeroValue197
 t70:=Tryz.underlying201
 a70:=Tryz.isAgg201
 z70:=Tryz.sizeOf201
 v70:=Tryz.zeroValue201
 t76:=Tryz.underlying216
 a76:=Tryz.isAgg216
 z76:=Tryz.sizeOf216
 v76:=Tryz.zeroValue216
 t77:=Tryz.underlying217
 a77:=Tryz.isAgg217
 z77:=Tryz.sizeOf217
 v77:=Tryz.zeroValue217 }
end Go.Proofs
end
section
/- The library's sort by a comparison, as the walks take it: whatever the struct. -/
namespace Go.Proofs.YtekfmjjmihomlaaGreat
open Go Go.cO Go.Proofs Go.RowKit Go.Sort
set_option linter.unusedSimpArgs false
set_option linter.unusedVariables false
theorem vd {w w':World} (h:Go.RowKit.Below w.heap.size w w') (hd:w.drawn≤w'.drawn):∃q os',w'=grow (w.drewN q) os':=by
 refine⟨w'.drawn - w.drawn,w'.heap.extract w.heap.size w'.heap.size, ?_⟩
 obtain⟨hp,tp,dr,os,ou⟩:=w
 obtain⟨hp',tp',dr',os',ou'⟩:=w'
 have h1:=h.os
 have h2:=h.tape
 have h3:=h.output
 have h4:=h.size
 have h5:=h.block
 dsimp only at *
 subst h1 h2 h3
 simp only[grow,World.drewN,World.mk.injEq,true_and,and_true]
 refine⟨?_,by omega⟩
 apply Array.ext_getElem?
 intro i
 rw[Array.getElem?_append]
 split
 ·rename_i hi;exact h5 i hi
 ·rename_i hi
  rw[Array.getElem?_extract]
  split
  ·congr 1;omega
  ·rw[Array.getElem?_eq_none (by omega)]
def El {S:Type} (cells:S→List AV) (ok:S→Prop) (w:World) (M:Nat→Prop):Type:={ x:S×List Value //ok x.1∧cP (base w M) (cells x.1) x.2 }
section
variable {S:Type} {cells:S→List AV} {ok:S→Prop} {k:Nat} {cf:S→S→Int}
structure vX (P:Program) (g:Nat) (cells:S→List AV) (k:Nat) (ok:S→Prop) (cf:S→S→Int):Prop where
 len:∀s,(cells s).length=k
 pos:0<k
 fit:∀s,cN 0 (cells s)
 one:∀s,fq (cells s)=true
 cmp:∀a b,ok a→ok b→Pure P g [.agg (cells a), .agg (cells b)] (fun r=>r= .sc (.int .i64 (cf a b)))
 ord:iZ cf
theorem J0 (h:iZ cf) {α:Type} (f:α→S):SWO (ltOf fun x y:α=>cf (f x) (f y)) where
 irrefl x:=by
  have:=(h.zero (f x) (f x)).2 rfl
  simp[ltOf,this]
 trans x y z h1 h2:=by
  simp only[ltOf,decide_eq_true_eq] at *
  exact h.tr _ _ _ h1 h2
 ntrans x y z h1 h2:=by
  simp only[ltOf,decide_eq_false_iff_not] at *
  have n1:=h.neg (f x) (f y)
  have n2:=h.neg (f y) (f z)
  have n3:=h.neg (f x) (f z)
  by_cases e1:cf (f x) (f y)=0
  ·rw[(h.zero _ _).1 e1];exact h2
  ·by_cases e2:cf (f y) (f z)=0
   ·rw[←(h.zero _ _).1 e2];exact h1
   ·have:=h.tr (f z) (f y) (f x) (by omega) (by omega)
    omega
variable {w:World} {M:Nat→Prop} {blk off:Nat}
theorem kE {α:Type} [Inhabited α] {enc:α→List Value} {n i:Nat} {os:Array Obj} (d:Array α) (hi:i<w.heap.size) (hne:i≠blk):(sortWorldK enc k w blk off n d os).heap[i]?=w.heap[i]?:=by
 unfold sortWorldK putRowK
 rw[heap_grow_old _ _ (by simpa[putRow,mapBlock,Sort.ahead] using hi)]
 simp[putRow,mapBlock,Sort.ahead,Array.getElem?_modify,Ne.symm hne]
theorem p7 {α:Type} [Inhabited α] {enc:α→List Value} {n:Nat} {os:Array Obj} {cur:Array Value} {e:TypeId} {fr:Nat×Nat} (d:Array α) (hb:w.heap[blk]?=some (.cells cur e fr)):
 (sortWorldK enc k w blk off n d os).heap[blk]?=some (.cells (putCells id off (flatK enc k d) cur) e fr):=by
 have hg:blk<w.heap.size:=(Array.getElem?_eq_some_iff.1 hb).1
 unfold sortWorldK putRowK
 rw[heap_grow_old _ _ (by simpa[putRow,mapBlock,Sort.ahead] using hg)]
 simp[putRow,mapBlock,Sort.ahead,Array.getElem?_modify,hb,onCells]
theorem vj {P:Program} {g:Nat} (h:vX P g cells k ok cf) (hM:vV w M) (hblk:M blk) (size:Nat) [Inhabited (El cells ok w M)]:
 CmpLays P g #[] (fun x:El cells ok w M=>x.1.2) k (fun x y=>cf x.1.1 y.1.1) blk off size w:=by
 intro m os dk _ x y
 have hsz:w.heap.size≤(sortWorldK (fun x:El cells ok w M=>x.1.2) k w blk off m dk os).heap.size:=size_sortWorldK_c _ _ _ _ _ _ _ _
 have hne:=fun(i:Nat) (hi:i<w.heap.size) (hn:i≠blk)=>kE (k:=k) (off:=off) (enc:=fun x:El cells ok w M=>x.1.2) (n:=m) (os:=os) dk hi hn
 generalize sortWorldK (fun x:El cells ok w M=>x.1.2) k w blk off m dk os=W at *
 have hle:(base w M).le (base W M):=by
  refine⟨fun _ h=>h,hsz,fun b hb hlt=> ?_,fun b hb=>hb.elim⟩
  rw[jk] at hb ⊢
  exact⟨hne b hlt fun e=>hb (e▸hblk),hb⟩
 have hF:vV W M:=by
  refine⟨fun b hb=>Nat.lt_of_lt_of_le (hM.lt b hb) hsz,fun t ht=> ?_⟩
  obtain⟨t1,t2,t3⟩:=hM.MJ t ht
  refine⟨t1,Nat.lt_of_lt_of_le t2 hsz,fun j hj=> ?_⟩
  rw[←t3 j hj]
  exact World.cell?_of_block (a:=⟨t.1,j,none⟩) (hne _ t2 fun e=>t1 (by rw[show t.1=blk from e];exact hblk))
 obtain⟨⟨xs,xv⟩,x1,x2⟩:=x
 obtain⟨⟨ys,yv⟩,y1,y2⟩:=y
 have hc:=E4 ((h.cmp xs ys x1 y1).2 M W [.agg xv.toArray, .agg yv.toArray] hF (by
  rw[cP]
  refine⟨_,_,rfl,by rw[VR];exact⟨_,rfl,by simpa using cP.cE hle x2⟩, ?_⟩
  rw[cP]
  refine⟨_,_,rfl,by rw[VR];exact⟨_,rfl,by simpa using cP.cE hle y2⟩, ?_⟩
  rw[cP]))
 refine hc.mono ?_
 rintro e w' ⟨⟨v,r,rfl,rfl,_,hv,hb⟩,hd⟩
 rw[VR] at hv
 exact⟨by rw[hv],vd hb (hd v rfl)⟩
theorem tZ {α:Type} [Inhabited α] {enc:α→List Value} {d:Array α} (hk:∀x,(enc x).length=k) (hpos:0<k) (h:∀i c,i<d.size→c<k→w.cell? ⟨blk,off+i * k+c,none⟩=some (enc d[i]!)[c]!∧w.frozen? ⟨blk,off+i * k+c,none⟩=false):HoldsK enc k w blk off d:=by
 intro t ht
 rw[size_flatK] at ht
 have e1:t /k<d.size:=(Nat.div_lt_iff_lt_mul hpos).2 ht
 have e2:t%k<k:=Nat.mod_lt _ hpos
 have:=h (t /k) (t%k) e1 e2
 rw[Nat.add_assoc,show t /k * k+t%k=t by rw[Nat.mul_comm];exact Nat.div_add_mod t k] at this
 rw[get_flatK _ _ _ _ ht]
 exact this
set_option maxHeartbeats 2000000 in
theorem xG {P:Program} {ρ:Go.Shelf.Ren} (L:SlLaysF0.n6 P ρ) (aE:∀w,(isAgg (ρ.t 24)).run P w= .ok true w) (zE:∀w,(Go.sizeOf (ρ.t 24)).run P w= .ok k w) (hen:gY P (ρ.f 6)) {g:Nat} (eg:∀args w,(callFunc g args).run P w= .ok (.enter g args) w)
 (h:vX P g cells k ok cf) [Inhabited S] (b:Nat) (l:List S) (hok:∀s∈l,ok s) (e:TypeId) (d:AV) (H:Hp) (nx:Nat) (hb:bd H b=some (.row e k d (l.map fun s=> .agg (cells s)))) (hlt:b<nx) (hl:l.length<4611686018427387904) (h0:l≠[]):
 cD P (ρ.f 6) [.sl b l.length, .fn (.func g) [] []] H nx (fun r H' n=>r= .dc []∧n=nx∧H'=(b,some (.row e k d ((fE cf l).map fun s=> .agg (cells s))))::H):=by
 refine⟨hen,fun w0 c vs hS hH hU hv=> ?_⟩
 rw[cP] at hv
 obtain⟨v,vs',rfl,hv,hv2⟩:=hv
 rw[cP] at hv2
 obtain⟨v2,vs2,rfl,hv2,hv3⟩:=hv2
 rw[cP] at hv3
 subst hv3
 rw[VR] at hv2
 obtain⟨ps,qs,rfl,hp1,hp2⟩:=hv2
 rw[cP] at hp1 hp2
 obtain rfl:ps=#[]:=Array.toList_eq_nil_iff.1 hp1
 obtain rfl:qs=#[]:=Array.toList_eq_nil_iff.1 hp2
 rw[VR] at hv
 obtain⟨hUb,a,cap,rfl,hr⟩:=hv
 have hcb:c.H b=some (.row e k d (l.map fun s=> .agg (cells s))):=by rw[hH];exact hb
 obtain⟨_,hr2⟩:=hr _ _ _ _ hcb
 have hr3:=hr2 (by simp)
 have hpos:=h.pos
 obtain⟨_,_,hor⟩:=hS.je b _ _ _ _ hcb (.inr hpos)
 have hln:0<l.length:=List.length_pos_iff.2 h0
 rcases hor with⟨_,hes⟩|⟨blk,o,z,hρ,hlow,⟨arr,harr,hsz⟩,hlz,hrow⟩
 ·exact absurd (List.map_eq_nil_iff.1 hes) h0
 rcases hr3 with⟨h1,_,_⟩|⟨blk',o',z',h1,rfl,hc1,hc2,hc3,_⟩
 ·rw[hρ] at h1;cases h1
 rw[hρ] at h1
 cases h1
 have hblk:blk<c.w.heap.size:=(Array.getElem?_eq_some_iff.1 harr).1
 rw[List.length_map] at hlz
 have hMb:c.M blk:= .inr ⟨b,_,o,z,hcb,hρ⟩
 -- the elements as they stand
 have hel:∀i,i<l.length→∃x:El cells ok c.w c.M,x.1.1=l.getD i default∧∀j,j<k→c.w.cell? ⟨blk,o+i * k+j,none⟩=x.1.2[j]?:=fun i hi=>by
  obtain⟨v,⟨hv1,hv2,_⟩,hv3⟩:=dL hrow i (by simpa using hi)
  rw[dJ (f:=fun s=>AV.agg (cells s)) (h:=hi)] at hv3
  rw[VR] at hv3
  obtain⟨us,rfl,hus⟩:=hv3
  refine⟨⟨(l.getD i default,us.toList),hok _ (cU default hi),cP.lS (fun _ hb=>hb) (h.fit _) hus⟩,rfl,fun j hj=> ?_⟩
  rw[hv2 j hj]
  simp[Value.cells]
 haveI:Inhabited (El cells ok c.w c.M):=⟨(hel 0 hln).choose⟩
 obtain⟨dl,hdl,hdr⟩:=jm (List.range l.length) (R:=fun i (x:El cells ok c.w c.M)=>x.1.1=l.getD i default∧∀j,j<k→c.w.cell? ⟨blk,o+i * k+j,none⟩=x.1.2[j]?) (fun i hi=>hel i (by simpa using hi))
 simp only[List.length_range] at hdl
 have hdg:∀i (hi:i<dl.length),dl[i].1.1=l.getD i default∧∀j,j<k→c.w.cell? ⟨blk,o+i * k+j,none⟩=dl[i].1.2[j]?:=fun i hi=>hdr i i _ (by rw[List.getElem?_range (by omega)]) (List.getElem?_eq_getElem hi)
 have hxl:∀x:El cells ok c.w c.M,x.1.2.length=k:=fun x=>by rw[x.2.2.length,h.len]
 have hHolds:HoldsK (fun x:El cells ok c.w c.M=>x.1.2) k c.w blk o dl.toArray:=by
  refine tZ hxl hpos fun i j hi hj=> ?_
  have hi':i<dl.length:=by simpa using hi
  have:=(hdg i hi').2 j hj
  refine⟨?_, ?_⟩
  ·rw[this]
   have hj':j<dl[i].1.2.length:=by rw[hxl];exact hj
   simp[hi',hj']
  ·simp only[World.frozen?,harr]
   simp
 have hones:∀x:El cells ok c.w c.M,∀v∈x.1.2,v.oneCell'=true:=fun x=>x.2.2.DV (h.one _)
 have hcon:=AnyQ.slices_SortFunc L k aE zE (fun x:El cells ok c.w c.M=>x.1.2) hxl hones (fun x y=>cf x.1.1 y.1.1) (J0 h.ord fun x:El cells ok c.w c.M=>x.1.1) g #[] blk o cap dl.toArray c.w eg (vj h hS.fit hMb _) hHolds hblk (by simp;omega)
 rw[show dl.toArray.size=l.length by simp[hdl]] at hcon
 refine hcon.mono ?_
 rintro en w' ⟨rfl,d',n,os,⟨hpz,_,hpp⟩,hss,hw'⟩
 have hdz:d'.size=l.length:=by rw[hpz];simp[hdl]
 -- what stands in the row now
 have hl1:dl.map (fun x=>x.1.1)=l:=by
  apply List.ext_getElem (by simp[hdl])
  intro i q1 q2
  have:=(hdg i (by simpa using q1)).1
  rw[List.getElem_map,this]
  simp[List.getD,q2]
 have hperm:(d'.toList.map fun x=>x.1.1).Perm l:=by
  have h2:d'.toList.Perm dl:=by
   have e1:d'.extract 0 l.length=d':=by rw[←hdz];exact Array.extract_size
   have e2:dl.toArray.extract 0 l.length=dl.toArray:=by rw[←hdl,←List.size_toArray];exact Array.extract_size
   rw[e1,e2] at hpp
   simpa using hpp
  have h3:=h2.map (fun x:El cells ok c.w c.M=>x.1.1)
  rwa[hl1] at h3
 have hsort:(d'.toList.map fun x=>x.1.1).Pairwise fun x y=>qh cf x y=true:=by
  rw[List.pairwise_iff_getElem]
  intro i j hi hj hij
  have hj':j<d'.size:=by simpa using hj
  have:=hss i j (Nat.zero_le _) hij (by omega)
  rw[getElem!_pos d' j hj',getElem!_pos d' i (by omega)] at this
  simp only[ltOf,decide_eq_false_iff_not] at this
  have hneg:=h.ord.neg d'[i].1.1 d'[j].1.1
  simp only[List.getElem_map,Array.getElem_toList,qh,decide_eq_true_eq]
  omega
 have hres:=h.ord.HD hperm hsort
 have hlen:(fE cf l).length=l.length:=nK cf l
 have hHn:HoldsK (fun x:El cells ok c.w c.M=>x.1.2) k w' blk o d':=by
  rw[hw']
  exact holdsK_sortWorldK_c _ _ _ _ _ dl.toArray d' n os hHolds hblk (by rw[hpz])
 have hput:=hS.pT (b:=b) (e:=e) (sz:=k) d (es:=(fE cf l).map fun s=> .agg (cells s)) (w':=w') (blk:=blk) (o:=o) (z:=z) (arr:=putCells id o (flatK (fun x:El cells ok c.w c.M=>x.1.2) k d') arr) hpos
  (.inr ⟨_,_,_,hcb, .inl ⟨by simp[hlen],hρ⟩⟩) (.inr ⟨_,_,_,hcb,hρ⟩) (by rw[hw'];rfl) (by rw[hw'];rfl) (by rw[hw'];rfl) (by rw[hw'];exact size_sortWorldK_c _ _ _ _ _ _ _ _) (fun q hq hne=>by rw[hw'];exact kE d' hq hne) (by rw[hw'];exact p7 d' harr) (by simp[putCells];exact hsz) (by simp[hlen];exact hlz) (fun hle i hi=>by
   have hi':i<d'.size:=by simpa[hlen,hdz] using hi
   have hx:=d'[i].2.2
   refine⟨.agg d'[i].1.2.toArray,⟨by simp[Value.cells,hxl],fun j hj=> ?_,fun j u hu=> ?_⟩, ?_⟩
   ·have:=(hHn.cell (i:=i) (c:=j) hi' hj).1
    rw[getElem!_pos d' i hi'] at this
    rw[this]
    have hj':j<d'[i].1.2.length:=by rw[hxl];exact hj
    simp[Value.cells,hj']
   ·simp only[Value.cells,List.getElem?_toArray] at hu
    exact hones d'[i] u (List.mem_of_getElem? hu)
   ·have e4:((fE cf l).map fun s=>AV.agg (cells s)).getD i .any= .agg (cells d'[i].1.1):=by
     rw[←hres]
     simp[List.getD,hi']
    rw[e4,VR]
    exact⟨_,rfl,by simpa using cP.cE (rX.trans hle) hx⟩)
 obtain⟨p1,p2⟩:=hput
 have hHeq:bd ((b,some (.row e k d ((fE cf l).map fun s=> .agg (cells s))))::H)=eS c.H b (some (.row e k d ((fE cf l).map fun s=> .agg (cells s)))):=by
  have:=dC H b (.row e k d ((fE cf l).map fun s=> .agg (cells s)))
  rw[hH];exact this
 refine⟨.tuple #[], .dc [],_,nx,eS c.ρ b (some (blk,o,z)),fun x=>c.U x∨x=b,rfl,⟨rfl,rfl,rfl⟩,fun x hx=>hx.elim (hU x) (fun e=>by omega), ?_, ?_, ?_⟩
 ·rw[hHeq];exact p1
 ·rw[hHeq];exact p2
 ·rw[VR];exact⟨#[],rfl,by rw[cP]⟩
end
end Go.Proofs.YtekfmjjmihomlaaGreat
end
section
/- Ends sorted; each once. -/
namespace Go.Proofs.YtekfmjjmihomlaaGreat
open Go Go.cO Go.Proofs Go.RowKit Go.Sort
set_option linter.unusedSimpArgs false
set_option linter.unusedVariables false
set_option maxRecDepth 8000
theorem xF {P:Program} {ρ:Go.Shelf.Ren} (L:SlLaysF0.n6 P ρ) (hen:gY P (ρ.f 6)) (b:Nat) (fv:AV) (H:Hp) (nx:Nat):
 cD P (ρ.f 6) [.sl b 0,fv] H nx (fun r H' n=>r= .dc []∧n=nx∧H'=H):=by
 refine⟨hen,fun w0 c vs hS hH hU hv=> ?_⟩
 rw[cP] at hv
 obtain⟨v,vs',rfl,hv,hv2⟩:=hv
 rw[cP] at hv2
 obtain⟨v2,vs2,rfl,hv2,hv3⟩:=hv2
 rw[cP] at hv3
 subst hv3
 rw[VR] at hv
 obtain⟨hUb,a,cap,rfl,hr⟩:=hv
 refine(AnyF.slices_SortFunc_none L a cap v2 c.w).mono ?_
 rintro e w' ⟨rfl,rfl⟩
 obtain⟨ρ',Hc,U,w,M0⟩:=c
 simp only at hH
 subst hH
 exact⟨.tuple #[], .dc [],H,nx,ρ',U,rfl,⟨rfl,rfl,rfl⟩,hU,hS,Cx.le.refl _,by rw[VR];exact⟨#[],rfl,by rw[cP]⟩⟩
def AU (e:dD):Prop:=e.bh.length<9223372036854775807∧e.mem.length<9223372036854775807
theorem xE:vX Tryz.prog 19 dD.cells 3 AU dq where
 len:=fun _=>rfl
 pos:=by omega
 fit:=fun _=>by simp
 one:=fun _=>rfl
 cmp:=fun a b ha hb=>mi a b ha.1 ha.2
 ord:=gP
theorem p6:gY Tryz.prog 37:=⟨Tryz.f37,Tryz.func37,by kernel_rfl,by kernel_rfl⟩
theorem AE (b:Nat) (l:List dD) (hok:∀e∈l,AU e) (hl:l.length≤65536) (H:Hp) (nx:Nat) (hb:∃d,bd H b=some (.row 40 3 d (l.map dD.av))) (hlt:b<nx):
 cD Tryz.prog 37 [.sl b l.length, .fn (.func 19) [] []] H nx (fun r H' n=>(∃d,bd H' b=some (.row 40 3 d ((fE dq l).map dD.av)))∧nx≤n∧∀y,y<nx→y≠b→bd H' y=bd H y):=by
 obtain⟨d,hb⟩:=hb
 by_cases h0:l=[]
 ·subst h0
  refine(xF Tryz.IM p6 b _ H nx).mono ?_
  rintro r H' n ⟨rfl,rfl,rfl⟩
  exact⟨⟨d,by rw[hb];simp[fE]⟩,Nat.le_refl _,fun _ _ _=>rfl⟩
 ·refine(xG Tryz.IM (k:=3) (fun w=>cO.k8 (by kernel_rfl) w) (fun w=>cO.run_sizeOf (by kernel_rfl) w) p6 (enters_of Tryz.func19 (by kernel_rfl) rfl) xE b l hok 40 d H nx hb hlt (by omega) h0).mono ?_
  rintro r H' n ⟨rfl,rfl,rfl⟩
  exact⟨⟨d,cV _ _ _⟩,Nat.le_refl _,fun y _ hne=>cF hne⟩
end Go.Proofs.YtekfmjjmihomlaaGreat
end
section
/- Neighbours that are one go: the walk of the library's CompactFunc. -/
namespace Go.Proofs.YtekfmjjmihomlaaGreat
open Go Go.cO Go.Proofs
set_option linter.unusedSimpArgs false
set_option linter.unusedVariables false
set_option maxRecDepth 8000
def nk (l:List dD):Nat→List dD
 |0=>[]
 |1=>[l.getD 0 default]
 |k+2=>if l.getD (k+1) default=l.getD k default then nk l (k+1) else nk l (k+1)++[l.getD (k+1) default]
theorem xX (l:List dD):∀k,(nk l k).length≤k
 |0=>Nat.le_refl _
 |1=>Nat.le_refl _
 |k+2=>by
  rw[nk]
  have:=xX l (k+1)
  split
  ·omega
  ·rw[List.length_append,List.length_cons,List.length_nil];omega
theorem tE (l:List dD) {k:Nat} (hk:1≤k):nk l (k+1)=if l.getD k default=l.getD (k - 1) default then nk l k else nk l k++[l.getD k default]:=by
 obtain⟨j,rfl⟩:∃j,k=j+1:=⟨k - 1,by omega⟩
 rw[nk]
 rfl
theorem oh {l:List dD} {i:Nat} (h:i<l.length) (d:AV):(l.map dD.av).getD i d=(l.getD i default).av:=dJ dD.av l i d h
abbrev jQ (l:List dD):AV:= .im 3 .any (l.map dD.av)
theorem oo (l:List dD):cN 0 (l.map dD.av):=(bz _ _).2 fun _ _=>by simp[bx]
theorem qE {α:Type} {l:List α} {i:Nat} {x:α} (h:i<l.length):(l.set i x).take (i+1)=l.take i++[x]:=by
 rw[List.take_succ_eq_append_getElem (by simpa using h),List.take_set_of_le (Nat.le_refl _)]
 simp
theorem JG {H:Hp} {k b len lo n:Nat} {e:TypeId} {sz:Nat} {d:AV} {es:List AV} (h:bd H b=some (.row e sz d es)) (hl:es.length=len):cO.dR H (k+1) (.sv b len lo n)= .im sz .any (((es.drop lo).take n).map (cO.dR H k)):=by
 simp only[cO.dR,h];rw[if_pos hl]
set_option maxHeartbeats 4000000 in
theorem ri (o:Nat) (l:List dD) (hl:l.length≤65536) (hok:∀e∈l,e.bh.length<9223372036854775807∧e.mem.length<9223372036854775807) (H:Hp) (nx:Nat) (ho:o<nx) (hr:∃d,bd H o=some (.row 40 3 d (l.map dD.av))):
 cD Tryz.prog 38 [.sl o l.length, .fn (.func 20) [] []] H nx (fun r H' n=>(r= .sl o l.length∨∃m,r= .sv o l.length 0 m)∧cO.dR H' 5 r=jQ (nk l l.length)):=by
 obtain⟨d0,r0'⟩:=hr
 have a0:(l.map dD.av).length=l.length:=by simp
 have same:∀i j,i<l.length→j<l.length→Pure Tryz.prog 20 [(l.getD i default).av,(l.getD j default).av] (fun r=>r=bl (decide (l.getD i default=l.getD j default))):=fun i j hi hj=>by
  obtain⟨p1,p2⟩:=hok _ (cU default hi)
  have:=pW (l.getD i default) (l.getD j default) p1 p2
  simpa only[qP] using this
 refine aQ CU rfl ?_
 by_cases h2:l.length<2
 ·refine cM ?_
  refine⟨.inl rfl, ?_⟩
  show cO.dR H 5 (.sl o l.length)=_
  rw[dz (k:=4) r0' (by simp),dG _ (oo l)]
  have:nk l l.length=l:=by
   match l,h2 with
   |[],_=>rfl
   |[x],_=>rfl
  rw[this]
 ·refine cM ?_
  refine aR (fun i:Nat=>[(0, .sl o l.length),(1, .fn (.func 20) [] []),(5,i64 i)]) (fun i H2 n=>1≤i∧i≤l.length∧nx≤n∧bd H2 o=some (.row 40 3 d0 (l.map dD.av))∧nk l i=l.take i) (fun i=>l.length - i) 1 cJ ⟨Nat.le_refl _,by omega,cW,bg,by rw[nk];cases l with|nil=>simp at h2|cons x t=>rfl⟩ ?_
  clear r0'
  rintro i H2 n ⟨hi1,hi,hn,r0',hdd⟩
  by_cases hil:i<l.length
  ·have e0:∀d,(l.map dD.av).getD ((i:Int)).toNat d=(l.getD i default).av:=fun d=>by rw[Int.toNat_natCast];exact oh hil d
   have e1:∀d,(l.map dD.av).getD ((i:Int) - 1).toNat d=(l.getD (i - 1) default).av:=fun d=>by rw[show((i:Int) - 1).toNat=i - 1 by omega];exact oh (by omega) d
   have c0:=same i (i - 1) hil (by omega)
   have hsu:=tE l hi1
   by_cases he:l.getD i default=l.getD (i - 1) default
   ·rw[decide_eq_true he] at c0
    rw[if_pos he] at hsu
    refine cM ?_
    refine aR (fun σ:Nat×Nat×List dD=>[(0, .sl o l.length),(1, .fn (.func 20) [] []),(5,i64 σ.1),(6, .sv o l.length i (l.length - i)),(7,i64 σ.2.1)])
     (fun σ H2 n=>1≤σ.2.1∧i+σ.2.1≤l.length∧i≤σ.1∧σ.1+1≤i+σ.2.1∧σ.2.2.length=l.length∧(∀q,σ.1≤q→σ.2.2.getD q default=l.getD q default)∧σ.2.2.take σ.1=nk l (i+σ.2.1)∧nx≤n∧∃d,bd H2 o=some (.row 40 3 d (σ.2.2.map dD.av))) (fun σ=>l.length - σ.2.1) (i,1,l) cJ
     ⟨Nat.le_refl _,by show i+1≤l.length;omega,Nat.le_refl _,Nat.le_refl _,rfl,fun _ _=>rfl,by dsimp only;rw[hsu,hdd],cW,⟨_,bg⟩⟩ ?_
    clear c0 e0 e1 hsu hdd r0' hn
    rintro⟨k,j,es⟩ H3 n ⟨hj1,hj,hik,hkj,hel,hsame,hdd,hn,⟨d1,r1'⟩⟩
    dsimp only at hj1 hj hik hkj hel hsame hdd r1' ⊢
    have a1:(es.map dD.av).length=l.length:=by simp[hel]
    by_cases hjl:j<l.length - i
    ·have e0:∀d,(es.map dD.av).getD (i+((j:Int)).toNat) d=(l.getD (i+j) default).av:=fun d=>by rw[Int.toNat_natCast,oh (by omega) d,hsame _ (by omega)]
     have e1:∀d,(es.map dD.av).getD (i+((j:Int) - 1).toNat) d=(l.getD (i+j - 1) default).av:=fun d=>by rw[show i+((j:Int) - 1).toNat=i+j - 1 by omega,oh (by omega) d,hsame _ (by omega)]
     have e2:∀d,(es.map dD.av).getD ((k:Int)).toNat d=(es.getD k default).av:=fun d=>by rw[Int.toNat_natCast];exact oh (by omega) d
     have c0:=same (i+j) (i+j - 1) (by omega) (by omega)
     have hsu:=tE l (k:=i+j) (by omega)
     by_cases he2:l.getD (i+j) default=l.getD (i+j - 1) default
     ·rw[decide_eq_true he2] at c0
      rw[if_pos he2] at hsu
      refine cM ?_
      exact⟨(k,j+1,es),by dsimp only;omega,cJ,by dsimp only;omega,by dsimp only;omega,hik,by dsimp only;omega,hel,hsame,by dsimp only;rw[←Nat.add_assoc,hsu];exact hdd,cW,⟨d1,bg⟩⟩
     ·rw[decide_eq_false he2] at c0
      rw[if_neg he2] at hsu
      refine cM ?_
      refine⟨(k+1,j+1,es.set k (l.getD (i+j) default)),by dsimp only;omega,cJ,by dsimp only;omega,by dsimp only;omega,by dsimp only;omega,by dsimp only;omega,by simp[hel],fun q hq=> ?_, ?_,cW,⟨d1,by dsimp only;rw[List.map_set];exact bg⟩⟩
      ·have hq:k+1≤q:=hq
       dsimp only
       rw[getD_set_ne (by omega)];exact hsame q (by omega)
      ·dsimp only
       rw[←Nat.add_assoc,hsu,qE (by omega),hdd]
    ·obtain rfl:j=l.length - i:=by omega
     rw[show i+(l.length - i)=l.length by omega] at hdd
     refine cM ?_
     refine⟨.inr ⟨_,rfl⟩, ?_⟩
     rw[Int.toNat_natCast]
     have hkl:k≤l.length:=by omega
     generalize hZ:List.replicate (l.length - k) (fI true [Value.slice none 0 0,Value.slice none 0 0,Value.bool false])=Z
     have hZl:Z.length=l.length - k:=by rw[←hZ];simp
     show cO.dR ((o,some (.row 40 3 d1 ((es.map dD.av).take k++Z++(es.map dD.av).drop (k+(l.length - k)))))::H3) 5 (.sv o l.length 0 (k - 0))=_
     rw[JG (k:=4) (cV _ _ _) (by simp[hZl,hel];omega),List.drop_zero,Nat.sub_zero,List.append_assoc,List.take_append_of_le_length (by simp;omega),List.take_take,Nat.min_self,←List.map_take,hdd,dG _ (oo _)]
   ·rw[decide_eq_false he] at c0
    rw[if_neg he] at hsu
    refine cM ?_
    refine⟨i+1,by omega,cJ,by omega,by omega,cW,bg, ?_⟩
    rw[hsu,hdd,List.take_succ_eq_append_getElem hil,show l.getD i default=l[i] by simp[List.getD,hil]]
  ·obtain rfl:i=l.length:=by omega
   rw[List.take_length] at hdd
   refine cM ?_
   refine⟨.inl rfl, ?_⟩
   show cO.dR H2 5 (.sl o l.length)=_
   rw[dz (k:=4) r0' (by simp),dG _ (oo l),hdd]
end Go.Proofs.YtekfmjjmihomlaaGreat
end
section
/- Ends: the walk. -/
namespace Go.Proofs.YtekfmjjmihomlaaGreat
open Go Go.cO Go.Proofs
set_option linter.unusedSimpArgs false
set_option linter.unusedVariables false
set_option maxRecDepth 8000
def j6 (u:bf) (l:List cA):List dD:=nk (fE dq (dP u l l.length)) (dP u l l.length).length
noncomputable def ln (u:bf) (most:Int):AV:=if(fZ u most).1=0 then .dc [jQ (j6 u (fZ u most).2),i64 0] else .dc [.sc (.slice none 0 0),i64 (fZ u most).1]
theorem zB {u:bf} {l:List cA} (hr:ch u) (hf:fm u l) (hl:l.length≤65536) (k:Nat):∀e∈dP u l k,AU e:=by
 intro e he
 unfold dP at he
 obtain⟨f,hf1,hf2⟩:=List.mem_filterMap.1 he
 split at hf2
 ·cases hf2
  obtain⟨i,hi,rfl⟩:=List.mem_iff_getElem.1 (List.mem_of_mem_take hf1)
  obtain⟨h1,h2⟩:=hf.ok i hi
  rw[show l.getD i default=l[i] by simp[List.getD,hi]] at h1 h2
  have:=h1.ml
  have:=hr.AP
  refine⟨?_, ?_⟩
  ·show l[i].m.bh.length<_;omega
  ·show l[i].m.mem.length<_;omega
 ·cases hf2
set_option maxHeartbeats 2000000 in
theorem mm (u:bf) (hu:u.Wf) (most:Int):Pure Tryz.prog 13 [u.av,i64 most] (fun r=>r=ln u most):=by
 refine eX ?_ (by unfold ln;split<;>simp[bx,cN,bz])
 refine aQ CH rfl ?_
 by_cases hr:ch u
 ·by_cases hm:1≤most∧most≤65536
  ·unfold ln
   rw[iI hr hm]
   refine cM ?_
   let l:=(ft u most.toNat).getD []
   let I:Nat→Hp→Prop:=fun k H=>(∃d,bd H 0=some (.row 25 3 d [u.av]))∧(∃d,bd H 3=some (.row 30 1 d [.sl 7 (dP u l k).length]))∧(∃d,bd H 7=some (.row 40 3 d ((dP u l k).map dD.av)))
   refine aJ (R:=fun r H n=>8≤n∧yf u most I r H) (IB (b:=3) 40 3 (by omega) (by omega) (d:=fI false [.slice none 0 0]) (te:=30) ?_ fun H2 q1 q2 q3=> ?_) ?_
   ·exact bg
   ·refine(l9 u hu hr most hm _ [.pt 0 1 0 0, .pt 3 1 0 0] H2 8 I ?_ ?_ ?_).mono fun r H n h=>⟨h.1,h.short⟩
    ·exact⟨⟨_,(q3 0 (by omega) (by omega)).trans bg⟩,⟨_,q1⟩,⟨_,q2⟩⟩
    ·rintro k H H' ⟨⟨d0,p0⟩,⟨d1,p1⟩,⟨d2,p2⟩⟩ hk
     exact⟨⟨d0,(hk 0 (by omega)).trans p0⟩,⟨d1,(hk 3 (by omega)).trans p1⟩,⟨d2,(hk 7 (by omega)).trans p2⟩⟩
    ·intro l' hl' k H n hk hn ⟨p0,p1,p2⟩
     have hll:l=l':=by show(ft u most.toNat).getD []=l';rw[hl'];rfl
     rw[hll] at p1 p2
     obtain⟨hf,hlm,_⟩:=l8 hu hr (by omega) hl'
     refine(FG hr hf (by omega) hk (ub:=0) (ob:=3) (o:=7) (by omega) (by omega) (by omega) (by omega) p0 p1 p2).mono ?_
     rintro _ H' n' ⟨s1,s2,s3,s4⟩
     obtain⟨d0,p0⟩:=p0
     refine⟨⟨⟨d0,(s4 0 (by omega) (by omega) (by omega)).trans p0⟩, ?_, ?_⟩,s3,fun y y1 y2=>s4 y y2 (by omega) (by omega)⟩
     ·rw[hll];exact s1
     ·rw[hll];exact s2
   rintro r H' n' ⟨hn,hA⟩
   revert hA
   unfold yf
   cases hs:ft u most.toNat with
   |none=>
    rintro rfl
    refine cM ?_
    exact⟨rfl⟩
   |some l'=>
    rintro⟨rfl,⟨d0,p0⟩,⟨d1,p1⟩,p2⟩
    have hll:l=l':=by show(ft u most.toNat).getD []=l';rw[hs];rfl
    rw[hll] at p1 p2
    obtain⟨hf,hlm,_⟩:=l8 hu hr (by omega) hs
    have hin:=zB hr hf (by omega) l'.length
    have hlen:=oi u l' l'.length
    refine cM ?_
    refine aJ (AE 7 (dP u l' l'.length) hin (by omega) _ _ p2 cW) ?_
    rintro r H3 n3 ⟨⟨d5,r5⟩,hn3,hk3⟩
    have r6:=(hk3 3 cW (by omega)).trans p1
    have hsl:(fE dq (dP u l' l'.length)).length=(dP u l' l'.length).length:=nK _ _
    refine cM ?_
    rw[←hsl]
    refine aJ (ri 7 (fE dq (dP u l' l'.length)) (by omega) (fun e he=>hin e ((lQ _ _).mem_iff.1 he)) _ _ cW ⟨d5,r5⟩) ?_
    rintro r H4 n4 ⟨hform,hfz⟩
    rcases hform with rfl|⟨m,rfl⟩
    all_goals
     refine cM ?_
     refine⟨?_⟩
     dsimp only
     rw[if_pos rfl]
     show AV.dc [cO.dR H4 5 _,i64 0]=_
     rw[hfz,hsl]
     rfl
  ·unfold ln
   rw[gq hr hm]
   refine cM ?_
   refine aJ (kK u hu hr most hm _ _ _ _) ?_
   rintro r H' n' ⟨rfl,hn,hk⟩
   refine cM ?_
   exact⟨rfl⟩
 ·unfold ln
  rw[jj hr]
  refine cM ?_
  refine aJ (nw u hu hr most _ _ _ _) ?_
  rintro r H' n' ⟨rfl,hn,hk⟩
  refine cM ?_
  exact⟨rfl⟩
end Go.Proofs.YtekfmjjmihomlaaGreat
end
section
/- The unit that takes its lock twice; begins. -/
namespace Go.Proofs.YtekfmjjmihomlaaGreat
open Go Go.cO Go.Proofs
set_option linter.unusedSimpArgs false
set_option linter.unusedVariables false
set_option maxRecDepth 8000
instance L7 (n:Int):Decidable (di n):=inferInstanceAs (Decidable (_∧_))
def LO (k nx o:Int):Node:=⟨k,0,0,0,⟨false,0,0⟩,⟨false,0,0⟩,nx,0,o⟩
def NI:cC:=⟨⟨(List.toArray [97])⟩,0,0,[LO 5 1 0,LO 5 2 1,LO 6 3 2,LO 6 4 3,LO 9 0 4]⟩
def eC:bf:=⟨[],[⟨⟨(List.toArray [108])⟩,0,0⟩],[NI]⟩
theorem AF:Pure Tryz.prog 43 [] (fun r=>r=eC.av):=by
 have h:Pure Tryz.prog 43 [] (fun r=>r= .agg [.sc (.slice none 0 0),cY eC.cB,dV eC.bk]):=by
  exact k9 (by rw[bx,cN,cN,cN,cN];exact⟨by simp[bx],by simp[bx,bz],by simp[bx,bz],trivial⟩) (by kernel_rfl)
 refine sO (u:= .agg [.sc (.slice none 0 0),cY eC.cB,dV eC.bk]) (h.mono fun r hr=> .inl hr) (by simp[bx]) fun c=> ?_
 exact cO.dA.agg (.cons (cO.dA.ql c c 3 .any) (.cons (fun _ h=>h) (.cons (fun _ h=>h) .nil)))
theorem lR:ch eC:=mh.1 (by decide+kernel)
theorem oH:eC.Wf:=by
 refine⟨fun _ h=>by simp[eC] at h,by simp[eC],fun d h=> ?_,by simp[eC],fun g hg=> ?_,by simp[eC]⟩
 ·simp only[eC,List.mem_cons,List.not_mem_nil,or_false] at h
  subst h
  exact⟨by decide+kernel,by decide+kernel,by decide+kernel⟩
 simp only[eC,List.mem_cons,List.not_mem_nil,or_false] at hg
 subst hg
 refine⟨by decide+kernel,by decide+kernel,by decide+kernel,fun n hn=> ?_,by decide+kernel⟩
 simp only[NI,List.mem_cons,List.not_mem_nil,or_false] at hn
 rcases hn with rfl|rfl|rfl|rfl|rfl<;>
  exact⟨by decide+kernel,by decide+kernel,by decide+kernel,by decide+kernel,⟨by decide+kernel,by decide+kernel⟩,⟨by decide+kernel,by decide+kernel⟩,by decide+kernel,by decide+kernel,by decide+kernel⟩
def ES:List cA:=[⟨dK eC,-1,0⟩,⟨((dK eC).step eC 0).1,0,0⟩]
theorem HG:ft eC 9=some ES:=by decide+kernel
theorem HF:ft eC 2=some ES:=by decide+kernel
theorem HE:ft eC 1=none:=by decide+kernel
theorem LP:fZ eC 9=(0,ES):=by rw[iI lR (by decide),show(9:Int).toNat=9 from rfl,HG]
theorem NA:fZ eC 2=(0,ES):=by rw[iI lR (by decide),show(2:Int).toNat=2 from rfl,HF]
theorem M9:fZ eC 1=(3,[]):=by rw[iI lR (by decide),show(1:Int).toNat=1 from rfl,HE]
def MI:dD:=⟨[],[],false⟩
theorem HH:j6 eC ES=[MI]:=by
 unfold j6
 rw[show dP eC ES ES.length=[MI] by decide+kernel]
 unfold fE
 rw[List.mergeSort_singleton]
 decide+kernel
theorem JW:eZ eC ES MI ES.length=some 1:=by decide+kernel
theorem JX:ef ES (some 1)=[0]:=by decide+kernel
theorem sq:Pure Tryz.prog 17 [] (fun r=>r=bl true):=by
 have c5:=AF
 have c0:=vp eC oH 9
 rw[LP] at c0
 have c1:=mm eC oH 2
 unfold ln at c1
 rw[NA,if_pos rfl,HH] at c1
 have c2:=mm eC oH 1
 unfold ln at c2
 rw[M9,if_neg (by decide)] at c2
 have c3':=vO eC oH 9 MI (by decide) (by decide)
 unfold pe at c3'
 rw[LP,if_pos rfl,JW,JX] at c3'
 have c3:Pure Tryz.prog 25 [eC.av,i64 9, .agg (List.map AV.sc [.slice none 0 0, .slice none 0 0, .bool false])] (fun r=>r= .dc [cr [0],bl true,i64 0]):=
  Pure.args c3' fun c=> .cons (fun _ h=>h) (.cons (fun _ h=>h) (.cons (cO.dA.agg (.cons (cO.dA.ql c c 2 .any) (.cons (cO.dA.ql c c 1 .any) (.cons (fun _ h=>h) .nil)))) .nil))
 refine aI CI rfl ?_
 refine cM ?_
 exact rfl
end Go.Proofs.YtekfmjjmihomlaaGreat
end
section
/- What units and ends read as. -/
namespace Go.Proofs.YtekfmjjmihomlaaGreat
open Go Go.cO Go.Proofs Go.RowKit Go.ChangeShapes Go.WideShapes Go.ChangeAt
set_option linter.unusedSimpArgs false
set_option linter.unusedVariables false
theorem own:ownKnob Tryz.prog.godebug=none:=by kernel_rfl
theorem laidOut:laidOutB Tryz.prog=true:=by kernel_rfl
theorem DO {n:Int} (h:(Lit.int .i64 n).wf=true):di n:=by
 simp only[Lit.wf,Bool.and_eq_true,decide_eq_true_eq] at h
 have e1:IntKind.i64.min=-9223372036854775808:=by decide
 have e2:IntKind.i64.max=9223372036854775807:=by decide
 unfold di
 omega
theorem yU {n:Int} (h:(Lit.int .u8 n).wf=true):0≤n∧n<256:=by
 simp only[Lit.wf,Bool.and_eq_true,decide_eq_true_eq] at h
 have e1:IntKind.u8.min=0:=by decide
 have e2:IntKind.u8.max=255:=by decide
 omega
theorem dY {t:TypeId} (ht:Tryz.prog.underlying t=some (.int .i64)):dn Tryz.prog t (fun n:Int=>[i64 n]) di:=(nI ht).map (fun n=>n) (fun _ _=>rfl) fun _ h=>DO h
theorem qm:dn Tryz.prog 107 jd.cells jd.Wf:=by
 refine dn.map (α:=Bool×Int×Int×Unit) (fun p=>(⟨p.1,p.2.1,p.2.2.1⟩:jd))
  (fU (k:=3) Tryz.underlying107 (by kernel_rfl) (cZ (k:=1) rfl (by kernel_rfl) (w3 Tryz.underlying4) (cZ (k:=1) rfl (by kernel_rfl) (dY Tryz.underlying3) (cZ (k:=1) rfl (by kernel_rfl) (dY Tryz.underlying2) hP)))) ?_ ?_
 ·intro a _;rfl
 ·intro a h;exact⟨h.2.1,h.2.2.1⟩
theorem w5:dn Tryz.prog 109 Node.cells Node.Wf:=by
 refine dn.map (α:=Int×Int×Int×Int×jd×jd×Int×Int×Int×Unit) (fun p=>(⟨p.1,p.2.1,p.2.2.1,p.2.2.2.1,p.2.2.2.2.1,p.2.2.2.2.2.1,p.2.2.2.2.2.2.1,p.2.2.2.2.2.2.2.1,p.2.2.2.2.2.2.2.2.1⟩:Node))
  (fU (k:=13) Tryz.underlying109 (by kernel_rfl) (cZ (k:=1) rfl (by kernel_rfl) (nI Tryz.underlying47) (cZ (k:=1) rfl (by kernel_rfl) (nI Tryz.underlying105) (cZ (k:=1) rfl (by kernel_rfl) (dY Tryz.underlying3) (cZ (k:=1) rfl (by kernel_rfl) (dY Tryz.underlying3) (cZ (k:=3) rfl (by kernel_rfl) qm (cZ (k:=3) rfl (by kernel_rfl) qm (cZ (k:=1) rfl (by kernel_rfl) (dY Tryz.underlying3) (cZ (k:=1) rfl (by kernel_rfl) (dY Tryz.underlying3) (cZ (k:=1) rfl (by kernel_rfl) (dY Tryz.underlying3) hP)))))))))) ?_ ?_
 ·intro a _;rfl
 ·intro a h
  obtain⟨h1,h2,h3,h4,h5,h6,h7,h8,h9,_⟩:=h
  exact⟨yU h1,yU h2,h3,h4,h5,h6,h7,h8,h9⟩
theorem w4:dn Tryz.prog 103 Decl.cells Decl.Wf:=by
 refine dn.map (α:=ByteArray×Int×Int×Unit) (fun p=>(⟨p.1,p.2.1,p.2.2.1⟩:Decl))
  (fU (k:=3) Tryz.underlying103 (by kernel_rfl) (cZ (k:=1) rfl (by kernel_rfl) (mJ Tryz.underlying9) (cZ (k:=1) rfl (by kernel_rfl) (dY Tryz.underlying2) (cZ (k:=1) rfl (by kernel_rfl) (dY Tryz.underlying3) hP)))) ?_ ?_
 ·intro a _;rfl
 ·intro a h;exact⟨h.1,h.2.1,h.2.2.1⟩
theorem uq:dn Tryz.prog 62 (fun l:List Node=>[mG l]) (fun l=>(∀x∈l,x.Wf)∧l.length * 88≤140737488351232):=by
 have hb:Tryz.prog.bytesOf 109=96:=by kernel_rfl
 refine(jz (ag:=true) (sz:=13) .any Tryz.underlying62 (by kernel_rfl) (by omega) w5 (fun _=>rfl) (fun _ _=>rfl) (fun h=>by cases h)).map (fun l=>l) (fun _ _=>rfl) ?_
 rintro l ⟨h1,h2⟩
 rw[hb] at h2
 have hr:reachBytes=140737488351232:=rfl
 exact⟨h1,by omega⟩
theorem uo:dn Tryz.prog 64 cC.cells cC.Wf:=by
 refine dn.map (α:=ByteArray×Int×Int×List Node×Unit) (fun p=>(⟨p.1,p.2.1,p.2.2.1,p.2.2.2.1⟩:cC))
  (fU (k:=4) Tryz.underlying64 (by kernel_rfl) (cZ (k:=1) rfl (by kernel_rfl) (mJ Tryz.underlying9) (cZ (k:=1) rfl (by kernel_rfl) (dY Tryz.underlying3) (cZ (k:=1) rfl (by kernel_rfl) (dY Tryz.underlying3) (cZ (k:=1) rfl (by kernel_rfl) uq hP))))) ?_ ?_
 ·intro a _;rfl
 ·intro a h
  obtain⟨h1,h2,h3,⟨h4,h5⟩,_⟩:=h
  exact⟨h1,h2,h3,h4,h5⟩
theorem nZ:dn Tryz.prog 22 (fun l:List Decl=>[cY l]) (fun l=>(∀x∈l,x.Wf)∧l.length * 32≤140737488351232):=by
 have hb:Tryz.prog.bytesOf 103=32:=by kernel_rfl
 refine(jz (ag:=true) (sz:=3) .any Tryz.underlying22 (by kernel_rfl) (by omega) w4 (fun _=>rfl) (fun _ _=>rfl) (fun h=>by cases h)).map (fun l=>l) (fun _ _=>rfl) ?_
 rintro l ⟨h1,h2⟩
 rw[hb] at h2
 exact⟨h1,h2⟩
theorem sJ:dn Tryz.prog 23 (fun l:List cC=>[dV l]) (fun l=>(∀x∈l,x.Wf)∧l.length * 56≤140737488351232):=by
 have hb:Tryz.prog.bytesOf 64=56:=by kernel_rfl
 refine(jz (ag:=true) (sz:=4) .any Tryz.underlying23 (by kernel_rfl) (by omega) uo (fun _=>rfl) (fun _ _=>rfl) (fun h=>by cases h)).map (fun l=>l) (fun _ _=>rfl) ?_
 rintro l ⟨h1,h2⟩
 rw[hb] at h2
 exact⟨h1,h2⟩
theorem w6:dn Tryz.prog 25 bf.cells bf.Wf:=by
 refine dn.map (α:=List Decl×List Decl×List cC×Unit) (fun p=>(⟨p.1,p.2.1,p.2.2.1⟩:bf))
  (fU (k:=3) Tryz.underlying25 (by kernel_rfl) (cZ (k:=1) rfl (by kernel_rfl) nZ (cZ (k:=1) rfl (by kernel_rfl) nZ (cZ (k:=1) rfl (by kernel_rfl) sJ hP)))) ?_ ?_
 ·intro a _;rfl
 ·intro a h
  obtain⟨⟨h1,h2⟩,⟨h3,h4⟩,⟨h5,h6⟩,_⟩:=h
  exact⟨h1,h2,h3,h4,h5,h6⟩
structure dD.Wf (e:dD):Prop where
 bh:(∀p∈e.bh,di p.cR∧di p.word)∧e.bh.length * 16≤140737488351232
 mem:(∀x∈e.mem,di x)∧e.mem.length * 8≤140737488351232
end Go.Proofs.YtekfmjjmihomlaaGreat
end
section
/- More is the same: the least that is enough. -/
namespace Go.Proofs.YtekfmjjmihomlaaGreat
open Go Go.cO Go.Proofs
set_option linter.unusedSimpArgs false
set_option linter.unusedVariables false
set_option maxRecDepth 8000
theorem v7 (u:bf) (hu:u.Wf) (most:Int):((fZ u most).1≠0∧(fZ u most).2=[])∨∃l,ch u∧1≤most∧most≤65536∧ft u most.toNat=some l∧fZ u most=(0,l)∧fm u l∧l.length≤most.toNat:=by
 by_cases hr:ch u
 ·by_cases hm:1≤most∧most≤65536
  ·rw[iI hr hm]
   cases h:ft u most.toNat with
   |none=>exact .inl ⟨by decide,rfl⟩
   |some l=>
    obtain⟨h1,h2,_⟩:=l8 hu hr (by omega) h
    exact .inr ⟨l,hr,hm.1,hm.2,rfl,rfl,h1,h2⟩
  ·rw[gq hr hm]
   exact .inl ⟨by decide,rfl⟩
 ·rw[jj hr]
  exact .inl ⟨by decide,rfl⟩
end Go.Proofs.YtekfmjjmihomlaaGreat
end
section
/- Ends: in order, each once. -/
namespace Go.Proofs.YtekfmjjmihomlaaGreat
open Go Go.cO Go.Proofs
set_option linter.unusedSimpArgs false
set_option linter.unusedVariables false
theorem rj (l:List dD):∀k,∀e∈nk l k,∃j,j<k∧e=l.getD j default
 |0,e,h=>by simp[nk] at h
 |1,e,h=>by simp only[nk,List.mem_cons,List.not_mem_nil,or_false] at h;exact⟨0,by omega,h⟩
 |k+2,e,h=>by
  rw[nk] at h
  split at h
  ·obtain⟨j,h1,h2⟩:=rj l (k+1) e h
   exact⟨j,by omega,h2⟩
  ·rcases List.mem_append.1 h with h|h
   ·obtain⟨j,h1,h2⟩:=rj l (k+1) e h
    exact⟨j,by omega,h2⟩
   ·simp only[List.mem_cons,List.not_mem_nil,or_false] at h
    exact⟨k+1,by omega,h⟩
theorem oC (l:List dD):∀k j,j<k→l.getD j default∈nk l k
 |0,j,h=>by omega
 |1,j,h=>by
  obtain rfl:j=0:=by omega
  simp[nk]
 |k+2,j,h=>by
  rw[nk]
  split
  ·rename_i e
   by_cases hj:j=k+1
   ·rw[hj,e];exact oC l (k+1) k (by omega)
   ·exact oC l (k+1) j (by omega)
  ·by_cases hj:j=k+1
   ·rw[hj];exact List.mem_append.2 (.inr (by simp))
   ·exact List.mem_append.2 (.inl (oC l (k+1) j (by omega)))
theorem oG {α:Type} {R:α→α→Prop} {l:List α} (h:l.Pairwise R) (d:α) {i j:Nat} (hi:i<j) (hj:j<l.length):R (l.getD i d) (l.getD j d):=by
 have:=List.pairwise_iff_getElem.1 h i j (by omega) hj hi
 simpa[List.getD,hj,show i<l.length by omega] using this
theorem lB {l:List dD} (h:l.Pairwise fun x y=>qh dq x y=true):∀k,k≤l.length→(nk l k).Pairwise fun x y=>dq x y<0
 |0,_=>by simp[nk]
 |1,_=>by simp[nk]
 |k+2,hk=>by
  rw[nk]
  split
  ·exact lB h (k+1) (by omega)
  ·rename_i hne
   refine List.pairwise_append.2 ⟨lB h (k+1) (by omega),by simp,fun a ha b hb=> ?_⟩
   simp only[List.mem_cons,List.not_mem_nil,or_false] at hb
   subst hb
   obtain⟨j,hj,rfl⟩:=rj l _ a ha
   have h1:=oG h default (i:=j) (j:=k+1) (by omega) (by omega)
   have h2:qh dq (l.getD j default) (l.getD k default)=true:=by
    by_cases e:j=k
    ·rw[e];simp[qh,(gP.zero _ _).2 rfl]
    ·exact oG h default (by omega) (by omega)
   have h3:=oG h default (i:=k) (j:=k+1) (by omega) (by omega)
   have h4:dq (l.getD j default) (l.getD (k+1) default)≠0:=fun e=>by
    have e1:=(gP.zero _ _).1 e
    rw[←e1] at h3
    have:=gP.xg h3 h2
    exact hne (by rw[this,←e1])
   simp only[qh,decide_eq_true_eq] at h1
   omega
theorem vu {u:bf} {l:List cA} {e:dD}:e∈dP u l l.length↔∃i,i<l.length∧(l.getD i default).m.stuck u=true∧e=(l.getD i default).m.end_ u:=by
 unfold dP
 rw[List.take_length,List.mem_filterMap]
 constructor
 ·rintro⟨f,hf,he⟩
  obtain⟨i,hi,rfl⟩:=List.mem_iff_getElem.1 hf
  split at he
  ·rename_i hs
   cases he
   refine⟨i,hi, ?_⟩
   rw[show l.getD i default=l[i] by simp[List.getD,hi]]
   exact⟨hs,rfl⟩
  ·cases he
 ·rintro⟨i,hi,hs,rfl⟩
  refine⟨l.getD i default,cU default hi, ?_⟩
  rw[if_pos hs]
theorem zA {u:bf} {l:List cA} {e:dD}:e∈j6 u l↔e∈dP u l l.length:=by
 have hp:=lQ dq (dP u l l.length)
 unfold j6
 constructor
 ·intro h
  obtain⟨j,hj,rfl⟩:=rj _ _ _ h
  exact hp.mem_iff.1 (cU default (by rw[hp.length_eq];exact hj))
 ·intro h
  obtain⟨j,hj,rfl⟩:=List.mem_iff_getElem.1 (hp.mem_iff.2 h)
  have:=oC (fE dq (dP u l l.length)) (dP u l l.length).length j (by rw[←hp.length_eq];exact hj)
  rwa[show(fE dq (dP u l l.length)).getD j default=(fE dq (dP u l l.length))[j] by simp[List.getD,hj]] at this
theorem rk (u:bf) (l:List cA):(j6 u l).Pairwise fun x y=>dq x y<0:=by
 unfold j6
 refine lB (gP.sorted _) _ ?_
 rw[nK]
 exact Nat.le_refl _
theorem yz (u:bf) (l:List cA):(j6 u l).length≤l.length:=by
 unfold j6
 refine Nat.le_trans (xX _ _) ?_
 unfold dP
 refine Nat.le_trans (List.length_filterMap_le _ _) ?_
 rw[List.take_length]
 exact Nat.le_refl _
end Go.Proofs.YtekfmjjmihomlaaGreat
end
section
/- All that is found is closed; one thread: what it comes to. -/
namespace Go.Proofs.YtekfmjjmihomlaaGreat
open Go Go.cO Go.Proofs
set_option linter.unusedSimpArgs false
set_option linter.unusedVariables false
theorem z8 {l l':List cA} (h:l<+:l') {k:List UInt8} (hk:k∈gy l):k∈gy l':=by
 obtain⟨t,rfl⟩:=h
 simp only[gy,List.map_append,List.mem_append]
 exact .inl hk
theorem BT {l l':List cA} (h:l<+:l') {k:Nat} (hk:k<l.length):l'.getD k default=l.getD k default:=by
 obtain⟨t,rfl⟩:=h
 simp[List.getD,List.getElem?_append,hk]
def xP (u:bf) (l:List cA) (k t:Nat):Prop:=(l.getD k default).m.pj u t=0→fb ((l.getD k default).m.step u t).1∈gy l
theorem xP.pre {u:bf} {l l':List cA} {k t:Nat} (h:xP u l k t) (hk:k<l.length) (hp:l<+:l'):xP u l' k t:=by
 unfold xP at *
 rw[BT hp hk]
 exact fun hb=>z8 hp (h hb)
end Go.Proofs.YtekfmjjmihomlaaGreat
end
section
/- The key tells the situation. -/
namespace Go.Proofs.YtekfmjjmihomlaaGreat
open Go Go.cO Go.Proofs
open Go.Lib (decDigits itoa)
set_option linter.unusedSimpArgs false
set_option linter.unusedVariables false
end Go.Proofs.YtekfmjjmihomlaaGreat
end
section
/- One thread: what it comes to. -/
namespace Go.Proofs.YtekfmjjmihomlaaGreat
open Go Go.cO Go.Proofs
set_option linter.unusedSimpArgs false
set_option linter.unusedVariables false
end Go.Proofs.YtekfmjjmihomlaaGreat
end
section
/- What a machine comes to is found. -/
namespace Go.Proofs.YtekfmjjmihomlaaGreat
open Go Go.cO Go.Proofs
set_option linter.unusedSimpArgs false
set_option linter.unusedVariables false
theorem AG {u:bf} {m:MS} (h:eG u m):m.stuck u=true↔∀t,t<u.bk.length→m.pj u t≠0:=by
 unfold MS.stuck
 rw[h.nz,List.all_eq_true]
 constructor
 ·exact fun h t ht=>of_decide_eq_true (h t (List.mem_range.2 ht))
 ·exact fun h t ht=>decide_eq_true (h t (List.mem_range.1 ht))
theorem nb {l:List cA} {i:Nat} (hi:i<l.length):fX l (l.getD i default).m.bh l.length=true:=by
 unfold fX
 rw[List.take_length,List.any_eq_true]
 exact⟨_,cU default hi,decide_eq_true rfl⟩
end Go.Proofs.YtekfmjjmihomlaaGreat
end
section
/- Ways go to ends; each beginning of an end's prints is shown. -/
namespace Go.Proofs.YtekfmjjmihomlaaGreat
open Go Go.cO Go.Proofs
set_option linter.unusedSimpArgs false
set_option linter.unusedVariables false
def runM (u:bf) (m:MS) (w:List Int):MS:=w.foldl (fun m t=>(m.step u t.toNat).1) m
theorem qq (u:bf) (m:MS) (w:List Int) (t:Int):runM u m (w++[t])=((runM u m w).step u t.toNat).1:=by simp[runM,List.foldl_append]
theorem qp (u:bf) (m:MS) (w:List Int) {k:Nat} (hk:k<w.length):runM u m (w.take (k+1))=((runM u m (w.take k)).step u (w.getD k 0).toNat).1:=by
 rw[List.take_succ_eq_append_getElem hk,qq]
 simp[List.getD,hk]
def KL (u:bf) (l:List cA) (w:List Int):Prop:=∀k,k≤w.length→(∃j,j<l.length∧runM u (dK u) (w.take k)=(l.getD j default).m)∧(k<w.length→∃t:Nat,w.getD k 0=t∧t<u.bk.length∧(runM u (dK u) (w.take k)).pj u t=0)
theorem EK {u:bf} {l:List cA} (hf:fm u l):∀i,i<l.length→KL u l (ef l (some i))∧runM u (dK u) (ef l (some i))=(l.getD i default).m:=by
 intro i
 induction i using Nat.strongRecOn with
 |_ i ih=>
  intro hi
  by_cases h0:i=0
  ·subst h0
   have hw:ef l (some 0)=[]:=rfl
   rw[hw,hf.first]
   exact⟨fun k hk=>⟨⟨0,hi,by rw[hf.first];simp[runM]⟩,fun h=>by simp at h⟩,rfl⟩
  obtain⟨k,t,h1,h2,h3,h4⟩:=hf.yq i (by omega) hi
  obtain⟨g1,g2⟩:=ih k h1 (by omega)
  have hw:ef l (some i)=ef l (some k)++[(t:Int)]:=by
   show(j5 l i).reverse=(j5 l k).reverse++[(t:Int)]
   rw[sn hf hi (by rw[h4];exact Int.natCast_nonneg _),h4,List.reverse_cons]
   rfl
  have hm:runM u (dK u) (ef l (some i))=(l.getD i default).m:=by
   rw[hw,qq,g2,h4];rfl
  refine⟨?_,hm⟩
  rw[hw] at hm ⊢
  generalize ef l (some k)=w at *
  intro q hq
  rw[List.length_append,List.length_cons,List.length_nil] at hq
  by_cases e:q=w.length+1
  ·subst e
   rw[List.take_of_length_le (by simp),List.length_append,List.length_cons,List.length_nil]
   exact⟨⟨i,hi,hm⟩,fun h=>by omega⟩
  ·rw[List.take_append_of_le_length (by omega)]
   obtain⟨q1,q2⟩:=g1 q (by omega)
   refine⟨q1,fun _=> ?_⟩
   by_cases e2:q=w.length
   ·subst e2
    rw[List.take_length,g2]
    exact⟨t,by simp[List.getD],h2,h3⟩
   ·obtain⟨x,x1,x2,x3⟩:=q2 (by omega)
    exact⟨x,by rw[←x1];simp[List.getD,List.getElem?_append,show q<w.length by omega],x2,x3⟩
theorem pa (u:bf) (m:MS) (t:Nat):(m.step u t).1.bh=m.bh∨∃p,(m.step u t).1.bh=m.bh++[p]:=by
 show((m.act t (m.node u t)).1).bh=_∨∃p,((m.act t (m.node u t)).1).bh=_
 generalize m.node u t=n
 unfold MS.act
 repeat' split
 all_goals first
  |exact .inl rfl
  |exact .inr ⟨_,rfl⟩
theorem sN {u:bf} {l:List cA} (hf:fm u l):∀i,i<l.length→∀k,k≤(l.getD i default).m.bh.length→∃j,j<l.length∧(l.getD j default).m.bh=(l.getD i default).m.bh.take k:=by
 intro i
 induction i using Nat.strongRecOn with
 |_ i ih=>
  intro hi k hk
  by_cases hk2:k=(l.getD i default).m.bh.length
  ·exact⟨i,hi,by rw[hk2,List.take_length]⟩
  by_cases h0:i=0
  ·subst h0
   have:(l.getD 0 default).m.bh=[]:=by rw[hf.first];rfl
   rw[this] at hk hk2
   simp at hk
   exact absurd hk hk2
  obtain⟨k',t,h1,h2,h3,h4⟩:=hf.yq i (by omega) hi
  have h5:(l.getD i default).m.bh=((l.getD k' default).m.step u t).1.bh:=by rw[h4]
  rw[h5] at hk hk2 ⊢
  have ih:=ih k' h1 (by omega) k
  rcases pa u (l.getD k' default).m t with e|⟨p,e⟩
  ·rw[e] at hk hk2 ⊢
   exact ih hk
  ·rw[e] at hk hk2 ⊢
   rw[List.length_append,List.length_cons,List.length_nil] at hk hk2
   rw[List.take_append_of_le_length (by omega)]
   exact ih (by omega)
theorem FM {u:bf} {l:List cA} {e:dD} (h:e∈j6 u l):∃i,i<l.length∧eZ u l e l.length=some i∧(l.getD i default).m.stuck u=true∧(l.getD i default).m.end_ u=e:=by
 obtain⟨i,hi,h1,h2⟩:=vu.1 (zA.1 h)
 cases hh:eZ u l e l.length with
 |none=>
  exfalso
  unfold eZ at hh
  have:=List.find?_eq_none.1 hh i (List.mem_range.2 hi)
  rw[h1,h2,(gP.zero _ _).2 rfl] at this
  simp at this
 |some j=>
  refine⟨j,B9 hh,rfl, ?_⟩
  unfold eZ at hh
  have:=List.find?_some hh
  simp only[Bool.and_eq_true,decide_eq_true_eq] at this
  exact⟨this.1,(gP.zero _ _).1 this.2⟩
end Go.Proofs.YtekfmjjmihomlaaGreat
end
section
/- How a machine stands, as an end; a slot told anew ahead of a drawn stretch. -/
namespace Go.Proofs.YtekfmjjmihomlaaGreat
open Go Go.cO Go.Proofs
set_option linter.unusedSimpArgs false
set_option linter.unusedVariables false
set_option maxRecDepth 8000
theorem BA {u:bf} {m:MS} {L:ML} {H:Hp} (hM:L.At u m H) (nx:Nat):Wk (.pt L.mr 1 0 0) H nx (m.fz u) (j8 (jH L.all H) H) nx:=by
 have:=Wk.K2 (nx:=nx) (r:= .pt L.mr 1 0 0) (jH L.all H) 6 (fun b q hq=>qx hq)
 rwa[hM.pz 2] at this
theorem nc (u:bf) (hr:ch u) (m:MS) (h:eG u m) (hp:m.bh.length * 16≤140737488355328) (hm:m.mem.length * 8≤140737488355328):Pure Tryz.prog 24 [m.fz u] (fun r=>r=(m.end_ u).av):=by
 have c0:=nJ u m hp
 have c1:=qj u m hm
 have c2:=tF u hr m h
 refine aI CO rfl ?_
 refine cM ?_
 first|exact rfl|trivial
end Go.Proofs.YtekfmjjmihomlaaGreat
end
