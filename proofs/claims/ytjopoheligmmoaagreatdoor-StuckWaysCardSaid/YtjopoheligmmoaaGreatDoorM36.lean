import Derived.Shelf.SlSortCmp.WholeK
import Derived.Test.YtjopoheligmmoaaGreatDoorProg
import Derived.Test.YtjopoheligmmoaaGreatDoorM34
import Derived.Test.YtjopoheligmmoaaGreatDoorM35
import Derived.Shelf.SlSortCmp.NoneTotal
import Derived.Test.YtjopoheligmmoaaGreatDoorM17
import Derived.Test.YtjopoheligmmoaaGreatDoorRows
import Derived.Test.YtjopoheligmmoaaGreatDoorTie
import Derived.Test.YtjopoheligmmoaaGreatDoorCards
import Derived.LaidMore
import Derived.OpenShut
import Derived.SevenTiedAt
import Derived.Test.YtjopoheligmmoaaGreatDoorM30
import Derived.Test.YtjopoheligmmoaaGreatDoorM27
import Derived.Shelf.Spec.TrailingZeros
import Derived.Test.YtjopoheligmmoaaGreatDoorM23
import Derived.Test.YtjopoheligmmoaaGreatDoorM24
import Derived.Test.YtjopoheligmmoaaGreatDoorM26
import Derived.Laws.IdiomRangeMap
import Derived.Shelf.SortM.Plain
import Derived.Shelf.SortM.SortNone
import Derived.Test.YtjopoheligmmoaaGreatDoorM5
import Derived.Test.YtjopoheligmmoaaGreatDoorM15
namespace Go.Proofs
open Go.Shelf
def Tryz.J6:Go.Shelf.Ren:=⟨fun|6=>95|15=>82|14=>149|28=>141|29=>142|20=>186|21=>187|22=>188|23=>189|24=>190|25=>191|26=>192|27=>193|46=>202|47=>173|48=>174|49=>203|50=>204|57=>225|n=>n,fun|22=>41|24=>105|25=>112|3=>3|39=>142|0=>0|53=>132|55=>206|4=>4|46=>198|45=>197|50=>203|5=>5|9=>9|66=>231|70=>235|76=>266|77=>267|n=>n,fun|n=>n⟩
theorem Tryz.SU:Go.Proofs.SlLaysF0.n6 Tryz.prog Tryz.J6:={
 mixed:=by kernel_rfl
 f6:=⟨Tryz.f95.name,by decide,Tryz.func95.trans (congrArg some (by kernel_rfl))⟩
 f14:=⟨Tryz.f149.name,by decide,Tryz.func149.trans (congrArg some (by kernel_rfl))⟩
 f15:=Tryz.func82.trans (congrArg some (by kernel_rfl))
 f20:=⟨Tryz.f186.name,by decide,Tryz.func186.trans (congrArg some (by kernel_rfl))⟩
 f21:=⟨Tryz.f187.name,by decide,Tryz.func187.trans (congrArg some (by kernel_rfl))⟩
 f22:=⟨Tryz.f188.name,by decide,Tryz.func188.trans (congrArg some (by kernel_rfl))⟩
 f23:=⟨Tryz.f189.name,by decide,Tryz.func189.trans (congrArg some (by kernel_rfl))⟩
 f24:=⟨Tryz.f190.name,by decide,Tryz.func190.trans (congrArg some (by kernel_rfl))⟩
 f25:=⟨Tryz.f191.name,by decide,Tryz.func191.trans (congrArg some (by kernel_rfl))⟩
 f26:=⟨Tryz.f192.name,by decide,Tryz.func192.trans (congrArg some (by kernel_rfl))⟩
 f27:=⟨Tryz.f193.name,by decide,Tryz.func193.trans (congrArg some (by kernel_rfl))⟩
 f28:=Tryz.func141.trans (congrArg some (by kernel_rfl))
 f29:=Tryz.func142.trans (congrArg some (by kernel_rfl))
 f46:=⟨Tryz.f202.name,by decide,Tryz.func202.trans (congrArg some (by kernel_rfl))⟩
 f47:=Tryz.func173.trans (congrArg some (by kernel_rfl))
 f48:=Tryz.func174.trans (congrArg some (by kernel_rfl))
 f49:=⟨Tryz.f203.name,by decide,Tryz.func203.trans (congrArg some (by kernel_rfl))⟩
 f50:=⟨Tryz.f204.name,by decide,Tryz.func204.trans (congrArg some (by kernel_rfl))⟩
 f57:=⟨Tryz.f225.name,by decide,Tryz.func225.trans (congrArg some (by kernel_rfl))⟩
 t0:=Tryz.underlying0
 a0:=Tryz.isAgg0
 z0:=Tryz.sizeOf0
 v0:=Tryz.zeroValue0
 t3:=Tryz.underlying3
 a3:=Tryz.isAgg3
 z3:=Tryz.sizeOf3
 v3:=Tryz.zeroValue3
 t4:=Tryz.underlying4
 a4:=Tryz.isAgg4
 z4:=Tryz.sizeOf4
 v4:=Tryz.zeroValue4
 t5:=Tryz.underlying5
 a5:=Tryz.isAgg5
 z5:=Tryz.sizeOf5
 v5:=Tryz.zeroValue5
 t9:=Tryz.underlying9
 a9:=Tryz.isAgg9
 z9:=Tryz.sizeOf9
 v9:=Tryz.zeroValue9
 t22:=Tryz.underlying41
 a22:=Tryz.isAgg41
 z22:=Tryz.sizeOf41
 v22:=Tryz.zeroValue41
 t25:=Tryz.underlying112
 a25:=Tryz.isAgg112
 z25:=Tryz.sizeOf112
 v25:=Tryz.zeroValue112
 t39:=Tryz.underlying142
 a39:=Tryz.isAgg142
 z39:=Tryz.sizeOf142
 v39:=Tryz.zeroValue142
 t45:=Tryz.underlying197
 a45:=Tryz.isAgg197
 z45:=Tryz.sizeOf197
 v45:=Tryz.zeroValue197
 t46:=Tryz.underlying198
 a46:=Tryz.isAgg198
 z46:=Tryz.sizeOf198
 v46:=Tryz.zeroValue198
 t50:=Tryz.underlying203
 a50:=Tryz.isAgg203
 z50:=Tryz.sizeOf203
 v50:=Tryz.zeroValue203
 t53:=Tryz.underlying132
 a53:=Tryz.isAgg132
 z53:=Tryz.sizeOf132
 v53:=Tryz.zeroValue132
 t55:=Tryz.underlying206
 a55:=Tryz.isAgg206
 z55:=Tryz.sizeOf206
 v55:=Tryz.zeroValue206
 t66:=Tryz.underlying231
 a66:=Tryz.isAgg231
 z66:=Tryz.sizeOf231
 v66:=Tryz.zeroValue231
 t70:=Tryz.underlying235
 a70:=Tryz.isAgg235
 z70:=Tryz.sizeOf235
 v70:=Tryz.zeroValue235
 t76:=Tryz.underlying266
 a76:=Tryz.isAgg266
 z76:=Tryz.sizeOf266
 v76:=Tryz.zeroValue266
 t77:=Tryz.underlying267
 a77:=Tryz.isAgg267
 z77:=Tryz.sizeOf267
 v77:=Tryz.zeroValue267 }
end Go.Proofs
namespace Go.Proofs.YtjopoheligmmoaaGreatDoor
open Go Go.cw Go.Proofs Go.RowKit Go.Sort
set_option linter.unusedSimpArgs false
set_option linter.unusedVariables false
set_option maxRecDepth 8000
section
theorem CI {w w':World} (h:Go.RowKit.Below w.heap.size w w') (hd:w.drawn<=w'.drawn):∃q os',w'=grow (w.drewN q) os':=by
 refine⟨w'.drawn - w.drawn,w'.heap.extract w.heap.size w'.heap.size, ?_⟩
 obtain⟨hp,tp,dr,os,ou⟩:=w
 obtain⟨hp',tp',dr',os',ou'⟩:=w'
 have h1:=h.os
 have h2:=h.tape
 have h3:=h.output
 have h4:=h.size
 have h5:=h.block
 dsimp only at *
 subst h1 h2 h3
 simp only[grow,World.drewN,World.mk.injEq,true_and,and_true]
 refine⟨?_,by omega⟩
 apply Array.ext_getElem?
 intro i
 rw[Array.getElem?_append]
 split
 ·rename_i hi;exact h5 i hi
 ·rename_i hi
  rw[Array.getElem?_extract]
  split
  ·congr 1;omega
  ·rw[Array.getElem?_eq_none (by omega)]
def El {S:Type} (cells:S->List AV) (ok:S->Prop) (w:World) (M:Nat->Prop):Type:={ x:S×List Value //ok x.1/\cu (base w M) (cells x.1) x.2 }
section
variable {S:Type} {cells:S->List AV} {ok:S->Prop} {k:Nat} {cf:S->S->Int}
structure B9 (P:Program) (g:Nat) (cells:S->List AV) (k:Nat) (ok:S->Prop) (cf:S->S->Int):Prop where
 len:∀s,(cells s).length=k
 pos:0<k
 fit:∀s,c8 0 (cells s)
 one:∀s,jM (cells s)=true
 cmp:∀a b,ok a->ok b->Pure P g [.agg (cells a), .agg (cells b)] (fun r=>r= .sc (.int .i64 (cf a b)))
 ord:lP cf
theorem US (h:lP cf) {α:Type} (f:α->S):SWO (ltOf fun x y:α=>cf (f x) (f y)) where
 irrefl x:=by
  have:=(h.zero (f x) (f x)).2 rfl
  simp[ltOf,this]
 trans x y z h1 h2:=by
  simp only[ltOf,decide_eq_true_eq] at *
  exact h.tr _ _ _ h1 h2
 ntrans x y z h1 h2:=by
  simp only[ltOf,decide_eq_false_iff_not] at *
  have n1:=h.neg (f x) (f y)
  have n2:=h.neg (f y) (f z)
  have n3:=h.neg (f x) (f z)
  by_cases e1:cf (f x) (f y)=0
  ·rw[(h.zero _ _).1 e1];exact h2
  ·by_cases e2:cf (f y) (f z)=0
   ·rw[<-(h.zero _ _).1 e2];exact h1
   ·have:=h.tr (f z) (f y) (f x) (by omega) (by omega)
    omega
variable {w:World} {M:Nat->Prop} {blk off:Nat}
theorem np {α:Type} [Inhabited α] {enc:α->List Value} {n i:Nat} {os:Array Obj} (d:Array α) (hi:i<w.heap.size) (hne:i≠blk):(sortWorldK enc k w blk off n d os).heap[i]?=w.heap[i]?:=by
 unfold sortWorldK putRowK
 rw[heap_grow_old _ _ (by simpa[putRow,mapBlock,Sort.ahead] using hi)]
 simp[putRow,mapBlock,Sort.ahead,Array.getElem?_modify,Ne.symm hne]
theorem vL {α:Type} [Inhabited α] {enc:α->List Value} {n:Nat} {os:Array Obj} {cur:Array Value} {e:TypeId} {fr:Nat×Nat} (d:Array α) (hb:w.heap[blk]?=some (.cells cur e fr)):
 (sortWorldK enc k w blk off n d os).heap[blk]?=some (.cells (putCells id off (flatK enc k d) cur) e fr):=by
 have hg:blk<w.heap.size:=(Array.getElem?_eq_some_iff.1 hb).1
 unfold sortWorldK putRowK
 rw[heap_grow_old _ _ (by simpa[putRow,mapBlock,Sort.ahead] using hg)]
 simp[putRow,mapBlock,Sort.ahead,Array.getElem?_modify,hb,onCells]
theorem CQ {P:Program} {g:Nat} (h:B9 P g cells k ok cf) (hM:yg w M) (hblk:M blk) (size:Nat) [Inhabited (El cells ok w M)]:
 CmpLays P g #[] (fun x:El cells ok w M=>x.1.2) k (fun x y=>cf x.1.1 y.1.1) blk off size w:=by
 intro m os dk _ x y
 have hsz:w.heap.size<=(sortWorldK (fun x:El cells ok w M=>x.1.2) k w blk off m dk os).heap.size:=size_sortWorldK_c _ _ _ _ _ _ _ _
 have hne:=fun(i:Nat) (hi:i<w.heap.size) (hn:i≠blk)=>np (k:=k) (off:=off) (enc:=fun x:El cells ok w M=>x.1.2) (n:=m) (os:=os) dk hi hn
 generalize sortWorldK (fun x:El cells ok w M=>x.1.2) k w blk off m dk os=W at *
 have hle:(base w M).le (base W M):=by
  refine⟨fun _ h=>h,hsz,fun b hb hlt=> ?_,fun b hb=>hb.elim⟩
  rw[nH] at hb ⊢
  exact⟨hne b hlt fun e=>hb (e▸hblk),hb⟩
 have hF:yg W M:=by
  refine⟨fun b hb=>Nat.lt_of_lt_of_le (hM.lt b hb) hsz,fun t ht=> ?_⟩
  obtain⟨t1,t2,t3⟩:=hM.ZM t ht
  refine⟨t1,Nat.lt_of_lt_of_le t2 hsz,fun j hj=> ?_⟩
  rw[<-t3 j hj]
  exact World.cell?_of_block (a:=⟨t.1,j,none⟩) (hne _ t2 fun e=>t1 (by rw[show t.1=blk from e];exact hblk))
 obtain⟨⟨xs,xv⟩,x1,x2⟩:=x
 obtain⟨⟨ys,yv⟩,y1,y2⟩:=y
 have hc:=PT ((h.cmp xs ys x1 y1).2 M W [.agg xv.toArray, .agg yv.toArray] hF (by
  rw[cu]
  refine⟨_,_,rfl,by rw[VR];exact⟨_,rfl,by simpa using cu.cc hle x2⟩, ?_⟩
  rw[cu]
  refine⟨_,_,rfl,by rw[VR];exact⟨_,rfl,by simpa using cu.cc hle y2⟩, ?_⟩
  rw[cu]))
 refine hc.mono ?_
 rintro e w' ⟨⟨v,r,rfl,rfl,_,hv,hb⟩,hd⟩
 rw[VR] at hv
 exact⟨by rw[hv],CI hb (hd v rfl)⟩
theorem zn {α:Type} [Inhabited α] {enc:α->List Value} {d:Array α} (hk:∀x,(enc x).length=k) (hpos:0<k) (h:∀i c,i<d.size->c<k->w.cell? ⟨blk,off+i * k+c,none⟩=some (enc d[i]!)[c]!/\w.frozen? ⟨blk,off+i * k+c,none⟩=false):HoldsK enc k w blk off d:=by
 intro t ht
 rw[size_flatK] at ht
 have e1:t /k<d.size:=(Nat.div_lt_iff_lt_mul hpos).2 ht
 have e2:t%k<k:=Nat.mod_lt _ hpos
 have:=h (t /k) (t%k) e1 e2
 rw[Nat.add_assoc,show t /k * k+t%k=t by rw[Nat.mul_comm];exact Nat.div_add_mod t k] at this
 rw[get_flatK _ _ _ _ ht]
 exact this
set_option maxHeartbeats 2000000 in
theorem E6 {P:Program} {ρ:Go.Shelf.Ren} (L:SlLaysF0.n6 P ρ) (aE:∀w,(isAgg (ρ.t 24)).run P w= .ok true w) (zE:∀w,(Go.sizeOf (ρ.t 24)).run P w= .ok k w) (hen:jm P (ρ.f 6)) {g:Nat} (eg:∀args w,(callFunc g args).run P w= .ok (.enter g args) w)
 (h:B9 P g cells k ok cf) [Inhabited S] (b:Nat) (l:List S) (hok:∀s∈l,ok s) (e:TypeId) (d:AV) (H:Hp) (nx:Nat) (hb:bt H b=some (.row e k d (l.map fun s=> .agg (cells s)))) (hlt:b<nx) (hl:l.length<4611686018427387904) (h0:l≠[]):
 cU P (ρ.f 6) [.sl b l.length, .fn (.func g) [] []] H nx (fun r H' n=>r= .dI []/\n=nx/\H'=(b,some (.row e k d ((gW cf l).map fun s=> .agg (cells s))))::H):=by
 refine⟨hen,fun w0 c vs hS hH hU hv=> ?_⟩
 rw[cu] at hv
 obtain⟨v,vs',rfl,hv,hv2⟩:=hv
 rw[cu] at hv2
 obtain⟨v2,vs2,rfl,hv2,hv3⟩:=hv2
 rw[cu] at hv3
 subst hv3
 rw[VR] at hv2
 obtain⟨ps,qs,rfl,hp1,hp2⟩:=hv2
 rw[cu] at hp1 hp2
 obtain rfl:ps=#[]:=Array.toList_eq_nil_iff.1 hp1
 obtain rfl:qs=#[]:=Array.toList_eq_nil_iff.1 hp2
 rw[VR] at hv
 obtain⟨hUb,a,cap,rfl,hr⟩:=hv
 have hcb:c.H b=some (.row e k d (l.map fun s=> .agg (cells s))):=by rw[hH];exact hb
 obtain⟨_,hr2⟩:=hr _ _ _ _ hcb
 have hr3:=hr2 (by simp)
 have hpos:=h.pos
 obtain⟨_,_,hor⟩:=hS.kO b _ _ _ _ hcb (.inr hpos)
 have hln:0<l.length:=List.length_pos_iff.2 h0
 rcases hor with⟨_,hes⟩|⟨blk,o,z,hρ,hlow,⟨arr,harr,hsz⟩,hlz,hrow⟩
 ·exact absurd (List.map_eq_nil_iff.1 hes) h0
 rcases hr3 with⟨h1,_,_⟩|⟨blk',o',z',h1,rfl,hc1,hc2,hc3,_⟩
 ·rw[hρ] at h1;cases h1
 rw[hρ] at h1
 cases h1
 have hblk:blk<c.w.heap.size:=(Array.getElem?_eq_some_iff.1 harr).1
 rw[List.length_map] at hlz
 have hMb:c.M blk:= .inr ⟨b,_,o,z,hcb,hρ⟩
 -- the elements as they stand
 have hel:∀i,i<l.length->∃x:El cells ok c.w c.M,x.1.1=l.getD i default/\∀j,j<k->c.w.cell? ⟨blk,o+i * k+j,none⟩=x.1.2[j]?:=fun i hi=>by
  obtain⟨v,⟨hv1,hv2,_⟩,hv3⟩:=eC hrow i (by simpa using hi)
  rw[cx (f:=fun s=>AV.agg (cells s)) (h:=hi)] at hv3
  rw[VR] at hv3
  obtain⟨us,rfl,hus⟩:=hv3
  refine⟨⟨(l.getD i default,us.toList),hok _ (cO default hi),cu.nr (fun _ hb=>hb) (h.fit _) hus⟩,rfl,fun j hj=> ?_⟩
  rw[hv2 j hj]
  simp[Value.cells]
 haveI:Inhabited (El cells ok c.w c.M):=⟨(hel 0 hln).choose⟩
 obtain⟨dl,hdl,hdr⟩:=nK (List.range l.length) (R:=fun i (x:El cells ok c.w c.M)=>x.1.1=l.getD i default/\∀j,j<k->c.w.cell? ⟨blk,o+i * k+j,none⟩=x.1.2[j]?) (fun i hi=>hel i (by simpa using hi))
 simp only[List.length_range] at hdl
 have hdg:∀i (hi:i<dl.length),dl[i].1.1=l.getD i default/\∀j,j<k->c.w.cell? ⟨blk,o+i * k+j,none⟩=dl[i].1.2[j]?:=fun i hi=>hdr i i _ (by rw[List.getElem?_range (by omega)]) (List.getElem?_eq_getElem hi)
 have hxl:∀x:El cells ok c.w c.M,x.1.2.length=k:=fun x=>by rw[x.2.2.length,h.len]
 have hHolds:HoldsK (fun x:El cells ok c.w c.M=>x.1.2) k c.w blk o dl.toArray:=by
  refine zn hxl hpos fun i j hi hj=> ?_
  have hi':i<dl.length:=by simpa using hi
  have:=(hdg i hi').2 j hj
  refine⟨?_, ?_⟩
  ·rw[this]
   have hj':j<dl[i].1.2.length:=by rw[hxl];exact hj
   simp[hi',hj']
  ·simp only[World.frozen?,harr]
   simp
 have hones:∀x:El cells ok c.w c.M,∀v∈x.1.2,v.oneCell'=true:=fun x=>x.2.2.N0 (h.one _)
 have hcon:=AnyQ.slices_SortFunc L k aE zE (fun x:El cells ok c.w c.M=>x.1.2) hxl hones (fun x y=>cf x.1.1 y.1.1) (US h.ord fun x:El cells ok c.w c.M=>x.1.1) g #[] blk o cap dl.toArray c.w eg (CQ h hS.fit hMb _) hHolds hblk (by simp;omega)
 rw[show dl.toArray.size=l.length by simp[hdl]] at hcon
 refine hcon.mono ?_
 rintro en w' ⟨rfl,d',n,os,⟨hpz,_,hpp⟩,hss,hw'⟩
 have hdz:d'.size=l.length:=by rw[hpz];simp[hdl]
 -- what stands in the row now
 have hl1:dl.map (fun x=>x.1.1)=l:=by
  apply List.ext_getElem (by simp[hdl])
  intro i q1 q2
  have:=(hdg i (by simpa using q1)).1
  rw[List.getElem_map,this]
  simp[List.getD,q2]
 have hperm:(d'.toList.map fun x=>x.1.1).Perm l:=by
  have h2:d'.toList.Perm dl:=by
   have e1:d'.extract 0 l.length=d':=by rw[<-hdz];exact Array.extract_size
   have e2:dl.toArray.extract 0 l.length=dl.toArray:=by rw[<-hdl,<-List.size_toArray];exact Array.extract_size
   rw[e1,e2] at hpp
   simpa using hpp
  have h3:=h2.map (fun x:El cells ok c.w c.M=>x.1.1)
  rwa[hl1] at h3
 have hsort:(d'.toList.map fun x=>x.1.1).Pairwise fun x y=>wy cf x y=true:=by
  rw[List.pairwise_iff_getElem]
  intro i j hi hj hij
  have hj':j<d'.size:=by simpa using hj
  have:=hss i j (Nat.zero_le _) hij (by omega)
  rw[getElem!_pos d' j hj',getElem!_pos d' i (by omega)] at this
  simp only[ltOf,decide_eq_false_iff_not] at this
  have hneg:=h.ord.neg d'[i].1.1 d'[j].1.1
  simp only[List.getElem_map,Array.getElem_toList,wy,decide_eq_true_eq]
  omega
 have hres:=h.ord.RK hperm hsort
 have hlen:(gW cf l).length=l.length:=od cf l
 have hHn:HoldsK (fun x:El cells ok c.w c.M=>x.1.2) k w' blk o d':=by
  rw[hw']
  exact holdsK_sortWorldK_c _ _ _ _ _ dl.toArray d' n os hHolds hblk (by rw[hpz])
 have hput:=hS.qc (b:=b) (e:=e) (sz:=k) d (es:=(gW cf l).map fun s=> .agg (cells s)) (w':=w') (blk:=blk) (o:=o) (z:=z) (arr:=putCells id o (flatK (fun x:El cells ok c.w c.M=>x.1.2) k d') arr) hpos
  (.inr ⟨_,_,_,hcb, .inl ⟨by simp[hlen],hρ⟩⟩) (.inr ⟨_,_,_,hcb,hρ⟩) (by rw[hw'];rfl) (by rw[hw'];rfl) (by rw[hw'];rfl) (by rw[hw'];exact size_sortWorldK_c _ _ _ _ _ _ _ _) (fun q hq hne=>by rw[hw'];exact np d' hq hne) (by rw[hw'];exact vL d' harr) (by simp[putCells];exact hsz) (by simp[hlen];exact hlz) (fun hle i hi=>by
   have hi':i<d'.size:=by simpa[hlen,hdz] using hi
   have hx:=d'[i].2.2
   refine⟨.agg d'[i].1.2.toArray,⟨by simp[Value.cells,hxl],fun j hj=> ?_,fun j u hu=> ?_⟩, ?_⟩
   ·have:=(hHn.cell (i:=i) (c:=j) hi' hj).1
    rw[getElem!_pos d' i hi'] at this
    rw[this]
    have hj':j<d'[i].1.2.length:=by rw[hxl];exact hj
    simp[Value.cells,hj']
   ·simp only[Value.cells,List.getElem?_toArray] at hu
    exact hones d'[i] u (List.mem_of_getElem? hu)
   ·have e4:((gW cf l).map fun s=>AV.agg (cells s)).getD i .any= .agg (cells d'[i].1.1):=by
     rw[<-hres]
     simp[List.getD,hi']
    rw[e4,VR]
    exact⟨_,rfl,by simpa using cu.cc (xi.trans hle) hx⟩)
 obtain⟨p1,p2⟩:=hput
 have hHeq:bt ((b,some (.row e k d ((gW cf l).map fun s=> .agg (cells s))))::H)=fU c.H b (some (.row e k d ((gW cf l).map fun s=> .agg (cells s)))):=by
  have:=du H b (.row e k d ((gW cf l).map fun s=> .agg (cells s)))
  rw[hH];exact this
 refine⟨.tuple #[], .dI [],_,nx,fU c.ρ b (some (blk,o,z)),fun x=>c.U x\/x=b,rfl,⟨rfl,rfl,rfl⟩,fun x hx=>hx.elim (hU x) (fun e=>by omega), ?_, ?_, ?_⟩
 ·rw[hHeq];exact p1
 ·rw[hHeq];exact p2
 ·rw[VR];exact⟨#[],rfl,by rw[cu]⟩
end
end
theorem E5 {P:Program} {ρ:Go.Shelf.Ren} (L:SlLaysF0.n6 P ρ) (hen:jm P (ρ.f 6)) (b:Nat) (fv:AV) (H:Hp) (nx:Nat):
 cU P (ρ.f 6) [.sl b 0,fv] H nx (fun r H' n=>r= .dI []/\n=nx/\H'=H):=by
 refine⟨hen,fun w0 c vs hS hH hU hv=> ?_⟩
 rw[cu] at hv
 obtain⟨v,vs',rfl,hv,hv2⟩:=hv
 rw[cu] at hv2
 obtain⟨v2,vs2,rfl,hv2,hv3⟩:=hv2
 rw[cu] at hv3
 subst hv3
 rw[VR] at hv
 obtain⟨hUb,a,cap,rfl,hr⟩:=hv
 refine(AnyF.slices_SortFunc_none L a cap v2 c.w).mono ?_
 rintro e w' ⟨rfl,rfl⟩
 obtain⟨ρ',Hc,U,w,M0⟩:=c
 simp only at hH
 subst hH
 exact⟨.tuple #[], .dI [],H,nx,ρ',U,rfl,⟨rfl,rfl,rfl⟩,hU,hS,Cx.le.refl _,by rw[VR];exact⟨#[],rfl,by rw[cu]⟩⟩
def tO (e:cY):Prop:=e.cA.length<9223372036854775807/\e.mem.length<9223372036854775807
theorem E4:B9 Tryz.prog 96 cY.cells 3 tO eJ where
 len:=fun _=>rfl
 pos:=by omega
 fit:=fun _=>by simp
 one:=fun _=>rfl
 cmp:=fun a b ha hb=>wP a b ha.1 ha.2
 ord:=gF
theorem vK:jm Tryz.prog 95:=⟨Tryz.f95,Tryz.func95,by kernel_rfl,by kernel_rfl⟩
theorem xJ (b:Nat) (l:List cY) (hok:∀e∈l,tO e) (hl:l.length<=65536) (H:Hp) (nx:Nat) (hb:∃d,bt H b=some (.row 105 3 d (l.map cY.av))) (hlt:b<nx):
 cU Tryz.prog 95 [.sl b l.length, .fn (.func 96) [] []] H nx (fun r H' n=>(∃d,bt H' b=some (.row 105 3 d ((gW eJ l).map cY.av)))/\nx<=n/\∀y,y<nx->y≠b->bt H' y=bt H y):=by
 obtain⟨d,hb⟩:=hb
 by_cases h0:l=[]
 ·subst h0
  refine(E5 Tryz.SU vK b _ H nx).mono ?_
  rintro r H' n ⟨rfl,rfl,rfl⟩
  exact⟨⟨d,by rw[hb];simp[gW]⟩,Nat.le_refl _,fun _ _ _=>rfl⟩
 ·refine(E6 Tryz.SU (k:=3) (fun w=>cw.oZ (by kernel_rfl) w) (fun w=>cw.run_sizeOf (by kernel_rfl) w) vK (enters_of Tryz.func96 (by kernel_rfl) rfl) E4 b l hok 105 d H nx hb hlt (by omega) h0).mono ?_
  rintro r H' n ⟨rfl,rfl,rfl⟩
  exact⟨⟨d,ca _ _ _⟩,Nat.le_refl _,fun y _ hne=>cN hne⟩
end Go.Proofs.YtjopoheligmmoaaGreatDoor
namespace Go.Proofs.YtjopoheligmmoaaGreatDoor
open Go Go.cw Go.Proofs
set_option linter.unusedSimpArgs false
set_option linter.unusedVariables false
set_option maxRecDepth 8000
def mH (l:List cY):Nat->List cY
 |0=>[]
 |1=>[l.getD 0 default]
 |k+2=>if l.getD (k+1) default=l.getD k default then mH l (k+1) else mH l (k+1)++[l.getD (k+1) default]
theorem FX (l:List cY):∀k,(mH l k).length<=k
 |0=>Nat.le_refl _
 |1=>Nat.le_refl _
 |k+2=>by
  rw[mH]
  have:=FX l (k+1)
  split
  ·omega
  ·rw[List.length_append,List.length_cons,List.length_nil];omega
theorem qF (l:List cY) {k:Nat} (hk:1<=k):mH l (k+1)=if l.getD k default=l.getD (k - 1) default then mH l k else mH l k++[l.getD k default]:=by
 obtain⟨j,rfl⟩:∃j,k=j+1:=⟨k - 1,by omega⟩
 rw[mH]
 rfl
theorem hX {l:List cY} {i:Nat} (h:i<l.length) (d:AV):(l.map cY.av).getD i d=(l.getD i default).av:=cx cY.av l i d h
abbrev fI (l:List cY):AV:= .im 3 .any (l.map cY.av)
theorem iH (l:List cY):c8 0 (l.map cY.av):=(cD _ _).2 fun _ _=>by simp[cH]
theorem lL {α:Type} {l:List α} {i:Nat} {x:α} (h:i<l.length):(l.set i x).take (i+1)=l.take i++[x]:=by
 rw[List.take_succ_eq_append_getElem (by simpa using h),List.take_set_of_le (Nat.le_refl _)]
 simp
theorem MH {H:Hp} {k b len lo n:Nat} {e:TypeId} {sz:Nat} {d:AV} {es:List AV} (h:bt H b=some (.row e sz d es)) (hl:es.length=len):cw.dY H (k+1) (.sv b len lo n)= .im sz .any (((es.drop lo).take n).map (cw.dY H k)):=by
 simp only[cw.dY,h];rw[if_pos hl]
set_option maxHeartbeats 4000000 in
theorem xn (o:Nat) (l:List cY) (hl:l.length<=65536) (hok:∀e∈l,e.cA.length<9223372036854775807/\e.mem.length<9223372036854775807) (H:Hp) (nx:Nat) (ho:o<nx) (hr:∃d,bt H o=some (.row 105 3 d (l.map cY.av))):
 cU Tryz.prog 97 [.sl o l.length, .fn (.func 98) [] []] H nx (fun r H' n=>(r= .sl o l.length\/∃m,r= .sv o l.length 0 m)/\cw.dY H' 5 r=fI (mH l l.length)):=by
 obtain⟨d0,r0'⟩:=hr
 have a0:(l.map cY.av).length=l.length:=by simp
 have same:∀i j,i<l.length->j<l.length->Pure Tryz.prog 98 [(l.getD i default).av,(l.getD j default).av] (fun r=>r=bl (decide (l.getD i default=l.getD j default))):=fun i j hi hj=>by
  obtain⟨p1,p2⟩:=hok _ (cO default hi)
  have:=p9 (l.getD i default) (l.getD j default) p1 p2
  simpa only[rG] using this
 refine aJ Y8 rfl ?_
 by_cases h2:l.length<2
 ·refine cP ?_
  refine⟨.inl rfl, ?_⟩
  show cw.dY H 5 (.sl o l.length)=_
  rw[dH (k:=4) r0' (by simp),cn _ (iH l)]
  have:mH l l.length=l:=by
   match l,h2 with
   |[],_=>rfl
   |[x],_=>rfl
  rw[this]
 ·refine cP ?_
  refine aF (fun i:Nat=>[(0, .sl o l.length),(1, .fn (.func 98) [] []),(5,i64 i)]) (fun i H2 n=>1<=i/\i<=l.length/\nx<=n/\bt H2 o=some (.row 105 3 d0 (l.map cY.av))/\mH l i=l.take i) (fun i=>l.length - i) 1 cC ⟨Nat.le_refl _,by omega,cX,bu,by rw[mH];cases l with|nil=>simp at h2|cons x t=>rfl⟩ ?_
  clear r0'
  rintro i H2 n ⟨hi1,hi,hn,r0',hdd⟩
  by_cases hil:i<l.length
  ·have e0:∀d,(l.map cY.av).getD ((i:Int)).toNat d=(l.getD i default).av:=fun d=>by rw[Int.toNat_natCast];exact hX hil d
   have e1:∀d,(l.map cY.av).getD ((i:Int) - 1).toNat d=(l.getD (i - 1) default).av:=fun d=>by rw[show((i:Int) - 1).toNat=i - 1 by omega];exact hX (by omega) d
   have c0:=same i (i - 1) hil (by omega)
   have hsu:=qF l hi1
   by_cases he:l.getD i default=l.getD (i - 1) default
   ·rw[decide_eq_true he] at c0
    rw[if_pos he] at hsu
    refine cP ?_
    refine aF (fun σ:Nat×Nat×List cY=>[(0, .sl o l.length),(1, .fn (.func 98) [] []),(5,i64 σ.1),(6, .sv o l.length i (l.length - i)),(7,i64 σ.2.1)])
     (fun σ H2 n=>1<=σ.2.1/\i+σ.2.1<=l.length/\i<=σ.1/\σ.1+1<=i+σ.2.1/\σ.2.2.length=l.length/\(∀q,σ.1<=q->σ.2.2.getD q default=l.getD q default)/\σ.2.2.take σ.1=mH l (i+σ.2.1)/\nx<=n/\∃d,bt H2 o=some (.row 105 3 d (σ.2.2.map cY.av))) (fun σ=>l.length - σ.2.1) (i,1,l) cC
     ⟨Nat.le_refl _,by show i+1<=l.length;omega,Nat.le_refl _,Nat.le_refl _,rfl,fun _ _=>rfl,by dsimp only;rw[hsu,hdd],cX,⟨_,bu⟩⟩ ?_
    clear c0 e0 e1 hsu hdd r0' hn
    rintro⟨k,j,es⟩ H3 n ⟨hj1,hj,hik,hkj,hel,hsame,hdd,hn,⟨d1,r1'⟩⟩
    dsimp only at hj1 hj hik hkj hel hsame hdd r1' ⊢
    have a1:(es.map cY.av).length=l.length:=by simp[hel]
    by_cases hjl:j<l.length - i
    ·have e0:∀d,(es.map cY.av).getD (i+((j:Int)).toNat) d=(l.getD (i+j) default).av:=fun d=>by rw[Int.toNat_natCast,hX (by omega) d,hsame _ (by omega)]
     have e1:∀d,(es.map cY.av).getD (i+((j:Int) - 1).toNat) d=(l.getD (i+j - 1) default).av:=fun d=>by rw[show i+((j:Int) - 1).toNat=i+j - 1 by omega,hX (by omega) d,hsame _ (by omega)]
     have e2:∀d,(es.map cY.av).getD ((k:Int)).toNat d=(es.getD k default).av:=fun d=>by rw[Int.toNat_natCast];exact hX (by omega) d
     have c0:=same (i+j) (i+j - 1) (by omega) (by omega)
     have hsu:=qF l (k:=i+j) (by omega)
     by_cases he2:l.getD (i+j) default=l.getD (i+j - 1) default
     ·rw[decide_eq_true he2] at c0
      rw[if_pos he2] at hsu
      refine cP ?_
      exact⟨(k,j+1,es),by dsimp only;omega,cC,by dsimp only;omega,by dsimp only;omega,hik,by dsimp only;omega,hel,hsame,by dsimp only;rw[<-Nat.add_assoc,hsu];exact hdd,cX,⟨d1,bu⟩⟩
     ·rw[decide_eq_false he2] at c0
      rw[if_neg he2] at hsu
      refine cP ?_
      refine⟨(k+1,j+1,es.set k (l.getD (i+j) default)),by dsimp only;omega,cC,by dsimp only;omega,by dsimp only;omega,by dsimp only;omega,by dsimp only;omega,by simp[hel],fun q hq=> ?_, ?_,cX,⟨d1,by dsimp only;rw[List.map_set];exact bu⟩⟩
      ·have hq:k+1<=q:=hq
       dsimp only
       rw[getD_set_ne (by omega)];exact hsame q (by omega)
      ·dsimp only
       rw[<-Nat.add_assoc,hsu,lL (by omega),hdd]
    ·obtain rfl:j=l.length - i:=by omega
     rw[show i+(l.length - i)=l.length by omega] at hdd
     refine cP ?_
     refine⟨.inr ⟨_,rfl⟩, ?_⟩
     rw[Int.toNat_natCast]
     have hkl:k<=l.length:=by omega
     generalize hZ:List.replicate (l.length - k) (gO true [Value.slice none 0 0,Value.slice none 0 0,Value.bool false])=Z
     have hZl:Z.length=l.length - k:=by rw[<-hZ];simp
     show cw.dY ((o,some (.row 105 3 d1 ((es.map cY.av).take k++Z++(es.map cY.av).drop (k+(l.length - k)))))::H3) 5 (.sv o l.length 0 (k - 0))=_
     rw[MH (k:=4) (ca _ _ _) (by simp[hZl,hel];omega),List.drop_zero,Nat.sub_zero,List.append_assoc,List.take_append_of_le_length (by simp;omega),List.take_take,Nat.min_self,<-List.map_take,hdd,cn _ (iH _)]
   ·rw[decide_eq_false he] at c0
    rw[if_neg he] at hsu
    refine cP ?_
    refine⟨i+1,by omega,cC,by omega,by omega,cX,bu, ?_⟩
    rw[hsu,hdd,List.take_succ_eq_append_getElem hil,show l.getD i default=l[i] by simp[List.getD,hil]]
  ·obtain rfl:i=l.length:=by omega
   rw[List.take_length] at hdd
   refine cP ?_
   refine⟨.inl rfl, ?_⟩
   show cw.dY H2 5 (.sl o l.length)=_
   rw[dH (k:=4) r0' (by simp),cn _ (iH l),hdd]
def iG (u:bx) (l:List cV):List cY:=mH (gW eJ (dU u l l.length)) (dU u l l.length).length
noncomputable def qH (u:bx) (most:Int):AV:=if(dZ u most).1=0 then .dI [fI (iG u (dZ u most).2),i64 0] else .dI [.sc (.slice none 0 0),i64 (dZ u most).1]
theorem oH {u:bx} {l:List cV} (hr:cg u) (hf:iF u l) (hl:l.length<=65536) (k:Nat):∀e∈dU u l k,tO e:=by
 intro e he
 unfold dU at he
 obtain⟨f,hf1,hf2⟩:=List.mem_filterMap.1 he
 split at hf2
 ·cases hf2
  obtain⟨i,hi,rfl⟩:=List.mem_iff_getElem.1 (List.mem_of_mem_take hf1)
  obtain⟨h1,h2⟩:=hf.ok i hi
  rw[show l.getD i default=l[i] by simp[List.getD,hi]] at h1 h2
  have:=h1.ml
  have:=hr.oh
  refine⟨?_, ?_⟩
  ·show l[i].m.cA.length<_;omega
  ·show l[i].m.mem.length<_;omega
 ·cases hf2
set_option maxHeartbeats 2000000 in
theorem HR (u:bx) (hu:u.Wf) (most:Int):Pure Tryz.prog 54 [u.av,i64 most] (fun r=>r=qH u most):=by
 refine cp ?_ (by unfold qH;split<;>simp[cH,c8,cD])
 refine aJ Y3 rfl ?_
 by_cases hr:cg u
 ·by_cases hm:1<=most/\most<=65536
  ·unfold qH
   rw[mB hr hm]
   refine cP ?_
   let l:=(gP u most.toNat).getD []
   let I:Nat->Hp->Prop:=fun k H=>(∃d,bt H 0=some (.row 25 3 d [u.av]))/\(∃d,bt H 3=some (.row 41 1 d [.sl 7 (dU u l k).length]))/\(∃d,bt H 7=some (.row 105 3 d ((dU u l k).map cY.av)))
   refine aG (R:=fun r H n=>8<=n/\ye u most I r H) (LI (b:=3) 105 3 (by omega) (by omega) (d:=gO false [.slice none 0 0]) (te:=41) ?_ fun H2 q1 q2 q3=> ?_) ?_
   ·exact bu
   ·refine(tZ u hu hr most hm _ [.pt 0 1 0 0, .pt 3 1 0 0] H2 8 I ?_ ?_ ?_).mono fun r H n h=>⟨h.1,h.short⟩
    ·exact⟨⟨_,(q3 0 (by omega) (by omega)).trans bu⟩,⟨_,q1⟩,⟨_,q2⟩⟩
    ·rintro k H H' ⟨⟨d0,p0⟩,⟨d1,p1⟩,⟨d2,p2⟩⟩ hk
     exact⟨⟨d0,(hk 0 (by omega)).trans p0⟩,⟨d1,(hk 3 (by omega)).trans p1⟩,⟨d2,(hk 7 (by omega)).trans p2⟩⟩
    ·intro l' hl' k H n hk hn ⟨p0,p1,p2⟩
     have hll:l=l':=by show(gP u most.toNat).getD []=l';rw[hl'];rfl
     rw[hll] at p1 p2
     obtain⟨hf,hlm,_⟩:=jd hu hr (by omega) hl'
     refine(FZ hr hf (by omega) hk (ub:=0) (ob:=3) (o:=7) (by omega) (by omega) (by omega) (by omega) p0 p1 p2).mono ?_
     rintro _ H' n' ⟨s1,s2,s3,s4⟩
     obtain⟨d0,p0⟩:=p0
     refine⟨⟨⟨d0,(s4 0 (by omega) (by omega) (by omega)).trans p0⟩, ?_, ?_⟩,s3,fun y y1 y2=>s4 y y2 (by omega) (by omega)⟩
     ·rw[hll];exact s1
     ·rw[hll];exact s2
   rintro r H' n' ⟨hn,hA⟩
   revert hA
   unfold ye
   cases hs:gP u most.toNat with
   |none=>
    rintro rfl
    refine cP ?_
    exact⟨rfl⟩
   |some l'=>
    rintro⟨rfl,⟨d0,p0⟩,⟨d1,p1⟩,p2⟩
    have hll:l=l':=by show(gP u most.toNat).getD []=l';rw[hs];rfl
    rw[hll] at p1 p2
    obtain⟨hf,hlm,_⟩:=jd hu hr (by omega) hs
    have hin:=oH hr hf (by omega) l'.length
    have hlen:=kC u l' l'.length
    refine cP ?_
    refine aG (xJ 7 (dU u l' l'.length) hin (by omega) _ _ p2 cX) ?_
    rintro r H3 n3 ⟨⟨d5,r5⟩,hn3,hk3⟩
    have r6:=(hk3 3 cX (by omega)).trans p1
    have hsl:(gW eJ (dU u l' l'.length)).length=(dU u l' l'.length).length:=od _ _
    refine cP ?_
    rw[<-hsl]
    refine aG (xn 7 (gW eJ (dU u l' l'.length)) (by omega) (fun e he=>hin e ((mZ _ _).mem_iff.1 he)) _ _ cX ⟨d5,r5⟩) ?_
    rintro r H4 n4 ⟨hform,hfz⟩
    rcases hform with rfl|⟨m,rfl⟩
    all_goals
     refine cP ?_
     refine⟨?_⟩
     dsimp only
     rw[if_pos rfl]
     show AV.dI [cw.dY H4 5 _,i64 0]=_
     rw[hfz,hsl]
     rfl
  ·unfold qH
   rw[jL hr hm]
   refine cP ?_
   refine aG (wE u hu hr most hm _ _ _ _) ?_
   rintro r H' n' ⟨rfl,hn,hk⟩
   refine cP ?_
   exact⟨rfl⟩
 ·unfold qH
  rw[lV hr]
  refine cP ?_
  refine aG (FO u hu hr most _ _ _ _) ?_
  rintro r H' n' ⟨rfl,hn,hk⟩
  refine cP ?_
  exact⟨rfl⟩
instance ZY (n:Int):Decidable (ee n):=inferInstanceAs (Decidable (_/\_))
end Go.Proofs.YtjopoheligmmoaaGreatDoor
namespace Go.Proofs.YtjopoheligmmoaaGreatDoor
open Go Go.cw Go.Proofs Go.RowKit Go.ChangeShapes Go.WideShapes Go.ChangeAt
set_option linter.unusedSimpArgs false
set_option linter.unusedVariables false
theorem own:ownKnob Tryz.prog.godebug=none:=by kernel_rfl
theorem laidOut:laidOutB Tryz.prog=true:=by kernel_rfl
theorem NL {n:Int} (h:(Lit.int .i64 n).wf=true):ee n:=by
 simp only[Lit.wf,Bool.and_eq_true,decide_eq_true_eq] at h
 have e1:IntKind.i64.min=-9223372036854775808:=by decide
 have e2:IntKind.i64.max=9223372036854775807:=by decide
 unfold ee
 omega
theorem GB {n:Int} (h:(Lit.int .u8 n).wf=true):0<=n/\n<256:=by
 simp only[Lit.wf,Bool.and_eq_true,decide_eq_true_eq] at h
 have e1:IntKind.u8.min=0:=by decide
 have e2:IntKind.u8.max=255:=by decide
 omega
theorem e8 {t:TypeId} (ht:Tryz.prog.underlying t=some (.int .i64)):fC Tryz.prog t (fun n:Int=>[i64 n]) ee:=(ri ht).map (fun n=>n) (fun _ _=>rfl) fun _ h=>NL h
theorem xD:fC Tryz.prog 63 jz.cells jz.Wf:=by
 refine fC.map (α:=Bool×Int×Int×Unit) (fun p=>(⟨p.1,p.2.1,p.2.2.1⟩:jz))
  (iw (k:=3) Tryz.underlying63 (by kernel_rfl) (dO (k:=1) rfl (by kernel_rfl) (D0 Tryz.underlying4) (dO (k:=1) rfl (by kernel_rfl) (e8 Tryz.underlying3) (dO (k:=1) rfl (by kernel_rfl) (e8 Tryz.underlying2) kL)))) ?_ ?_
 ·intro a _;rfl
 ·intro a h;exact⟨h.2.1,h.2.2.1⟩
theorem D2:fC Tryz.prog 65 Node.cells Node.Wf:=by
 refine fC.map (α:=Int×Int×Int×Int×jz×jz×Int×Int×Int×Unit) (fun p=>(⟨p.1,p.2.1,p.2.2.1,p.2.2.2.1,p.2.2.2.2.1,p.2.2.2.2.2.1,p.2.2.2.2.2.2.1,p.2.2.2.2.2.2.2.1,p.2.2.2.2.2.2.2.2.1⟩:Node))
  (iw (k:=13) Tryz.underlying65 (by kernel_rfl) (dO (k:=1) rfl (by kernel_rfl) (ri Tryz.underlying51) (dO (k:=1) rfl (by kernel_rfl) (ri Tryz.underlying61) (dO (k:=1) rfl (by kernel_rfl) (e8 Tryz.underlying3) (dO (k:=1) rfl (by kernel_rfl) (e8 Tryz.underlying3) (dO (k:=3) rfl (by kernel_rfl) xD (dO (k:=3) rfl (by kernel_rfl) xD (dO (k:=1) rfl (by kernel_rfl) (e8 Tryz.underlying3) (dO (k:=1) rfl (by kernel_rfl) (e8 Tryz.underlying3) (dO (k:=1) rfl (by kernel_rfl) (e8 Tryz.underlying3) kL)))))))))) ?_ ?_
 ·intro a _;rfl
 ·intro a h
  obtain⟨h1,h2,h3,h4,h5,h6,h7,h8,h9,_⟩:=h
  exact⟨GB h1,GB h2,h3,h4,h5,h6,h7,h8,h9⟩
theorem D1:fC Tryz.prog 85 Decl.cells Decl.Wf:=by
 refine fC.map (α:=ByteArray×Int×Int×Unit) (fun p=>(⟨p.1,p.2.1,p.2.2.1⟩:Decl))
  (iw (k:=3) Tryz.underlying85 (by kernel_rfl) (dO (k:=1) rfl (by kernel_rfl) (q8 Tryz.underlying9) (dO (k:=1) rfl (by kernel_rfl) (e8 Tryz.underlying2) (dO (k:=1) rfl (by kernel_rfl) (e8 Tryz.underlying3) kL)))) ?_ ?_
 ·intro a _;rfl
 ·intro a h;exact⟨h.1,h.2.1,h.2.2.1⟩
theorem AY:fC Tryz.prog 58 (fun l:List Node=>[jh l]) (fun l=>(∀x∈l,x.Wf)/\l.length * 88<=140737488351232):=by
 have hb:Tryz.prog.bytesOf 65=96:=by kernel_rfl
 refine(nb (ag:=true) (sz:=13) .any Tryz.underlying58 (by kernel_rfl) (by omega) D2 (fun _=>rfl) (fun _ _=>rfl) (fun h=>by cases h)).map (fun l=>l) (fun _ _=>rfl) ?_
 rintro l ⟨h1,h2⟩
 rw[hb] at h2
 have hr:reachBytes=140737488351232:=rfl
 exact⟨h1,by omega⟩
theorem AX:fC Tryz.prog 60 cG.cells cG.Wf:=by
 refine fC.map (α:=ByteArray×Int×Int×List Node×Unit) (fun p=>(⟨p.1,p.2.1,p.2.2.1,p.2.2.2.1⟩:cG))
  (iw (k:=4) Tryz.underlying60 (by kernel_rfl) (dO (k:=1) rfl (by kernel_rfl) (q8 Tryz.underlying9) (dO (k:=1) rfl (by kernel_rfl) (e8 Tryz.underlying3) (dO (k:=1) rfl (by kernel_rfl) (e8 Tryz.underlying3) (dO (k:=1) rfl (by kernel_rfl) AY kL))))) ?_ ?_
 ·intro a _;rfl
 ·intro a h
  obtain⟨h1,h2,h3,⟨h4,h5⟩,_⟩:=h
  exact⟨h1,h2,h3,h4,h5⟩
theorem sV:fC Tryz.prog 22 (fun l:List Decl=>[cF l]) (fun l=>(∀x∈l,x.Wf)/\l.length * 32<=140737488351232):=by
 have hb:Tryz.prog.bytesOf 85=32:=by kernel_rfl
 refine(nb (ag:=true) (sz:=3) .any Tryz.underlying22 (by kernel_rfl) (by omega) D1 (fun _=>rfl) (fun _ _=>rfl) (fun h=>by cases h)).map (fun l=>l) (fun _ _=>rfl) ?_
 rintro l ⟨h1,h2⟩
 rw[hb] at h2
 exact⟨h1,h2⟩
theorem yH:fC Tryz.prog 23 (fun l:List cG=>[cZ l]) (fun l=>(∀x∈l,x.Wf)/\l.length * 56<=140737488351232):=by
 have hb:Tryz.prog.bytesOf 60=56:=by kernel_rfl
 refine(nb (ag:=true) (sz:=4) .any Tryz.underlying23 (by kernel_rfl) (by omega) AX (fun _=>rfl) (fun _ _=>rfl) (fun h=>by cases h)).map (fun l=>l) (fun _ _=>rfl) ?_
 rintro l ⟨h1,h2⟩
 rw[hb] at h2
 exact⟨h1,h2⟩
theorem D3:fC Tryz.prog 25 bx.cells bx.Wf:=by
 refine fC.map (α:=List Decl×List Decl×List cG×Unit) (fun p=>(⟨p.1,p.2.1,p.2.2.1⟩:bx))
  (iw (k:=3) Tryz.underlying25 (by kernel_rfl) (dO (k:=1) rfl (by kernel_rfl) sV (dO (k:=1) rfl (by kernel_rfl) sV (dO (k:=1) rfl (by kernel_rfl) yH kL)))) ?_ ?_
 ·intro a _;rfl
 ·intro a h
  obtain⟨⟨h1,h2⟩,⟨h3,h4⟩,⟨h5,h6⟩,_⟩:=h
  exact⟨h1,h2,h3,h4,h5,h6⟩
structure cY.Wf (e:cY):Prop where
 cA:(∀p∈e.cA,ee p.cr/\ee p.word)/\e.cA.length * 16<=140737488351232
 mem:(∀x∈e.mem,ee x)/\e.mem.length * 8<=140737488351232
abbrev AE:List (String×DataW Unit):=[("math/bits.deBruijn32tab",Rows.laid_math_bits_deBruijn32tab)]
def BQ:List Nat:=[0,1,28,2,29,14,24,3,30,22,20,15,25,17,4,8,31,27,13,23,21,19,16,7,26,12,18,6,11,5,10,9]
theorem aAE:Tryz.prog.globalNamed "math/bits.deBruijn32tab" =some 0:=by kernel_rfl
theorem aBA:(Tryz.prog.globals[0]?).map (·.type)=some 229:=by kernel_rfl
theorem LW (os:Os) (args:Array Value):laidMetH Tryz.prog AE ((World.doorLaid Tryz.prog 400 os).forCall (fun _ _=>0) ⟨#[],args,[]⟩).memory:=
 laidMetH_of_parts3 (fuel:=8) (laidMet_of_run' 8 (by kernel_rfl) (by kernel_rfl)) (by kernel_rfl) (by kernel_rfl)
theorem Q4 {W:World} (h:laidMetH Tryz.prog AE W):yg W emp:=by
 rw[MakeChecks.laidMetH_plain _ _ _ (by kernel_rfl)] at h
 obtain⟨ps,⟨g0,t0,cs0,f0,p0,q0,hg0,ht0,hv0,hd0,_⟩,_,_⟩:=h
 obtain rfl:=Option.some.inj (aAE.symm.trans hg0)
 obtain rfl:=Option.some.inj (aBA.symm.trans ht0)
 obtain⟨xs,m1,rfl,hx1,hlen,hn3,hel⟩:=DataW.trod_array Tryz.underlying229 hd0
 have c5:Tryz.prog.cellsOf 5=1:=by kernel_rfl
 simp only[Prod.mk.injEq] at hx1
 obtain⟨hx1,_⟩:=hx1
 have hx2:xs.map (·.1)=BQ.map fun n:Nat=>DataW.lit (Lit.int .u8 (n:Int)):=by
  have h9:(DataW.agg (BQ.map fun n:Nat=>DataW.lit (Lit.int .u8 (n:Int))):DataW Unit)= .agg (xs.map (·.1)):=hx1
  exact(DataW.agg.inj h9).symm
 have key:∀j,j<32->W.cell? ⟨0,j,none⟩=some (.int .u8 (([0,1,28,2,29,14,24,3,30,22,20,15,25,17,4,8,31,27,13,23,21,19,16,7,26,12,18,6,11,5,10,9]:List Nat).getD j 0)):=by
  intro j hj
  have hjx:j<xs.length:=by omega
  have h0:=hel j hj
  rw[List.getElem?_eq_getElem hjx,c5] at h0
  obtain⟨k,e1,e2,_⟩:=DataW.trod_int Tryz.underlying5 h0
  have hc:=World.var?_cell hg0 hv0 j
  have qq:cs0.toList[j]?=some (.int .u8 k):=by
   have:((cs0.toList.drop (j * 1)).take 1)[0]?=some (.int .u8 k):=by rw[e1];rfl
   simpa[List.getElem?_take,List.getElem?_drop] using this
  rw[hc,<-Array.getElem?_toList,qq]
  have hxj:(xs.map (·.1))[j]?=some (.lit (.int .u8 k)):=by
   rw[List.getElem?_map,List.getElem?_eq_getElem hjx,e2];rfl
  have htl:BQ.length=32:=rfl
  rw[hx2,List.getElem?_map,List.getElem?_eq_getElem (by omega)] at hxj
  simp only[Option.map_some,Option.some.injEq,DataW.lit.injEq,Lit.int.injEq,true_and] at hxj
  rw[<-hxj,List.getD,List.getElem?_eq_getElem (by omega)];rfl
 refine⟨fun _ h=>h.elim,fun t ht=> ?_⟩
 have ht:t=(0,BQ):=by simpa[UT,BQ] using ht
 subst ht
 refine⟨fun h=>h.elim,World.block_lt_of_cell? W ⟨0,0,none⟩ (key 0 (by omega)),fun j hj=>key j hj⟩
end Go.Proofs.YtjopoheligmmoaaGreatDoor
namespace Go.Proofs.YtjopoheligmmoaaGreatDoor
open Go Go.cw Go.Proofs
set_option linter.unusedSimpArgs false
set_option linter.unusedVariables false
def NN (g:cG) (i:Nat):List Int:=(eK g).1.getD i []
structure nz (u:bx) (m:MS):Prop where
 qD:∀t,t<u.bw.length->nB (u.gr t) (-1) (m.at_.getD t 0)
 nd:∀t,t<u.bw.length->(NN (u.gr t) (m.at_.getD t 0).toNat).Nodup
 own:∀t,t<u.bw.length->∀x:Int,0<=x->x<u.cB.length->(m.hold.getD x.toNat 0=t↔x∈NN (u.gr t) (m.at_.getD t 0).toNat)
theorem ua {u:bx} {g:cG} (hk:ef u g):PD g (NN g):=(l7 hk.whole hk.held).2.2.1
theorem yB {u:bx} {g:cG} (hk:ef u g) (i:Nat):∀x∈NN g i,0<=x/\x<u.cB.length:=F7 hk i
theorem yD (u:bx) {t:Nat} (ht:t<u.bw.length):(cz u).at_.getD t 0=0:=by simp[cz,List.getD,ht]
theorem JC (u:bx) {x:Nat} (hx:x<u.cB.length):(cz u).hold.getD x 0=-1:=by simp[cz,List.getD,hx]
theorem nz.new {u:bx} (hr:cg u):nz u (cz u) where
 qD:=fun t ht=>by rw[yD u ht];exact .zero
 nd:=fun t ht=>by
  rw[yD u ht,show(0:Int).toNat=0 from rfl,(ua (hr.gr ht)).zero];exact List.nodup_nil
 own:=fun t ht x h0 h1=>by
  rw[yD u ht,show(0:Int).toNat=0 from rfl,(ua (hr.gr ht)).zero,JC u (by omega)]
  constructor
  ·intro h;omega
  ·intro h;cases h
theorem xZ {m:MS} {t:Nat} {n:Node} (hk:1<=n.kind/\n.kind<10) (h9:n.kind≠9):(m.act t n).2.1∈n.gh:=by
 unfold Node.gh
 rw[if_neg h9]
 by_cases h8:n.kind=8
 ·rw[if_pos h8]
  unfold MS.act
  rw[if_neg (by omega),if_neg (by omega),if_neg (by omega),if_neg (by omega),if_neg (by omega),if_neg (by omega),if_neg (by omega)]
  dsimp only
  split<;>simp
 ·rw[if_neg h8]
  have:(m.act t n).2.1=n.next:=by
   unfold MS.act
   by_cases h1:n.kind=1
   ·rw[if_pos h1]
   rw[if_neg h1]
   by_cases h2:n.kind=2
   ·rw[if_pos h2]
   rw[if_neg h2]
   by_cases h3:n.kind=3
   ·rw[if_pos h3]
   rw[if_neg h3]
   by_cases h4:n.kind=4
   ·rw[if_pos h4]
   rw[if_neg h4]
   by_cases h5:n.kind=5
   ·rw[if_pos h5]
   rw[if_neg h5]
   by_cases h6:n.kind=6
   ·rw[if_pos h6]
   rw[if_neg h6]
   rw[if_pos (by omega)]
  rw[this];simp
theorem yq (m:MS) (t:Nat) (n:Node):(m.act t n).1.hold=if n.kind=5 then m.hold.set n.cI.toNat t else if n.kind=6 then m.hold.set n.cI.toNat (-1) else m.hold:=by
 unfold MS.act
 by_cases h1:n.kind=1
 ·rw[if_pos h1,if_neg (by omega),if_neg (by omega)];rfl
 rw[if_neg h1]
 by_cases h2:n.kind=2
 ·rw[if_pos h2,if_neg (by omega),if_neg (by omega)];rfl
 rw[if_neg h2]
 by_cases h3:n.kind=3
 ·rw[if_pos h3,if_neg (by omega),if_neg (by omega)]
 rw[if_neg h3]
 by_cases h4:n.kind=4
 ·rw[if_pos h4,if_neg (by omega),if_neg (by omega)];rfl
 rw[if_neg h4]
 by_cases h5:n.kind=5
 ·rw[if_pos h5,if_pos h5]
 rw[if_neg h5,if_neg h5]
 by_cases h6:n.kind=6
 ·rw[if_pos h6,if_pos h6]
 rw[if_neg h6,if_neg h6]
 split<;>rfl
theorem gK {u:bx} {g:cG} {n:Node} (h:pC u g n) (hk:n.kind=5\/n.kind=6):0<=n.cI/\n.cI<u.cB.length:=by
 have:=h.cI.1 (by unfold ej;exact decide_eq_true (by omega))
 rw[if_pos hk] at this
 exact this
theorem l8 {u:bx} {m:MS} (h:eN u m) {k:Int} (hk:0<=k/\k<u.cB.length) (w:Int) {x:Int} (hx:0<=x):(m.hold.set k.toNat w).getD x.toNat 0=if x=k then w else m.hold.getD x.toNat 0:=by
 by_cases e:x=k
 ·subst e
  rw[if_pos rfl,eM (by rw[h.hl];omega)]
 ·rw[if_neg e,getD_set_ne (by omega)]
theorem nz.step {u:bx} {m:MS} {t:Nat} (hr:cg u) (h:eN u m) (hi:nz u m) (ht:t<u.bw.length) (hb:m.jR u t=0):nz u (m.step u t).1:=by
 obtain⟨h9,hbar⟩:=jW h ht hb
 have hno:=h.node hr ht
 have hc:=hi.qD t ht
 have hlk:=ua (hr.gr ht)
 have hj:=xZ (m:=m) (t:=t) hno.kind h9
 have hhold:(m.step u t).1.hold=(m.act t (m.node u t)).1.hold:=rfl
 have hat:(m.step u t).1.at_=m.at_.set t (m.act t (m.node u t)).2.1:=rfl
 rw[yq] at hhold
 obtain⟨now,n1,n2⟩:=hlk.on _ hc
 have hnx:=n2 _ hj
 have hcj:nB (u.gr t) (-1) (m.act t (m.node u t)).2.1:= .step hc (by have:=(h.iS t ht).1;omega) hj
 generalize (m.act t (m.node u t)).2.1=j at *
 have a1:(m.step u t).1.at_.getD t 0=j:=by rw[hat,eM (by rw[h.nG];exact ht)]
 have a2:∀s,s≠t->(m.step u t).1.at_.getD s 0=m.at_.getD s 0:=fun s hs=>by rw[hat,getD_set_ne (fun e=>hs e.symm)]
 change dM (m.node u t) _=_ at n1
 have ho:=hi.own t ht
 have hnd:=hi.nd t ht
 generalize hl:NN (u.gr t) (m.at_.getD t 0).toNat=l at *
 have key:(NN (u.gr t) j.toNat).Nodup/\(∀x:Int,0<=x->x<u.cB.length->((m.step u t).1.hold.getD x.toNat 0=t↔x∈NN (u.gr t) j.toNat))/\∀s:Nat,s≠t->s<u.bw.length->∀x:Int,0<=x->x<u.cB.length->((m.step u t).1.hold.getD x.toNat 0=s↔m.hold.getD x.toNat 0=s):=by
  rw[hnx,hhold]
  generalize m.node u t=n at *
  unfold dM at n1
  by_cases h5:n.kind=5
  ·obtain⟨x0,x1⟩:=gK hno (.inl h5)
   have hfree:m.hold.getD n.cI.toNat 0<0:=by
    have:=fun e=>hbar ⟨h5,e⟩
    omega
   rw[if_pos h5] at n1
   cases n1
   rw[if_pos h5]
   have hnot:n.cI∉l:=fun e=>by
    have:=(ho _ x0 x1).2 e
    omega
   refine⟨List.nodup_append.2 ⟨hnd,by simp,fun a ha b hb=>by
    simp only[List.mem_cons,List.not_mem_nil,or_false] at hb
    subst hb
    exact fun e=>hnot (e▸ha)⟩,fun x hx0 hx1=> ?_,fun s hs hsl x hx0 hx1=> ?_⟩
   ·rw[l8 h ⟨x0,x1⟩ _ hx0]
    by_cases e:x=n.cI
    ·rw[if_pos e];simp[e]
    ·rw[if_neg e,ho x hx0 hx1];simp[e]
   ·rw[l8 h ⟨x0,x1⟩ _ hx0]
    by_cases e:x=n.cI
    ·rw[if_pos e,e]
     constructor
     ·intro h2;exfalso;omega
     ·intro h2;exfalso;omega
    ·rw[if_neg e]
  ·rw[if_neg h5] at n1 ⊢
   by_cases h6:n.kind=6
   ·obtain⟨x0,x1⟩:=gK hno (.inr h6)
    rw[if_pos h6] at n1 ⊢
    split at n1
    ·rename_i hc2
     obtain⟨ys,rfl⟩:=List.getLast?_eq_some_iff.1 hc2.2
     cases n1
     rw[List.dropLast_concat]
     have hnd2:=List.nodup_append.1 hnd
     have hnot:n.cI∉ys:=fun e=>hnd2.2.2 _ e _ (by simp) rfl
     have hmine:=(ho _ x0 x1).2 (by simp)
     refine⟨hnd2.1,fun x hx0 hx1=> ?_,fun s hs hsl x hx0 hx1=> ?_⟩
     ·rw[l8 h ⟨x0,x1⟩ _ hx0]
      by_cases e:x=n.cI
      ·rw[if_pos e]
       constructor
       ·intro h2;omega
       ·intro h2;rw[e] at h2;exact absurd h2 hnot
      ·rw[if_neg e,ho x hx0 hx1];simp[e]
     ·rw[l8 h ⟨x0,x1⟩ _ hx0]
      by_cases e:x=n.cI
      ·rw[if_pos e,e]
       constructor
       ·intro h2;omega
       ·intro h2;exfalso;omega
      ·rw[if_neg e]
    ·cases n1
   ·rw[if_neg h6,if_neg h9] at n1
    rw[if_neg h6]
    cases n1
    exact⟨hnd,ho,fun _ _ _ _ _ _=>Iff.rfl⟩
 obtain⟨k1,k2,k3⟩:=key
 refine⟨fun s hs=> ?_,fun s hs=> ?_,fun s hs x hx0 hx1=> ?_⟩
 ·by_cases e:s=t
  ·rw[e,a1];exact hcj
  ·rw[a2 s e];exact hi.qD s hs
 ·by_cases e:s=t
  ·rw[e,a1];exact k1
  ·rw[a2 s e];exact hi.nd s hs
 ·by_cases e:s=t
  ·rw[e,a1];exact k2 x hx0 hx1
  ·rw[a2 s e,k3 s e hs x hx0 hx1];exact hi.own s hs x hx0 hx1
def iK (u:bx) (m:MS):List Int->MS
 |[]=>m
 |t::r=>iK u (if m.jR u t=0 then(m.step u t.toNat).1 else m) r
structure ve (u:bx) (m:MS):Prop where
 ok:eN u m
 inv:nz u m
theorem ve.step {u:bx} {m:MS} (hu:u.Wf) (hr:cg u) (h:ve u m) {t:Nat} (ht:t<u.bw.length) (hb:m.jR u t=0):ve u (m.step u t).1:=
 ⟨tJ hu hr h.ok ht (jW h.ok ht hb).1,h.inv.step hr h.ok ht hb⟩
theorem CG {u:bx} {m:MS} (h:eN u m) {t:Int} (hb:m.jR u t=0):∃k:Nat,t=k/\k<u.bw.length:=by
 by_cases e:t<0\/(m.at_.length:Int)<=t
 ·rw[xh e] at hb;cases hb
 ·rw[h.nG] at e
  exact⟨t.toNat,by omega,by omega⟩
theorem ve.one {u:bx} {m:MS} (hu:u.Wf) (hr:cg u) (h:ve u m) (t:Int):ve u (if m.jR u t=0 then(m.step u t.toNat).1 else m):=by
 split
 ·rename_i hb
  obtain⟨k,rfl,hk⟩:=CG h.ok hb
  exact h.step hu hr hk hb
 ·exact h
theorem ve.JJ {u:bx} (hu:u.Wf) (hr:cg u):∀{w:List Int} {m:MS},ve u m->ve u (iK u m w)
 |[],m,h=>h
 |t::r,m,h=>ve.JJ hu hr (w:=r) (h.one hu hr t)
theorem rj (u:bx):∀(a b:List Int) (m:MS),iK u m (a++b)=iK u (iK u m a) b
 |[],b,m=>rfl
 |t::r,b,m=>rj u r b _
theorem ve.new {u:bx} (hu:u.Wf) (hr:cg u):ve u (cz u):=⟨GG u hr (fun d hd=>(hu.shared d hd).word) fun t ht=>(hr.gr ht).len.1, .new hr⟩
section
def ep (u:bx) (m:MS) (t:Int):Int:=if(m.node u t.toNat).kind=5 then m.hold.getD (m.node u t.toNat).cI.toNat 0 else -1
def lH (h:Int->Int) (first:Int):Nat->List Int->Int->Option (List Int)
 |0,out,t=>if t=first then some out else none
 |f+1,out,t=>if t=first then some out else if t<0\/t∈out then none else lH h first f (out++[t]) (h t)
def lI (h:Int->Int) (n:Nat) (first:Int):Option (List Int):=lH h first n [first] (h first)
def jQ (u:bx) (m:MS):Nat->Option (List Int)
 |0=>none
 |k+1=>match jQ u m k with
  |some l=>some l
  |none=>lI (ep u m) u.bw.length (k:Int)
def u5 (u:bx) (m:MS):Option (List Int):=jQ u m u.bw.length
structure pD (h:Int->Int) (l:List Int):Prop where
 pos:0<l.length
 nd:l.Nodup
 on:∀i,i<l.length->h (l.getD i 0)=l.getD ((i+1)%l.length) 0
 nn:∀x∈l,0<=x
theorem fF {α:Type} {l r:List α} {i:Nat} (d:α) (h:i<l.length):(l++r).getD i d=l.getD i d:=by simp[List.getD,List.getElem?_append,h]
theorem fg {α:Type} {l:List α} {x d:α}:(l++[x]).getD l.length d=x:=by simp[List.getD]
theorem uq {l:List Int} (h:l.Nodup) {i j:Nat} (hi:i<l.length) (hj:j<l.length) (e:l.getD i 0=l.getD j 0):i=j:=by
 have h1:l.getD i 0=l[i]:=by simp[List.getD,hi]
 have h2:l.getD j 0=l[j]:=by simp[List.getD,hj]
 rw[h1,h2] at e
 exact(List.getElem_inj h).1 e
theorem iJ:∀(n:Nat) (l:List Int),l.Nodup->(∀x∈l,0<=x/\x<n)->l.length<=n
 |0,[],_,_=>Nat.le_refl _
 |0,x::r,_,h=>by have:=h x (by simp);omega
 |n+1,l,hn,h=>by
  by_cases hm:(n:Int)∈l
  ·have h1:=iJ n (l.erase n) (hn.erase _) fun x hx=>by
    have h2:=(hn.mem_erase_iff).1 hx
    have h3:=h x h2.2
    exact⟨h3.1,by have:=h2.1;omega⟩
   rw[List.length_erase_of_mem hm] at h1
   omega
  ·have:=iJ n l hn fun x hx=>by
    have h3:=h x hx
    exact⟨h3.1,by
     have:x≠n:=fun e=>hm (e▸hx)
     omega⟩
   omega
structure kz (h:Int->Int) (first:Int) (out:List Int):Prop where
 pos:0<out.length
 zero:out.getD 0 0=first
 nd:out.Nodup
 on:∀i,i+1<out.length->h (out.getD i 0)=out.getD (i+1) 0
 nn:∀x∈out,0<=x
theorem kz.one {h:Int->Int} {first:Int} (h0:0<=first):kz h first [first]:=
 ⟨by simp,rfl,by simp,fun i hi=>by simp at hi,fun x hx=>by simp only[List.mem_cons,List.not_mem_nil,or_false] at hx;omega⟩
theorem kz.more {h:Int->Int} {first t:Int} {out:List Int} (g:kz h first out) (ht:t=h (out.getD (out.length - 1) 0)) (h0:0<=t) (hn:t∉out):kz h first (out++[t]):=by
 have hp:=g.pos
 refine⟨by simp,by rw[fF 0 hp];exact g.zero,List.nodup_append.2 ⟨g.nd,by simp,fun a ha b hb=>by
  simp only[List.mem_cons,List.not_mem_nil,or_false] at hb
  subst hb
  exact fun e=>hn (e▸ha)⟩,fun i hi=> ?_,fun x hx=> ?_⟩
 ·rw[List.length_append,List.length_cons,List.length_nil] at hi
  rw[fF 0 (by omega)]
  by_cases e:i+1=out.length
  ·rw[e,fg,ht];congr 2;omega
  ·rw[fF 0 (by omega)];exact g.on i (by omega)
 ·rcases List.mem_append.1 hx with hx|hx
  ·exact g.nn x hx
  ·simp only[List.mem_cons,List.not_mem_nil,or_false] at hx;omega
theorem kz.ring {h:Int->Int} {first:Int} {out:List Int} (g:kz h first out) (ht:h (out.getD (out.length - 1) 0)=first):pD h out:=by
 have hp:=g.pos
 refine⟨hp,g.nd,fun i hi=> ?_,g.nn⟩
 by_cases e:i+1=out.length
 ·rw[e,Nat.mod_self,g.zero,show i=out.length - 1 by omega];exact ht
 ·rw[Nat.mod_eq_of_lt (by omega)];exact g.on i (by omega)
theorem s7 {h:Int->Int} {first:Int} {l:List Int}:∀(f:Nat) (out:List Int) (t:Int),kz h first out->t=h (out.getD (out.length - 1) 0)->lH h first f out t=some l->pD h l/\l.getD 0 0=first
 |0,out,t,g,ht,he=>by
  rw[lH] at he
  split at he
  ·rename_i e
   cases he
   exact⟨g.ring (by rw[<-ht];exact e),g.zero⟩
  ·cases he
 |f+1,out,t,g,ht,he=>by
  rw[lH] at he
  split at he
  ·rename_i e
   cases he
   exact⟨g.ring (by rw[<-ht];exact e),g.zero⟩
  ·split at he
   ·cases he
   ·rename_i e1 e2
    refine s7 f (out++[t]) (h t) (g.more ht (by omega) fun e=>e2 (.inr e)) ?_ he
    rw[List.length_append,List.length_cons,List.length_nil,Nat.add_sub_cancel,fg]
theorem s8 {h:Int->Int} {n:Nat} {first:Int} {l:List Int} (h0:0<=first) (he:lI h n first=some l):pD h l/\l.getD 0 0=first:=s7 _ _ _ (.one h0) rfl he
theorem JW {h:Int->Int} {n:Nat} {l:List Int} (hr:pD h l) (hl:l.length<=n):lI h n (l.getD 0 0)=some l:=by
 have hp:=hr.pos
 have key:∀d k f,k+d=l.length->1<=k->d<=f->lH h (l.getD 0 0) f (l.take k) (h (l.getD (k - 1) 0))=some l:=by
  intro d
  induction d with
  |zero=>
   intro k f hk h1 _
   have hk':k=l.length:=by omega
   subst hk'
   have ht:h (l.getD (l.length - 1) 0)=l.getD 0 0:=by
    rw[hr.on _ (by omega),show l.length - 1+1=l.length by omega,Nat.mod_self]
   rw[List.take_length,ht]
   cases f<;>rw[lH,if_pos rfl]
  |succ d ih=>
   intro k f hk h1 hf
   obtain⟨f,rfl⟩:∃g,f=g+1:=⟨f - 1,by omega⟩
   have ht:h (l.getD (k - 1) 0)=l.getD k 0:=by
    rw[hr.on _ (by omega),show k - 1+1=k by omega,Nat.mod_eq_of_lt (by omega)]
   have hkl:k<l.length:=by omega
   rw[ht,lH,if_neg (fun e=>by have:=uq hr.nd hkl hp e;omega),if_neg]
   ·have e:l.take k++[l.getD k 0]=l.take (k+1):=by rw[List.take_succ_eq_append_getElem hkl];simp[List.getD,hkl]
    rw[e]
    exact ih (k+1) f (by omega) (by omega) (by omega)
   ·rintro(e|e)
    ·have:=hr.nn _ (cO 0 hkl);omega
    ·obtain⟨i,hi,e2⟩:=List.getElem_of_mem e
     rw[List.length_take] at hi
     rw[List.getElem_take] at e2
     have:=uq hr.nd (i:=i) (j:=k) (by omega) hkl (by rw[<-e2];simp[List.getD,show i<l.length by omega])
     omega
 have:=key (l.length - 1) 1 n (by omega) (Nat.le_refl _) (by omega)
 have e1:l.take 1=[l.getD 0 0]:=by
  cases l with
  |nil=>simp at hp
  |cons a r=>simp[List.getD]
 rw[e1] at this
 exact this
theorem BA {h:Int->Int} {n:Nat} {S:Int->Prop} (hS:∀x,S x->0<=x/\x<n/\S (h x)) {x:Int} (hx:S x):∃l,pD h l/\∀y∈l,S y:=by
 have key:∀(f:Nat) (out:List Int),out.length+f=n+1->kz h x out->(∀y∈out,S y)->∃l,pD h l/\∀y∈l,S y:=by
  intro f
  induction f with
  |zero=>
   intro out hl g hs
   have:=iJ n out g.nd fun y hy=>⟨(hS y (hs y hy)).1,(hS y (hs y hy)).2.1⟩
   omega
  |succ f ih=>
   intro out hl g hs
   have hp:=g.pos
   have hlast:=hs _ (cO 0 (show out.length - 1<out.length by omega))
   obtain⟨l0,l1,l2⟩:=hS _ hlast
   by_cases hm:h (out.getD (out.length - 1) 0)∈out
   ·obtain⟨k,hk,e⟩:=List.getElem_of_mem hm
    have gd:∀i,(out.drop k).getD i 0=out.getD (k+i) 0:=fun i=>by simp[List.getD]
    have hdl:(out.drop k).length=out.length - k:=List.length_drop
    refine⟨out.drop k,⟨by rw[hdl];omega,g.nd.sublist (List.drop_sublist _ _),fun i hi=> ?_,fun y hy=>g.nn y (List.mem_of_mem_drop hy)⟩,fun y hy=>hs y (List.mem_of_mem_drop hy)⟩
    rw[hdl] at hi ⊢
    rw[gd,gd]
    by_cases ei:i+1=out.length - k
    ·rw[ei,Nat.mod_self,show k+i=out.length - 1 by omega,<-e]
     simp[List.getD,hk]
    ·rw[Nat.mod_eq_of_lt (by omega)]
     exact g.on _ (by omega)
   ·have h2:=hS _ l2
    exact ih _ (by rw[List.length_append,List.length_cons,List.length_nil];omega) (g.more rfl h2.1 hm) fun y hy=>by
     rcases List.mem_append.1 hy with hy|hy
     ·exact hs y hy
     ·simp only[List.mem_cons,List.not_mem_nil,or_false] at hy;subst hy;exact l2
 exact key n [x] (by simp;omega) (.one (hS x hx).1) fun y hy=>by
  simp only[List.mem_cons,List.not_mem_nil,or_false] at hy;subst hy;exact hx
section
variable {u:bx} {m:MS}
theorem wu (hr:cg u) (h:eN u m) {t:Int} (ht:0<=t/\t<u.bw.length):-1<=ep u m t/\ep u m t<u.bw.length:=by
 have hno:=h.node hr (t:=t.toNat) (by omega)
 unfold ep
 split
 ·rename_i h5
  obtain⟨x0,x1⟩:=gK hno (.inl h5)
  exact h.hw _ (cO 0 (by rw[h.hl];omega))
 ·omega
theorem DS {l:List Int} {x:Int} (h:x∈l):∃i,i<l.length/\l.getD i 0=x:=by
 obtain⟨i,hi,e⟩:=List.getElem_of_mem h
 exact⟨i,hi,by simp[List.getD,hi,e]⟩
theorem AD {k:Nat} {l:List Int} (h:jQ u m k=some l):∃t:Nat,t<k/\lI (ep u m) u.bw.length (t:Int)=some l:=by
 induction k with
 |zero=>cases h
 |succ k ih=>
  rw[jQ] at h
  split at h
  ·rename_i l' e
   cases h
   obtain⟨t,h1,h2⟩:=ih e
   exact⟨t,by omega,h2⟩
  ·exact⟨k,by omega,h⟩
theorem rU {t:Nat} {l:List Int} (hl:lI (ep u m) u.bw.length (t:Int)=some l):∀k,t<k->∃t' l',t'<=t/\jQ u m k=some l'/\lI (ep u m) u.bw.length ((t':Nat):Int)=some l'
 |0,h=>by omega
 |k+1,h=>by
  rw[jQ]
  cases e:jQ u m k with
  |some l'=>
   obtain⟨t',h1,h2⟩:=AD e
   by_cases htk:t<k
   ·obtain⟨t2,l2,g1,g2,g3⟩:=rU hl k htk
    rw[e] at g2
    cases g2
    exact⟨t2,l',g1,rfl,g3⟩
   ·exact⟨t',l',by omega,rfl,h2⟩
  |none=>
   by_cases htk:t<k
   ·obtain⟨t2,l2,g1,g2,g3⟩:=rU hl k htk
    rw[e] at g2;cases g2
   ·have:t=k:=by omega
    subst this
    exact⟨t,l,Nat.le_refl _,hl,hl⟩
structure ft (u:bx) (m:MS) (l:List Int):Prop where
 ring:pD (ep u m) l
 Z1:∀i,i<l.length->0<=l.getD i 0/\l.getD i 0<u.bw.length
theorem ft.len {l:List Int} (h:ft u m l):l.length<=u.bw.length:=iJ _ _ h.ring.nd fun x hx=>by
 obtain⟨i,hi,rfl⟩:=DS hx
 exact h.Z1 i hi
theorem DK {l:List Int} (h:ft u m l):∃b,u5 u m=some b/\(b.getD 0 0<l.getD 0 0\/b=l):=by
 obtain⟨h0,h1⟩:=h.Z1 0 h.ring.pos
 have hl:=JW h.ring h.len
 obtain⟨t,ht⟩:∃t:Nat,l.getD 0 0=t:=⟨(l.getD 0 0).toNat,by omega⟩
 rw[ht] at hl ⊢
 obtain⟨t',l',g1,g2,g3⟩:=rU hl u.bw.length (by omega)
 refine⟨l',g2, ?_⟩
 by_cases e:t'=t
 ·subst e
  rw[hl] at g3
  cases g3
  exact .inr rfl
 ·obtain⟨_,h2⟩:=s8 (by omega) g3
  rw[h2]
  exact .inl (by omega)
theorem ft.waits {l:List Int} (h:ft u m l) {t:Int} (ht:t∈l):(m.node u t.toNat).kind=5/\m.hold.getD (m.node u t.toNat).cI.toNat 0∈l:=by
 obtain⟨i,hi,rfl⟩:=DS ht
 have h1:=h.ring.on i hi
 have h2:l.getD ((i+1)%l.length) 0∈l:=cO 0 (Nat.mod_lt _ h.ring.pos)
 have h3:=h.ring.nn _ h2
 unfold ep at h1
 split at h1
 ·rename_i h5
  exact⟨h5,h1▸h2⟩
 ·omega
theorem ft.lt {l:List Int} (h:ft u m l) {t:Int} (ht:t∈l):0<=t/\t<u.bw.length:=by
 obtain⟨i,hi,rfl⟩:=DS ht
 exact h.Z1 i hi
theorem CH (h:eN u m) {t:Int} (ht:0<=t/\t<u.bw.length):m.jR u t=if(m.node u t.toNat).kind=9 then 70 else if(m.node u t.toNat).kind=5/\0<=m.hold.getD (m.node u t.toNat).cI.toNat 0 then 71 else 0:=by
 unfold MS.jR
 rw[if_neg (by have:=h.nG;omega)]
theorem ft.TB (h0:eN u m) {l:List Int} (h:ft u m l) {t:Int} (ht:t∈l):m.jR u t=71:=by
 obtain⟨h5,hh⟩:=h.waits ht
 have:=h.ring.nn _ hh
 rw[CH h0 (h.lt ht),if_neg (by omega),if_pos ⟨h5,this⟩]
theorem ft.step (hr:cg u) (h:ve u m) {l:List Int} (hk:ft u m l) {s:Nat} (hs:s<u.bw.length) (hb:m.jR u s=0):ft u (m.step u s).1 l/\∀t∈l,(m.step u s).1.at_.getD t.toNat 0=m.at_.getD t.toNat 0:=by
 have hsl:(s:Int)∉l:=fun e=>by have:=hk.TB h.ok e;omega
 have hat:∀t∈l,(m.step u s).1.at_.getD t.toNat 0=m.at_.getD t.toNat 0:=fun t ht=>by
  show(m.at_.set s _).getD t.toNat 0=_
  have:=hk.lt ht
  exact getD_set_ne fun e=>hsl (by rw[e,Int.toNat_of_nonneg this.1];exact ht)
 have hnode:∀t∈l,(m.step u s).1.node u t.toNat=m.node u t.toNat:=fun t ht=>by unfold MS.node;rw[hat t ht]
 obtain⟨h9,hbar⟩:=jW h.ok hs hb
 have hno:=h.ok.node hr hs
 have hhold:∀t∈l,(m.step u s).1.hold.getD (m.node u t.toNat).cI.toNat 0=m.hold.getD (m.node u t.toNat).cI.toNat 0:=fun t ht=>by
  obtain⟨h5,hh⟩:=hk.waits ht
  have hlt:=hk.lt ht
  have hnt:=h.ok.node hr (t:=t.toNat) (by omega)
  obtain⟨x0,x1⟩:=gK hnt (.inl h5)
  generalize hx:(m.node u t.toNat).cI=x at *
  show((m.act s (m.node u s)).1.hold).getD x.toNat 0=_
  rw[yq]
  by_cases k5:(m.node u s).kind=5
  ·obtain⟨y0,y1⟩:=gK hno (.inl k5)
   rw[if_pos k5,l8 h.ok ⟨y0,y1⟩ _ x0,if_neg]
   intro e
   rw[e] at hh
   exact hbar ⟨k5,hk.ring.nn _ hh⟩
  ·rw[if_neg k5]
   by_cases k6:(m.node u s).kind=6
   ·obtain⟨y0,y1⟩:=gK hno (.inr k6)
    rw[if_pos k6,l8 h.ok ⟨y0,y1⟩ _ x0,if_neg]
    intro e
    rw[e] at hh
    obtain⟨now,n1,_⟩:=(ua (hr.gr hs)).on _ (h.inv.qD s hs)
    change dM (m.node u s) _=_ at n1
    unfold dM at n1
    rw[if_neg k5,if_pos k6] at n1
    split at n1
    ·rename_i hc
     obtain⟨ys,hy⟩:=List.getLast?_eq_some_iff.1 hc.2
     have:=(h.inv.own s hs _ y0 y1).2 (by rw[hy];simp)
     rw[this] at hh
     exact hsl hh
    ·cases n1
   ·rw[if_neg k6]
 refine⟨⟨⟨hk.ring.pos,hk.ring.nd,fun i hi=> ?_,hk.ring.nn⟩,hk.Z1⟩,hat⟩
 have hm:=cO (0:Int) hi
 rw[<-hk.ring.on i hi]
 unfold ep
 rw[hnode _ hm]
 split
 ·exact hhold _ hm
 ·rfl
theorem ft.JJ (hu:u.Wf) (hr:cg u) {l:List Int}:∀(w:List Int) {m:MS},ve u m->ft u m l->ft u (iK u m w) l/\∀t∈l,(iK u m w).at_.getD t.toNat 0=m.at_.getD t.toNat 0
 |[],m,_,hk=>⟨hk,fun _ _=>rfl⟩
 |t::r,m,h,hk=>by
  rw[iK]
  have h1:=h.one hu hr t
  by_cases hb:m.jR u t=0
  ·rw[if_pos hb] at h1 ⊢
   obtain⟨k,rfl,hkl⟩:=CG h.ok hb
   rw[Int.toNat_natCast] at h1 ⊢
   obtain⟨g1,g2⟩:=hk.step hr h hkl hb
   obtain⟨g3,g4⟩:=ft.JJ hu hr r h1 g1
   exact⟨g3,fun s hs=>(g4 s hs).trans (g2 s hs)⟩
  ·rw[if_neg hb] at h1 ⊢
   exact ft.JJ hu hr r h1 hk
theorem FA (hr:cg u) (h:ve u m) (hall:∀t,t<u.bw.length->m.jR u (t:Nat)≠0) {t0:Nat} (ht0:t0<u.bw.length) (h70:m.jR u t0≠70):∃l,u5 u m=some l:=by
 have b71:∀t:Int,0<=t/\t<u.bw.length->m.jR u t≠70->(m.node u t.toNat).kind=5/\0<=m.hold.getD (m.node u t.toNat).cI.toNat 0:=fun t ht h7=>by
  have h0:=hall t.toNat (by omega)
  rw[Int.toNat_of_nonneg ht.1] at h0
  rw[CH h.ok ht] at h0 h7
  split at h7
  ·exact absurd rfl h7
  ·rename_i e9
   rw[if_neg e9] at h0
   split at h0
   ·assumption
   ·exact absurd rfl h0
 obtain⟨l,hl,hS⟩:=BA (h:=ep u m) (n:=u.bw.length) (S:=fun t=>0<=t/\t<u.bw.length/\m.jR u t≠70) (fun t ht=>by
  obtain⟨h5,hh⟩:=b71 t ⟨ht.1,ht.2.1⟩ ht.2.2
  have hlt:=wu hr h.ok (t:=t) ⟨ht.1,ht.2.1⟩
  have hnt:=h.ok.node hr (t:=t.toNat) (by omega)
  obtain⟨x0,x1⟩:=gK hnt (.inl h5)
  have he:ep u m t=m.hold.getD (m.node u t.toNat).cI.toNat 0:=by unfold ep;rw[if_pos h5]
  rw[he] at hlt ⊢
  refine⟨ht.1,ht.2.1,hh,hlt.2,fun e70=> ?_⟩
  generalize hx:(m.node u t.toNat).cI=x at *
  obtain⟨s,hs⟩:∃s:Nat,m.hold.getD x.toNat 0=s:=⟨(m.hold.getD x.toNat 0).toNat,by omega⟩
  rw[hs] at hlt e70
  have hmem:=(h.inv.own s (by omega) x x0 x1).1 hs
  rw[CH h.ok (by omega),Int.toNat_natCast] at e70
  split at e70
  ·rename_i h9
   obtain⟨now,n1,_⟩:=(ua (hr.gr (t:=s) (by omega))).on _ (h.inv.qD s (by omega))
   change dM (m.node u s) _=_ at n1
   unfold dM at n1
   rw[if_neg (by omega),if_neg (by omega),if_pos h9] at n1
   split at n1
   ·rename_i e;rw[e] at hmem;cases hmem
   ·cases n1
  ·split at e70<;>omega) (x:=(t0:Int)) ⟨by omega,by omega,h70⟩
 have hk:ft u m l:=⟨hl,fun i hi=>by have:=hS _ (cO 0 hi);exact⟨this.1,this.2.1⟩⟩
 obtain⟨b,hb,_⟩:=DK hk
 exact⟨b,hb⟩
end
end
theorem ui:∀(x:Nat),x<4294967296->∀k:Int,k∈bits x↔0<=k/\x.testBit k.toNat=true:=by
 intro x
 induction x using Nat.strongRecOn with
 |_ x ih=>
  intro hx k
  by_cases h0:x=0
  ·subst h0
   rw[show bits 0=[] from rfl,Nat.zero_testBit]
   simp
  ·rw[rF h0]
   obtain⟨h1,h2,h3⟩:=P7 h0 hx
   have hp:=pred_lt h0
   rw[List.mem_cons,ih _ hp (by omega),A1 h0 hx]
   constructor
   ·rintro(rfl|⟨g1,g2⟩)
    ·exact⟨by omega,by rw[Int.toNat_natCast];exact h1⟩
    ·rw[Bool.and_eq_true] at g2
     exact⟨g1,g2.1⟩
   ·rintro⟨g1,g2⟩
    by_cases e:k.toNat=ctz x
    ·exact .inl (by omega)
    ·exact .inr ⟨g1,by rw[Bool.and_eq_true];exact⟨g2,decide_eq_true e⟩⟩
def sR (g:cG) (i:Nat):List Int:=bits (hb (NN g i))
theorem DQ {u:bx} {g:cG} (hk:ef u g) (hl:u.cB.length<=16) (i:Nat):hb (NN g i)<65536:=SF (m:=16) fun k hx=>by have:=yB hk i k hx;omega
theorem QX {u:bx} {g:cG} (hk:ef u g) (hl:u.cB.length<=16) (i:Nat) (x:Int):x∈sR g i↔x∈NN g i:=by
 unfold sR
 rw[ui _ (by have:=DQ hk hl i;omega),M4,List.any_eq_true]
 constructor
 ·rintro⟨h0,y,hy,e⟩
  have:=yB hk i y hy
  have e2:=of_decide_eq_true e
  rw[show x=y by omega];exact hy
 ·intro h
  have:=yB hk i x h
  exact⟨this.1,x,h,decide_eq_true rfl⟩
structure fA where
 held:Int
 taken:Int
 cr:Int
 node:Int
 deriving Inhabited,DecidableEq
def fA.cells (e:fA):List AV:=[i64 e.held,i64 e.taken,i64 e.cr,i64 e.node]
abbrev fA.av (e:fA):AV:= .agg e.cells
abbrev xq (l:List fA):AV:= .im 4 .any (l.map fA.av)
@[simp] theorem L6 (n:Nat) (e:fA):c8 n e.cells:=by simp[fA.cells,c8,cH]
theorem HX (l:List fA):c8 0 (l.map fA.av):=(cD _ _).2 fun _ _=>by simp only[fA.av,cH];exact L6 _ _
def nP (g:cG) (t i:Nat):List fA:=if(g.nd i).kind=5 then(sR g i).map fun h=>⟨h,(g.nd i).cI,t,i⟩ else[]
def j4 (g:cG) (t:Nat):Nat->List fA
 |0=>[]
 |i+1=>j4 g t i++nP g t i
def iZ (u:bx):Nat->List fA
 |0=>[]
 |t+1=>iZ u t++j4 (u.gr t) t (u.gr t).nodes.length
def dn (u:bx):List fA:=iZ u u.bw.length
theorem pL {g:cG} {t:Nat} {e:fA}:∀{m:Nat},e∈j4 g t m↔∃i,i<m/\e∈nP g t i
 |0=>by simp[j4]
 |m+1=>by
  rw[j4,List.mem_append,pL]
  constructor
  ·rintro(⟨i,h1,h2⟩|h)
   ·exact⟨i,by omega,h2⟩
   ·exact⟨m,by omega,h⟩
  ·rintro⟨i,h1,h2⟩
   by_cases e:i=m
   ·subst e;exact .inr h2
   ·exact .inl ⟨i,by omega,h2⟩
theorem uG {u:bx} {e:fA}:∀{m:Nat},e∈iZ u m↔∃t,t<m/\e∈j4 (u.gr t) t (u.gr t).nodes.length
 |0=>by simp[iZ]
 |m+1=>by
  rw[iZ,List.mem_append,uG]
  constructor
  ·rintro(⟨i,h1,h2⟩|h)
   ·exact⟨i,by omega,h2⟩
   ·exact⟨m,by omega,h⟩
  ·rintro⟨i,h1,h2⟩
   by_cases e:i=m
   ·subst e;exact .inr h2
   ·exact .inl ⟨i,by omega,h2⟩
theorem HM {u:bx} {e:fA}:e∈dn u↔∃t i,t<u.bw.length/\i<(u.gr t).nodes.length/\((u.gr t).nd i).kind=5/\e.held∈sR (u.gr t) i/\e.taken=((u.gr t).nd i).cI/\e.cr=t/\e.node=i:=by
 unfold dn
 rw[uG]
 constructor
 ·rintro⟨t,ht,h⟩
  obtain⟨i,hi,h⟩:=pL.1 h
  unfold nP at h
  split at h
  ·rename_i h5
   obtain⟨x,hx,rfl⟩:=List.mem_map.1 h
   exact⟨t,i,ht,hi,h5,hx,rfl,rfl,rfl⟩
  ·cases h
 ·rintro⟨t,i,ht,hi,h5,hx,h1,h2,h3⟩
  refine⟨t,ht,pL.2 ⟨i,hi, ?_⟩⟩
  unfold nP
  rw[if_pos h5]
  exact List.mem_map.2 ⟨e.held,hx,by cases e;simp_all⟩
theorem zQ {u:bx} (hr:cg u) {e:fA} (h:e∈dn u):(0<=e.held/\e.held<u.cB.length)/\0<=e.taken/\e.taken<u.cB.length:=by
 obtain⟨t,i,ht,hi,h5,hx,h1,h2,h3⟩:=HM.1 h
 rw[QX (hr.gr ht) hr.oh.2.1] at hx
 rw[h1]
 exact⟨yB (hr.gr ht) i _ hx,gK ((hr.gr ht).node hi) (.inl h5)⟩
theorem CK:∀(x:Nat),x<4294967296->(bits x).Nodup:=by
 intro x
 induction x using Nat.strongRecOn with
 |_ x ih=>
  intro hx
  by_cases h0:x=0
  ·subst h0;exact List.nodup_nil
  ·have hp:=pred_lt h0
   rw[rF h0,List.nodup_cons]
   refine⟨fun h=> ?_,ih _ hp (by omega)⟩
   have:=((ui _ (by omega) _).1 h).2
   rw[A1 h0 hx,Bool.and_eq_true] at this
   exact of_decide_eq_true this.2 (by rw[Int.toNat_natCast])
theorem PQ {x:Nat} (hx:x<65536):(bits x).length<=16:=iJ 16 _ (CK x (by omega)) fun k hk=>by
 obtain⟨h1,h2⟩:=(ui _ (by omega) _).1 hk
 refine⟨h1, ?_⟩
 by_cases h:k.toNat<16
 ·omega
 ·have h3:16<=k.toNat:=by omega
  have h4:2^16<=2^k.toNat:=Nat.pow_le_pow_right (by decide) h3
  have:=Nat.testBit_lt_two_pow (x:=x) (i:=k.toNat) (by omega)
  rw[this] at h2;cases h2
theorem M7 {u:bx} {g:cG} (hk:ef u g) (hl:u.cB.length<=16) (i:Nat):(sR g i).length<=16:=PQ (DQ hk hl i)
theorem HL {u:bx} {g:cG} (hk:ef u g) (hl:u.cB.length<=16) (t i:Nat):(nP g t i).length<=16:=by
 unfold nP
 split
 ·rw[List.length_map];exact M7 hk hl i
 ·exact Nat.zero_le _
theorem rJ {u:bx} {g:cG} (hk:ef u g) (hl:u.cB.length<=16) (t:Nat):∀m,(j4 g t m).length<=16 * m
 |0=>Nat.le_refl _
 |m+1=>by
  rw[j4,List.length_append]
  have:=rJ hk hl t m
  have:=HL hk hl t m
  omega
theorem rK {u:bx} (hr:cg u):∀{m:Nat},m<=u.bw.length->(iZ u m).length<=65536 * m
 |0,_=>Nat.le_refl _
 |m+1,h=>by
  rw[iZ,List.length_append]
  have h1:=rK hr (m:=m) (by omega)
  have h2:=rJ (hr.gr (t:=m) (by omega)) hr.oh.2.1 m (u.gr m).nodes.length
  have h3:=(hr.gr (t:=m) (by omega)).len.2
  omega
section
structure oA where
 at_:Int
 from_:Int
 dep:Nat
 deriving Inhabited,DecidableEq
abbrev jN (l:List oA):List Int:=l.map oA.at_
def GR (first:Int) (k d:Nat):List Int->List oA->Option (List oA)
 |[],l=>some l
 |x::r,l=>if x=first then none else GR first k d r (if x∈jN l then l else l++[⟨x,k,d+1⟩])
def v8 (l:List oA):Nat->Int->List Int
 |0,_=>[]
 |f+1,k=>if k<0 then[] else(l.getD k.toNat default).at_::v8 l f (l.getD k.toNat default).from_
def qn (l:List oA) (k:Nat):List Int:=(v8 l (k+1) k).reverse
def zB (lead:Int->List Int) (first:Int):Nat->Nat->List oA->Option (List Int)
 |0,_,_=>none
 |f+1,k,l=>if k<l.length then(match GR first k (l.getD k default).dep (lead (l.getD k default).at_) l with
  |none=>some (qn l k)
  |some l'=>zB lead first f (k+1) l') else none
def sh (lead:Int->List Int) (n:Nat) (first:Int):Option (List Int):=zB lead first (n+1) 0 [⟨first,-1,0⟩]
structure vd (lead:Int->List Int) (c:List Int):Prop where
 pos:0<c.length
 on:∀i,i<c.length->c.getD ((i+1)%c.length) 0∈lead (c.getD i 0)
theorem lE {α:Type} {l l':List α} {d:α} (h:l<+:l') {i:Nat} (hi:i<l.length):l'.getD i d=l.getD i d:=by
 obtain⟨r,rfl⟩:=h
 exact fF d hi
structure kS (lead:Int->List Int) (first:Int) (k:Nat) (l:List oA):Prop where
 pos:0<l.length
 zero:l.getD 0 default=⟨first,-1,0⟩
 nd:(jN l).Nodup
 par:∀i,0<i->i<l.length->∃p,p<i/\p<=k/\(l.getD i default).from_=(p:Nat)/\(l.getD i default).at_∈lead (l.getD p default).at_/\(l.getD i default).dep=(l.getD p default).dep+1
 mono:∀i j,i<=j->j<l.length->(l.getD i default).dep<=(l.getD j default).dep
 nf:∀i,0<i->i<l.length->(l.getD i default).at_≠first
theorem kS.start (lead:Int->List Int) (first:Int):kS lead first 0 [⟨first,-1,0⟩] where
 pos:=by simp
 zero:=rfl
 nd:=by simp
 par:=fun i h0 hi=>by simp at hi;omega
 mono:=fun i j hij hj=>by
  simp at hj
  have:i=j:=by omega
  rw[this];exact Nat.le_refl _
 nf:=fun i h0 hi=>by simp at hi;omega
section
variable {lead:Int->List Int} {first:Int} {k:Nat} {l:List oA}
theorem kS.on (h:kS lead first k l):kS lead first (k+1) l:=
 ⟨h.pos,h.zero,h.nd,fun i h0 hi=>by obtain⟨p,h1,h2,h3⟩:=h.par i h0 hi;exact⟨p,h1,by omega,h3⟩,h.mono,h.nf⟩
theorem kS.top (h:kS lead first k l) (hk:k<l.length) {i:Nat} (hi:i<l.length):(l.getD i default).dep<=(l.getD k default).dep+1:=by
 by_cases h0:i=0
 ·subst h0;rw[h.zero];exact Nat.zero_le _
 ·obtain⟨p,h1,h2,_,_,h5⟩:=h.par i (by omega) hi
  have:=h.mono p k h2 hk
  omega
theorem kS.add (h:kS lead first k l) (hk:k<l.length) {x:Int} (hx:x∈lead (l.getD k default).at_) (hf:x≠first) (hn:x∉jN l):kS lead first k (l++[⟨x,k,(l.getD k default).dep+1⟩]):=by
 have hp:=h.pos
 refine⟨by simp,by rw[fF _ hp];exact h.zero, ?_,fun i h0 hi=> ?_,fun i j hij hj=> ?_,fun i h0 hi=> ?_⟩
 ·unfold jN
  rw[List.map_append]
  exact List.nodup_append.2 ⟨h.nd,by simp,fun a ha b hb=>by
   simp only[List.map_cons,List.map_nil,List.mem_cons,List.not_mem_nil,or_false] at hb
   subst hb
   exact fun e=>hn (e▸ha)⟩
 ·rw[List.length_append,List.length_cons,List.length_nil] at hi
  by_cases e:i=l.length
  ·subst e
   refine⟨k,hk,Nat.le_refl _, ?_⟩
   rw[fg,fF _ hk]
   exact⟨rfl,hx,rfl⟩
  ·obtain⟨p,h1,h2,h3,h4,h5⟩:=h.par i h0 (by omega)
   rw[fF _ (show i<l.length by omega)]
   refine⟨p,h1,h2,h3, ?_⟩
   rw[fF _ (show p<l.length by omega)]
   exact⟨h4,h5⟩
 ·rw[List.length_append,List.length_cons,List.length_nil] at hj
  by_cases e:j=l.length
  ·subst e
   rw[fg]
   by_cases e2:i=l.length
   ·subst e2;rw[fg];exact Nat.le_refl _
   ·rw[fF _ (show i<l.length by omega)]
    exact h.top hk (by omega)
  ·rw[fF _ (show i<l.length by omega),fF _ (show j<l.length by omega)]
   exact h.mono i j hij (by omega)
 ·rw[List.length_append,List.length_cons,List.length_nil] at hi
  by_cases e:i=l.length
  ·subst e;rw[fg];exact hf
  ·rw[fF _ (show i<l.length by omega)];exact h.nf i h0 (by omega)
theorem oR {x:Int}:x∈jN l↔∃i,i<l.length/\(l.getD i default).at_=x:=by
 constructor
 ·intro h
  obtain⟨e,he,rfl⟩:=List.mem_map.1 h
  obtain⟨i,hi,e2⟩:=List.getElem_of_mem he
  exact⟨i,hi,by simp[List.getD,hi,e2]⟩
 ·rintro⟨i,hi,rfl⟩
  exact List.mem_map.2 ⟨_,cO default hi,rfl⟩
theorem vR {d:Nat}:∀{xs:List Int} {l l':List oA},kS lead first k l->k<l.length->d=(l.getD k default).dep->(∀x∈xs,x∈lead (l.getD k default).at_)->GR first k d xs l=some l'->
 kS lead first k l'/\l<+:l'/\∀x∈xs,x≠first/\x∈jN l'
 |[],l,l',h,hk,hd,hx,he=>by rw[GR] at he;cases he;exact⟨h,List.prefix_refl _,fun x hx=>by cases hx⟩
 |x::r,l,l',h,hk,hd,hx,he=>by
  rw[GR] at he
  split at he
  ·cases he
  ·rename_i hf
   have hxr:=fun y hy=>hx y (List.mem_cons_of_mem _ hy)
   by_cases hm:x∈jN l
   ·rw[if_pos hm] at he
    obtain⟨h1,h2,h3⟩:=vR h hk hd hxr he
    refine⟨h1,h2,fun y hy=> ?_⟩
    rcases List.mem_cons.1 hy with rfl|hy
    ·refine⟨hf, ?_⟩
     obtain⟨i,hi,e⟩:=oR.1 hm
     exact oR.2 ⟨i,Nat.lt_of_lt_of_le hi h2.length_le,by rw[lE h2 hi];exact e⟩
    ·exact h3 y hy
   ·rw[if_neg hm,hd] at he
    have ha:=h.add hk (hx x (by simp)) hf hm
    have hpre:l<+:l++[⟨x,k,(l.getD k default).dep+1⟩]:=List.prefix_append _ _
    have hkk:k<(l++[(⟨x,k,(l.getD k default).dep+1⟩:oA)]).length:=by simp;omega
    have hgk:=lE (d:=default) hpre hk
    obtain⟨h1,h2,h3⟩:=vR ha hkk (by rw[hgk]) (by rw[hgk];exact hxr) he
    refine⟨h1,hpre.trans h2,fun y hy=> ?_⟩
    rcases List.mem_cons.1 hy with rfl|hy
    ·refine⟨hf,oR.2 ⟨l.length,Nat.lt_of_lt_of_le (by simp) h2.length_le, ?_⟩⟩
     rw[lE h2 (by simp),fg]
    ·exact h3 y hy
theorem BU {d:Nat}:∀{xs:List Int} {l:List oA},GR first k d xs l=none↔first∈xs
 |[],l=>by simp[GR]
 |x::r,l=>by
  rw[GR]
  by_cases e:x=first
  ·rw[if_pos e];simp[e]
  ·rw[if_neg e,BU,List.mem_cons]
   exact⟨fun h=> .inr h,fun h=>h.resolve_left fun e2=>e e2.symm⟩
theorem GV {l l':List oA} (h:l<+:l'):∀(f:Nat) (k:Int),k<l.length->(∀i,i<l.length->(l.getD i default).from_<l.length)->v8 l' f k=v8 l f k
 |0,_,_,_=>rfl
 |f+1,k,hk,hf=>by
  rw[v8,v8]
  split
  ·rfl
  ·rw[lE h (by omega),GV h f _ (hf _ (by omega)) hf]
theorem BW (h:kS lead first k l):∀(i:Nat),i<l.length->∀f,i<f->v8 l f i=v8 l (i+1) i:=by
 intro i
 induction i using Nat.strongRecOn with
 |_ i ih=>
  intro hi f hf
  obtain⟨f,rfl⟩:∃g,f=g+1:=⟨f - 1,by omega⟩
  rw[v8,v8,if_neg (by omega),if_neg (by omega),Int.toNat_natCast]
  by_cases h0:i=0
  ·subst h0
   rw[h.zero]
   dsimp only
   have e:∀g,v8 l g (-1)=[]:=fun g=>by cases g<;>rw[v8];rw[if_pos (by omega)]
   rw[e,e]
  ·obtain⟨p,h1,h2,h3,_,_⟩:=h.par i (by omega) hi
   rw[h3,ih p h1 (by omega) f (by omega),ih p h1 (by omega) i (by omega)]
theorem KL (h:kS lead first k l):qn l 0=[first]:=by
 unfold qn
 rw[v8,if_neg (by omega),show((0:Nat):Int).toNat=0 from rfl,h.zero]
 dsimp only
 rw[v8];rfl
theorem KK (h:kS lead first k l) {i p:Nat} (hi:i<l.length) (hp:p<i) (hf:(l.getD i default).from_=(p:Nat)):qn l i=qn l p++[(l.getD i default).at_]:=by
 unfold qn
 rw[v8,if_neg (by omega),Int.toNat_natCast,hf,BW h p (by omega) i hp,List.reverse_cons]
structure VO (lead:Int->List Int) (first x:Int) (d:Nat) (l:List oA) (i:Nat) (w:List Int):Prop where
 len:w.length=d+1
 zero:w.getD 0 0=first
 last:w.getD d 0=x
 on:∀j,j<d->w.getD (j+1) 0∈lead (w.getD j 0)
 from_:∀y∈w,∃q,q<=i/\(l.getD q default).at_=y
 nd:w.Nodup
theorem O4 (h:kS lead first k l):∀(i:Nat),i<l.length->VO lead first (l.getD i default).at_ (l.getD i default).dep l i (qn l i):=by
 intro i
 induction i using Nat.strongRecOn with
 |_ i ih=>
  intro hi
  by_cases h0:i=0
  ·subst h0
   rw[KL h,h.zero]
   exact⟨rfl,rfl,rfl,fun j hj=>by simp at hj,fun y hy=>⟨0,Nat.le_refl _,by
    simp only[List.mem_cons,List.not_mem_nil,or_false] at hy
    rw[h.zero,hy]⟩,by simp⟩
  ·obtain⟨p,h1,h2,h3,h4,h5⟩:=h.par i (by omega) hi
   have hw:=ih p h1 (by omega)
   rw[KK h hi h1 h3,h5]
   generalize qn l p=w at *
   have hl:=hw.len
   refine⟨by simp[hl],by rw[fF _ (by omega)];exact hw.zero,by rw[<-hl,fg],fun j hj=> ?_,fun y hy=> ?_,List.nodup_append.2 ⟨hw.nd,by simp,fun a ha b hb=> ?_⟩⟩
   ·by_cases e:j=(l.getD p default).dep
    ·rw[e,<-hl,fg,fF _ (by omega),hw.last];exact h4
    ·rw[fF _ (by omega),fF _ (by omega)];exact hw.on j (by omega)
   ·rcases List.mem_append.1 hy with hy|hy
    ·obtain⟨q,q1,q2⟩:=hw.from_ y hy
     exact⟨q,by omega,q2⟩
    ·simp only[List.mem_cons,List.not_mem_nil,or_false] at hy
     exact⟨i,Nat.le_refl _,hy.symm⟩
   ·simp only[List.mem_cons,List.not_mem_nil,or_false] at hb
    subst hb
    obtain⟨q,q1,q2⟩:=hw.from_ a ha
    intro e
    rw[<-q2] at e
    have e1:∀i,i<l.length->(jN l).getD i 0=(l.getD i default).at_:=fun i hi=>by simp[List.getD,hi]
    have:=uq h.nd (i:=q) (j:=i) (by simp;omega) (by simpa using hi) (by rw[e1 q (by omega),e1 i hi];exact e)
    omega
def R0 (lead:Int->List Int) (first:Int) (l:List oA) (k:Nat):Prop:=∀j,j<k->j<l.length->∀x∈lead (l.getD j default).at_,x≠first/\∃i,i<l.length/\(l.getD i default).at_=x/\(l.getD i default).dep<=(l.getD j default).dep+1
theorem vE {c:List Int} (h:kS lead first k l) (hd:R0 lead first l k) (hc:vd lead c) (h0:c.getD 0 0=first) (hlt:k<l.length->c.length<=(l.getD k default).dep):False:=by
 have hp:=hc.pos
 have key:∀i,i<c.length->∃q,q<l.length/\(l.getD q default).at_=c.getD i 0/\(l.getD q default).dep<=i:=by
  intro i
  induction i with
  |zero=>intro _;exact⟨0,h.pos,by rw[h.zero,h0],by rw[h.zero];exact Nat.le_refl _⟩
  |succ i ih=>
   intro hi
   obtain⟨q,q1,q2,q3⟩:=ih (by omega)
   have hqk:q<k:=by
    rcases Nat.lt_or_ge q k with h2|h2
    ·exact h2
    ·have:=hlt (by omega)
     have:=h.mono k q h2 q1
     omega
   have hon:=hc.on i (by omega)
   rw[Nat.mod_eq_of_lt hi,<-q2] at hon
   obtain⟨_,q',g1,g2,g3⟩:=hd q hqk q1 _ hon
   exact⟨q',g1,g2,by omega⟩
 obtain⟨q,q1,q2,q3⟩:=key (c.length - 1) (by omega)
 have hqk:q<k:=by
  rcases Nat.lt_or_ge q k with h2|h2
  ·exact h2
  ·have:=hlt (by omega)
   have:=h.mono k q h2 q1
   omega
 have hon:=hc.on (c.length - 1) (by omega)
 rw[show c.length - 1+1=c.length by omega,Nat.mod_self,h0,<-q2] at hon
 exact(hd q hqk q1 _ hon).1 rfl
theorem wK {n:Nat} (hin:∀x,∀y∈lead x,0<=y/\y<n) (hf0:0<=first/\first<n):∀(f k:Nat) (l:List oA),k+f=n+1->kS lead first k l->R0 lead first l k->(∀x∈jN l,0<=x/\x<n)->
 (∀w,zB lead first f k l=some w->w.getD 0 0=first/\vd lead w/\w.Nodup/\(∀x∈w,0<=x/\x<n)/\∀c,vd lead c->c.getD 0 0=first->w.length<=c.length)/\
 (zB lead first f k l=none->∀c,vd lead c->c.getD 0 0≠first)
 |0,k,l,he,h,hd,hr=>by
  have:=iJ n _ h.nd hr
  rw[List.length_map] at this
  rw[zB]
  exact⟨(fun w hw=>by cases hw),fun _ c hc h0=>vE h hd hc h0 fun hk=>by omega⟩
 |f+1,k,l,he,h,hd,hr=>by
  rw[zB]
  by_cases hk:k<l.length
  ·rw[if_pos hk]
   cases ht:GR first k (l.getD k default).dep (lead (l.getD k default).at_) l with
   |none=>
    dsimp only
    have hm:=BU.1 ht
    have hw:=O4 h k hk
    generalize qn l k=w at *
    refine⟨fun w' hw'=> ?_,fun hn=>by cases hn⟩
    cases hw'
    have hl:=hw.len
    refine⟨hw.zero,⟨by omega,fun i hi=> ?_⟩,hw.nd,fun x hx=> ?_,fun c hc h0=> ?_⟩
    ·by_cases e:i+1=w.length
     ·rw[e,Nat.mod_self,hw.zero,show i=(l.getD k default).dep by omega,hw.last];exact hm
     ·rw[Nat.mod_eq_of_lt (by omega)];exact hw.on i (by omega)
    ·obtain⟨q,q1,q2⟩:=hw.from_ x hx
     exact hr x (oR.2 ⟨q,by omega,q2⟩)
    ·apply Nat.le_of_not_lt
     intro hlt
     exact vE h hd hc h0 fun _=>by omega
   |some l'=>
    dsimp only
    obtain⟨h1,h2,h3⟩:=vR h hk rfl (fun x hx=>hx) ht
    have hk':k<l'.length:=Nat.lt_of_lt_of_le hk h2.length_le
    refine wK hin hf0 f (k+1) l' (by omega) h1.on (fun j hj hjl x hx=> ?_) fun x hx=> ?_
    ·by_cases e:j=k
     ·subst e
      rw[lE h2 hk] at hx ⊢
      obtain⟨g1,g2⟩:=h3 x hx
      obtain⟨i,hi,g3⟩:=oR.1 g2
      refine⟨g1,i,hi,g3, ?_⟩
      have:=h1.top hk' hi
      rw[lE h2 hk] at this
      exact this
     ·rw[lE h2 (show j<l.length by omega)] at hx ⊢
      obtain⟨g1,i,hi,g2,g3⟩:=hd j (by omega) (by omega) x hx
      exact⟨g1,i,Nat.lt_of_lt_of_le hi h2.length_le,by rw[lE h2 hi];exact g2,by rw[lE h2 hi];exact g3⟩
    ·obtain⟨i,hi,e⟩:=oR.1 hx
     by_cases h0:i=0
     ·subst h0;rw[h1.zero] at e;rw[<-e];exact hf0
     ·obtain⟨p,_,_,_,g4,_⟩:=h1.par i (by omega) hi
      rw[e] at g4
      exact hin _ _ g4
  ·rw[if_neg hk]
   exact⟨(fun w hw=>by cases hw),fun _ c hc h0=>vE h hd hc h0 fun hk2=>by omega⟩
end
theorem tm {lead:Int->List Int} {n:Nat} {first:Int} (hin:∀x,∀y∈lead x,0<=y/\y<n) (hf0:0<=first/\first<n):
 (∀w,sh lead n first=some w->w.getD 0 0=first/\vd lead w/\w.Nodup/\(∀x∈w,0<=x/\x<n)/\∀c,vd lead c->c.getD 0 0=first->w.length<=c.length)/\
 (sh lead n first=none->∀c,vd lead c->c.getD 0 0≠first):=
 wK hin hf0 (n+1) 0 _ (by omega) (.start lead first) (fun j hj=>by omega) fun x hx=>by
  simp only[jN,List.map_cons,List.map_nil,List.mem_cons,List.not_mem_nil,or_false] at hx
  rw[hx];exact hf0
def kB (lead:Int->List Int) (n:Nat):Nat->Option (List Int)
 |0=>none
 |k+1=>match sh lead n (k:Int),kB lead n k with
  |none,b=>b
  |some l,none=>some l
  |some l,some b=>if l.length<b.length then some l else some b
theorem wJ {lead:Int->List Int} {n:Nat}:∀{k:Nat},kB lead n k=none->∀f:Nat,f<k->sh lead n (f:Int)=none
 |0,_,f,h=>by omega
 |k+1,he,f,h=>by
  rw[kB] at he
  split at he
  ·rename_i e
   by_cases hf:f=k
   ·subst hf;exact e
   ·exact wJ he f (by omega)
  ·cases he
  ·split at he<;>cases he
theorem oE {lead:Int->List Int} {n:Nat}:∀{k:Nat} {b:List Int},kB lead n k=some b->∃f:Nat,f<k/\sh lead n (f:Int)=some b/\∀g:Nat,g<k->∀l,sh lead n (g:Int)=some l->b.length<=l.length/\(b.length=l.length->f<=g)
 |0,b,he=>by cases he
 |k+1,b,he=>by
  rw[kB] at he
  split at he
  ·rename_i e
   obtain⟨f,h1,h2,h3⟩:=oE he
   refine⟨f,by omega,h2,fun g hg l hl=> ?_⟩
   by_cases hgk:g=k
   ·subst hgk;rw[e] at hl;cases hl
   ·exact h3 g (by omega) l hl
  ·rename_i l0 e e2
   cases he
   refine⟨k,by omega,e,fun g hg l hl=> ?_⟩
   by_cases hgk:g=k
   ·subst hgk;rw[e] at hl;cases hl;exact⟨Nat.le_refl _,fun _=>Nat.le_refl _⟩
   ·rw[wJ e2 g (by omega)] at hl;cases hl
  ·rename_i l0 b0 e e2
   obtain⟨f,h1,h2,h3⟩:=oE e2
   split at he
   ·rename_i hlt
    cases he
    refine⟨k,by omega,e,fun g hg l hl=> ?_⟩
    by_cases hgk:g=k
    ·subst hgk;rw[e] at hl;cases hl;exact⟨Nat.le_refl _,fun _=>Nat.le_refl _⟩
    ·have:=h3 g (by omega) l hl
     exact⟨by omega,fun _=>by omega⟩
   ·rename_i hlt
    cases he
    refine⟨f,by omega,h2,fun g hg l hl=> ?_⟩
    by_cases hgk:g=k
    ·subst hgk;rw[e] at hl;cases hl;exact⟨by omega,fun _=>by omega⟩
    ·exact h3 g (by omega) l hl
theorem vd.jD {lead:Int->List Int} {c:List Int} (h:vd lead c) {i:Nat} (hi:i<c.length):∃d,vd lead d/\d.getD 0 0=c.getD i 0/\d.length=c.length:=by
 have hp:=h.pos
 refine⟨(List.range c.length).map fun j=>c.getD ((i+j)%c.length) 0,⟨by simpa using hp,fun j hj=> ?_⟩, ?_,by simp⟩
 ·rw[List.length_map,List.length_range] at hj ⊢
  have gd:∀q,q<c.length->((List.range c.length).map fun j=>c.getD ((i+j)%c.length) 0).getD q 0=c.getD ((i+q)%c.length) 0:=fun q hq=>by simp[List.getD,hq]
  rw[gd j hj,gd _ (Nat.mod_lt _ hp)]
  have:=h.on ((i+j)%c.length) (Nat.mod_lt _ hp)
  have e:(i+(j+1)%c.length)%c.length=((i+j)%c.length+1)%c.length:=by
   rw[Nat.add_mod,Nat.mod_mod,<-Nat.add_mod,Nat.mod_add_mod];rfl
  rw[e]
  exact this
 ·simp[List.getD,hp,Nat.mod_eq_of_lt hi]
end
end Go.Proofs.YtjopoheligmmoaaGreatDoor
namespace Go.Proofs
open Go.Shelf
def Tryz.DL:Go.Shelf.Ren:=⟨fun|28=>123|n=>n,fun|27=>132|3=>3|4=>4|25=>142|53=>229|0=>0|5=>5|n=>n,fun|0=>0|n=>n⟩
theorem Tryz.T3:Go.Proofs.Lays7.n28 Tryz.prog Tryz.DL:={
 mixed:=by kernel_rfl
 f28:=Tryz.func123.trans (congrArg some (by kernel_rfl))
 t0:=Tryz.underlying0
 a0:=Tryz.isAgg0
 z0:=Tryz.sizeOf0
 v0:=Tryz.zeroValue0
 i0:=by kernel_rfl
 t3:=Tryz.underlying3
 a3:=Tryz.isAgg3
 z3:=Tryz.sizeOf3
 v3:=Tryz.zeroValue3
 i3:=by kernel_rfl
 t4:=Tryz.underlying4
 a4:=Tryz.isAgg4
 z4:=Tryz.sizeOf4
 v4:=Tryz.zeroValue4
 i4:=by kernel_rfl
 t5:=Tryz.underlying5
 a5:=Tryz.isAgg5
 z5:=Tryz.sizeOf5
 v5:=Tryz.zeroValue5
 i5:=by kernel_rfl
 t25:=Tryz.underlying142
 a25:=Tryz.isAgg142
 z25:=Tryz.sizeOf142
 v25:=Tryz.zeroValue142
 i25:=by kernel_rfl
 t27:=Tryz.underlying132
 a27:=Tryz.isAgg132
 z27:=Tryz.sizeOf132
 v27:=Tryz.zeroValue132
 i27:=by kernel_rfl
 t53:=Tryz.underlying229
 a53:=Tryz.isAgg229
 z53:=Tryz.sizeOf229
 v53:=Tryz.zeroValue229
 i53:=by kernel_rfl
 g0:=by kernel_rfl }
open Go.RowKit Go.Lib in
theorem Tryz.aBC (x:Nat) (hx:x<4294967296) (w:World) (hT:x≠0->TabAt 0 Lib.deBruijn32tab w):
 Calls Tryz.prog 123 #[.int .u32 x] w fun e w'=>e= .returned (.int .i64 (Lib.ctz 32 x))/\w'=w:=Any7.bits_TrailingZeros32 Tryz.T3 x hx w hT
end Go.Proofs
namespace Go.Proofs.YtjopoheligmmoaaGreatDoor
open Go Go.cw Go.Proofs
set_option linter.unusedSimpArgs false
set_option linter.unusedVariables false
set_option maxRecDepth 8000
abbrev u32 (n:Nat):AV:= .sc (.int .u32 (n:Int))
theorem RV (x:Nat) (hx:x<4294967296):Pure Tryz.prog 123 [u32 x] (fun r=>r=i64 (ctz x)):=by
 refine⟨⟨_,Tryz.func123,by kernel_rfl,by kernel_rfl⟩,fun M w vs hM hv=> ?_⟩
 rw[cu] at hv
 obtain⟨v,vs',rfl,h1,h2⟩:=hv
 rw[VR] at h1
 rw[cu] at h2
 subst h1
 subst h2
 refine(Tryz.aBC x hx w fun _=>(hM.ZM (0,_) (by unfold UT;exact List.mem_singleton_self _)).2.2).mono ?_
 rintro e w' ⟨rfl,rfl⟩
 exact⟨_,_,rfl,rfl,by simp[cH],by rw[VR], .refl _ _⟩
theorem wrap32 {n:Int} (h1:0<=n) (h2:n<4294967296):IntKind.u32.wrap n=n:=by rw[wrap_u32'];omega
theorem VS {a b:Nat} (ha:a<4294967296) (hb:b<4294967296):IntKind.u32.wrap (BitVec.ofInt IntKind.u32.bits (a:Int)&&& BitVec.ofInt IntKind.u32.bits (b:Int)).toNat=((a&&& b:Nat):Int):=bits_and_u32_nat a b ha hb
theorem aAu {a b:Nat} (ha:a<4294967296) (hb:b<4294967296):IntKind.u32.wrap (BitVec.ofInt IntKind.u32.bits (a:Int)|||BitVec.ofInt IntKind.u32.bits (b:Int)).toNat=((a|||b:Nat):Int):=by
 have hx:a|||b<2^32:=Nat.or_lt_two_pow (by omega) (by omega)
 have h1:(BitVec.ofInt IntKind.u32.bits (a:Int)).toNat=a:=by
  show(BitVec.ofInt 32 (a:Int)).toNat=a
  rw[BitVec.ofInt_natCast,BitVec.toNat_ofNat];exact Nat.mod_eq_of_lt (by omega)
 have h2:(BitVec.ofInt IntKind.u32.bits (b:Int)).toNat=b:=by
  show(BitVec.ofInt 32 (b:Int)).toNat=b
  rw[BitVec.ofInt_natCast,BitVec.toNat_ofNat];exact Nat.mod_eq_of_lt (by omega)
 rw[BitVec.toNat_or,h1,h2,wrap32 (by omega) (by omega)]
theorem UG {x:Nat} (h0:x≠0) (hx:x<4294967296):IntKind.u32.wrap ((x:Int) - 1)=((x - 1:Nat):Int):=by
 rw[wrap32 (by omega) (by omega)];omega
theorem I1 (x:Nat) (hx:x<65536):cU Tryz.prog 75 [u32 x] [] 0 (fun r H n=>∃b d,r= .sl b (bits x).length/\bt H b=some (.row 3 1 d ((bits x).map i64))):=by
 refine aJ aAg rfl ?_
 repeat' (first|refine aQ ?_|exact aC|with_reducible refine aB ?_ ?_|(apply aA;(·exact cL))|refine aH ?_|((with_reducible refine aE ?_ ?_)<;>intro hc<;>try(exfalso;omega)))
 refine aR (fun s:Nat×List Int=>[(0,u32 s.1),(3, .sl 2 s.2.length)])
  (fun s H n=>3<=n/\s.1<=x/\s.2++bits s.1=bits x/\s.2.length+s.1<=x/\∃d,bt H 2=some (.row 3 1 d (s.2.map i64)))
  (fun s=>s.1) (x,[]) ⟨_,_,_,Rt.nil 3 3 1 (by omega) rfl,cC,cX,Nat.le_refl _,rfl,by simp,⟨_,bu⟩⟩ ?_
 rintro⟨y,l⟩ H n ⟨hn,hy,hb,hlen,⟨d,r2⟩⟩
 dsimp only at hy hb hlen r2 ⊢
 by_cases h0:y=0
 ·subst h0
  repeat' (first|refine aQ ?_|exact aC|with_reducible refine aB ?_ ?_|(apply aA;(·exact cL))|refine aH ?_|((with_reducible refine aE ?_ ?_)<;>intro hc<;>try(exfalso;omega)))
  rw[show bits 0=[] from rfl,List.append_nil] at hb
  rw[<-hb]
  exact⟨⟨2,d,rfl,bu⟩⟩
 ·rw[rF h0] at hb
  have hp:=pred_lt h0
  have e1:=UG h0 (show y<4294967296 by omega)
  have e2:=VS (show y<4294967296 by omega) (show y - 1<4294967296 by omega)
  have ht:=RV y (by omega)
  repeat' (first|refine aQ ?_|exact aC|with_reducible refine aB ?_ ?_|(apply aA;(·exact cL))|refine aK (ht) ?_|(simp only[e1])|(simp only[e2])|refine aH ?_|((with_reducible refine aE ?_ ?_)<;>intro hc<;>try(exfalso;omega)))
  exact⟨(y&&& (y - 1),l++[(ctz y:Int)]),hp,_,_,_,Rt.refl _ _ _,cC,cX,by dsimp only;omega,by dsimp only;rw[<-hb];simp,by dsimp only;simp only[List.length_append,List.length_cons,List.length_nil];omega,⟨_,by dsimp only;rw[<-gM];exact bu⟩⟩
theorem I2 (x:Nat) (hx:x<65536):Pure Tryz.prog 75 [u32 x] (fun r=>r=fE (bits x)):=by
 refine cp ((I1 x hx).mono ?_) (by simp[fE,cH,cD])
 rintro r H n ⟨b,d,rfl,hb⟩
 rw[dH hb (by simp),cn _ (L9 _ _)];rfl
theorem xO {g:cG} (h:Whole g):mf g=true:=KO.2 h
theorem L7 (L:List (List Int)):c8 0 (L.map fE):=(cD _ _).2 fun _ _=>by simp[fE,cH,cD]
theorem G0 (g:cG) (hg:g.Wf) (hw:Whole g) (hh:(eK g).2<0):Pure Tryz.prog 167 [g.av] (fun r=>r= .dI [.im 1 .any ((eK g).1.map fE),bl true]):=by
 refine aD XZ rfl ?_
 have h1:=vW g hg
 rw[xO hw] at h1
 have h2:=wq g hg hw
 unfold kE at h2
 have e:decide ((eK g).2<0)=true:=decide_eq_true hh
 repeat' (first|refine aQ ?_|exact eh|with_reducible refine aB ?_ ?_|((with_reducible refine Ask.mk ?_);first|exact dJ|exact cj|(intro h;simp_all[cG.cells]<;>fail)|(simp_all[cG.cells]<;>fail))|(apply aA;(·exact cL))|refine aK (h1) ?_|refine aK (h2) ?_|refine aH ?_|((with_reducible refine aE ?_ ?_)<;>intro hc<;>try(exfalso;omega)))
 rw[e]
 exact PF.eq (by simp only[cH,c8];exact⟨L7 _,trivial,trivial⟩) rfl
noncomputable def pX (g:cG):AV:= .agg [F9 (gS g (-1)), .im 1 .any (((eK g).1.map hb).map u32)]
theorem QM {l:List Int} {j:Nat} (h:j<l.length):hb (l.take (j+1))=hb (l.take j)|||2^(l.getD j 0).toNat:=by
 rw[List.take_succ_eq_append_getElem h,TV,gd h]
theorem ZJ {k:Int} (h0:0<=k) (h1:k<16):IntKind.u32.wrap (1 * 2^(min k.toNat IntKind.u32.bits))=((2^k.toNat:Nat):Int):=by
 have:k.toNat<16:=by omega
 generalize k.toNat=m at *
 have hm:min m IntKind.u32.bits=m:=by show min m 32=m;omega
 rw[hm]
 have:(2:Nat)^m<2^16:=Nat.pow_lt_pow_right (by omega) this
 have e:(1:Int) * 2^m=((2^m:Nat):Int):=by rw[Int.one_mul];simp
 have h2:(2:Nat)^m<4294967296:=by omega
 rw[e]
 exact wrap32 (Int.natCast_nonneg _) (Int.ofNat_lt.2 h2)
def l6 (L:List (List Int)) (i x:Nat):List Nat:=(L.take i).map hb++x::List.replicate (L.length - (i+1)) 0
theorem qP {L:List (List Int)} {i:Nat} (h:i<L.length):((L.take i).map hb).length=i:=by simp;omega
theorem wm {L:List (List Int)} {i:Nat} (h:i<L.length) (x:Nat):(l6 L i x).length=L.length:=by
 rw[l6,List.length_append,qP h];simp;omega
theorem IJ {L:List (List Int)} {i:Nat} (h:i<L.length) (x:Nat) (d:AV):((l6 L i x).map u32).getD ((i:Int)).toNat d=u32 x:=by
 rw[Int.toNat_natCast,cx u32 _ _ _ (by rw[wm h];exact h),l6,List.getD,List.getElem?_append_right (by rw[qP h];exact Nat.le_refl _),qP h,Nat.sub_self];rfl
theorem IK {L:List (List Int)} {i:Nat} (h:i<L.length) (x v:Nat):((l6 L i x).map u32).set ((i:Int)).toNat (u32 v)=(l6 L i v).map u32:=by
 rw[Int.toNat_natCast,<-List.map_set,l6,List.set_append,if_neg (by rw[qP h];omega),qP h,Nat.sub_self];rfl
theorem DE {L:List (List Int)} {i:Nat} (h:i<L.length):(L.take i).map hb++List.replicate (L.length - i) 0=l6 L i 0:=by
 rw[l6,show L.length - i=(L.length - (i+1))+1 by omega,List.replicate_succ]
theorem DD {L:List (List Int)} {i:Nat} (h:i<L.length):l6 L i (hb (L.getD i []))=(L.take (i+1)).map hb++List.replicate (L.length - (i+1)) 0:=by
 rw[l6,List.take_succ_eq_append_getElem h,gd h,List.map_append,List.append_assoc];rfl
theorem pU {m:Nat} {now:List Int} (hn:now.length<=m):∀(l:List Int) (s s':HS),dQ now l s= .inl s'->(∀i,(s.cB.getD i []).length<=m)->∀i,(s'.cB.getD i []).length<=m
 |[],s,s',h,hs=>by rw[dQ] at h;cases h;exact hs
 |k::r,s,s',h,hs=>by
  rw[dQ] at h
  split at h
  ·refine pU hn r _ s' h fun i=> ?_
   dsimp only
   rw[eS]
   split
   ·exact hn
   ·exact hs i
  ·split at h
   ·exact pU hn r s s' h hs
   ·cases h
theorem zl {n:Node} {l now:List Int} (h:dM n l=some now):now.length<=l.length+1:=by
 unfold dM at h
 split at h
 ·cases h;simp
 ·split at h
  ·split at h
   ·cases h;simp;omega
   ·cases h
  ·split at h
   ·split at h
    ·cases h;omega
    ·cases h
   ·cases h;omega
theorem sQ (g:cG):∀(f:Nat) (s:HS) (k:Nat),(∀i,(s.cB.getD i []).length<=k)->∀i,((fq g f s k).1.getD i []).length<=k+f
 |0,s,k,h,i=>by rw[fq];exact h i
 |f+1,s,k,h,i=>by
  rw[fq]
  split
  ·split
   ·simp
   ·rename_i now hn
    have h2:=zl hn
    have h3:=h (s.todo.getD k 0).toNat
    unfold HS.l at h2
    split
    ·rename_i s' ht
     have:=sQ g f s' (k+1) (pU (m:=k+1) (by omega) _ _ _ ht fun i=>Nat.le_succ_of_le (h i)) i
     omega
    ·simp
  ·have:=h i;dsimp only;omega
theorem IL (g:cG) (i:Nat):((eK g).1.getD i []).length<=g.nodes.length+1:=by
 have:=sQ g (g.nodes.length+1) (sS g) 0 (fun i=>by simp only[sS,List.getD,List.getElem?_replicate];split<;>exact Nat.zero_le _) i
 rw[Nat.zero_add] at this;exact this
set_option maxHeartbeats 4000000 in
theorem AM {u:bx} (g:cG) (hg:g.Wf) (hk:ef u g) (hl16:u.cB.length<=16):cU Tryz.prog 122 [g.av] [] 0 (fun r H n=>∃d,r= .agg [F9 (gS g (-1)), .sl 7 (eK g).1.length]/\bt H 7=some (.row 133 1 d (((eK g).1.map hb).map u32))):=by
 have hw:=hk.whole
 have h1:=yM g hg (xO hw) (BK g hg hw (-1) (by unfold ee;omega))
 have h2:=G0 g hg hw hk.held
 obtain⟨_,hLl,_,_⟩:=l7 hw hk.held
 have hin:=F7 hk
 have hlen:=hk.len
 have hgl:=hg.len
 have hlens:=IL g
 generalize hL:(eK g).1=L at *
 refine aJ W6 rfl ?_
 repeat' (first|refine aQ ?_|exact eh|with_reducible refine aB ?_ ?_|((with_reducible refine Ask.mk ?_);first|exact dJ|exact cj|(intro h;simp_all[cG.cells]<;>fail)|(simp_all[cG.cells]<;>fail))|(apply aA;(·exact cL))|refine aK (h1) ?_|refine aK (h2) ?_|refine aH ?_|((with_reducible refine aE ?_ ?_)<;>intro hc<;>try(exfalso;omega)))
 have e0:(((L.take 0).map hb++List.replicate (L.length - 0) 0).map u32:List AV)=List.replicate L.length (u32 0):=by simp
 simp only[List.length_map,Int.toNat_natCast]
 refine aF (fun i:Nat=>[(2, .pt 1 1 0 0),(3, .pt 9 1 0 0),(22, .im 1 .any (L.map fE)),(23,i64 L.length),(24,i64 i)])
  (fun i H n=>i<=L.length/\18<=n/\(∃d,bt H 1=some (.row 131 2 d [.agg [.sc (.slice none 0 0), .sc (.slice none 0 0)]]))/\(∃d,bt H 9=some (.row 131 2 d [.agg [F9 (gS g (-1)), .sl 7 g.nodes.length]]))/\(∃d,bt H 7=some (.row 133 1 d (((L.take i).map hb++List.replicate (L.length - i) 0).map u32)))) (fun i=>L.length - i) 0 cC ⟨Nat.zero_le _,cX,⟨_,bu⟩, ?_, ?_⟩ ?_
 ·apply Exists.intro
  exact bu
 ·apply Exists.intro
  rw[e0,hLl]
  exact bu
 rintro i H n ⟨hi,hn,⟨d1,r1⟩,⟨d9,r9⟩,⟨d7,r7⟩⟩
 by_cases hil:i<L.length
 ·rw[DE hil] at r7
  have hll:=hlens i
  have e1:=fun d=>kF (l:=L) (i:=(i:Int)) (by rw[Int.toNat_natCast];exact hil) d
  rw[Int.toNat_natCast] at e1
  have hin2:=hin i
  have hnx:=DD hil
  generalize hl:L.getD i []=l at *
  repeat' (first|refine aQ ?_|exact aC|with_reducible refine aB ?_ ?_|(apply aA;(·(first|exact e1 _|exact cL)))|refine aH ?_|((with_reducible refine aE ?_ ?_)<;>intro hc<;>try(exfalso;omega)))
  simp only[List.length_map]
  refine aF (fun j:Nat=>[(2, .pt 1 1 0 0),(3, .pt 9 1 0 0),(6,i64 i),(22, .im 1 .any (L.map fE)),(23,i64 L.length),(24,i64 i),(29, .im 1 .any (l.map i64)),(30,i64 l.length),(31,i64 j)])
   (fun j H2 n2=>j<=l.length/\n<=n2/\(∃d,bt H2 1=some (.row 131 2 d [.agg [.sc (.slice none 0 0), .sc (.slice none 0 0)]]))/\(∃d,bt H2 9=some (.row 131 2 d [.agg [F9 (gS g (-1)), .sl 7 g.nodes.length]]))/\(∃d,bt H2 7=some (.row 133 1 d ((l6 L i (hb (l.take j))).map u32)))) (fun j=>l.length - j) 0 cC ⟨Nat.zero_le _,cX,⟨_,bu⟩,⟨_,bu⟩,⟨_,bu⟩⟩ ?_
  clear r1 r9 r7
  rintro j H2 n2 ⟨hj,hn2,⟨d1,r1⟩,⟨d9,r9⟩,⟨d7,r7⟩⟩
  by_cases hjl:j<l.length
  ·obtain⟨k0,k1⟩:=hin2 _ (cO 0 hjl)
   have e2:=fun d=>jP hjl d
   have e3:=fun d=>IJ hil (hb (l.take j)) d
   have hml:((l6 L i (hb (l.take j))).map u32).length=g.nodes.length:=by rw[List.length_map,wm hil,hLl]
   have e4:=ZJ k0 (by omega:l.getD j 0<16)
   have hlt:∀m,hb (l.take m)<65536:=fun m=>SF (m:=16) fun k hk=>by have:=hin2 k (List.mem_of_mem_take hk);omega
   have e5:=QM hjl
   have hp:2^(l.getD j 0).toNat<65536:=Nat.pow_lt_pow_right (by omega) (by omega:(l.getD j 0).toNat<16)
   have e6:=aAu (show hb (l.take j)<4294967296 from Nat.lt_trans (hlt j) (by omega)) (show 2^(l.getD j 0).toNat<4294967296 by omega)
   rw[<-e5] at e6
   repeat' (first|refine aQ ?_|exact eh|with_reducible refine aB ?_ ?_|((with_reducible refine Ask.mk ?_);first|exact dJ|(exact hml)|exact cj)|(apply aA;(·(first|exact e2 _|exact e3 _|exact cL)))|(simp only[e4])|(simp only[e6])|refine aH ?_|((with_reducible refine aE ?_ ?_)<;>intro hc<;>try(exfalso;omega)))
   exact⟨j+1,by omega,cC,by omega,cX,⟨_,bu⟩,⟨_,bu⟩,⟨_,by rw[<-IK hil (hb (l.take j)) (hb (l.take (j+1)))];exact bu⟩⟩
  ·have:j=l.length:=by omega
   subst this
   rw[List.take_length,hnx] at r7
   repeat' (first|refine aQ ?_|exact aC|with_reducible refine aB ?_ ?_|(apply aA;(·exact cL))|refine aH ?_|((with_reducible refine aE ?_ ?_)<;>intro hc<;>try(exfalso;omega)))
   exact⟨i+1,by omega,cC,by omega,by omega,⟨_,bu⟩,⟨_,bu⟩,⟨_,bu⟩⟩
 ·have:i=L.length:=by omega
  subst this
  rw[List.take_length,Nat.sub_self,List.replicate_zero,List.append_nil] at r7
  repeat' (first|refine aQ ?_|exact aC|with_reducible refine aB ?_ ?_|(apply aA;(·exact cL))|refine aH ?_|((with_reducible refine aE ?_ ?_)<;>intro hc<;>try(exfalso;omega)))
  rw[<-hLl]
  exact⟨⟨d7,rfl,bu⟩⟩
theorem AN {u:bx} (g:cG) (hg:g.Wf) (hk:ef u g) (hl16:u.cB.length<=16):Pure Tryz.prog 122 [g.av] (fun r=>r=pX g):=by
 have hfit:cH 0 (pX g):=by unfold pX;simp[cH,c8,F9,cD]
 refine cp ((AM g hg hk hl16).mono ?_) hfit
 rintro r H n ⟨d,rfl,hb⟩
 have e1:cw.dY H 6 (.agg [F9 (gS g (-1)), .sl 7 (eK g).1.length])= .agg [cw.dY H 5 (F9 (gS g (-1))),cw.dY H 5 (.sl 7 (eK g).1.length)]:=by
  simp only[dY,List.map_cons,List.map_nil]
 rw[e1,dH hb (by simp),cn _ ((cD _ _).2 fun _ _=>by simp[cH]),dA 5 (by simp[F9,cH,cD])]
 rfl
noncomputable def gv (u:bx) (m:Nat):List AV:=(u.bw.take m).map pX
theorem DR {u:bx} {t:Nat} (h:t<u.bw.length):gv u (t+1)=gv u t++[pX (u.gr t)]:=by
 rw[gv,List.take_succ_eq_append_getElem h,gv,List.map_append,show u.gr t=u.bw[t] from gd h _];rfl
theorem rY {u:bx} {t:Nat} (h:t<=u.bw.length):(gv u t).length=t:=by simp[gv];omega
theorem rO (u:bx) (m:Nat):c8 0 (gv u m):=(cD _ _).2 fun _ _=>by unfold pX;simp[cH,c8,F9,cD]
set_option maxHeartbeats 4000000 in
theorem CF (u:bx) (hu:u.Wf):Pure Tryz.prog 74 [u.av] (fun r=>r=if EM u=true then .dI [.im 2 .any (gv u u.bw.length),i64 0] else .dI [.sc (.slice none 0 0),i64 60]):=by
 have hck:=mG u hu
 by_cases hr:cg u
 ·rw[js.2 hr] at hck
  rw[if_pos (p7.2 hr)]
  have hfew:=hr.oh
  refine cp ?_ (by simp only[cH,c8];exact⟨rO _ _,trivial,trivial⟩)
  refine aJ Y5 rfl ?_
  repeat' (first|refine aQ ?_|exact eh|with_reducible refine aB ?_ ?_|((with_reducible refine Ask.mk ?_);first|exact dJ|exact cj|(intro h;simp_all[bx.cells]<;>fail)|(simp_all[bx.cells]<;>fail))|(apply aA;(·exact cL))|refine aK (hck) ?_|refine aH ?_|((with_reducible refine aE ?_ ?_)<;>intro hc<;>try(exfalso;omega)))
  simp only[List.length_map]
  refine aR (fun t:Nat=>[(7, .sl 18 t),(20,cZ u.bw),(21,i64 u.bw.length),(22,i64 t)])
   (fun t H n=>t<=u.bw.length/\19<=n/\(∃d,bt H 18=some (.row 131 2 d (gv u t)))) (fun t=>u.bw.length - t) 0 ⟨_,_,_,Rt.nil 7 131 2 (by omega) rfl,cC,Nat.zero_le _,cX,⟨_,bu⟩⟩ ?_
  rintro t H n ⟨ht,hn,⟨d,r18⟩⟩
  by_cases htl:t<u.bw.length
  ·have hl:=rY (u:=u) ht
   have hg:=hu.bw _ (cO default htl)
   have hlk:=AN (u.gr t) hg (hr.gr htl) hfew.2.1
   have hnx:=DR htl
   have eg:=fun d=>nV htl d
   repeat' (first|refine aQ ?_|exact eh|with_reducible refine aB ?_ ?_|((with_reducible refine Ask.mk ?_);first|exact dJ|(exact hl)|exact cj|(intro h;simp_all[cG.cells]<;>fail)|(simp_all[cG.cells]<;>fail))|(apply aA;(·(first|exact eg _|exact cL)))|refine aK (hlk) ?_|refine aH ?_|((with_reducible refine aE ?_ ?_)<;>intro hc<;>try(exfalso;omega)))
   exact⟨t+1,by omega,_,_,_,Rt.refl _ _ _,cC,by omega,cX,⟨_,by rw[hnx];exact bu⟩⟩
  ·have:t=u.bw.length:=by omega
   subst this
   repeat' (first|refine aQ ?_|exact aC|with_reducible refine aB ?_ ?_|(apply aA;(·exact cL))|refine aH ?_|((with_reducible refine aE ?_ ?_)<;>intro hc<;>try(exfalso;omega)))
   refine⟨?_⟩
   have e1:∀H,cw.dY H 6 (.dI [.sl 18 u.bw.length,i64 0])= .dI [cw.dY H 5 (.sl 18 u.bw.length),i64 0]:=fun H=>by
    simp only[dY,List.map_cons,List.map_nil]
   refine(e1 _).trans ?_
   rw[dH bu (rY (Nat.le_refl _)),cn _ (rO _ _)]
 ·have h1:=pH hr
  rw[if_neg (mt p7.1 hr)]
  generalize gQ u=r at *
  obtain⟨a,b,c⟩:=r
  dsimp only at h1 hck
  subst h1
  unfold mE at hck
  refine aD Y5 rfl ?_
  repeat' (first|refine aQ ?_|exact eh|with_reducible refine aB ?_ ?_|((with_reducible refine Ask.mk ?_);first|exact dJ|exact cj|(intro h;simp_all[bx.cells]<;>fail)|(simp_all[bx.cells]<;>fail))|(apply aA;(·exact cL))|refine aK (hck) ?_|refine aH ?_|((with_reducible refine aE ?_ ?_)<;>intro hc<;>try(exfalso;omega)))
  exact rfl
def uY (g:cG):List (List Int):=(eK g).1.map fun l=>bits (hb l)
theorem M6 {u:bx} {g:cG} (hk:ef u g):(uY g).length=g.nodes.length:=by
 unfold uY;rw[List.length_map];exact(l7 hk.whole hk.held).2.1
theorem QO {u:bx} {g:cG} (hk:ef u g) {i:Nat} (hi:i<g.nodes.length):(uY g).getD i []=sR g i:=by
 have:i<(eK g).1.length:=by rw[(l7 hk.whole hk.held).2.1];exact hi
 simp[uY,sR,NN,List.getD,this]
theorem L8 (L:List (List Int)):c8 0 (L.map fE):=(cD _ _).2 fun _ _=>by simp[fE,cH,cD]
theorem NP {u:bx} {t:Nat} (ht:t<u.bw.length) (d:AV):(gv u u.bw.length).getD ((t:Int)).toNat d= .agg [F9 (gS (u.gr t) (-1)), .im 1 .any (((eK (u.gr t)).1.map hb).map u32)]:=by
 rw[Int.toNat_natCast]
 unfold gv
 rw[List.take_length,cx pX u.bw t d ht]
 rfl
set_option maxHeartbeats 2000000 in
theorem DF (u:bx) (hu:u.Wf) (hr:cg u) {t:Nat} (ht:t<u.bw.length):Pure Tryz.prog 36 [u.av,i64 t] (fun r=>r= .dI [.im 1 .any ((uY (u.gr t)).map fE),i64 0]):=by
 have c0:=CF u hu
 rw[if_pos (p7.2 hr)] at c0
 have hfl:=rO u u.bw.length
 have hgk:=hr.gr ht
 have hnl:=hgk.len
 have hL:=(l7 hgk.whole hgk.held).2.1
 have hfew:=hr.oh
 have e0:=NP ht
 have a0:(gv u u.bw.length).length=u.bw.length:=rY (Nat.le_refl _)
 have hb16:∀i,hb ((eK (u.gr t)).1.getD i [])<65536:=fun i=>DQ hgk hfew.2.1 i
 have hres:uY (u.gr t)=(eK (u.gr t)).1.map fun l=>bits (hb l):=rfl
 rw[hres]
 generalize gv u u.bw.length=X at *
 generalize gS (u.gr t) (-1)=B at *
 generalize (eK (u.gr t)).1=A at *
 refine cp ?_ (by simp only[cH,c8];exact⟨L8 _,trivial,trivial⟩)
 refine aJ aAS rfl ?_
 have a1:((A.map hb).map u32).length=A.length:=by simp
 have r0:decide (((t:Nat):Int)<0)=false:=decide_eq_false (by omega)
 refine cP ?_
 refine aV (fun hc=>absurd hc (by simp;omega)) fun hc=> ?_
 refine cP ?_
 simp only[List.length_map]
 refine aR (fun i:Nat=>[(8, .sl 27 i),(31, .im 1 .any ((A.map hb).map u32)),(32,i64 A.length),(33,i64 i)])
  (fun i H n=>i<=A.length/\28<=n/\∃d,bt H 27=some (.row 31 1 d (((A.take i).map fun l=>bits (hb l)).map fE))) (fun i=>A.length - i) 0
  ⟨_,_,_,Rt.nil 8 31 1 (by omega) rfl,cC,Nat.zero_le _,cX,⟨_,bu⟩⟩ ?_
 rintro i H n ⟨hi,hn,⟨d,r1⟩⟩
 have a2:(((A.take i).map fun l=>bits (hb l)).map fE).length=i:=by simp;omega
 by_cases hil:i<A.length
 ·have c0:=I2 (hb (A.getD i [])) (hb16 i)
  have e1:∀d,((A.map hb).map u32).getD ((i:Int)).toNat d=u32 (hb (A.getD i [])):=fun d=>by
   rw[Int.toNat_natCast];simp[List.getD,hil]
  refine cP ?_
  exact⟨i+1,by omega,_,_,_,Rt.refl _ _ _,cC,by omega,cX,⟨_,by
   rw[List.take_succ_eq_append_getElem hil,List.map_append,List.map_append]
   rw[show A.getD i []=A[i] by simp[List.getD,hil]]
   exact bu⟩⟩
 ·obtain rfl:i=A.length:=by omega
  rw[List.take_length] at r1
  refine cP ?_
  refine⟨?_⟩
  show AV.dI [cw.dY _ 5 (.sl 27 A.length),i64 0]=_
  rw[dH (k:=4) bu (by simp),cn _ (L8 _)]
def fe (u:bx) (t i k:Nat):List fA:=iZ u t++j4 (u.gr t) t i++((sR (u.gr t) i).take k).map fun h=>⟨h,((u.gr t).nd i).cI,t,i⟩
theorem sI (u:bx) (t:Nat):fe u t 0 0=iZ u t:=by simp[fe,j4]
theorem sG {u:bx} {t i k:Nat} (hk:k<(sR (u.gr t) i).length):fe u t i (k+1)=fe u t i k++[⟨(sR (u.gr t) i).getD k 0,((u.gr t).nd i).cI,t,i⟩]:=by
 unfold fe
 generalize sR (u.gr t) i=l at *
 generalize ((u.gr t).nd i).cI=th at *
 have e:l.getD k 0=l[k]:=by simp[List.getD,hk]
 rw[List.take_succ_eq_append_getElem hk,e,List.map_append,List.append_assoc,List.append_assoc,List.append_assoc]
 rfl
theorem uF {u:bx} {t i:Nat} (h5:((u.gr t).nd i).kind=5):fe u t i (sR (u.gr t) i).length=fe u t (i+1) 0:=by
 unfold fe
 rw[List.take_length,j4,nP,if_pos h5]
 simp
theorem sH {u:bx} {t i:Nat} (h5:((u.gr t).nd i).kind≠5):fe u t i 0=fe u t (i+1) 0:=by
 unfold fe
 rw[j4,nP,if_neg h5]
 simp
theorem qG (u:bx) (t:Nat):fe u t (u.gr t).nodes.length 0=iZ u (t+1):=by
 unfold fe
 rw[iZ]
 simp
theorem HK {u:bx} (hr:cg u) {t i k:Nat} (ht:t<u.bw.length) (hi:i<=(u.gr t).nodes.length) (hk:k<=16):(fe u t i k).length<=1048576:=by
 unfold fe
 have h1:=rK hr (m:=t) (by omega)
 have h2:=rJ (hr.gr ht) hr.oh.2.1 t i
 have h3:=(hr.gr ht).len.2
 have h4:=hr.oh.2.2
 simp only[List.length_append,List.length_map,List.length_take]
 omega
set_option maxHeartbeats 4000000 in
theorem C0 (u:bx) (hu:u.Wf) (hr:cg u):cU Tryz.prog 13 [u.av] [] 0 (fun r H n=>∃b d,r= .dI [.sl b (dn u).length,i64 0]/\bt H b=some (.row 69 4 d ((dn u).map fA.av))):=by
 have c0:=mG u hu
 rw[js.2 hr] at c0
 unfold mE at c0
 have hfew:=hr.oh
 have hE:dn u=iZ u u.bw.length:=rfl
 rw[hE]
 refine aJ aAJ rfl ?_
 refine cP ?_
 simp only[List.length_map]
 refine aR (fun t:Nat=>[(1, .pt 0 1 0 0),(7, .sl 18 (iZ u t).length),(26,cZ u.bw),(27,i64 u.bw.length),(28,i64 t)])
  (fun t H n=>t<=u.bw.length/\19<=n/\(∃d,bt H 0=some (.row 25 3 d [u.av]))/\∃d,bt H 18=some (.row 69 4 d ((iZ u t).map fA.av))) (fun t=>u.bw.length - t) 0
  ⟨_,_,_,Rt.nil 7 69 4 (by omega) rfl,cC,Nat.zero_le _,cX,⟨_,bu⟩,⟨_,bu⟩⟩ ?_
 rintro t H n ⟨ht,hn,⟨d0,r0⟩,⟨d1,r1⟩⟩
 by_cases htl:t<u.bw.length
 ·have c1:=DF u hu hr htl
  have hgk:=hr.gr htl
  have hnl:=hgk.len
  have hhl:=M6 hgk
  have e0:∀d,(u.bw.map cG.av).getD ((t:Int)).toNat d=(u.gr t).av:=fun d=>nV htl d
  have a0:(u.bw.map cG.av).length=u.bw.length:=by simp
  refine cP ?_
  simp only[List.length_map]
  clear c0 c1 e0
  refine aF (fun i:Nat=>[(1, .pt 0 1 0 0),(7, .sl 18 (fe u t i 0).length),(8,i64 t),(10, .im 1 .any ((uY (u.gr t)).map fE)),(26,cZ u.bw),(27,i64 u.bw.length),(28,i64 t),(40,jh (u.gr t).nodes),(41,i64 (u.gr t).nodes.length),(42,i64 i)])
   (fun i H2 n2=>i<=(u.gr t).nodes.length/\n+18<=n2/\(∃d,bt H2 0=some (.row 25 3 d [u.av]))/\∃d,bt H2 18=some (.row 69 4 d ((fe u t i 0).map fA.av))) (fun i=>(u.gr t).nodes.length - i) 0
   (by rw[sI];exact cC) ⟨Nat.zero_le _,cX,⟨_,bu⟩,⟨_,by rw[sI];exact bu⟩⟩ ?_
  rintro i H2 n2 ⟨hi,hn2,⟨d0,r0⟩,⟨d1,r1⟩⟩
  have a0:((u.gr t).nodes.map Node.av).length=(u.gr t).nodes.length:=by simp
  by_cases hil:i<(u.gr t).nodes.length
  ·have e0:∀d,((u.gr t).nodes.map Node.av).getD ((i:Int)).toNat d=((u.gr t).nd i).av:=fun d=>gm hil d
   by_cases h5:((u.gr t).nd i).kind=5
   ·have hh:=QO hgk hil
    have hle:=M7 hgk hfew.2.1 i
    have e1:∀d,((uY (u.gr t)).map fE).getD ((i:Int)).toNat d= .im 1 .any ((sR (u.gr t) i).map i64):=fun d=>by
     rw[Int.toNat_natCast,cx fE (uY (u.gr t)) i d (by rw[hhl];exact hil),<-hh];rfl
    have a1:((uY (u.gr t)).map fE).length=(u.gr t).nodes.length:=by rw[List.length_map];exact hhl
    have r2:decide (((u.gr t).nd i).kind≠5)=false:=decide_eq_false fun h=>h h5
    refine cP ?_
    simp only[List.length_map]
    clear e0 e1
    refine aF (fun k:Nat=>[(1, .pt 0 1 0 0),(7, .sl 18 (fe u t i k).length),(8,i64 t),(10, .im 1 .any ((uY (u.gr t)).map fE)),(12,i64 i),(13, .pt (n2+4) 1 0 0),(26,cZ u.bw),(27,i64 u.bw.length),(28,i64 t),(40,jh (u.gr t).nodes),(41,i64 (u.gr t).nodes.length),(42,i64 i),(53, .im 1 .any ((sR (u.gr t) i).map i64)),(54,i64 (sR (u.gr t) i).length),(55,i64 k)])
     (fun k H3 n3=>k<=(sR (u.gr t) i).length/\n2+5<=n3/\(∃d,bt H3 0=some (.row 25 3 d [u.av]))/\(∃d,bt H3 (n2+4)=some (.row 65 13 d [((u.gr t).nd i).av]))/\∃d,bt H3 18=some (.row 69 4 d ((fe u t i k).map fA.av))) (fun k=>(sR (u.gr t) i).length - k) 0
     cC ⟨Nat.zero_le _,cX,⟨_,bu⟩,⟨_,bu⟩,⟨_,bu⟩⟩ ?_
    rintro k H3 n3 ⟨hk,hn3,⟨d0,r0⟩,⟨d3,r3⟩,⟨d1,r1⟩⟩
    by_cases hkl:k<(sR (u.gr t) i).length
    ·have e0:∀d,((sR (u.gr t) i).map i64).getD ((k:Int)).toNat d=i64 ((sR (u.gr t) i).getD k 0):=fun d=>by
      rw[Int.toNat_natCast];exact cx i64 (sR (u.gr t) i) k d hkl
     have a2:((sR (u.gr t) i).map i64).length=(sR (u.gr t) i).length:=by rw[List.length_map]
     have a3:((fe u t i k).map fA.av).length=(fe u t i k).length:=by rw[List.length_map]
     have hkk:=HK hr htl (i:=i) (k:=k) (by omega) (by omega)
     refine cP ?_
     refine⟨k+1,by omega, ?_,by omega,cX,⟨_,bu⟩,⟨_,bu⟩, ?_⟩
     ·rw[sG hkl,List.length_append];exact cC
     ·rw[sG hkl,List.map_append];exact⟨_,bu⟩
    ·obtain rfl:k=(sR (u.gr t) i).length:=by omega
     rw[uF h5] at r1
     refine cP ?_
     exact⟨i+1,by omega,by rw[<-uF h5];exact cC,by omega,cX,⟨_,bu⟩,⟨_,bu⟩⟩
   ·have r2:decide (((u.gr t).nd i).kind≠5)=true:=decide_eq_true h5
    refine cP ?_
    rw[sH h5] at r1
    exact⟨i+1,by omega,by rw[<-sH h5];exact cC,by omega,cX,⟨_,bu⟩,⟨_,bu⟩⟩
  ·obtain rfl:i=(u.gr t).nodes.length:=by omega
   rw[qG] at r1
   refine cP ?_
   exact⟨t+1,by omega,_,_,_,Rt.refl _ _ _,by rw[<-qG];exact cC,by omega,cX,⟨_,bu⟩,⟨_,bu⟩⟩
 ·obtain rfl:t=u.bw.length:=by omega
  refine cP ?_
  exact⟨⟨18,d1,rfl,bu⟩⟩
theorem uH (u:bx) (hu:u.Wf) (hr:cg u):Pure Tryz.prog 13 [u.av] (fun r=>r= .dI [xq (dn u),i64 0]):=by
 have hf:=HX (dn u)
 refine cp ((C0 u hu hr).mono ?_) (by simp only[cH,c8];exact⟨hf,trivial,trivial⟩)
 rintro r H n ⟨b,d,rfl,hb⟩
 show AV.dI [cw.dY H 5 (.sl b (dn u).length),i64 0]=_
 rw[dH (k:=4) hb (by simp),cn _ hf]
end Go.Proofs.YtjopoheligmmoaaGreatDoor
namespace Go.cw
open Go.RowKit
set_option linter.unusedSimpArgs false
set_option linter.unusedVariables false
def WC (P:Program) (n lo:Nat) (code:Code) (fr:Fr) (H:Hp) (nx:Nat) (Q:QT):Prop:=
 ∀w0 M0 c0 a w,Holds w0 M0 c0 lo n fr H nx a w->code.wp P (LQ w0 M0 c0 lo n Q) a w
section
variable {P:Program} {n lo:Nat} {fr:Fr} {H:Hp} {nx:Nat} {Q:QT}
theorem WC.low {code:Code} {lc:LC} (hl:dD P n code=some lc) (h:WL P n lo lc fr H nx Q):WC P n lo code fr H nx Q:=h code hl
theorem WC.seq {x y:Code} (h:WC P n lo x fr H nx (jH (fun fr H nx=>WC P n lo y fr H nx Q) Q)):WC P n lo (.seq x y) fr H nx Q:=by
 intro w0 M0 c0 a w hh
 refine wp_seq (Code.wp_mono ?_ (h w0 M0 c0 a w hh))
 rintro e a' w' ⟨x',fr',H',nx',rfl,hQ,hh'⟩
 cases x' with
 |normal=>exact hQ w0 M0 c0 a' w' hh'
 |exit id=>exact⟨.exit id,fr',H',nx',rfl,hQ,hh'⟩
 |ret=>exact⟨.ret,fr',H',nx',rfl,hQ,hh'⟩
theorem WC.rt {code:Code} {fr2:Fr} {H2:Hp} {nx2:Nat} (hw:Rt fr H nx fr2 H2 nx2) (h:WC P n lo code fr2 H2 nx2 Q):WC P n lo code fr H nx Q:=
 fun w0 M0 c0 a w hh=>h w0 M0 c0 a w (hw _ _ _ _ _ _ _ hh)
theorem WC.cut {x y:Code} {lx:LC} (hl:dD P n x=some lx) (h:Go (W P n lo lx fr H nx (jH (fun fr' H' nx'=>∃fr2 H2 nx2,Rt fr' H' nx' fr2 H2 nx2/\WC P n lo y fr2 H2 nx2 Q) Q))):WC P n lo (.seq x y) fr H nx Q:=
 WC.seq (WC.low hl ((fX h).mono fun e fr H nx hh=>by
  cases e with
  |normal=>
   obtain⟨fr2,H2,nx2,h1,h2⟩:=hh
   exact WC.rt h1 h2
  |exit id=>exact hh
  |ret=>exact hh))
theorem cU.Q3 {f:FuncId} {fn:Func} {code:Code} {args:List AV} {lrs:List lA} {R:AV->Hp->Nat->Prop} (hf:P.funcs[f]?=some fn) (hname:(fn.name== "runtime.NumGoroutine")=false)
 (hb:fn.body=some code) (hr:iQ P fn.results.toList=some lrs) (ha:args.length<=fn.ntmps)
 (h:WC P fn.ntmps nx code (kG 0 args) H nx (vD lrs R)):cU P f args H nx R:=by
 refine⟨⟨fn,hf,by simp[hb],hname⟩,fun w0 c vs hS hH hU hv=>calls_of_wp hf hb ?_⟩
 obtain⟨ρ0,H0,U0,w,M0⟩:=c
 simp only at hH hU
 subst hH
 have hlen:=hv.length
 refine Code.wp_mono ?_ (h w0 M0 ⟨ρ0,bt H,U0,w,M0⟩ _ w ⟨?_,rfl,ρ0,U0,hU,hS,fun t=> ?_,hU,Cx.le.refl _⟩)
 ·rintro e a' w' ⟨x,fr',H',nx',rfl,hQ,hn,hd,ρ,U,hU',hS',hF,_,hle⟩
  have hQ:=yP hQ
  have fin:ng (ji fr' H' lrs) (fun rs=>R (pack rs) H' nx')->a'.defers=[]/\∃v,(results fn a'.tmps).run P w'= .ok v w'/\
   ∃v1 r H1 nx1 ρ1 U1,Ending.returned v= .returned v1/\R r H1 nx1/\(∀b,U1 b->b<nx1)/\dy w0 ⟨ρ1,bt H1,U1,w',M0⟩/\Cx.le ⟨ρ0,bt H,U0,w,M0⟩ ⟨ρ1,bt H1,U1,w',M0⟩/\VR ⟨ρ1,bt H1,U1,w',M0⟩ r v1:=by
   intro hq
   cases hres:ji fr' H' lrs with
   |none=>rw[hres] at hq;exact hq.elim
   |some avs=>
    rw[hres] at hq
    obtain⟨v,g1,g2⟩:=nh (P:=P) (fn:=fn) hS' rfl hF hr hres
    exact⟨hd,v,g1,v,_,H',nx',ρ,U,rfl,hq,hU',hS',hle,g2⟩
  cases x with
  |normal=>exact fin hQ
  |ret=>exact fin hQ
  |exit id=>exact hQ.elim
 ·simp[hlen];omega
 ·have:=oP (c:=⟨ρ0,bt H,U0,w,M0⟩) (args:=args) (vs:=vs) (k:=0) (pre:=[]) (post:=List.replicate (fn.ntmps - vs.length) undef) hv rfl t
  have e:(vs.toArray++Array.replicate (fn.ntmps - vs.toArray.size) undef)=([]++vs++List.replicate (fn.ntmps - vs.length) undef).toArray:=by
   apply Array.ext';simp
  simp only[e]
  exact this
theorem fW {ops:Array Oper} {o:Oper} {rest:List Oper} {a:Act} {w w':World} {v:Value} {Q:Exit->Act->World->Prop} (hg:o.guard=none) (hr:(execOp a.eval o).run P w= .ok (.value v) w') (h:wpList P ops Q rest (a.put o.dst v) w'):wpList P ops Q (o::rest) a w:=
 wpList_plain hg fun K hK=>by
  unfold Oper.wp
  rw[hr,Oper.upon_value]
  exact hK _ _ h
end
def tL (w w':World):Prop:=∀blk o sz v,0<sz->At w blk o sz v->At w' blk o sz v
mutual
theorem VR.jD {c:Cx} {w':World} (h:tL c.w w'):∀{a:AV} {v:Value},VR c a v->VR { c with w:=w' } a v
 | .sc u,v,hv=>by rw[VR] at hv ⊢;exact hv
 | .any,_,_=>by rw[VR];trivial
 | .im sz d es,v,hv=>by
  rw[VR] at hv ⊢
  obtain⟨a,cap,rfl,hc,hr⟩:=hv
  refine⟨a,cap,rfl,hc, ?_⟩
  rcases hr with h0|⟨blk,o,rfl,hz,hm,hr⟩
  ·exact .inl h0
  ·exact .inr ⟨blk,o,rfl,hz,hm,eA.jD h hz hr⟩
 | .ip sz d es i off,v,hv=>by
  rw[VR] at hv ⊢
  obtain⟨hi,ho,blk,o,rfl,hm,hr⟩:=hv
  exact⟨hi,ho,blk,o,rfl,hm,eA.jD h (by omega) hr⟩
 | .sl b len,v,hv=>by rw[VR] at hv ⊢;exact hv
 | .pt b len i off,v,hv=>by rw[VR] at hv ⊢;exact hv
 | .zc,v,hv=>by rw[VR] at hv ⊢;exact hv
 | .agg cs,v,hv=>by
  rw[VR] at hv ⊢
  obtain⟨vs,rfl,hr⟩:=hv
  exact⟨vs,rfl,cu.jD h hr⟩
 | .dI cs,v,hv=>by
  rw[VR] at hv ⊢
  obtain⟨vs,rfl,hr⟩:=hv
  exact⟨vs,rfl,cu.jD h hr⟩
 | .fn f p q,v,hv=>by
  rw[VR] at hv ⊢
  obtain⟨ps,qs,rfl,hp,hq⟩:=hv
  exact⟨ps,qs,rfl,cu.jD h hp,cu.jD h hq⟩
 | .nA t x,v,hv=>by
  rw[VR] at hv ⊢
  obtain⟨u,rfl,hu⟩:=hv
  exact⟨u,rfl,VR.jD h hu⟩
 | .mp b,v,hv=>by rw[VR] at hv ⊢;exact hv
 | .ab,v,hv=>by rw[VR] at hv ⊢;exact hv
 | .sv b len lo n,v,hv=>by rw[VR] at hv ⊢;exact hv
theorem eA.jD {c:Cx} {w':World} (h:tL c.w w') {sz:Nat} (hz:0<sz):∀{es:List AV} {blk o:Nat},eA c sz es blk o->eA { c with w:=w' } sz es blk o
 |[],_,_,_=>by rw[eA];trivial
 |e::es,blk,o,hv=>by
  rw[eA] at hv ⊢
  obtain⟨⟨v,h1,h2⟩,h3⟩:=hv
  exact⟨⟨v,h _ _ _ _ hz h1,VR.jD h h2⟩,eA.jD h hz h3⟩
theorem cu.jD {c:Cx} {w':World} (h:tL c.w w'):∀{az:List AV} {vs:List Value},cu c az vs->cu { c with w:=w' } az vs
 |[],vs,hv=>by rw[cu] at hv ⊢;exact hv
 |a::az,vs,hv=>by
  rw[cu] at hv ⊢
  obtain⟨v,vs',rfl,h1,h2⟩:=hv
  exact⟨v,vs',rfl,VR.jD h h1,cu.jD h h2⟩
end
structure qv (w w':World) (it:Nat):Prop where
 os:w'.os=w.os
 tape:w'.tape=w.tape
 output:w'.output=w.output
 size:w.heap.size<=w'.heap.size
 cc:∀k,k<w.heap.size->k≠it->w'.heap[k]?=w.heap[k]?
 was:it<w.heap.size->∃m s l c,w.heap[it]?=some (.mapIter m s l c)
theorem qv.at_ {w w':World} {it:Nat} (h:qv w w' it):tL w w':=fun blk o sz v hz ha=>by
 have hlt:=ha.lt hz
 refine ha.cc (h.cc blk hlt fun e=> ?_)
 subst e
 obtain⟨m,s,l,c,hm⟩:=h.was hlt
 have:=ha.2.1 0 hz
 have h0:v.cells[0]?=some (v.cells[0]'(by rw[ha.1];exact hz)):=Array.getElem?_eq_getElem _
 rw[h0] at this
 simp[World.cell?,hm] at this
theorem dy.jD {w0:World} {c:Cx} {w':World} {it:Nat} (h:dy w0 c) (ht:qv c.w w' it) (hlow:w0.heap.size<=it):dy w0 { c with w:=w' }:=by
 have hat:=ht.at_
 refine⟨⟨ht.os.trans h.below.os,ht.tape.trans h.below.tape,ht.output.trans h.below.output,Nat.le_trans h.below.size ht.size,fun k hk=> ?_⟩,h.m0,fun b e sz d es he=> ?_,h.inj⟩
 ·rw[ht.cc k (Nat.lt_of_lt_of_le hk h.below.size) (by omega)];exact h.below.block k hk
 ·obtain⟨h1,h2⟩:=h.row b e sz d es he
  refine⟨h1, ?_⟩
  have blkNe:∀blk o,blk<c.w.heap.size->c.w.heap[blk]?=some o->(∀m s l q,o≠ .mapIter m s l q)->w'.heap[blk]?=some o:=fun blk o hl ho hn=>by
   rw[ht.cc blk hl fun e=> ?_];exact ho
   subst e
   obtain⟨m,s,l,q,hm⟩:=ht.was hl
   rw[ho] at hm
   exact hn _ _ _ _ (Option.some.inj hm)
  rcases h2 with⟨hz,h3⟩|⟨hz,h3⟩
  ·refine .inl ⟨hz, ?_⟩
   rcases h3 with h4|⟨blk,o,z,h4,h5,⟨arr,h6,h7⟩,h8,h9⟩
   ·exact .inl h4
   ·exact .inr ⟨blk,o,z,h4,h5,⟨arr,blkNe blk _ (Array.getElem?_eq_some_iff.1 h6).1 h6 (by intros;simp),h7⟩,h8,eA.jD hat hz h9⟩
  ·obtain⟨r,x,ms,clk,h4,h5,h6,h7,h8,h9⟩:=h3
   exact .inr ⟨hz,r,x,ms,clk,h4,h5,blkNe r _ (Array.getElem?_eq_some_iff.1 h6).1 h6 (by intros;simp),h7,VR.jD hat h8,h9⟩
theorem nD.jD {c0 c:Cx} {lo:Nat} {w':World} {it:Nat} (h:nD c0 lo c) (ht:qv c.w w' it) (hlow:c0.w.heap.size<=it):nD c0 lo { c with w:=w' }:=
 ⟨h.1,⟨h.2.U,Nat.le_trans h.2.sz ht.size,fun b hb hl=>by
  obtain⟨h1,h2⟩:=h.2.blk b hb hl
  exact⟨(ht.cc b (Nat.lt_of_lt_of_le hl h.2.sz) (by omega)).trans h1,h2⟩,h.2.row⟩⟩
theorem FR.jD {c:Cx} {fr:Fr} {tmps:Array Value} {w':World} (h:FR c fr tmps) (ht:tL c.w w'):FR { c with w:=w' } fr tmps:=fun t=>VR.jD ht (h t)
theorem FR.aAz {c:Cx} {fr:Fr} {tmps tmps':Array Value} (h:FR c fr tmps) (hk:∀t,cq fr t≠ .any->tmps'.getD t undef=tmps.getD t undef):FR c fr tmps':=fun t=>by
 by_cases e:cq fr t= .any
 ·rw[e,VR];trivial
 ·rw[hk t e];exact h t
theorem rk {a:Act} {d t:Nat} {v:Value} (h:t≠d):(a.put (some d) v).tmps.getD t undef=a.tmps.getD t undef:=by
 simp only[Act.put]
 simp[Array.getD_eq_getD_getElem?,Array.getElem?_setIfInBounds,Ne.symm h]
theorem N7 {a:Act} {d:Nat} {v:Value} (h:d<a.tmps.size):(a.put (some d) v).tmps.getD d undef=v:=by
 simp[Act.put,Array.getD_eq_getD_getElem?,Array.getElem?_setIfInBounds,h]
theorem BG {P:Program} (w:World) (ty:TypeId) (it bm since c0:Nat) (seen:Array Nat) (es:Array MapEntry) (clock:Nat) (hi:w.heap[it]?=some (.mapIter (some bm) since seen c0)) (hb:w.heap[bm]?=some (.map es clock)) (hold:∀x∈es.toList,x.born<since) (hsc:since<=c0):
 ((leftOf es seen).size=0/\(Instr.next (.pointer (some ⟨it,0,none⟩)) false ty).run P w= .ok (.tuple #[.bool false]) w)\/
 ∃e∈(leftOf es seen).toList,∃w1:World,qv w w1 it/\w1.heap.size=w.heap.size/\w1.heap[it]?=some (.mapIter (some bm) since (seen.push e.born) clock)/\(Instr.next (.pointer (some ⟨it,0,none⟩)) false ty).run P w= .ok (.tuple #[.bool true,e.key,e.val]) w1:=by
 have hlt:it<w.heap.size:=(Array.getElem?_eq_some_iff.1 hi).1
 simp only[Instr.next,getObj,Sem.run_bind,Sem.run,hi,hb,Result.andThen,next_test_false seen es since c0 hold hsc,Bool.false_eq_true,if_false]
 unfold leftOf
 have hmem:∀x∈(Array.filter (fun e=> !seen.contains e.born) es).toList,x.born<since:=fun x hx=>hold x (by simp at hx ⊢;exact hx.1)
 generalize Array.filter (fun e=> !seen.contains e.born) es=L at hmem ⊢
 have e1:L.filter (fun x=>decide (x.born<since))=L:=Array.filter_eq_self.2 (fun x hx=>by simpa using hmem x (by simpa using hx))
 have e2:L.filter (fun x=>decide (x.born≥since))=#[]:=by
  rw[Array.filter_eq_empty_iff]
  intro x hx
  have:=hmem x (by simpa using hx)
  simp
  omega
 simp only[e1,e2,Array.append_empty]
 by_cases h0:L.size=0
 ·left
  have:L=#[]:=Array.eq_empty_of_size_eq_zero h0
  subst this
  refine⟨rfl, ?_⟩
  simp[choose,Sem.run,Question.forced]
 ·right
  have hne:L.isEmpty=false:=by simp[Array.isEmpty,h0]
  simp only[hne,Bool.false_eq_true,if_false,Array.empty_append,Array.size_map]
  have hch:∃(j:Nat) (w1:World),j<L.size/\(w1.heap=w.heap/\w1.os=w.os/\w1.tape=w.tape/\w1.output=w.output)/\(choose (Question.mapNext L.size)).run P w= .ok j w1:=by
   by_cases hf:L.size<=1
   ·exact⟨0,w,by omega,⟨rfl,rfl,rfl,rfl⟩,by simp[choose,Sem.run,Question.forced,hf]⟩
   ·exact⟨_,w.drew,Nat.mod_lt _ (by omega),⟨rfl,rfl,rfl,rfl⟩,by
     simp only[choose,Sem.run,Question.forced,decide_eq_true_eq,hf,if_false,Question.cut]
     rfl⟩
  obtain⟨j,w1,hj,⟨a1,a2,a3,a4⟩,hrun⟩:=hch
  refine⟨L[j],by simp,{ w1 with heap:=w1.heap.setIfInBounds it (.mapIter (some bm) since (seen.push L[j].born) clock) },⟨a2,a3,a4,by simp[a1],fun k hk hne=>by simp[a1,Array.getElem?_setIfInBounds,Ne.symm hne],fun _=>⟨_,_,_,_,hi⟩⟩,by simp[a1],by simp[a1,hlt], ?_⟩
  have hset:∀(o':Obj),(setObj it o').run P w1= .ok () { w1 with heap:=w1.heap.setIfInBounds it o' }:=fun o'=>by
   simp only[setObj,Sem.run,a1,hi]
  simp only[hrun,Array.getElem?_map,Array.getElem?_eq_getElem hj,Option.map_some,Sem.run_bind,hset,Result.andThen]
  rfl
theorem yU {P:Program} (w:World) (it bm since:Nat) (seen:Array Nat) (es:Array MapEntry) (clock:Nat) (e:MapEntry) (hi:w.heap[it]?=some (.mapIter (some bm) since (seen.push e.born) clock)) (hb:w.heap[bm]?=some (.map es clock)) (he:e∈es.toList) (hn:(es.toList.map (·.born)).Nodup):
 (Instr.entry (.pointer (some ⟨it,0,none⟩))).run P w= .ok (.tuple #[e.key,e.val]) w:=by
 have hf:es.find? (·.born==e.born)=some e:=by rw[<-Array.find?_toList];exact find_born e es.toList hn he
 simp only[Instr.entry,getObj,Sem.run_bind,Sem.run,hi,hb,Result.andThen,Array.back?_push,bne_self_eq_false,Bool.false_eq_true,if_false,hf]
 rfl
end Go.cw
namespace Go.Proofs
open Go.Shelf
def Tryz.J5:Go.Shelf.Ren:=⟨fun|5=>40|8=>82|7=>81|19=>141|20=>142|10=>132|11=>133|12=>134|13=>135|14=>136|15=>137|16=>138|17=>139|18=>140|30=>172|31=>173|32=>174|33=>175|34=>176|35=>104|40=>200|n=>n,fun|23=>31|25=>3|3=>3|32=>142|22=>31|0=>0|44=>132|46=>206|4=>4|36=>198|35=>197|41=>203|5=>5|9=>9|53=>231|57=>235|63=>266|64=>267|n=>n,fun|n=>n⟩
theorem Tryz.eX:Go.Proofs.SlLaysM.n5 Tryz.prog Tryz.J5:={
 mixed:=by kernel_rfl
 f5:=⟨Tryz.f40.name,by decide,Tryz.func40.trans (congrArg some (by kernel_rfl))⟩
 f7:=⟨Tryz.f81.name,by decide,Tryz.func81.trans (congrArg some (by kernel_rfl))⟩
 f8:=Tryz.func82.trans (congrArg some (by kernel_rfl))
 f10:=⟨Tryz.f132.name,by decide,Tryz.func132.trans (congrArg some (by kernel_rfl))⟩
 f11:=⟨Tryz.f133.name,by decide,Tryz.func133.trans (congrArg some (by kernel_rfl))⟩
 f12:=⟨Tryz.f134.name,by decide,Tryz.func134.trans (congrArg some (by kernel_rfl))⟩
 f13:=⟨Tryz.f135.name,by decide,Tryz.func135.trans (congrArg some (by kernel_rfl))⟩
 f14:=⟨Tryz.f136.name,by decide,Tryz.func136.trans (congrArg some (by kernel_rfl))⟩
 f15:=⟨Tryz.f137.name,by decide,Tryz.func137.trans (congrArg some (by kernel_rfl))⟩
 f16:=⟨Tryz.f138.name,by decide,Tryz.func138.trans (congrArg some (by kernel_rfl))⟩
 f17:=⟨Tryz.f139.name,by decide,Tryz.func139.trans (congrArg some (by kernel_rfl))⟩
 f18:=⟨Tryz.f140.name,by decide,Tryz.func140.trans (congrArg some (by kernel_rfl))⟩
 f19:=Tryz.func141.trans (congrArg some (by kernel_rfl))
 f20:=Tryz.func142.trans (congrArg some (by kernel_rfl))
 f30:=⟨Tryz.f172.name,by decide,Tryz.func172.trans (congrArg some (by kernel_rfl))⟩
 f31:=Tryz.func173.trans (congrArg some (by kernel_rfl))
 f32:=Tryz.func174.trans (congrArg some (by kernel_rfl))
 f33:=⟨Tryz.f175.name,by decide,Tryz.func175.trans (congrArg some (by kernel_rfl))⟩
 f34:=⟨Tryz.f176.name,by decide,Tryz.func176.trans (congrArg some (by kernel_rfl))⟩
 f35:=⟨Tryz.f104.name,by decide,Tryz.func104.trans (congrArg some (by kernel_rfl))⟩
 f40:=⟨Tryz.f200.name,by decide,Tryz.func200.trans (congrArg some (by kernel_rfl))⟩
 t0:=Tryz.underlying0
 a0:=Tryz.isAgg0
 z0:=Tryz.sizeOf0
 v0:=Tryz.zeroValue0
 t3:=Tryz.underlying3
 a3:=Tryz.isAgg3
 z3:=Tryz.sizeOf3
 v3:=Tryz.zeroValue3
 t4:=Tryz.underlying4
 a4:=Tryz.isAgg4
 z4:=Tryz.sizeOf4
 v4:=Tryz.zeroValue4
 t5:=Tryz.underlying5
 a5:=Tryz.isAgg5
 z5:=Tryz.sizeOf5
 v5:=Tryz.zeroValue5
 t9:=Tryz.underlying9
 a9:=Tryz.isAgg9
 z9:=Tryz.sizeOf9
 v9:=Tryz.zeroValue9
 t22:=Tryz.underlying31
 a22:=Tryz.isAgg31
 z22:=Tryz.sizeOf31
 v22:=Tryz.zeroValue31
 t23:=Tryz.underlying31
 a23:=Tryz.isAgg31
 z23:=Tryz.sizeOf31
 v23:=Tryz.zeroValue31
 t25:=Tryz.underlying3
 a25:=Tryz.isAgg3
 z25:=Tryz.sizeOf3
 v25:=Tryz.zeroValue3
 t32:=Tryz.underlying142
 a32:=Tryz.isAgg142
 z32:=Tryz.sizeOf142
 v32:=Tryz.zeroValue142
 t35:=Tryz.underlying197
 a35:=Tryz.isAgg197
 z35:=Tryz.sizeOf197
 v35:=Tryz.zeroValue197
 t36:=Tryz.underlying198
 a36:=Tryz.isAgg198
 z36:=Tryz.sizeOf198
 v36:=Tryz.zeroValue198
 t41:=Tryz.underlying203
 a41:=Tryz.isAgg203
 z41:=Tryz.sizeOf203
 v41:=Tryz.zeroValue203
 t44:=Tryz.underlying132
 a44:=Tryz.isAgg132
 z44:=Tryz.sizeOf132
 v44:=Tryz.zeroValue132
 t46:=Tryz.underlying206
 a46:=Tryz.isAgg206
 z46:=Tryz.sizeOf206
 v46:=Tryz.zeroValue206
 t53:=Tryz.underlying231
 a53:=Tryz.isAgg231
 z53:=Tryz.sizeOf231
 v53:=Tryz.zeroValue231
 t57:=Tryz.underlying235
 a57:=Tryz.isAgg235
 z57:=Tryz.sizeOf235
 v57:=Tryz.zeroValue235
 t63:=Tryz.underlying266
 a63:=Tryz.isAgg266
 z63:=Tryz.sizeOf266
 v63:=Tryz.zeroValue266
 t64:=Tryz.underlying267
 a64:=Tryz.isAgg267
 z64:=Tryz.sizeOf267
 v64:=Tryz.zeroValue267 }
end Go.Proofs
namespace Go.Proofs.YtjopoheligmmoaaGreatDoor
open Go Go.cw Go.Proofs Go.RowKit Go.Sort
set_option linter.unusedSimpArgs false
set_option linter.unusedVariables false
def eX (l:List Int):List Int:=l.mergeSort fun x y=>decide (x<=y)
theorem lr (l:List Int):(eX l).length=l.length:=List.length_mergeSort l
theorem J4 {l:List Int} {x:Int}:x∈eX l↔x∈l:=(List.mergeSort_perm l _).mem_iff
theorem E3 {w0:World} {c:Cx} (hS:dy w0 c) {b:Nat} {e:TypeId} {d:AV} {l:List Int} (hcb:c.H b=some (.row e 1 d (l.map i64))) (h0:l≠[]) (hl:l.length<4611686018427387904) {v:Value} (hv:VR c (.sl b l.length) v):
 Calls Tryz.prog 40 #[v] c.w fun en w'=>en= .returned (.tuple #[])/\dy w0 ⟨c.ρ,fU c.H b (some (.row e 1 d ((eX l).map i64))),c.U,w',c.M0⟩/\c.le ⟨c.ρ,fU c.H b (some (.row e 1 d ((eX l).map i64))),c.U,w',c.M0⟩/\
  c.w.heap.size<=w'.heap.size/\∀i,i<c.w.heap.size->(∀o z,c.ρ b≠some (i,o,z))->w'.heap[i]?=c.w.heap[i]?:=by
 rw[VR] at hv
 obtain⟨hUb,a,cap,rfl,hr⟩:=hv
 obtain⟨_,hr2⟩:=hr _ _ _ _ hcb
 have hr3:=hr2 (by simp)
 obtain⟨_,_,hor⟩:=hS.kO b _ _ _ _ hcb (.inr (by omega))
 have hln:0<l.length:=List.length_pos_iff.2 h0
 rcases hor with⟨_,hes⟩|⟨blk,o,z,hρ,hlow,⟨arr,harr,hsz⟩,hlz,hrow⟩
 ·exact absurd (List.map_eq_nil_iff.1 hes) h0
 rcases hr3 with⟨h1,_,_⟩|⟨blk',o',z',h1,rfl,hc1,hc2,hc3,_⟩
 ·rw[hρ] at h1;cases h1
 rw[hρ] at h1
 cases h1
 have hblk:blk<c.w.heap.size:=(Array.getElem?_eq_some_iff.1 harr).1
 rw[List.length_map] at hlz
 have hcell:∀j,j<l.length->c.w.cell? ⟨blk,o+j,none⟩=some (.int .i64 (l.getD j 0)):=fun j hj=>by
  obtain⟨v,⟨hv1,hv2,_⟩,hv3⟩:=eC hrow j (by simpa using hj)
  rw[cx i64 l j .any hj,VR] at hv3
  have:=hv2 0 (by omega)
  rw[hv3] at this
  rw[Nat.mul_one,Nat.add_zero] at this
  rw[this];rfl
 have hHolds:Go.Sort.Holds (Value.int .i64) c.w blk o l.toArray:=fun j hj=>by
  have hj':j<l.length:=by simpa using hj
  refine⟨?_, ?_⟩
  ·rw[hcell j hj',getElem!_pos l.toArray j hj]
   simp[List.getD,hj']
  ·simp only[World.frozen?,harr]
   simp
 refine(AnyM.slices_Sort_int Tryz.eX blk o cap l c.w hHolds hblk hl).mono ?_
 rintro en w' ⟨rfl,n,os,hw'⟩
 change w'=grow (putRow (Value.int .i64) (Go.Sort.ahead c.w n) blk o (eX l).toArray) os at hw'
 have hlen:=lr l
 have hsz1:(putRow (Value.int .i64) (Go.Sort.ahead c.w n) blk o (eX l).toArray).heap.size=c.w.heap.size:=by simp[Go.Sort.ahead]
 have hold:∀i,i<c.w.heap.size->w'.heap[i]?=(putRow (Value.int .i64) (Go.Sort.ahead c.w n) blk o (eX l).toArray).heap[i]?:=fun i hi=>by
  rw[hw',heap_grow_old _ _ (by rw[hsz1];exact hi)]
 have hne:∀i,i<c.w.heap.size->i≠blk->w'.heap[i]?=c.w.heap[i]?:=fun i hi hn=>by
  rw[hold i hi]
  simp[putRow,mapBlock,Go.Sort.ahead,Array.getElem?_modify,Ne.symm hn]
 have hat:w'.heap[blk]?=some (.cells (putCells (Value.int .i64) o (eX l).toArray arr) e (0,0)):=by
  rw[hold blk hblk]
  simp[putRow,mapBlock,Go.Sort.ahead,Array.getElem?_modify,harr,onCells]
 have hHn:∀j,j<l.length->w'.cell? ⟨blk,o+j,none⟩=some (.int .i64 ((eX l).getD j 0)):=fun j hj=>by
  have h1:Go.Sort.Holds (Value.int .i64) (putRow (Value.int .i64) (Go.Sort.ahead c.w n) blk o (eX l).toArray) blk o (eX l).toArray:=
   holds_putRow _ _ _ _ l.toArray (eX l).toArray (fun j hj=>hHolds j hj) (by simp[hlen])
  have hj2:j<(eX l).toArray.size:=by simp[hlen];exact hj
  have h2:=(h1 j hj2).1
  rw[World.cell?_of_block (a:=⟨blk,o+j,none⟩) (hold blk hblk),h2,getElem!_pos _ j hj2]
  have hj3:j<(eX l).length:=by rw[hlen];exact hj
  simp[List.getD,hj3]
 have hss:c.w.heap.size<=w'.heap.size:=by
  rw[hw']
  have:(putRow (Value.int .i64) (Go.Sort.ahead c.w n) blk o (eX l).toArray).heap.size<=(grow (putRow (Value.int .i64) (Go.Sort.ahead c.w n) blk o (eX l).toArray) os).heap.size:=by simp[grow]
  rw[hsz1] at this
  exact this
 have hput:=hS.qc (b:=b) (e:=e) (sz:=1) d (es:=(eX l).map i64) (w':=w') (blk:=blk) (o:=o) (z:=z) (arr:=putCells (Value.int .i64) o (eX l).toArray arr) (by omega)
  (.inr ⟨_,_,_,hcb, .inl ⟨by simp[hlen],hρ⟩⟩) (.inr ⟨_,_,_,hcb,hρ⟩) (by rw[hw'];rfl) (by rw[hw'];rfl) (by rw[hw'];rfl) hss hne hat (by simpa[putCells] using hsz) (by simp[hlen];omega) (fun hle i hi=>by
   have hi':i<l.length:=by simpa[hlen] using hi
   refine⟨.int .i64 ((eX l).getD i 0),⟨rfl,fun j hj=> ?_,fun j u hu=> ?_⟩, ?_⟩
   ·have:j=0:=by omega
    subst this
    rw[Nat.mul_one,Nat.add_zero,hHn i hi'];rfl
   ·have:u= .int .i64 ((eX l).getD i 0):=by
     have:=List.mem_of_getElem? (l:=[Value.int .i64 ((eX l).getD i 0)]) (by simpa[Value.cells] using hu)
     simpa using this
    rw[this];rfl
   ·rw[cx i64 (eX l) i .any (by rw[hlen];exact hi'),VR];rfl)
 have hρe:fU c.ρ b (some (blk,o,z))=c.ρ:=by
  funext x
  by_cases hx:x=b
  ·subst hx;simp[hρ]
  ·exact eV _ _ hx
 have hUe:(fun x=>c.U x\/x=b)=c.U:=by
  funext x
  exact propext ⟨fun h=>h.elim id fun e=>e▸hUb, .inl⟩
 rw[hρe,hUe] at hput
 refine⟨rfl,hput.1,hput.2,hss,fun i hi hno=>hne i hi fun e=> ?_⟩
 subst e
 exact hno _ _ hρ
end Go.Proofs.YtjopoheligmmoaaGreatDoor
namespace Go.cw
open Go.RowKit
set_option linter.unusedSimpArgs false
set_option linter.unusedVariables false
theorem KP {P:Program} {c:Code} {Q:Exit->Act->World->Prop} {a:Act} {w:World} (I:Nat->Act->World->Prop) {m0:Nat} (h0:I m0 a w)
 (round:∀m a w,I m a w->c.wp P (Exit.then (fun a' w'=>∃m',m'<m/\I m' a' w') Q) a w):(Code.loop c).wp P Q a w:=by
 intro b k cs
 have key:∀m a w,I m a w->∃e a' w',Q e a' w'/\Arrives P (lone (b.at a (.code c:: .inLoop c::k)) cs w) b k cs e a' w':=by
  intro m
  induction m using Nat.strongRecOn with
  |_ m ih=>
   intro a w hI
   obtain⟨e,a1,w1,hq,harr⟩:=round m a w hI b (.inLoop c::k) cs
   cases e with
   |normal=>
    obtain⟨m',hlt,hI1⟩:=hq
    obtain⟨e2,a2,w2,hq2,harr2⟩:=ih m' hlt a1 w1 hI1
    exact⟨e2,a2,w2,hq2, .of_steps (Steps.trans harr (.one step_inLoop)) harr2⟩
   |exit id=>exact⟨_,a1,w1,hq, .pass (x:= .inLoop c) rfl (fun _ _=> .inl (by simp)) harr⟩
   |goto l=>exact⟨_,a1,w1,hq, .pass (x:= .inLoop c) rfl (fun _ _=> .inl (by simp)) harr⟩
   |ret=>exact⟨_,a1,w1,hq, .pass (x:= .inLoop c) rfl (fun _ _=> .inl (by simp)) harr⟩
   |panic ch=>exact⟨_,a1,w1,hq, .pass (x:= .inLoop c) rfl (fun _ _=> .inl (by simp)) harr⟩
   |outgrown=>exact⟨_,a1,w1,hq, .pass (x:= .inLoop c) rfl (fun _ _=> .inl (by simp)) harr⟩
 obtain⟨e,a',w',hq,harr⟩:=key m0 a w h0
 exact⟨e,a',w',hq, .of_steps (.one step_loop) harr⟩
def Q6 (a:Act):List (Nat×Value)->Act
 |[]=>a
 |(d,v)::r=>Q6 (a.put (some d) v) r
theorem uz {t:Nat}:∀(l:List (Nat×Value)) (a:Act),(∀p∈l,t≠p.1)->(Q6 a l).tmps.getD t undef=a.tmps.getD t undef
 |[],a,_=>rfl
 |(d,v)::r,a,h=>by
  rw[Q6,uz r _ fun p hp=>h p (List.mem_cons_of_mem _ hp)]
  exact rk (h (d,v) (by simp))
theorem eH {a:Act} {d:Nat} {v:Value} (h:d<a.tmps.size):(a.put (some d) v).eval (.tmp d)=v:=N7 h
theorem dc {a:Act} {d t:Nat} {v:Value} (h:t≠d):(a.put (some d) v).eval (.tmp t)=a.eval (.tmp t):=rk h
theorem yh {P:Program} {a:Act} {w:World} {o:Oper} {t kt e:TypeId} {x k:Operand} {d:TypeDesc} {str:Bool} {rr clk:Nat} {ms:Array MapEntry} {kv v:Value} {j:Nat} (ho:o.op= .lookup t x k false) (ht:P.underlying t=some (.map kt e)) (hu:P.underlying kt=some d) (hd:AA d=some str) (hok:kZ str kv=true)
 (hx:a.eval x= .map (some rr)) (hkk:a.eval k=kv) (hheap:w.heap[rr]?=some (.map ms clk)) (hf:Instr.findNow d kv ms.toList 0=some (some (j,v))):(execOp a.eval o).run P w= .ok (.value v) w:=by
 have hck:∀n,(Instr.checkKey ms.isEmpty (n+1) kt kv).run P w= .ok () w:=fun n=>qT hu hd hok _ n w
 have hget:=MapKept.run_getObj_map (P:=P) hheap
 have hfk:=lq (P:=P) hu hf w
 unfold execOp
 simp only[ho,Instr.lookup,Sem.run_bind,run_underlying ht,Result.andThen_ok,hx,hkk,hget,Sem.run_pure,hck,hfk]
 simp only[Sem.run_bind,Sem.run_pure,Result.andThen_ok,Bool.false_eq_true,if_false]
end Go.cw
namespace Go.Proofs.YtjopoheligmmoaaGreatDoor
open Go Go.cw Go.Proofs Go.RowKit
set_option linter.unusedSimpArgs false
set_option linter.unusedVariables false
def Code.l:Code->Code
 | .seq a _=>a
 |c=>c
def Code.r:Code->Code
 | .seq _ b=>b
 |c=>c
def TD {P:Program} {f:Nat} {fn:Func} (_:P.funcs[f]?=some fn):Option Code:=fn.body
noncomputable def jb:Code:=(TD Tryz.func15).getD .skip
noncomputable def ZG:Code:=Code.l (Code.r (Code.r (Code.r (Code.r (Code.r jb)))))
def fB (L:List (Int×Nat)) (S:Int->List Int):List AV:=L.map fun p=>og (.int .i64 p.1) (.sl p.2 (S p.1).length)
structure B8 (L:List (Int×Nat)) (S:Int->List Int) (mb nx lo n:Nat) (fr:Fr) (H:Hp) (w0:World) (M0:Nat->Prop) (c0:Cx) (V:List Int) (H':Hp) (ρ:Nat->Option (Nat×Nat×Nat)) (U:Nat->Prop) (seen:Array Nat) (r:Nat) (ms:Array MapEntry) (clk it:Nat) (a:Act) (w:World):Prop where
 size:a.tmps.size=n
 defers:a.defers=[]
 rows:∀p∈L,∃d,bt H' p.2=some (.row 3 1 d ((if p.1∈V then eX (S p.1) else S p.1).map i64))
 rest:∀b,b∉L.map (·.2)->bt H' b=bt H b
 names:∀b,U b->b<nx
 UL:dy w0 ⟨ρ,bt H',U,w,M0⟩
 fr:FR ⟨ρ,bt H',U,w,M0⟩ fr a.tmps
 OY:nD c0 lo ⟨ρ,bt H',U,w,M0⟩
 at_:ρ mb=some (r,0,0)
 map:w.heap[r]?=some (.map ms clk)
 born:mz ms clk
 ents:iE ⟨ρ,bt H',U,w,M0⟩ (fB L S) ms.toList
 iter:w.heap[it]?=some (.mapIter (some r) clk seen clk)
 reg:a.eval (.tmp 50)= .pointer (some ⟨it,0,none⟩)
 low:w0.heap.size<=it
 T8:c0.w.heap.size<=it
section
structure yk (c:Code):Prop where
 ok:∃i1 i2 i3 i4 o1 o2 o3 o4 o5 o6 o7 o8 o9 o10 o11,c= .seq (.region i1 #[o1,o2] false) (.block 2 (.loop (.seq (.region i2 #[o3,o4] false) (.seq (.cond (.tmp 52) .skip (.exit 2)) (.block 3 (.seq (.region i3 #[o5,o6,o7] false) (.region i4 #[o8,o9,o10,o11] false)))))))/\
  (o1.op= .move (.tmp 7)/\o1.dst=some 49/\o1.guard=none)/\(o2.op= .range 76 (.tmp 49)/\o2.dst=some 50/\o2.guard=none)/\
  (o3.op= .next (.tmp 50) false/\o3.dst=some 51/\o3.guard=none)/\(o4.op= .extract (.tmp 51) 0/\o4.dst=some 52/\o4.guard=none)/\
  (o5.op= .entry (.tmp 50)/\o5.dst=some 53/\o5.guard=none)/\(o6.op= .extract (.tmp 53) 0/\o6.dst=some 54/\o6.guard=none)/\(o7.op= .assign (.tmp 54)/\o7.dst=some 10/\o7.guard=none)/\
  (o8.op= .move (.tmp 7)/\o8.dst=some 55/\o8.guard=none)/\(o9.op= .move (.tmp 10)/\o9.dst=some 56/\o9.guard=none)/\(o10.op= .lookup 76 (.tmp 55) (.tmp 56) false/\o10.dst=some 57/\o10.guard=none)/\
  (o11.op= .call { callee:= .value (.func 40),args:=#[.tmp 57],argTypes:=#[31] }/\o11.dst=some 58/\o11.guard=none)
set_option maxRecDepth 100000 in
theorem JV:yk ZG:=⟨⟨_,_,_,_,_,_,_,_,_,_,_,_,_,_,_,rfl,⟨rfl,rfl,rfl⟩,⟨rfl,rfl,rfl⟩,⟨rfl,rfl,rfl⟩,⟨rfl,rfl,rfl⟩,⟨rfl,rfl,rfl⟩,⟨rfl,rfl,rfl⟩,⟨rfl,rfl,rfl⟩,⟨rfl,rfl,rfl⟩,⟨rfl,rfl,rfl⟩,⟨rfl,rfl,rfl⟩,⟨rfl,rfl,rfl⟩⟩⟩
theorem wz (L:List (Int×Nat)) (S:Int->List Int):(fB L S).length=L.length:=by simp[fB]
theorem pZ {S:Int->List Int}:∀(L:List (Int×Nat)) (i:Nat) (p:Int×Nat),p∈L->(L.map (·.1)).Nodup->∃j,fG false (.int .i64 p.1) (fB L S) i=some (some (j, .sl p.2 (S p.1).length))
 |[],_,p,h,_=>by cases h
 |q::r,i,p,h,hn=>by
  rw[List.map_cons,List.nodup_cons] at hn
  show ∃j,fG false (.int .i64 p.1) (og (.int .i64 q.1) (.sl q.2 (S q.1).length)::fB r S) i=_
  rcases List.mem_cons.1 h with rfl|h
  ·exact⟨i,by simp[fG,uK,og,DJ]⟩
  ·have hne:p.1≠q.1:=fun e=>hn.1 (by rw[<-e];exact List.mem_map.2 ⟨p,h,rfl⟩)
   obtain⟨j,hj⟩:=pZ r (i+1) p h hn.2
   exact⟨j,by simp[fG,uK,og,DJ,hne];exact hj⟩
theorem ND {c:Cx} {L:List (Int×Nat)} {S:Int->List Int} {ms:List MapEntry} (h:iE c (fB L S) ms) {e:MapEntry} (he:e∈ms):∃p∈L,e.key= .int .i64 p.1/\VR c (.sl p.2 (S p.1).length) e.val:=by
 rw[lQ] at h
 obtain⟨i,hi,rfl⟩:=List.getElem_of_mem he
 have hl:i<L.length:=by rw[<-wz L S,h.1];exact hi
 have:=h.2 i (og (.int .i64 L[i].1) (.sl L[i].2 (S L[i].1).length)) ms[i] (by simp[fB,hl]) (by simp[hi])
 obtain⟨h1,h2⟩:=uL.1 this
 exact⟨L[i],List.getElem_mem hl,h1,h2⟩
theorem NC {c:Cx} {L:List (Int×Nat)} {S:Int->List Int} {ms:List MapEntry} (h:iE c (fB L S) ms) {p:Int×Nat} (hp:p∈L):∃e∈ms,e.key= .int .i64 p.1:=by
 rw[lQ] at h
 obtain⟨i,hi,rfl⟩:=List.getElem_of_mem hp
 have hl:i<ms.length:=by rw[<-h.1,wz];exact hi
 have:=h.2 i (og (.int .i64 L[i].1) (.sl L[i].2 (S L[i].1).length)) ms[i] (by simp[fB,hi]) (by simp[hl])
 obtain⟨h1,_⟩:=uL.1 this
 exact⟨ms[i],List.getElem_mem hl,h1⟩
section
variable {L:List (Int×Nat)} {S:Int->List Int} {mb nx lo n:Nat} {fr:Fr} {H:Hp} {w0:World} {M0:Nat->Prop} {c0:Cx} {V:List Int} {H':Hp} {ρ:Nat->Option (Nat×Nat×Nat)} {U:Nat->Prop} {seen:Array Nat} {r:Nat} {ms:Array MapEntry} {clk it:Nat} {a:Act} {w:World}
def vu:List Nat:=[10,49,50,51,52,53,54,55,56,57,58]
theorem qK {c:Cx} (hfree:∀t∈vu,cq fr t= .any) (h:FR c fr a.tmps) (l:List (Nat×Value)) (hl:∀p∈l,p.1∈vu):FR c fr (Q6 a l).tmps:=
 h.aAz fun t ht=>uz l a fun p hp e=>ht (hfree t (e▸hl p hp))
theorem B8.sorted (hI:B8 L S mb nx lo n fr H w0 M0 c0 V H' ρ U seen r ms clk it a w) (hfree:∀t∈vu,cq fr t= .any) (hb:(L.map (·.2)).Nodup) (hk:(L.map (·.1)).Nodup) (hmb:mb∉L.map (·.2)) (hmap:∃d,bt H mb=some (.row 3 0 d (mapA (fB L S)))) (hS:∀p∈L,S p.1≠[]/\(S p.1).length<4611686018427387904) {p:Int×Nat} (hp:p∈L) {v:Value}
 (hv:VR ⟨ρ,bt H',U,w,M0⟩ (.sl p.2 (S p.1).length) v) {a2:Act} (hsz:a2.tmps.size=n) (hdf:a2.defers=[]) (hfr:FR ⟨ρ,bt H',U,w,M0⟩ fr a2.tmps) (hreg:a2.eval (.tmp 50)= .pointer (some ⟨it,0,none⟩)):
 Calls Tryz.prog 40 #[v] w fun en w'=>en= .returned (.tuple #[])/\∀u,∃H2,B8 L S mb nx lo n fr H w0 M0 c0 (p.1::V) H2 ρ U seen r ms clk it (a2.put (some 58) u) w':=by
 obtain⟨d,hrow⟩:=hI.rows p hp
 obtain⟨s0,s1⟩:=hS p hp
 have hlen:(if p.1∈V then Go.Proofs.YtjopoheligmmoaaGreatDoor.eX (S p.1) else S p.1).length=(S p.1).length:=by split<;>simp[lr]
 have hsort:Go.Proofs.YtjopoheligmmoaaGreatDoor.eX (if p.1∈V then Go.Proofs.YtjopoheligmmoaaGreatDoor.eX (S p.1) else S p.1)=Go.Proofs.YtjopoheligmmoaaGreatDoor.eX (S p.1):=by
  split
  ·exact List.mergeSort_of_pairwise (by
    have:=List.pairwise_mergeSort (le:=fun x y:Int=>decide (x<=y)) (fun a b c h1 h2=>by simp at *;omega) (fun a b=>by simp;omega) (S p.1)
    simpa[Go.Proofs.YtjopoheligmmoaaGreatDoor.eX] using this)
  ·rfl
 refine(E3 (l:=if p.1∈V then Go.Proofs.YtjopoheligmmoaaGreatDoor.eX (S p.1) else S p.1) hI.UL hrow (fun e=>by
  have:=congrArg List.length e
  rw[hlen] at this
  exact s0 (List.eq_nil_of_length_eq_zero this)) (by rw[hlen];exact s1) (by rw[hlen];exact hv)).mono ?_
 rintro en w' ⟨rfl,g1,g2,g3,g4⟩
 rw[hsort] at g1 g2
 refine⟨rfl,fun u=>⟨(p.2,some (.row 3 1 d ((Go.Proofs.YtjopoheligmmoaaGreatDoor.eX (S p.1)).map i64)))::H', ?_⟩⟩
 have hHe:bt ((p.2,some (.row 3 1 d ((Go.Proofs.YtjopoheligmmoaaGreatDoor.eX (S p.1)).map i64)))::H')=fU (bt H') p.2 (some (.row 3 1 d ((Go.Proofs.YtjopoheligmmoaaGreatDoor.eX (S p.1)).map i64))):=du H' p.2 (.row 3 1 d ((Go.Proofs.YtjopoheligmmoaaGreatDoor.eX (S p.1)).map i64))
 have hl2:∀q∈L,q.2=p.2->q=p:=fun q hq e=>by
  obtain⟨i,hi,rfl⟩:=List.getElem_of_mem hq
  obtain⟨j,hj,rfl⟩:=List.getElem_of_mem hp
  have:=(List.getElem_inj (xs:=L.map (·.2)) (h₀:=by simpa using hi) (h₁:=by simpa using hj) hb).1 (by simpa using e)
  subst this;rfl
 have hl1:∀q∈L,q.1=p.1->q=p:=fun q hq e=>by
  obtain⟨i,hi,rfl⟩:=List.getElem_of_mem hq
  obtain⟨j,hj,rfl⟩:=List.getElem_of_mem hp
  have:=(List.getElem_inj (xs:=L.map (·.1)) (h₀:=by simpa using hi) (h₁:=by simpa using hj) hk).1 (by simpa using e)
  subst this;rfl
 have hpm:p.2∈L.map (·.2):=List.mem_map.2 ⟨p,hp,rfl⟩
 obtain⟨p1,p2⟩:=dL a2 (some 58) u
 have hmrow:bt H' mb=bt H mb:=hI.rest mb hmb
 obtain⟨dm,hmap⟩:=hmap
 have hrne:∀o z,ρ p.2≠some (r,o,z):=fun o z e=>hmb (by
  have:=hI.UL.inj mb p.2 _ _ r 0 0 o z (hmrow.trans hmap) hrow hI.at_ e
  rw[this];exact hpm)
 have hine:∀o z,ρ p.2≠some (it,o,z):=fun o z e=>by
  obtain⟨_,_,hor⟩:=hI.UL.kO p.2 _ _ _ _ hrow (.inr (by omega))
  rcases hor with⟨h0,_⟩|⟨blk,o',z',h0,_,⟨arr,h1,_⟩,_⟩
  ·simp only at h0;rw[e] at h0;cases h0
  ·simp only at h0 h1;rw[e] at h0;cases h0;rw[hI.iter] at h1;cases h1
 refine⟨p1.trans hsz,p2.trans hdf,fun q hq=> ?_,fun b hbn=> ?_,hI.names,by rw[hHe];exact g1, ?_,by rw[hHe];exact hI.OY.to g2,hI.at_,(g4 r (Array.getElem?_eq_some_iff.1 hI.map).1 hrne).trans hI.map,hI.born, ?_,(g4 it (Array.getElem?_eq_some_iff.1 hI.iter).1 hine).trans hI.iter,(dc (by decide)).trans hreg,hI.low,hI.T8⟩
 ·by_cases e:q.2=p.2
  ·have:=hl2 q hq e
   subst this
   exact⟨d,by simp[bt]⟩
  ·obtain⟨dq,hq2⟩:=hI.rows q hq
   refine⟨dq, ?_⟩
   simp only[bt,if_neg e]
   rw[hq2]
   have hne:q.1≠p.1:=fun e1=>e (by rw[hl1 q hq e1])
   simp[List.mem_cons,hne]
 ·have:b≠p.2:=fun e=>hbn (e▸hpm)
  simp only[bt,if_neg this]
  exact hI.rest b hbn
 ·rw[hHe]
  intro t
  have:=VR.cc g2 (hfr t)
  by_cases e:t=58
  ·rw[e,hfree 58 (by decide),VR];trivial
  ·rw[rk e];exact this
 ·rw[hHe]
  exact cu.cc g2 hI.ents
end
end
theorem I0 {ms:Array MapEntry} {seen:Array Nat} {e:MapEntry} (he:e∈(leftOf ms seen).toList):(leftOf ms (seen.push e.born)).size<(leftOf ms seen).size:=left_shrinks ms seen e he
set_option maxHeartbeats 2000000 in
theorem UK {L:List (Int×Nat)} {S:Int->List Int} {mb nx lo n:Nat} {fr:Fr} {H:Hp} {Q:QT} {code:Code} (hcode:yk code) (hn:58<n) (hreg:cq fr 7= .mp mb) (hfree:∀t∈vu,cq fr t= .any)
 (hb:(L.map (·.2)).Nodup) (hk:(L.map (·.1)).Nodup) (hmb:mb∉L.map (·.2)) (hmap:∃d,bt H mb=some (.row 3 0 d (mapA (fB L S)))) (hrow:∀p∈L,∃d,bt H p.2=some (.row 3 1 d ((S p.1).map i64)))
 (hS:∀p∈L,S p.1≠[]/\(S p.1).length<4611686018427387904)
 (hQ:∀H',(∀p∈L,∃d,bt H' p.2=some (.row 3 1 d ((Go.Proofs.YtjopoheligmmoaaGreatDoor.eX (S p.1)).map i64)))->(∀b,b∉L.map (·.2)->bt H' b=bt H b)->Q .normal fr H' nx):WC Tryz.prog n lo code fr H nx Q:=by
 obtain⟨i1,i2,i3,i4,o1,o2,o3,o4,o5,o6,o7,o8,o9,o10,o11,rfl,⟨a1,b1,g1⟩,⟨a2,b2,g2⟩,⟨a3,b3,g3⟩,⟨a4,b4,g4⟩,⟨a5,b5,g5⟩,⟨a6,b6,g6⟩,⟨a7,b7,g7⟩,⟨a8,b8,g8⟩,⟨a9,b9,g9⟩,⟨a10,b10,g10⟩,a11,b11,g11⟩:=hcode.ok
 intro w0 M0 c0 a w hh
 obtain⟨hsz,hdf,ρ,U,hU,hSim,hF,hT⟩:=hh
 obtain⟨dm,hmap'⟩:=hmap
 -- the map as it stands
 obtain⟨hUm,rr,x,ms,clk,h0,h1,h2,h3,h4,h5⟩:=hSim.ZH hmap'
 simp only[mapA,List.cons.injEq,and_true] at h3
 subst h3
 have hE:=iE.of_map h4
 have h7:a.eval (.tmp 7)= .map (some rr):=by
  have:=hF 7
  rw[hreg,VR] at this
  obtain⟨_,r',hr',hrest⟩:=this
  obtain⟨_,hr2⟩:=hrest _ _ _ _ hmap'
  obtain⟨o,z,hρ⟩:=hr2 (by simp[mapA])
  simp only at h0 hρ
  rw[h0] at hρ
  cases hρ
  exact hr'
 -- the range begins
 refine wp_seq (wp_region_list ?_)
 refine fW g1 (v:= .map (some rr)) (w':=w) (by unfold execOp;simp[a1,h7]) ?_
 rw[b1]
 have e49:(a.put (some 49) (.map (some rr))).eval (.tmp 49)= .map (some rr):=eH (by omega)
 have hrun:=run_range_map (P:=Tryz.prog) w 76 3 31 rr ms clk Tryz.underlying76 h2
 refine fW g2 (v:= .pointer (some ⟨w.heap.size,0,none⟩)) (w':=w.alloc (.mapIter (some rr) clk #[] clk)) (by unfold execOp;simp[a2,e49,hrun,Result.andThen]) ?_
 rw[b2]
 refine wpList_nil ?_
 have hturn:qv w (w.alloc (.mapIter (some rr) clk #[] clk)) w.heap.size:=⟨rfl,rfl,rfl,by show w.heap.size<=(w.heap.push _).size;rw[Array.size_push];omega,fun k hk _=>heap_alloc_old w _ hk,fun h=>by omega⟩
 have hlow:w0.heap.size<=w.heap.size:=hSim.below.size
 have hlow0:c0.w.heap.size<=w.heap.size:=hT.2.sz
 have hsz2:((a.put (some 49) (.map (some rr))).put (some 50) (.pointer (some ⟨w.heap.size,0,none⟩))).tmps.size=n:=by
  rw[(dL _ _ _).1,(dL _ _ _).1];exact hsz
 have hstart:B8 L S mb nx lo n fr H w0 M0 c0 [] H ρ U #[] rr ms clk w.heap.size ((a.put (some 49) (.map (some rr))).put (some 50) (.pointer (some ⟨w.heap.size,0,none⟩))) (w.alloc (.mapIter (some rr) clk #[] clk)):=by
  refine⟨hsz2, ?_,fun p hp=>by simpa using hrow p hp,fun _ _=>rfl,hU,hSim.jD hturn hlow,(qK hfree hF [(49, .map (some rr)),(50, .pointer (some ⟨w.heap.size,0,none⟩))] (by simp[vu])).jD hturn.at_,hT.jD hturn hlow0,h0, ?_,h5,cu.jD hturn.at_ hE,heap_alloc_new w _, ?_,hlow,hlow0⟩
  ·rw[(dL _ _ _).2,(dL _ _ _).2];exact hdf
  ·rw[heap_alloc_old w _ (Array.getElem?_eq_some_iff.1 h2).1];exact h2
  ·exact eH (by rw[(dL _ _ _).1];omega)
 generalize (a.put (some 49) (.map (some rr))).put (some 50) (.pointer (some ⟨w.heap.size,0,none⟩))=a0 at hstart ⊢
 generalize w.alloc (.mapIter (some rr) clk #[] clk)=wst at hstart ⊢
 generalize w.heap.size=it at hstart
 clear hturn hlow hlow0 hsz2 hrun e49 h7 hE h4 h2 h1 h0 hF hSim hT
 show(Code.block 2 (.loop _)).wp Tryz.prog _ a0 wst
 refine wp_block ?_
 refine KP (fun m a w=>∃V H' ρ U seen ms clk it,B8 L S mb nx lo n fr H w0 M0 c0 V H' ρ U seen rr ms clk it a w/\(∀m∈ms.toList,seen.contains m.born=true->∃k∈V,m.key= .int .i64 k)/\m=(leftOf ms seen).size) ⟨[],H,ρ,U,#[],ms,clk,it,hstart,fun m _ hs=>by simp at hs,rfl⟩ ?_
 clear hstart
 rintro m a w ⟨V,H',ρ,U,seen,ms,clk,it,hI,hgot,rfl⟩
 refine wp_seq (wp_region_list ?_)
 have hsz:=hI.size
 have hreg50:=hI.reg
 rcases BG (P:=Tryz.prog) w o3.type it rr clk clk seen ms clk hI.iter hI.map hI.born.1 (Nat.le_refl _) with⟨hz,hrun⟩|⟨e,he,w1,hturn,hws,hi1,hrun⟩
 · -- nothing is left
  refine fW g3 (v:= .tuple #[.bool false]) (w':=w) (by unfold execOp;simp[a3,hreg50,hrun,Result.andThen]) ?_
  rw[b3]
  have e51:(a.put (some 51) (.tuple #[.bool false])).eval (.tmp 51)= .tuple #[.bool false]:=eH (by omega)
  refine fW g4 (v:= .bool false) (w':=w) (by unfold execOp;simp[a4,e51,Instr.extract]) ?_
  rw[b4]
  refine wpList_nil ?_
  have e52:((a.put (some 51) (.tuple #[.bool false])).put (some 52) (.bool false)).eval (.tmp 52)= .bool false:=eH (by rw[(dL _ _ _).1];omega)
  show(Code.seq _ _).wp Tryz.prog _ _ w
  refine wp_seq (wp_cond_false e52 (wp_exit ?_))
  simp only[Exit.then,Exit.inBlock,if_true]
  refine⟨.normal,fr,H',nx,rfl,hQ H' (fun p hp=> ?_) hI.rest, ?_, ?_,ρ,U,hI.names,hI.UL,qK hfree hI.fr [(51, .tuple #[.bool false]),(52, .bool false)] (by simp[vu]),hI.OY⟩
  ·obtain⟨d,hd⟩:=hI.rows p hp
   obtain⟨e,he,hek⟩:=NC hI.ents hp
   obtain⟨k,hkV,hke⟩:=hgot e he (all_seen ms seen hz e he)
   rw[hek] at hke
   simp only[Value.int.injEq,true_and] at hke
   rw[hke,if_pos hkV] at hd
   exact⟨d,by rw[hke];exact hd⟩
  ·rw[(dL _ _ _).1,(dL _ _ _).1];exact hsz
  ·rw[(dL _ _ _).2,(dL _ _ _).2];exact hI.defers
 · -- an entry comes
  obtain⟨hem,hes⟩:=mem_left he
  obtain⟨p,hp,hek,hev⟩:=ND hI.ents hem
  refine fW g3 (v:= .tuple #[.bool true,e.key,e.val]) (w':=w1) (by unfold execOp;simp[a3,hreg50,hrun,Result.andThen]) ?_
  rw[b3]
  have e51:(a.put (some 51) (.tuple #[.bool true,e.key,e.val])).eval (.tmp 51)= .tuple #[.bool true,e.key,e.val]:=eH (by omega)
  refine fW g4 (v:= .bool true) (w':=w1) (by unfold execOp;simp[a4,e51,Instr.extract]) ?_
  rw[b4]
  refine wpList_nil ?_
  have hI1:B8 L S mb nx lo n fr H w0 M0 c0 V H' ρ U seen rr ms clk it a w:=hI
  -- the situation behind the step, but for the registers
  have hrm:w1.heap[rr]?=some (.map ms clk):=by
   rw[hturn.cc rr (Array.getElem?_eq_some_iff.1 hI.map).1 fun e2=>by have:=hI.iter;rw[<-e2,hI.map] at this;cases this]
   exact hI.map
  have hent:=yU (P:=Tryz.prog) w1 it rr clk seen ms clk e hi1 hrm hem hI.born.2
  generalize hA2:(a.put (some 51) (.tuple #[.bool true,e.key,e.val])).put (some 52) (.bool true)=A2
  have s2:A2.tmps.size=n:=by rw[<-hA2,(dL _ _ _).1,(dL _ _ _).1];exact hsz
  have d2:A2.defers=[]:=by rw[<-hA2,(dL _ _ _).2,(dL _ _ _).2];exact hI.defers
  have e52:A2.eval (.tmp 52)= .bool true:=by rw[<-hA2];exact eH (by rw[(dL _ _ _).1];omega)
  have r2:A2.eval (.tmp 50)= .pointer (some ⟨it,0,none⟩):=by rw[<-hA2,dc (by decide),dc (by decide)];exact hreg50
  have f2:FR ⟨ρ,bt H',U,w1,M0⟩ fr A2.tmps:=by rw[<-hA2];exact(qK hfree hI.fr [(51, .tuple #[.bool true,e.key,e.val]),(52, .bool true)] (by simp[vu])).jD hturn.at_
  have sim1:dy w0 ⟨ρ,bt H',U,w1,M0⟩:=hI.UL.jD hturn hI.low
  have trk1:nD c0 lo ⟨ρ,bt H',U,w1,M0⟩:=hI.OY.jD hturn hI.T8
  have ent1:iE ⟨ρ,bt H',U,w1,M0⟩ (fB L S) ms.toList:=cu.jD (c:=⟨ρ,bt H',U,w,M0⟩) hturn.at_ hI.ents
  have m7:A2.eval (.tmp 7)= .map (some rr):=by
   have:=f2 7
   rw[hreg,VR] at this
   obtain⟨_,r',hr',hrest⟩:=this
   obtain⟨_,hr2⟩:=hrest _ _ _ _ ((hI.rest mb hmb).trans hmap')
   obtain⟨o,z,hρ⟩:=hr2 (by simp[mapA])
   have h0:=hI.at_
   simp only at h0 hρ
   rw[h0] at hρ
   cases hρ
   exact hr'
  clear hA2
  show(Code.seq _ _).wp Tryz.prog _ A2 w1
  refine wp_seq (wp_cond_true e52 (wp_skip ?_))
  show(Code.block 3 _).wp Tryz.prog _ A2 w1
  refine wp_block (wp_seq (wp_region_list ?_))
  refine fW g5 (v:= .tuple #[e.key,e.val]) (w':=w1) (by unfold execOp;simp[a5,r2,hent,Result.andThen]) ?_
  rw[b5]
  have e53:(A2.put (some 53) (.tuple #[e.key,e.val])).eval (.tmp 53)= .tuple #[e.key,e.val]:=eH (by omega)
  refine fW g6 (v:=e.key) (w':=w1) (by unfold execOp;simp[a6,e53,Instr.extract]) ?_
  rw[b6]
  have e54:((A2.put (some 53) (.tuple #[e.key,e.val])).put (some 54) e.key).eval (.tmp 54)=e.key:=eH (by rw[(dL _ _ _).1];omega)
  refine fW g7 (v:=e.key) (w':=w1) (by unfold execOp;simp[a7,e54]) ?_
  rw[b7]
  refine wpList_nil ?_
  generalize hA3:((A2.put (some 53) (.tuple #[e.key,e.val])).put (some 54) e.key).put (some 10) e.key=A3
  have s3:A3.tmps.size=n:=by rw[<-hA3,(dL _ _ _).1,(dL _ _ _).1,(dL _ _ _).1];exact s2
  have d3:A3.defers=[]:=by rw[<-hA3,(dL _ _ _).2,(dL _ _ _).2,(dL _ _ _).2];exact d2
  have r3:A3.eval (.tmp 50)= .pointer (some ⟨it,0,none⟩):=by rw[<-hA3,dc (by decide),dc (by decide),dc (by decide)];exact r2
  have m3:A3.eval (.tmp 7)= .map (some rr):=by rw[<-hA3,dc (by decide),dc (by decide),dc (by decide)];exact m7
  have k3:A3.eval (.tmp 10)=e.key:=by rw[<-hA3];exact eH (by rw[(dL _ _ _).1,(dL _ _ _).1];omega)
  have f3:FR ⟨ρ,bt H',U,w1,M0⟩ fr A3.tmps:=by rw[<-hA3];exact qK hfree f2 [(53, .tuple #[e.key,e.val]),(54,e.key),(10,e.key)] (by simp[vu])
  clear hA3
  show(Code.region i4 _ false).wp Tryz.prog _ A3 w1
  refine wp_region_list ?_
  refine fW g8 (v:= .map (some rr)) (w':=w1) (by unfold execOp;simp[a8,m3]) ?_
  rw[b8]
  have k4:(A3.put (some 55) (.map (some rr))).eval (.tmp 10)=e.key:=by rw[dc (by decide)];exact k3
  refine fW g9 (v:=e.key) (w':=w1) (by unfold execOp;simp[a9,k4]) ?_
  rw[b9]
  obtain⟨j,hj⟩:=pZ (S:=S) L 0 p hp hk
  rcases kK (d:= .int .i64) rfl ent1 hj with⟨q1,_⟩|⟨j2,v,m2,q1,q2,q3,q4,q5,q6⟩
  ·cases q1
  simp only[Option.some.injEq,Prod.mk.injEq] at q1
  obtain⟨rfl,rfl⟩:=q1
  have e55:((A3.put (some 55) (.map (some rr))).put (some 56) e.key).eval (.tmp 55)= .map (some rr):=by rw[dc (by decide)];exact eH (by omega)
  have e56:((A3.put (some 55) (.map (some rr))).put (some 56) e.key).eval (.tmp 56)= .int .i64 p.1:=by rw[<-hek];exact eH (by rw[(dL _ _ _).1];omega)
  refine fW g10 (v:=m2.val) (w':=w1) (yh a10 Tryz.underlying76 Tryz.underlying3 rfl rfl e55 e56 hrm q6) ?_
  rw[b10]
  generalize hA4:((A3.put (some 55) (.map (some rr))).put (some 56) e.key).put (some 57) m2.val=A4
  have s4:A4.tmps.size=n:=by rw[<-hA4,(dL _ _ _).1,(dL _ _ _).1,(dL _ _ _).1];exact s3
  have d4:A4.defers=[]:=by rw[<-hA4,(dL _ _ _).2,(dL _ _ _).2,(dL _ _ _).2];exact d3
  have r4:A4.eval (.tmp 50)= .pointer (some ⟨it,0,none⟩):=by rw[<-hA4,dc (by decide),dc (by decide),dc (by decide)];exact r3
  have k57:A4.eval (.tmp 57)=m2.val:=by rw[<-hA4];exact eH (by rw[(dL _ _ _).1,(dL _ _ _).1];omega)
  have f4:FR ⟨ρ,bt H',U,w1,M0⟩ fr A4.tmps:=by rw[<-hA4];exact qK hfree f3 [(55, .map (some rr)),(56,e.key),(57,m2.val)] (by simp[vu])
  clear hA4
  have hI4:B8 L S mb nx lo n fr H w0 M0 c0 V H' ρ U (seen.push e.born) rr ms clk it A4 w1:=⟨s4,d4,hI.rows,hI.rest,hI.names,sim1,f4,trk1,hI.at_,hrm,hI.born,ent1,hi1,r4,hI.low,hI.T8⟩
  have hrunS:(execOp A4.eval o11).run Tryz.prog w1= .ok (.enter 40 #[m2.val]) w1:=by
   unfold execOp
   simp only[a11,resolve,Sem.run_bind,Sem.run_pure,Result.andThen_ok,List.map_toArray,List.map_cons,List.map_nil,k57]
   obtain⟨fn,e1,e3,e2,_,_⟩:=aAV.ok
   cases hcode:fn.body with
   |none=>rw[hcode] at e2;cases e2
   |some code=>
   change (Tryz.prog).funcs[40]?=some fn at e1
   simp only[Act.eval,Sem.run_bind,Deferred.ofValue,Sem.run_pure,Result.andThen_ok,invoke,callFunc,run_program,e1,e3,hcode,Bool.false_eq_true,if_false,Option.isNone_some]
   rfl
  refine wpList_plain g11 fun K hK=> ?_
  unfold Oper.wp
  rw[hrunS,Oper.upon_enter]
  refine(hI4.sorted hfree hb hk hmb ⟨dm,hmap'⟩ hS hp q5 s4 d4 f4 r4).mono ?_
  rintro en w' ⟨rfl,hu⟩
  refine hK _ _ (wpList_nil ?_)
  obtain⟨H2,hI5⟩:=hu (.tuple #[])
  rw[b11]
  show ∃m',m'<_/\_
  refine⟨_,I0 he,p.1::V,H2,ρ,U,seen.push e.born,ms,clk,it,hI5,fun m hm hs=> ?_,rfl⟩
  rw[contains_push] at hs
  rcases(Bool.or_eq_true _ _).mp hs with hs|hs
  ·obtain⟨k,hk1,hk2⟩:=hgot m hm hs
   exact⟨k,List.mem_cons_of_mem _ hk1,hk2⟩
  ·have:=born_inj hI.born.2 hm hem (by simpa using hs)
   exact⟨p.1,by simp,by rw[this];exact hek⟩
end Go.Proofs.YtjopoheligmmoaaGreatDoor
namespace Go.Proofs.YtjopoheligmmoaaGreatDoor
open Go Go.cw Go.Proofs
set_option linter.unusedSimpArgs false
set_option linter.unusedVariables false
set_option maxRecDepth 8000
def vo (x:Int):List Int->Nat->Int
 |[],_=>-1
 |y::r,i=>if x=y then(i:Int) else vo x r (i+1)
theorem zr (x:Int):∀(l:List Int) (i:Nat),0<=vo x l i↔x∈l
 |[],i=>by simp[vo]
 |y::r,i=>by
  rw[vo,List.mem_cons]
  split
  ·rename_i e;exact⟨fun _=> .inl e,fun _=>by omega⟩
  ·rename_i e
   rw[zr x r]
   exact⟨.inr,fun h=>h.resolve_left e⟩
theorem IS {x:Int} {l:List Int} {i:Nat} (h:i<l.length):vo x (l.drop i) i=if x=l.getD i 0 then(i:Int) else vo x (l.drop (i+1)) (i+1):=by
 rw[List.drop_eq_getElem_cons h,vo]
 simp[List.getD,h]
theorem zu (l:List Int) (x:Int) (hl:l.length<9223372036854775807):Pure Tryz.prog 80 [cT l,i64 x] (fun r=>r=i64 (vo x l 0)):=by
 refine aD aAk rfl ?_
 have a0:(l.map i64).length=l.length:=by simp
 refine cP ?_
 refine aF (fun i:Nat=>[(0,cT l),(1,i64 x),(7,i64 l.length),(8,i64 i)]) (fun i H n=>i<=l.length/\vo x (l.drop i) i=vo x l 0) (fun i=>l.length - i) 0 (by rw[List.length_map];exact cC) ⟨Nat.zero_le _,rfl⟩ ?_
 rintro i H n ⟨hi,hx⟩
 by_cases hil:i<l.length
 ·have e0:∀d,(l.map i64).getD ((i:Int)).toNat d=i64 (l.getD i 0):=fun d=>ints_at hil d
  rw[IS hil] at hx
  by_cases he:x=l.getD i 0
  ·have r0:=decide_eq_true he
   rw[if_pos he] at hx
   rw[<-hx]
   refine cP ?_
   first|exact rfl|trivial
  ·have r0:=decide_eq_false he
   rw[if_neg he] at hx
   refine cP ?_
   exact⟨i+1,by omega,cC,by omega,hx⟩
 ·obtain rfl:i=l.length:=by omega
  rw[List.drop_length] at hx
  rw[<-hx]
  refine cP ?_
  first|exact rfl|trivial
theorem lC (l:List Int) (x:Int) (hl:l.length<9223372036854775807):Pure Tryz.prog 39 [cT l,i64 x] (fun r=>r=bl (decide (x∈l))):=by
 have c0:=zu l x hl
 refine aD aAU rfl ?_
 refine cP ?_
 refine eD ?_
 rw[decide_eq_decide]
 exact zr x l 0
def NA (ks:List Int):List AV:=ks.map fun k=>og (.int .i64 k) (i64 1)
theorem tG:∀(ks:List Int) (x:Int) (i:Nat),fG false (.int .i64 x) (NA ks) i=some (if x∈ks then some (i+ks.idxOf x,i64 1) else none)
 |[],x,i=>by simp[NA,fG]
 |k::r,x,i=>by
  show fG false (.int .i64 x) (og (.int .i64 k) (i64 1)::NA r) i=_
  by_cases e:x=k
  ·subst e;simp[fG,og,uK,DJ]
  ·have e2:¬k=x:=fun h=>e h.symm
   simp only[fG,og,uK,DJ,if_true,decide_eq_false e]
   rw[tG r x (i+1)]
   simp only[List.mem_cons,e,false_or,List.idxOf_cons,beq_eq_false_iff_ne.2 e2,cond_false]
   split
   ·simp;omega
   ·rfl
theorem T1 (ks:List Int) (x:Int) (h:x∈ks):na false (.int .i64 x) (NA ks) (i64 0)=some (i64 1,true):=by
 unfold na;rw[tG,if_pos h]
theorem QS (ks:List Int) (x:Int) (h:x∉ks):na false (.int .i64 x) (NA ks) (i64 0)=some (i64 0,false):=by
 unfold na;rw[tG,if_neg h]
theorem T2 (ks:List Int) (x:Int) (h:x∉ks):qW false (.int .i64 x) (NA ks) (i64 1)=some (NA (ks++[x])):=by
 unfold qW;rw[tG,if_neg h]
 simp[NA,og]
theorem rV {S:Int->List Int}:∀(L:List (Int×Nat)) (x:Int) (i:Nat),x∉L.map (·.1)->fG false (.int .i64 x) (fB L S) i=some none
 |[],x,i,_=>rfl
 |p::r,x,i,h=>by
  rw[List.map_cons,List.mem_cons,not_or] at h
  show fG false (.int .i64 x) (og (.int .i64 p.1) (.sl p.2 (S p.1).length)::fB r S) i=_
  simp only[fG,og,uK,DJ,if_true,decide_eq_false h.1]
  exact rV r x (i+1) h.2
theorem xA {S:Int->List Int} {L:List (Int×Nat)} {x:Int} (z:AV) (h:x∉L.map (·.1)):na false (.int .i64 x) (fB L S) z=some (z,false):=by
 unfold na;rw[rV L x 0 h]
theorem AG {S:Int->List Int} {L:List (Int×Nat)} {p:Int×Nat} (z:AV) (hp:p∈L) (hk:(L.map (·.1)).Nodup):na false (.int .i64 p.1) (fB L S) z=some (.sl p.2 (S p.1).length,true):=by
 obtain⟨j,hj⟩:=pZ (S:=S) L 0 p hp hk
 unfold na;rw[hj]
end Go.Proofs.YtjopoheligmmoaaGreatDoor
