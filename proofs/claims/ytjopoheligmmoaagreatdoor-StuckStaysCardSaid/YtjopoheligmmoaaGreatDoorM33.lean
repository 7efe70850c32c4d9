import Derived.Test.YtjopoheligmmoaaGreatDoorProg
import Derived.Test.YtjopoheligmmoaaGreatDoorM24
import Derived.Lib.Builder
import Derived.Lib.Walk
import Derived.Lib.UnsafeStr
import Derived.WalkKit
import Derived.Laws.Externs
import Derived.Test.YtjopoheligmmoaaGreatDoorM15
import Derived.Shelf.RegionOpenPlain
import Derived.LoopTactic
import Derived.Lib.ItoaMem
import Derived.Test.YtjopoheligmmoaaGreatDoorM32
import Derived.Test.YtjopoheligmmoaaGreatDoorM30
namespace Go.Proofs.YtjopoheligmmoaaGreatDoor
open Go Go.Proofs Go.RowKit
set_option linter.unusedVariables false
set_option linter.unusedSimpArgs false
set_option maxHeartbeats 1000000 in
set_option maxRecDepth 100000 in
theorem zI (b:Nat) (w:World) (h0:w.cell? ⟨b,0,none⟩=some (.pointer none)) (hsh:w.shape? b=some (242,2)) (hfz:w.frozen? ⟨b,0,none⟩=false):
 Calls Tryz.prog 201 #[.pointer (some ⟨b,0,none⟩)] w fun e w'=>e= .returned (.tuple #[])/\w'=w.setCell ⟨b,0,none⟩ (.pointer (some ⟨b,0,none⟩)):=by
 obtain⟨j,hj,hjs⟩:=Option.map_eq_some_iff.1 (show(Tryz.prog.info? 242).map (·.size)=some 2 by kernel_rfl)
 have t70:=Tryz.underlying239
 have t164:=Tryz.underlying275
 go_enter Tryz.func201,Tryz.ntmps201
 go_wp2
 rw[Lib.run_to_unsafe w ⟨b,0,none⟩ t70 t164 hj (by rw[hjs];decide) hsh (Nat.zero_lt_succ 1)]
 simp only[Result.andThen]
 rw[Oper.upon_value]
 go_wp2
 rw[run_callFunc_extern Tryz.func224 (by kernel_rfl) (by kernel_rfl) (by kernel_rfl) (e:=Extern.AbiNoEscape.same) (by kernel_rfl)]
 rw[Lib.run_noEscape]
 simp only[Result.andThen]
 rw[Oper.upon_value]
 go_wp2
 rw[Lib.run_from_unsafe w ⟨b,0,none⟩ t164 t70 hj hsh (show liesAt Tryz.prog Tryz.prog.depth 242 (2 /Tryz.prog.cellsOf 242) 0 242 1=true by kernel_rfl)]
 simp only[Result.andThen]
 rw[Oper.upon_value]
 go_wp2
 go_end0
 exact⟨rfl,rfl⟩
set_option maxHeartbeats 1000000 in
set_option maxRecDepth 100000 in
theorem DG (b:Nat) (w:World) (h0:w.cell? ⟨b,0,none⟩=some (.pointer (some ⟨b,0,none⟩))):
 Calls Tryz.prog 201 #[.pointer (some ⟨b,0,none⟩)] w fun e w'=>e= .returned (.tuple #[])/\w'=w:=by
 obtain⟨j,hj,_⟩:=Option.map_eq_some_iff.1 (show(Tryz.prog.info? 242).map (·.size)=some 2 by kernel_rfl)
 go_enter Tryz.func201,Tryz.ntmps201
 go_wp2
 rw[Lib.run_neq_ptr_same w _ Tryz.underlying239 hj]
 go_wp2
 go_end0
 exact⟨rfl,rfl⟩
end Go.Proofs.YtjopoheligmmoaaGreatDoor
namespace Go.Proofs.YtjopoheligmmoaaGreatDoor
open Go Go.cp Go.Proofs Go.RowKit
set_option linter.unusedVariables false
set_option linter.unusedSimpArgs false
theorem alone {w0:World} {c:Cx} (hS:dY w0 c) {b:Nat} {e:TypeId} {sz:Nat} {d x:AV} (hb:c.H b=some (.row e sz d [x])) (he:e∈XT) (hs:1<sz) (hq:c.ρ b≠none):
 ∃blk arr v,c.ρ b=some (blk,0,sz)/\w0.heap.size<=blk/\c.w.heap[blk]?=some (.cells arr e (0,0))/\arr.size=sz/\At c.w blk 0 sz v/\VR c x v:=by
 obtain⟨h1,h2,h3⟩:=hS.yJ b _ _ _ _ hb (by omega)
 rcases h3 with⟨h4,_⟩|⟨blk,o,z,g1,g2,⟨arr,g3,g4,g5⟩,g6,g7⟩
 ·exact absurd h4 hq
 ·obtain⟨rfl,g8⟩:=g5 he
  have g9:arr.size=sz:=by rcases g8 with g8|g8<;>omega
  obtain⟨v,g10,g11⟩:=de g7 0 (by simp)
  simp only[List.length_cons,List.length_nil] at g6
  obtain rfl:z=sz:=by omega
  refine⟨blk,arr,v,g1,g2,g3,g9,by simpa using g10,by simpa using g11⟩
theorem JI {c:Cx} {b i:Nat} {e:TypeId} {sz:Nat} {d x:AV} {v:Value} (hb:c.H b=some (.row e sz d [x])) (hv:VR c (.pt b 1 0 0) v):c.U b/\∃blk o z,c.ρ b=some (blk,o,z)/\v= .pointer (some ⟨blk,o,none⟩):=by
 rw[VR] at hv
 obtain⟨hU0,_,ad,rfl,hrow⟩:=hv
 obtain⟨_,h⟩:=hrow _ _ _ _ hb
 obtain⟨_,blk,o,z,hρ,rfl⟩:=h rfl
 exact⟨hU0,blk,o,z,hρ,by simp⟩
theorem mT {b nx:Nat} {H:Hp} {d A S:AV} (hb:bw H b=some (.row 242 2 d [.agg [A,S]])) (hA:A= .sc (.pointer none)\/A= .pt b 1 0 0):
 cO Tryz.prog 201 [.pt b 1 0 0] H nx (fun r H2 n2=>r= .dO []/\H2=(b,some (.row 242 2 d [.agg [.pt b 1 0 0,S]]))::H/\n2=nx):=by
 refine⟨⟨_,Tryz.func201,by kernel_rfl,by kernel_rfl⟩,fun w0 c vs hS hH hU hv=> ?_⟩
 rw[cg] at hv
 obtain⟨v,vs',rfl,hv,hv'⟩:=hv
 rw[cg] at hv'
 subst hv'
 have hb':=hb
 rw[<-hH] at hb'
 have hv0:=hv
 obtain⟨hU0,blk,o,z,hρ,rfl⟩:=JI (i:=0) hb' hv
 obtain⟨blk',arr,u,hρ',hlow,harr,hsz,hat,hu⟩:=alone hS hb' (by decide) (by omega) (by rw[hρ];simp)
 rw[hρ] at hρ'
 cases hρ'
 have hu0:=hu
 rw[VR] at hu
 obtain⟨us,rfl,hu⟩:=hu
 rw[cg] at hu
 obtain⟨va,us',hus,hva,hu⟩:=hu
 rw[cg] at hu
 obtain⟨vb,us'',rfl,hvb,hu⟩:=hu
 rw[cg] at hu
 subst hu
 obtain⟨a1,a2,a3⟩:=hat
 have hcells:us=#[va,vb]:=by rw[<-Array.toArray_toList (xs:=us),hus]
 subst hcells
 have hget:∀{H2:Hp} {k:Option e8},H2=(b,k)::H->bw H2=eo c.H b k:=fun h=>by
  subst h
  funext x
  by_cases hx:x=b
  ·subst hx;simp[bw]
  ·rw[eE _ _ hx,hH];simp[bw,hx]
 rcases hA with rfl|rfl
 ·rw[VR] at hva
  subst hva
  have hc0:=a2 0 (by omega)
  simp only[Nat.add_zero,Value.cells] at hc0
  refine(zI blk c.w hc0 (by simp[World.shape?,harr,hsz]) (by simp[World.frozen?,harr])).mono ?_
  rintro e w' ⟨rfl,rfl⟩
  rw[setCell_eq_setRow c.w blk 0 arr 242 (0,0) _ harr]
  have hbl:=setRow_heap c.w blk arr (arr.setIfInBounds 0 (.pointer (some ⟨blk,0,none⟩))) 242 (0,0) harr
  obtain⟨p1,p2⟩:=hS.put (b:=b) (e:=242) (sz:=2) d (es:=[.agg [.pt b 1 0 0,S]]) (w':=c.w.setRow blk (arr.setIfInBounds 0 (.pointer (some ⟨blk,0,none⟩)))) (blk:=blk) (o:=0) (z:=2) (by omega)
   (.inr ⟨_,_,_,hb', .inl ⟨rfl,hρ⟩⟩) (.inr ⟨_,_,_,hb',hρ⟩) rfl rfl rfl (by simp[World.setRow]) (fun k _ hne=>setRow_other c.w blk k _ hne) hbl ⟨by simp[hsz],fun _=>⟨rfl, .inl (by simp[hsz])⟩⟩ (by simp) (fun i hi=>by
    obtain rfl:i=0:=by simpa using hi
    refine⟨.agg #[.pointer (some ⟨blk,0,none⟩),vb],⟨rfl,fun j hj=> ?_,fun j x hx=> ?_⟩, ?_⟩
    ·rw[cell_of_row _ blk _ _ 242 (0,0) hbl]
     have h1:=a2 1 (by omega)
     rw[cell_of_row c.w blk _ arr 242 (0,0) harr] at h1
     rcases j with _|_|j
     ·simp[Value.cells,hsz]
     ·simpa[Value.cells] using h1
     ·omega
    ·rcases j with _|_|j
     ·simp[Value.cells] at hx;subst hx;rfl
     ·exact a3 1 x (by simpa[Value.cells] using hx)
     ·simp[Value.cells] at hx
    ·show VR c (.agg [.pt b 1 0 0,S]) _
     rw[VR]
     refine⟨_,rfl, ?_⟩
     rw[cg]
     refine⟨_,_,rfl,hv0, ?_⟩
     rw[cg]
     exact⟨_,_,rfl,hvb,by rw[cg]⟩)
  refine⟨.tuple #[], .dO [],_,nx,eo c.ρ b (some (blk,0,2)),fun x=>c.U x\/x=b,rfl,⟨rfl,rfl,rfl⟩,fun x hx=> ?_, ?_, ?_, ?_⟩
  ·rcases hx with hx|rfl
   ·exact hU x hx
   ·exact hU _ hU0
  ·rw[hget rfl];exact p1
  ·rw[hget rfl];exact p2
  ·rw[VR];exact⟨_,rfl,by rw[cg]⟩
 ·obtain⟨_,blk2,o2,z2,hρ2,rfl⟩:=JI (i:=0) hb' hva
  rw[hρ] at hρ2
  cases hρ2
  have hc0:=a2 0 (by omega)
  simp only[Nat.add_zero,Value.cells] at hc0
  refine(DG blk c.w hc0).mono ?_
  rintro e w' ⟨rfl,rfl⟩
  have hsame:bw ((b,some (.row 242 2 d [.agg [.pt b 1 0 0,S]]))::H)=c.H:=by
   rw[hget rfl]
   funext x
   by_cases hx:x=b
   ·subst hx;rw[dI];exact hb'.symm
   ·rw[eE _ _ hx]
  refine⟨.tuple #[], .dO [],_,nx,c.ρ,c.U,rfl,⟨rfl,rfl,rfl⟩,hU, ?_, ?_, ?_⟩
  ·rw[hsame];exact hS
  ·rw[hsame];exact Cx.le.refl _
  ·rw[VR];exact⟨_,rfl,by rw[cg]⟩
set_option maxHeartbeats 1000000 in
set_option maxRecDepth 100000 in
theorem yU (b g n cap:Nat) (p:Value) (cur:Array Value) (l:List UInt8) (w:World) (c1:w.drew.cell? ⟨b,1,none⟩=some (.slice (some ⟨g,0,none⟩) l.length cap)) (hg:w.heap[g]?=some (.cells cur 5 (0,0))) (h0:l≠[]) (hc:l.length<=cap) (hcm:cap<=maxLen) (pc:cap<=cur.size)
 (hl:∀j x,l[j]?=some x->w.cell? ⟨g,j,none⟩=some (.int .u8 x.toNat)):
 Calls Tryz.prog 183 #[.pointer (some ⟨b,0,none⟩)] w fun e w'=>e= .returned (.string ⟨l.toArray⟩)/\w'=w.drew.freeze ⟨g,0,none⟩ l.length:=by
 have hl0:l.length≠0:=by simpa using h0
 have hSD:(Builtin.unsafeSliceData_ #[240] 270 #[.slice (some ⟨g,0,none⟩) l.length cap]).run Tryz.prog w.drew= .ok (.pointer (some ⟨g,0,none⟩)) w.drew:=
  Lib.run_unsafeSliceData_row _ _ _ _ _ _ (by omega)
 have hUS:(Builtin.unsafeString_ #[270,3] 9 #[.pointer (some ⟨g,0,none⟩), .int .i64 l.length]).run Tryz.prog w.drew= .ok (.string ⟨l.toArray⟩) (w.drew.freeze ⟨g,0,none⟩ l.length):=by
  refine Lib.run_unsafeString_row w.drew 270 3 9 5 Tryz.underlying270 (by kernel_rfl) g cur.size (by have hg':w.drew.heap[g]?=some (.cells cur 5 (0,0)):=hg;simp[World.shape?,hg']) l h0 (by omega) (by unfold maxLen at hcm;omega) ?_
  intro j x hx
  have:=hl j x hx
  rw[show((⟨g,0,none⟩:Addr).add j)=⟨g,j,none⟩ by unfold Addr.add;split<;>simp_all]
  exact this
 have mixed:Tryz.prog.follows .mixedOrders=true:=by kernel_rfl
 go_enter Tryz.func183,Tryz.ntmps183
 go_wp2
 go_region_o
 all_goals (go_wp2;go_ret;exact⟨rfl,rfl⟩)
theorem TM {w0:World} {c:Cx} (h:dY w0 c) {b blk o z:Nat} {k:e8} {w':World} (hb:c.H b=some k) (hρ:c.ρ b=some (blk,o,z)) (hos:w'.os=c.w.os) (htp:w'.tape=c.w.tape) (hout:w'.output=c.w.output) (hsz:w'.heap.size=c.w.heap.size)
 (hkeep:∀k,k≠blk->w'.heap[k]?=c.w.heap[k]?) {H':Nat->Option e8} (hH:H'=eo c.H b none):dY w0 ⟨c.ρ,H',c.U,w',c.M0⟩/\c.le ⟨c.ρ,H',c.U,w',c.M0⟩:=by
 subst hH
 have hs:∀x k,eo c.H b none x=some k->x≠b/\c.H x=some k:=fun x k hk=>by
  by_cases hx:x=b
  ·subst hx;simp at hk
  ·rw[eE _ _ hx] at hk;exact⟨hx,hk⟩
 have hlow:=(h.QB hb hρ).1
 have hle:c.le ⟨c.ρ,eo c.H b none,c.U,w',c.M0⟩:=by
  refine⟨fun _ h=>h,by simp[hsz],fun x hm _=>⟨hkeep x ?_, ?_⟩,fun x _ e sz d es he=>⟨_,_,_,(hs x _ he).2, .inl ⟨rfl,rfl⟩⟩⟩
  ·rintro rfl;exact hm (.inr ⟨b,k,o,z,hb,hρ⟩)
  ·rintro(h0|⟨y,k,o,z,hk,hr⟩)
   ·exact hm (.inl h0)
   ·exact hm (.inr ⟨y,k,o,z,(hs y k hk).2,hr⟩)
 refine⟨⟨h.below.trans ⟨hos,htp,hout,by rw[hsz];exact Nat.le_refl _,fun k hk=>hkeep k (by omega)⟩,h.m0,fun x e sz d es he=> ?_,fun x y k k' _ _ _ _ _ hk hk'=>h.inj x y k k' _ _ _ _ _ (hs _ _ hk).2 (hs _ _ hk').2⟩,hle⟩
 obtain⟨h1,h2⟩:=hs x _ he
 obtain⟨h3,h4⟩:=h.row x _ _ _ _ h2
 refine⟨h3,h4.cT hle rfl fun blk' o' z' hr hlt=>hkeep blk' ?_⟩
 rintro rfl
 exact h1 (h.inj x b _ _ _ _ _ _ _ h2 hb hr hρ)
theorem yT {b q nx:Nat} {H:Hp} {d d2 A:AV} {l:List UInt8} (hb:bw H b=some (.row 242 2 d [.agg [A, .sl q l.length]])) (hq:bw H q=some (.row 5 1 d2 (cP ⟨l.toArray⟩))) (h0:l≠[]):
 cO Tryz.prog 183 [.pt b 1 0 0] H nx (fun r H2 n2=>r= .sc (.string ⟨l.toArray⟩)/\H2=(q,none)::H/\n2=nx):=by
 refine⟨⟨_,Tryz.func183,by kernel_rfl,by kernel_rfl⟩,fun w0 c vs hS hH hU hv=> ?_⟩
 rw[cg] at hv
 obtain⟨v,vs',rfl,hv,hv'⟩:=hv
 rw[cg] at hv'
 subst hv'
 have hb':=hb
 rw[<-hH] at hb'
 have hq':=hq
 rw[<-hH] at hq'
 obtain⟨hU0,blk,o,z,hρ,rfl⟩:=JI (i:=0) hb' hv
 obtain⟨blk',arr,u,hρ',hlow,harr,hsz,hat,hu⟩:=alone hS hb' (by decide) (by omega) (by rw[hρ];simp)
 rw[hρ] at hρ'
 cases hρ'
 rw[VR] at hu
 obtain⟨us,rfl,hu⟩:=hu
 rw[cg] at hu
 obtain⟨va,us',hus,hva,hu⟩:=hu
 rw[cg] at hu
 obtain⟨vb,us'',rfl,hvb,hu⟩:=hu
 rw[cg] at hu
 subst hu
 obtain⟨a1,a2,a3⟩:=hat
 have hcells:us=#[va,vb]:=by rw[<-Array.toArray_toList (xs:=us),hus]
 subst hcells
 have hlen:(cP ⟨l.toArray⟩).length=l.length:=by simp[cP]
 have hl0:l.length≠0:=by simpa using h0
 rw[VR] at hvb
 obtain⟨hUq,a,cap,rfl,hr⟩:=hvb
 obtain⟨_,hr⟩:=hr _ _ _ _ hq'
 obtain⟨r1,r2,r3⟩:=hS.yJ q _ _ _ _ hq' (by omega)
 have hrow:∃g z2 cur,c.ρ q=some (g,0,z2)/\a=some ⟨g,0,none⟩/\l.length<=cap/\cap<=maxLen/\c.w.heap[g]?=some (.cells cur 5 (0,0))/\cap<=cur.size/\da c 1 (cP ⟨l.toArray⟩) g 0:=by
  rcases r3 with⟨_,r3⟩|⟨g,o2,z2,r4,r5,⟨cur,r6,r7,r8⟩,r9,r10⟩
  ·have:=congrArg List.length r3;simp[hlen,hl0,h0] at this
  ·obtain⟨rfl,_⟩:=r8 (by decide)
   rcases hr hlen with⟨s1,_⟩|⟨g',o',z',s1,s2,s3,s4,s5,_⟩
   ·rw[r4] at s1;cases s1
   ·rw[r4] at s1
    cases s1
    exact⟨g,z2,cur,r4,s2,s3,s5,r6,by omega,r10⟩
 obtain⟨g,z2,cur,s1,rfl,s2,s3,s4,s5,s6⟩:=hrow
 have hc1:=a2 1 (by omega)
 simp only[Nat.zero_add,Value.cells] at hc1
 refine(yU blk g l.length cap va cur l c.w (by simpa using hc1) s4 h0 s2 s3 s5 fun j x hx=> ?_).mono ?_
 ·obtain⟨v,hv1,hv2⟩:=de s6 j (by rw[hlen];exact(List.getElem?_eq_some_iff.1 hx).1)
  have hg:(cP ⟨l.toArray⟩).getD j .any= .sc (.int .u8 (x.toNat:Int)):=by simp[cP,List.getD,hx]
  rw[hg,VR] at hv2
  subst hv2
  have:=hv1.2.1 0 (by omega)
  simpa[Value.cells] using this
 rintro e w' ⟨rfl,rfl⟩
 have hfz:c.w.drew.freeze ⟨g,0,none⟩ l.length={ c.w.drew with heap:=c.w.heap.modify g fun
  | .cells c elem (lo,hi)=> .cells c elem (if lo==hi then(0,0+l.length) else(min lo 0,max hi (0+l.length)))
  |o=>o }:=by
  unfold World.freeze
  rw[if_neg hl0]
  rfl
 obtain⟨p1,p2⟩:=TM hS hq' s1 (w':=c.w.drew.freeze ⟨g,0,none⟩ l.length) (by rw[hfz];rfl) (by rw[hfz];rfl) (by rw[hfz];rfl) (by rw[hfz];exact Array.size_modify)
  (fun k hk=>by
   rw[hfz]
   simp only[Array.getElem?_modify]
   rw[if_neg (by omega)]) (H':=bw ((q,none)::H)) (by
   funext x
   by_cases hx:x=q
   ·subst hx;simp[bw]
   ·rw[eE _ _ hx,hH];simp[bw,hx])
 refine⟨.string ⟨l.toArray⟩, .sc (.string ⟨l.toArray⟩),_,nx,c.ρ,c.U,rfl,⟨rfl,rfl,rfl⟩,hU,p1,p2, ?_⟩
 rw[VR]
end Go.Proofs.YtjopoheligmmoaaGreatDoor
namespace Go.Proofs.YtjopoheligmmoaaGreatDoor
open Go Go.cp Go.Proofs Go.RowKit
open Go.Lib (decDigits itoa)
set_option linter.unusedVariables false
set_option linter.unusedSimpArgs false
theorem TW (n:Int):IntKind.u64.wrap n=n%18446744073709551616:=by simp[IntKind.wrap,IntKind.bits,IntKind.signed]
theorem B3:∀(k u:Nat),u<10^(k+1)->(decDigits u).length<=k+1
 |k,u,h=>by
  rw[decDigits]
  split
  ·simp
  ·rename_i hu
   cases k with
   |zero=>omega
   |succ k=>
    have:=B3 k (u /10) (by rw[Nat.pow_succ] at h;omega)
    simp only[List.length_append,List.length_cons,List.length_nil]
    omega
theorem B4 (u:Nat):0<(decDigits u).length:=by
 rw[decDigits]
 split<;>simp
def iG (l:List UInt8):Array Value:=(List.replicate (20 - l.length) (Value.int .u8 0)++l.map fun b=>Value.int .u8 (b.toNat:Int)).toArray
theorem BW {l:List UInt8} {k:Nat} (h:k+l.length=19):(iG l)[k]?=some (.int .u8 0):=by
 simp only[iG,List.getElem?_toArray]
 rw[List.getElem?_append_left (by simp;omega),List.getElem?_replicate,if_pos (by omega)]
theorem BX {l:List UInt8} {k:Nat} (h:k+l.length=19) (d:UInt8):(iG l).setIfInBounds k (.int .u8 (d.toNat:Int))=iG (d::l):=by
 have h1:20 - l.length=k+1:=by omega
 have h2:20 - (d::l).length=k:=by simp;omega
 unfold iG
 rw[h1,h2,List.replicate_succ',List.setIfInBounds_toArray]
 congr 1
 rw[List.append_assoc,List.set_append_right _ _ (by simp)]
 simp
theorem N9 {l:List UInt8} {k i:Nat} (h:k+l.length=20) (hi:i<l.length):(iG l)[k+i]?=some (.int .u8 ((l.getD i 0).toNat:Int)):=by
 have h1:20 - l.length=k:=by omega
 simp only[iG,h1,List.getElem?_toArray]
 rw[List.getElem?_append_right (by simp)]
 simp[List.getD,List.getElem?_eq_getElem hi]
theorem B1 (W:World) (b j:Nat) (z:Int) (hz:z=(j:Int)) (h:j<20):
 (Instr.sliceAt 269 (.pointer (some ⟨b,0,none⟩)) (some (.int .i64 z)) none none).run Tryz.prog W= .ok (.slice (some ⟨b,j,none⟩) (20 - j) (20 - j)) W:=by
 subst hz
 have al:Tryz.prog.arrayLen 269=20:=by kernel_rfl
 have el:Tryz.prog.elem 269=5:=by kernel_rfl
 rw[run_sliceAt_array_l W 269 ⟨b,0,none⟩ (by rw[al,el];exact Tryz.underlying269) .i64 (j:Int) (by omega) (by rw[al];omega),el,al]
 rw[show(sizeOf 5).run Tryz.prog W= .ok 1 W by kernel_rfl]
 simp only[Result.andThen,slicedAt,Int.toNat_natCast,Nat.mul_one]
 rw[if_neg (by omega),Go.Lib.add_plain,Nat.zero_add]
theorem yY (w:World) (j:Nat) (l:List UInt8) (h:j+l.length=20):
 (convert 240 9 (.slice (some ⟨w.heap.size,j,none⟩) (20 - j) (20 - j))).run Tryz.prog (w.alloc (.cells (iG l) 269))= .ok (.string ⟨l.toArray⟩) (w.alloc (.cells (iG l) 269)):=by
 rw[run_convert_bytes_arg _ 240 5 Tryz.underlying240 Tryz.underlying5 w.heap.size j (20 - j) (20 - j) (l.map fun b=>(b.toNat:Int)) (by simp;omega) (fun i hi=> ?_) 9 Tryz.underlying9]
 ·congr 2
  simp[strOfNums,Function.comp_def]
 ·rw[World.cell?_alloc_new,N9 h (by omega)]
  congr 2
  simp[List.getD]
  cases hh:l[i]?<;>simp
set_option maxHeartbeats 1000000 in
set_option maxRecDepth 100000 in
theorem AK (x:Int) (h1:-9223372036854775808<=x) (h2:x<=9223372036854775807) (w:World):
 Calls Tryz.prog 181 #[.int .i64 x] w fun e w'=>e= .returned (.string ⟨(itoa x).toArray⟩)/\Below w.heap.size w w':=by
 have t1:=Tryz.underlying269
 have t2:=Tryz.underlying2
 have t3:=Tryz.underlying3
 have t4:=Tryz.underlying206
 have t5:=Tryz.underlying5
 have t6:=Tryz.underlying9
 have t7:=Tryz.underlying240
 have hu19:(decDigits x.natAbs).length<=19:=B3 18 _ (by omega)
 go_enter Tryz.func181,Tryz.ntmps181
 go_wp2
 all_goals
  go_loopw [4,5] (fun va vn wr=>∃(k n:Nat) (l:List UInt8),va= .int .i64 ((k+1:Nat):Int)/\vn= .int .u64 n/\k+l.length=19/\n<=9223372036854775808/\decDigits x.natAbs=decDigits n++l/\wr=w.alloc (.cells (iG l) 269)) (fun va _ _=>(RowKit.intOf va).toNat)
  case atStart=>
   refine⟨19,x.natAbs,[],rfl, ?_,rfl,by omega,by simp,rfl⟩
   simp only[TW]
   congr 1
   omega
  case round=>
   obtain⟨k,n,l,rfl,rfl,hk,hn,hd,rfl⟩:=hrel
   have hn0:=B4 n
   have hlen:=congrArg List.length hd
   rw[List.length_append] at hlen
   have hk1:1<=k:=by omega
   have hk2:k<=19:=by omega
   have hg:=BW hk
   have hq:IntKind.u64.wrap ((n:Int) /10)=((n /10:Nat):Int):=by rw[TW];omega
   obtain⟨d,hde⟩:∃d:UInt8,UInt8.ofNat (48+n%10)=d:=⟨_,rfl⟩
   have hset:(iG l).setIfInBounds k (.int .u8 (48+(n:Int)%10))=iG (d::l):=by
    rw[<-BX hk,<-hde,UInt8.toNat_ofNat']
    congr 2
    omega
   have hg2:(iG (d::l))[k - 1]?=some (.int .u8 0):=BW (by simp;omega)
   have hset2:(iG (d::l)).setIfInBounds (k - 1) (.int .u8 45)=iG (45::d::l):=BX (by simp;omega) 45
   have hs1:=B1 (w.alloc (.cells (iG (d::l)) 269)) w.heap.size k (k:Int) rfl (by omega)
   have hs2:=B1 (w.alloc (.cells (iG (45::d::l)) 269)) w.heap.size (k - 1) ((k:Int) - 1) (by omega) (by omega)
   have hc1:=yY w k (d::l) (by simp;omega)
   have hc2:=yY w (k - 1) (45::d::l) (by simp;omega)
   go_wp2
   case roundEnd=>
    rename_i hz
    have hz:¬n<10:=by simp at hz;omega
    refine⟨⟨k - 1,n /10,d::l,by congr 1;omega,by simp,by simp;omega,Nat.le_trans (Nat.div_le_self _ _) hn, ?_,rfl⟩,by simp[RowKit.intOf]⟩
    rw[hd,decDigits,dif_neg hz,<-hde,List.append_assoc];rfl
   all_goals
    have hz:((n:Int) /10==0)=true:=by assumption
    have hz:n<10:=by simp at hz;omega
    have hd2:decDigits x.natAbs=d::l:=by
     rw[hd,decDigits.eq_def n,dif_pos hz,<-hde,Nat.mod_eq_of_lt hz];rfl
    go_ret
    refine⟨?_,(Below.refl _ _).alloc (Nat.le_refl _) _⟩
    rw[itoa]
    first
    |(rw[if_pos (by assumption),hd2];rfl)
    |(rw[if_neg (by omega),show x.toNat=x.natAbs by omega,hd2];rfl)
theorem AJ (x:Int) (h1:-9223372036854775808<=x) (h2:x<=9223372036854775807):Pure Tryz.prog 181 [.sc (.int .i64 x)] (fun r=>r= .sc (.string ⟨(itoa x).toArray⟩)):=by
 refine⟨⟨_,Tryz.func181,by kernel_rfl,by kernel_rfl⟩,fun M w vs hM hv=> ?_⟩
 rw[cg] at hv
 obtain⟨v,vs',rfl,h3,h4⟩:=hv
 rw[VR] at h3
 rw[cg] at h4
 subst h3
 subst h4
 refine(AK x h1 h2 w).mono ?_
 rintro e w' ⟨rfl,hb⟩
 exact⟨_,_,rfl,rfl,by simp[cK],by rw[VR],hb⟩
end Go.Proofs.YtjopoheligmmoaaGreatDoor
namespace Go.Proofs.YtjopoheligmmoaaGreatDoor
open Go Go.cp Go.Proofs
set_option linter.unusedSimpArgs false
set_option linter.unusedVariables false
abbrev k8 (l:List UInt8):ByteArray:=⟨l.toArray⟩
theorem tw (l k:List UInt8):cP (k8 l)++cP (k8 k)=cP (k8 (l++k)):=by simp[cP,k8]
theorem iy (l:List UInt8):(cP (k8 l)).length=l.length:=by simp[cP,k8]
def Bd (b:Nat) (l:List UInt8) (H:Hp) (n:Nat):Prop:=∃A d,(A= .sc (.pointer none)\/A= .pt b 1 0 0)/\
 ((l=[]/\bw H b=some (.row 242 2 d [.agg [A, .sc (.slice none 0 0)]]))\/
   ∃q d2,q<n/\q≠b/\bw H b=some (.row 242 2 d [.agg [A, .sl q l.length]])/\bw H q=some (.row 5 1 d2 (cP (k8 l))))
def T7 (b n:Nat) (H H2:Hp):Prop:=∀y,y<n->y≠b->(∀d es,bw H y≠some (.row 5 1 d es))->bw H2 y=bw H y
theorem yc {b nx:Nat} {l k:List UInt8} {H:Hp} (hB:Bd b l H nx) (hb:b<nx) (hk:k≠[]) (hsz:l.length+k.length<=140737488355328):
 cO Tryz.prog 180 [.pt b 1 0 0, .sc (.string (k8 k))] H nx (fun r H2 n2=>nx<=n2/\Bd b (l++k) H2 n2/\T7 b nx H H2):=by
 obtain⟨A,d,hA,⟨rfl,hr⟩|⟨q,d2,hq,hqb,hr,hr2⟩⟩:=hB
 ·refine aJ NT rfl ?_
  refine cV ?_
  refine aI (mT hr hA) ?_
  rintro _ H2 n2 ⟨rfl,rfl,rfl⟩
  have a0:(cP (k8 k)).length * 1<=gC:=by rw[iy];simp at hsz;unfold gC;omega
  refine cV ?_
  rw[List.nil_append]
  have e1:=iy k
  exact⟨ca,⟨_,d, .inr rfl, .inr ⟨nx+9,_,by omega,by omega,by rw[<-e1];exact cA,cA⟩⟩,fun y h1 h2 h3=>cB⟩
 ·refine aJ NT rfl ?_
  refine cV ?_
  refine aI (mT hr hA) ?_
  rintro _ H2 n2 ⟨rfl,rfl,rfl⟩
  have a0:(cP (k8 l)).length=l.length/\5=5/\1=1:=⟨iy l,rfl,rfl⟩
  have a1:(l.length+(cP (k8 k)).length) * 1<=gC:=by rw[iy];unfold gC;omega
  refine cV ?_
  have e1:(l++k).length=l.length+(cP (k8 k)).length:=by rw[iy,List.length_append]
  exact⟨ca,⟨_,d, .inr rfl, .inr ⟨q,_,by omega,hqb,by rw[e1];exact cA,by rw[<-tw];exact cA⟩⟩,fun y h1 h2 h3=>by
   have hyq:y≠q:=fun e=>by subst e;exact h3 _ _ hr2
   exact cB⟩
theorem mM {b nx:Nat} {l:List UInt8} {c:UInt8} {H:Hp} (hB:Bd b l H nx) (hb:b<nx) (hsz:l.length+1<=140737488355328):
 cO Tryz.prog 182 [.pt b 1 0 0, .sc (.int .u8 (c.toNat:Int))] H nx (fun r H2 n2=>nx<=n2/\Bd b (l++[c]) H2 n2/\T7 b nx H H2):=by
 obtain⟨A,d,hA,⟨rfl,hr⟩|⟨q,d2,hq,hqb,hr,hr2⟩⟩:=hB
 ·refine aJ NU rfl ?_
  refine cV ?_
  refine aI (mT hr hA) ?_
  rintro _ H2 n2 ⟨rfl,rfl,rfl⟩
  refine cV ?_
  exact⟨ca,⟨_,d, .inr rfl, .inr ⟨nx+9,gN false [.int .u8 0],by omega,by omega,cA,show _=some (e8.row _ _ _ [.sc (.int .u8 (c.toNat:Int))]) from cA⟩⟩,fun y h1 h2 h3=>cB⟩
 ·refine aJ NU rfl ?_
  refine cV ?_
  refine aI (mT hr hA) ?_
  rintro _ H2 n2 ⟨rfl,rfl,rfl⟩
  have a0:(cP (k8 l)).length=l.length/\5=5/\1=1:=⟨iy l,rfl,rfl⟩
  refine cV ?_
  exact⟨ca,⟨_,d, .inr rfl, .inr ⟨q,_,by omega,hqb,by rw[List.length_append];exact cA,by rw[<-tw];exact cA⟩⟩,fun y h1 h2 h3=>by
   have hyq:y≠q:=fun e=>by subst e;exact h3 _ _ hr2
   exact cB⟩
theorem Bd.skip {b n n2:Nat} {l:List UInt8} {H H2:Hp} (h:Bd b l H n) (hn:n<=n2) (hk:∀y,y<n->bw H2 y=bw H y) (hb:b<n:=by omega):Bd b l H2 n2:=by
 obtain⟨A,d,hA,⟨h0,hr⟩|⟨q,d2,hq,hqb,hr,hr2⟩⟩:=h
 ·exact⟨A,d,hA, .inl ⟨h0,(hk b hb).trans hr⟩⟩
 ·exact⟨A,d,hA, .inr ⟨q,d2,by omega,hqb,(hk b hb).trans hr,(hk q hq).trans hr2⟩⟩
theorem xc (x:Int):0<(Go.Lib.itoa x).length:=by
 unfold Go.Lib.itoa
 split
 ·simp
 ·exact B4 _
def eh (x:Int) (e:List UInt8):List UInt8:=Go.Lib.itoa x++e
theorem kU {b nx:Nat} {l e:List UInt8} {x:Int} {H:Hp} (hB:Bd b l H nx) (hb:b<nx) (h1:-9223372036854775808<=x) (h2:x<=9223372036854775807) (hsz:l.length+(eh x e).length<=140737488355328):
 cO Tryz.prog 179 [.sc (.int .i64 x), .sc (.string (k8 e)), .pt b 1 0 0] H nx (fun r H2 n2=>nx<=n2/\Bd b (l++eh x e) H2 n2/\T7 b nx H H2):=by
 have c0:Pure Tryz.prog 181 [.sc (.int .i64 x)] (fun r=>r= .sc (.string (k8 (Go.Lib.itoa x)))):=AJ x h1 h2
 have he:k8 (Go.Lib.itoa x)++k8 e=k8 (eh x e):=by
  apply ByteArray.ext
  simp[k8,eh]
 have hl:(eh x e).length=(Go.Lib.itoa x).length+e.length:=by simp[eh]
 have a0:(k8 (Go.Lib.itoa x)).size+(k8 e).size<=9223372036854775807:=by
  show(Go.Lib.itoa x).toArray.size+e.toArray.size<=_
  simp only[List.size_toArray]
  omega
 have hne:eh x e≠[]:=by
  have:=xc x
  intro h
  rw[h] at hl
  simp at hl
  omega
 refine aJ R5 rfl ?_
 refine cV ?_
 rw[he]
 refine aI (yc (hB.skip (by omega) ?_) (by omega) hne hsz) ?_
 ·exact fun y hy=>cB
 rintro _ H2 n2 ⟨hn,hB2,ho⟩
 refine cV ?_
 exact⟨by omega,hB2.skip (Nat.le_refl _) fun y hy=>cB,fun y q1 q2 q3=>Eq.trans cB (by rw[ho y (by omega) q2 (by rw[show bw _ y=bw H y from cB];exact q3)];exact cB)⟩
end Go.Proofs.YtjopoheligmmoaaGreatDoor
namespace Go.Proofs.YtjopoheligmmoaaGreatDoor
open Go Go.cp Go.Proofs
open Go.Lib (decDigits itoa)
set_option linter.unusedSimpArgs false
set_option linter.unusedVariables false
end Go.Proofs.YtjopoheligmmoaaGreatDoor
namespace Go.Proofs.YtjopoheligmmoaaGreatDoor
open Go Go.cp Go.Proofs
set_option linter.unusedSimpArgs false
set_option linter.unusedVariables false
def wP (m:MS) (t:Nat):List UInt8:=eh (m.at_.getD t 0) [44]++(m.cC.getD t []).flatMap (fun w=>eh w [44])++[124]
def E5 (p:dW):List UInt8:=eh p.dc [58]++eh p.word [44]
def gn (m:MS):List UInt8:=(List.range m.at_.length).flatMap (wP m)++m.mem.flatMap (fun w=>eh w [44])++[124]++m.hold.flatMap (fun w=>eh w [44])++[124]++m.cQ.flatMap E5
structure V2 (m:MS):Prop where
 aw:∀w∈m.at_,eP w
 sl:m.cC.length=m.at_.length
 sw:∀l∈m.cC,∀w∈l,eP w
 mw:∀w∈m.mem,eP w
 hw:∀w∈m.hold,eP w
 pw:∀p∈m.cQ,eP p.dc/\eP p.word
 sz:(gn m).length<=140737488355328
theorem MY {α:Type} (f:α->List UInt8) (l:List α) (j:Nat):((l.take j).flatMap f).length<=(l.flatMap f).length:=by
 conv=>rhs;rw[<-List.take_append_drop j l,List.flatMap_append,List.length_append]
 omega
theorem jA {α:Type} (f:α->List UInt8) {l:List α} {j:Nat} (h:j<l.length) (d:α):(l.take (j+1)).flatMap f=(l.take j).flatMap f++f (l.getD j d):=by
 rw[List.take_succ_eq_append_getElem h,List.flatMap_append]
 simp[List.getD,List.getElem?_eq_getElem h]
theorem oe {α:Type} (f:α->List UInt8) {l:List α} {j:Nat} (h:j<l.length) (d:α):((l.take j).flatMap f).length+(f (l.getD j d)).length<=(l.flatMap f).length:=by
 have:=MY f l (j+1)
 rw[jA f h d,List.length_append] at this
 exact this
theorem qp {l:List Int} (h:∀w∈l,eP w) {j:Nat} (hj:j<l.length):eP (l.getD j 0):=h _ (cS 0 hj)
theorem vm (m:MS):(gn m).length=((List.range m.at_.length).flatMap (wP m)).length+(m.mem.flatMap (fun w=>eh w [44])).length+1+(m.hold.flatMap (fun w=>eh w [44])).length+1+(m.cQ.flatMap E5).length:=by
 simp only[gn,List.length_append,List.length_cons,List.length_nil]
theorem JL {n i:Nat} (h:i<n):(List.range n).getD i 0=i:=by simp[List.getD,h]
theorem mW {α:Type} (f:α->List UInt8) (hf:∀a,0<(f a).length):∀l:List α,l.length<=(l.flatMap f).length
 |[]=>Nat.zero_le _
 |a::l=>by
  have h1:=mW f hf l
  have h2:=hf a
  rw[List.flatMap_cons,List.length_append,List.length_cons]
  omega
theorem ox (x:Int) (e:List UInt8):0<(eh x e).length:=by
 have:=xc x
 unfold eh
 rw[List.length_append]
 omega
theorem MZ (m:MS) (t:Nat):0<(wP m t).length:=by
 unfold wP
 rw[List.length_append]
 simp
theorem L7 (p:dW):0<(E5 p).length:=by
 have:=ox p.dc [58]
 unfold E5
 rw[List.length_append]
 omega
set_option maxHeartbeats 2000000 in
theorem vl (u:bx) (m:MS) (h:V2 m):Pure Tryz.prog 145 [m.fz u] (fun r=>r= .sc (.string (k8 (gn m)))):=by
 have hsz:=h.sz
 rw[vm] at hsz
 have g1:=mW (wP m) (MZ m) (List.range m.at_.length)
 have g2:=mW (fun w=>eh w [44]) (fun w=>ox w _) m.mem
 have g3:=mW (fun w=>eh w [44]) (fun w=>ox w _) m.hold
 have g4:=mW E5 L7 m.cQ
 rw[List.length_range] at g1
 refine cm ?_ (by simp[cK])
 refine aJ RO rfl ?_
 refine cV ?_
 rw[List.length_map]
 refine aL (fun i:Nat=>[(0,m.fz u),(3, .pt 3 1 0 0),(4, .fn (.func 179) [] [.pt 3 1 0 0]),(21,cL m.at_),(22,i64 m.at_.length),(23,i64 i)])
  (fun i H n=>i<=m.at_.length/\4<=n/\Bd 3 (((List.range m.at_.length).take i).flatMap (wP m)) H n) (fun i=>m.at_.length - i) 0 cI ⟨Nat.zero_le _,ca,⟨.sc (.pointer none),_, .inl rfl, .inl ⟨rfl,cA⟩⟩⟩ ?_
 rintro i H n ⟨hi,hn,hB⟩
 by_cases hil:i<m.at_.length
 ·have e0:=fun d=>ints_at (l:=m.at_) hil d
  have e1:∀d,(m.cC.map cL).getD ((i:Int)).toNat d=cL (m.cC.getD i []):=fun d=>by rw[Int.toNat_natCast];exact dJ cL m.cC i d (by rw[h.sl];exact hil)
  have a0:(m.at_.map i64).length=m.at_.length:=by simp
  have a1:(m.cC.map cL).length=m.at_.length:=by simp[h.sl]
  have hle:=oe (wP m) (l:=List.range m.at_.length) (j:=i) (by simpa using hil) 0
  have hnx:=jA (wP m) (l:=List.range m.at_.length) (j:=i) (by simpa using hil) 0
  rw[JL hil] at hle hnx
  have hw:=qp h.aw hil
  have hth:(wP m i).length=(eh (m.at_.getD i 0) [44]).length+((m.cC.getD i []).flatMap (fun w=>eh w [44])).length+1:=by simp only[wP,List.length_append,List.length_cons,List.length_nil]
  have hthe:wP m i=eh (m.at_.getD i 0) [44]++(m.cC.getD i []).flatMap (fun w=>eh w [44])++[124]:=rfl
  have hsw:=h.sw _ (cS (l:=m.cC) [] (by rw[h.sl];exact hil))
  refine cV ?_
  refine aI (kU (e:=[44]) (hB.skip (by omega) ?_) (by omega) hw.1 (by have:=hw.2;omega) (by omega)) ?_
  ·exact fun y hy=>cB
  rintro _ H2 n2 ⟨hn2,hB2,_⟩
  refine cV ?_
  generalize m.cC.getD i []=sl at *
  have g5:=mW (fun w=>eh w [44]) (fun w=>ox w _) sl
  rw[List.length_map]
  refine aL (fun j:Nat=>[(0,m.fz u),(3, .pt 3 1 0 0),(4, .fn (.func 179) [] [.pt 3 1 0 0]),(5,i64 i),(21,cL m.at_),(22,i64 m.at_.length),(23,i64 i),(37,cL sl),(38,i64 (sl).length),(39,i64 j)])
   (fun j H n=>j<=(sl).length/\4<=n/\Bd 3 ((((List.range m.at_.length).take i).flatMap (wP m)++eh (m.at_.getD i 0) [44])++((sl).take j).flatMap (fun w=>eh w [44])) H n) (fun j=>(sl).length - j) 0 cI ⟨Nat.zero_le _,ca,by rw[List.take_zero,List.flatMap_nil,List.append_nil];exact hB2.skip (by omega) fun y hy=>cB⟩ ?_
  clear hB2
  rintro j H n ⟨hj,hn,hB⟩
  by_cases hjl:j<(sl).length
  ·have e2:=fun d=>ints_at (l:=sl) hjl d
   have a2:((sl).map i64).length=(sl).length:=by simp
   have hle2:=oe (fun w=>eh w [44]) hjl 0
   have hnx2:=jA (fun w=>eh w [44]) hjl 0
   have hw2:=qp hsw hjl
   refine cV ?_
   refine aI (kU (e:=[44]) (hB.skip (by omega) ?_) (by omega) hw2.1 (by have:=hw2.2;omega) (by rw[List.length_append,List.length_append];omega)) ?_
   ·exact fun y hy=>cB
   rintro _ H3 n3 ⟨hn3,hB3,_⟩
   refine cV ?_
   exact⟨j+1,by omega,cI,by omega,by omega,by rw[hnx2,<-List.append_assoc];exact hB3.skip (by omega) fun y hy=>cB⟩
  ·obtain rfl:j=sl.length:=by omega
   rw[List.take_length] at hB
   refine cV ?_
   refine aI (mM (c:=124) (hB.skip (by omega) ?_) (by omega) (by rw[List.length_append,List.length_append];omega)) ?_
   ·exact fun y hy=>cB
   rintro _ H3 n3 ⟨hn3,hB3,_⟩
   refine cV ?_
   exact⟨i+1,by omega,cI,by omega,by omega,by rw[hnx,hthe,<-List.append_assoc,<-List.append_assoc];exact hB3.skip (by omega) fun y hy=>cB⟩
 ·obtain rfl:i=m.at_.length:=by omega
  rw[show(List.range m.at_.length).take m.at_.length=List.range m.at_.length from List.take_of_length_le (by simp)] at hB
  refine cV ?_
  rw[List.length_map]
  refine aL (fun j:Nat=>[(0,m.fz u),(3, .pt 3 1 0 0),(4, .fn (.func 179) [] [.pt 3 1 0 0]),(52,cL m.mem),(53,i64 (m.mem).length),(54,i64 j)])
   (fun j H n=>j<=(m.mem).length/\4<=n/\Bd 3 (((List.range m.at_.length).flatMap (wP m))++((m.mem).take j).flatMap (fun w=>eh w [44])) H n) (fun j=>(m.mem).length - j) 0 cI ⟨Nat.zero_le _,ca,by rw[List.take_zero,List.flatMap_nil,List.append_nil];exact hB.skip (by omega) fun y hy=>cB⟩ ?_
  clear hB
  rintro j H n ⟨hj,hn,hB⟩
  by_cases hjl:j<(m.mem).length
  ·have e2:=fun d=>ints_at (l:=m.mem) hjl d
   have a2:((m.mem).map i64).length=(m.mem).length:=by simp
   have hle2:=oe (fun w=>eh w [44]) hjl 0
   have hnx2:=jA (fun w=>eh w [44]) hjl 0
   have hw2:=qp h.mw hjl
   refine cV ?_
   refine aI (kU (e:=[44]) (hB.skip (by omega) ?_) (by omega) hw2.1 (by have:=hw2.2;omega) (by rw[List.length_append];omega)) ?_
   ·exact fun y hy=>cB
   rintro _ H3 n3 ⟨hn3,hB3,_⟩
   refine cV ?_
   exact⟨j+1,by omega,cI,by omega,by omega,by rw[hnx2,<-List.append_assoc];exact hB3.skip (by omega) fun y hy=>cB⟩
  ·obtain rfl:j=(m.mem).length:=by omega
   rw[List.take_length] at hB
   refine cV ?_
   refine aI (mM (c:=124) (hB.skip (by omega) ?_) (by omega) (by rw[List.length_append];omega)) ?_
   ·exact fun y hy=>cB
   rintro _ H3 n3 ⟨hn3,hB3,_⟩
   clear hB hj hjl
   refine cV ?_
   rw[List.length_map]
   refine aL (fun j:Nat=>[(0,m.fz u),(3, .pt 3 1 0 0),(4, .fn (.func 179) [] [.pt 3 1 0 0]),(66,cL m.hold),(67,i64 (m.hold).length),(68,i64 j)])
    (fun j H n=>j<=(m.hold).length/\4<=n/\Bd 3 (((List.range m.at_.length).flatMap (wP m)++m.mem.flatMap (fun w=>eh w [44])++[124])++((m.hold).take j).flatMap (fun w=>eh w [44])) H n) (fun j=>(m.hold).length - j) 0 cI ⟨Nat.zero_le _,ca,by rw[List.take_zero,List.flatMap_nil,List.append_nil];exact hB3.skip (by omega) fun y hy=>cB⟩ ?_
   clear hB3
   rintro j H n ⟨hj,hn,hB⟩
   by_cases hjl:j<(m.hold).length
   ·have e2:=fun d=>ints_at (l:=m.hold) hjl d
    have a2:((m.hold).map i64).length=(m.hold).length:=by simp
    have hle2:=oe (fun w=>eh w [44]) hjl 0
    have hnx2:=jA (fun w=>eh w [44]) hjl 0
    have hw2:=qp h.hw hjl
    refine cV ?_
    refine aI (kU (e:=[44]) (hB.skip (by omega) ?_) (by omega) hw2.1 (by have:=hw2.2;omega) (by simp only[List.length_append,List.length_cons,List.length_nil];omega)) ?_
    ·exact fun y hy=>cB
    rintro _ H3 n3 ⟨hn3,hB3,_⟩
    refine cV ?_
    exact⟨j+1,by omega,cI,by omega,by omega,by rw[hnx2,<-List.append_assoc];exact hB3.skip (by omega) fun y hy=>cB⟩
   ·obtain rfl:j=(m.hold).length:=by omega
    rw[List.take_length] at hB
    refine cV ?_
    refine aI (mM (c:=124) (hB.skip (by omega) ?_) (by omega) (by simp only[List.length_append,List.length_cons,List.length_nil];omega)) ?_
    ·exact fun y hy=>cB
    rintro _ H3 n3 ⟨hn3,hB3,_⟩
    clear hB hj hjl
    refine cV ?_
    rw[List.length_map]
    refine aL (fun j:Nat=>[(0,m.fz u),(3, .pt 3 1 0 0),(4, .fn (.func 179) [] [.pt 3 1 0 0]),(80,fq m.cQ),(81,i64 m.cQ.length),(82,i64 j)])
     (fun j H n=>j<=m.cQ.length/\4<=n/\Bd 3 (((List.range m.at_.length).flatMap (wP m)++m.mem.flatMap (fun w=>eh w [44])++[124]++m.hold.flatMap (fun w=>eh w [44])++[124])++(m.cQ.take j).flatMap E5) H n) (fun j=>m.cQ.length - j) 0 cI ⟨Nat.zero_le _,ca,by rw[List.take_zero,List.flatMap_nil,List.append_nil];exact hB3.skip (by omega) fun y hy=>cB⟩ ?_
    clear hB3
    rintro j H n ⟨hj,hn,hB⟩
    by_cases hjl:j<m.cQ.length
    ·have e2:∀d,(m.cQ.map dW.av).getD ((j:Int)).toNat d=(m.cQ.getD j default).av:=fun d=>by rw[Int.toNat_natCast];exact dJ dW.av m.cQ j d hjl
     have a2:(m.cQ.map dW.av).length=m.cQ.length:=by simp
     have hle2:=oe E5 hjl default
     have hnx2:=jA E5 hjl default
     obtain⟨hw2,hw3⟩:=h.pw _ (cS default hjl)
     generalize m.cQ.getD j default=p at *
     have hpl:(E5 p).length=(eh p.dc [58]).length+(eh p.word [44]).length:=by simp[E5]
     refine cV ?_
     refine aI (kU (e:=[58]) (hB.skip (by omega) ?_) (by omega) hw2.1 (by have:=hw2.2;omega) (by simp only[List.length_append,List.length_cons,List.length_nil];omega)) ?_
     ·exact fun y hy=>cB
     rintro _ H3 n3 ⟨hn3,hB3,ho⟩
     have hr:bw H3 (n+1+1+1)=some (.row 155 2 (gN true [.int .i64 0, .int .i64 0]) [.agg p.cells]):=(ho _ (by omega) (by omega) (by
      intro d es
      rw[show bw _ (n+1+1+1)=some (e8.row 155 2 (gN true [.int .i64 0, .int .i64 0]) [.agg p.cells]) from cA]
      simp)).trans cA
     refine cV ?_
     refine aI (kU (e:=[44]) (hB3.skip (by omega) ?_) (by omega) hw3.1 (by have:=hw3.2;omega) (by simp only[List.length_append,List.length_cons,List.length_nil];omega)) ?_
     ·exact fun y hy=>cB
     rintro _ H4 n4 ⟨hn4,hB4,_⟩
     refine cV ?_
     exact⟨j+1,by omega,cI,by omega,by omega,by rw[hnx2,E5,<-List.append_assoc,<-List.append_assoc];exact hB4.skip (by omega) fun y hy=>cB⟩
    ·obtain rfl:j=m.cQ.length:=by omega
     rw[List.take_length] at hB
     have hne:gn m≠[]:=by
      intro e
      have:=congrArg List.length e
      rw[vm] at this
      simp at this
     change Bd 3 (gn m) H n at hB
     obtain⟨A,d,hA,⟨h0,_⟩|⟨q,d2,hq,hqb,hr,hr2⟩⟩:=hB
     ·exact absurd h0 hne
     refine cV ?_
     refine aI (yT (q:=q) (d:=d) (d2:=d2) (A:=A) (l:=gn m) ?_ ?_ hne) ?_
     ·exact cA
     ·exact cA
     rintro _ H4 n4 ⟨rfl,rfl,rfl⟩
     refine cV ?_
     exact⟨rfl⟩
end Go.Proofs.YtjopoheligmmoaaGreatDoor
namespace Go.Proofs.YtjopoheligmmoaaGreatDoor
open Go Go.cp Go.Proofs
open Go.Lib (itoa)
set_option linter.unusedSimpArgs false
set_option linter.unusedVariables false
abbrev MS.av (u:bx) (m:MS):AV:= .agg (m.cells u)
end Go.Proofs.YtjopoheligmmoaaGreatDoor
namespace Go.Proofs.YtjopoheligmmoaaGreatDoor
open Go Go.cp Go.Proofs
set_option linter.unusedSimpArgs false
set_option linter.unusedVariables false
structure cX where
 m:MS
 from_:Int
 dc:Int
 deriving Inhabited,DecidableEq
abbrev jL (l:List cX):List (List UInt8):=l.map fun f=>gn f.m
def BL (u:bx) (most k t:Nat) (l:List cX):Option (List cX):=
 if(l.getD k default).m.kZ u t≠0 then some l
 else if gn ((l.getD k default).m.step u t).1∈jL l then some l
 else if l.length=most then none
 else some (l++[⟨((l.getD k default).m.step u t).1,k,t⟩])
def AU (u:bx) (most k:Nat):List Nat->List cX->Option (List cX)
 |[],l=>some l
 |t::ts,l=>match BL u most k t l with
  |none=>none
  |some l'=>AU u most k ts l'
def w7 (u:bx) (most:Nat):Nat->Nat->List cX->Option (List cX)
 |0,_,l=>some l
 |n+1,k,l=>if k<l.length then(match AU u most k (List.range u.bz.length) l with
  |none=>none
  |some l'=>w7 u most n (k+1) l') else some l
def jo (u:bx):List cX:=[⟨dQ u,-1,0⟩]
def gU (u:bx) (most:Nat):Option (List cX):=w7 u most most 0 (jo u)
structure iK (u:bx) (l:List cX):Prop where
 pos:0<l.length
 first:l.getD 0 default=⟨dQ u,-1,0⟩
 ok:∀i,i<l.length->eN u (l.getD i default).m/\(l.getD i default).m.cQ.length<=i
 G2:∀i,0<i->i<l.length->∃k t:Nat,k<i/\t<u.bz.length/\(l.getD k default).m.kZ u t=0/\l.getD i default=⟨((l.getD k default).m.step u t).1,k,t⟩
 keys:(jL l).Nodup
theorem mJ (u:bx) (m:MS) (t:Nat):(m.step u t).1.cQ.length<=m.cQ.length+1:=by
 show((m.act t (m.node u t)).1).cQ.length<=_
 generalize m.node u t=n
 unfold MS.act
 repeat' split
 all_goals first
  |exact Nat.le_succ _
  |(simp only[List.length_append,List.length_cons,List.length_nil];exact Nat.le_refl _)
theorem fm {α:Type} {l:List α} {x d:α} {i:Nat} (h:i<l.length):(l++[x]).getD i d=l.getD i d:=by simp[List.getD,List.getElem?_append,h]
theorem sB {α:Type} {l:List α} {x d:α}:(l++[x]).getD l.length d=x:=by simp[List.getD]
theorem iK.init (u:bx) (hu:u.Wf) (hr:cW u):iK u (jo u) where
 pos:=by simp[jo]
 first:=rfl
 ok:=fun i hi=>by
  have:i=0:=by simp[jo] at hi;omega
  subst this
  exact⟨CN u hr (fun d hd=>(hu.shared d hd).word) fun t ht=>(hr.gr ht).len.1,Nat.le_refl _⟩
 G2:=fun i hi h=>by simp[jo] at h;omega
 keys:=by simp[jL,jo]
theorem iK.add {u:bx} {l:List cX} (hu:u.Wf) (hr:cW u) (h:iK u l) {k t:Nat} (hk:k<l.length) (ht:t<u.bz.length) (hb:(l.getD k default).m.kZ u t=0) (hn:gn ((l.getD k default).m.step u t).1∉jL l):iK u (l++[⟨((l.getD k default).m.step u t).1,k,t⟩]) where
 pos:=by simp
 first:=by rw[fm h.pos];exact h.first
 ok:=fun i hi=>by
  rw[List.length_append] at hi
  by_cases e:i<l.length
  ·rw[fm e];exact h.ok i e
  ·have:i=l.length:=by simp at hi;omega
   subst this
   rw[sB]
   obtain⟨h1,h2⟩:=h.ok k hk
   refine⟨wK hu hr h1 ht (kE h1 ht hb).1, ?_⟩
   have:=mJ u (l.getD k default).m t
   dsimp only
   omega
 G2:=fun i h0 hi=>by
  rw[List.length_append] at hi
  by_cases e:i<l.length
  ·obtain⟨k',t',h1,h2,h3,h4⟩:=h.G2 i h0 e
   refine⟨k',t',h1,h2, ?_, ?_⟩
   ·rw[fm (by omega)];exact h3
   ·rw[fm e,fm (by omega)];exact h4
  ·have:i=l.length:=by simp at hi;omega
   subst this
   refine⟨k,t,hk,ht, ?_, ?_⟩
   ·rw[fm hk];exact hb
   ·rw[sB,fm hk]
 keys:=by
  simp only[jL,List.map_append,List.map_cons,List.map_nil]
  refine List.nodup_append.2 ⟨h.keys,by simp,fun a ha b hb2=> ?_⟩
  simp only[List.mem_cons,List.not_mem_nil,or_false] at hb2
  subst hb2
  intro e
  exact hn (e▸ha)
theorem M3 {u:bx} {l l':List cX} {most k t:Nat} (hu:u.Wf) (hr:cW u) (h:iK u l) (hl:l.length<=most) (hk:k<l.length) (ht:t<u.bz.length) (he:BL u most k t l=some l'):iK u l'/\l'.length<=most/\l<+:l':=by
 unfold BL at he
 split at he
 ·cases he;exact⟨h,hl,List.prefix_refl _⟩
 rename_i h1
 split at he
 ·cases he;exact⟨h,hl,List.prefix_refl _⟩
 rename_i h2
 split at he
 ·cases he
 ·cases he
  refine⟨h.add hu hr hk ht (by omega) h2, ?_,List.prefix_append _ _⟩
  simp only[List.length_append,List.length_cons,List.length_nil];omega
theorem CT {u:bx} {most k:Nat} (hu:u.Wf) (hr:cW u):∀{ts:List Nat} {l l':List cX},iK u l->l.length<=most->k<l.length->(∀t∈ts,t<u.bz.length)->AU u most k ts l=some l'->iK u l'/\l'.length<=most/\l<+:l'
 |[],l,l',h,hl,hk,ht,he=>by cases he;exact⟨h,hl,List.prefix_refl _⟩
 |t::ts,l,l',h,hl,hk,ht,he=>by
  rw[AU] at he
  split at he
  ·cases he
  ·rename_i l2 h2
   obtain⟨g1,g2,g3⟩:=M3 hu hr h hl hk (ht t (by simp)) h2
   obtain⟨q1,q2,q3⟩:=CT hu hr g1 g2 (Nat.lt_of_lt_of_le hk g3.length_le) (fun x hx=>ht x (by simp[hx])) he
   exact⟨q1,q2,g3.trans q3⟩
theorem BU {u:bx} {most:Nat} (hu:u.Wf) (hr:cW u):∀{n k:Nat} {l l':List cX},iK u l->l.length<=most->w7 u most n k l=some l'->iK u l'/\l'.length<=most/\l<+:l'
 |0,k,l,l',h,hl,he=>by cases he;exact⟨h,hl,List.prefix_refl _⟩
 |n+1,k,l,l',h,hl,he=>by
  rw[w7] at he
  split at he
  ·rename_i hk
   split at he
   ·cases he
   ·rename_i l2 h2
    obtain⟨g1,g2,g3⟩:=CT hu hr h hl hk (fun t ht=>List.mem_range.1 ht) h2
    obtain⟨q1,q2,q3⟩:=BU hu hr g1 g2 he
    exact⟨q1,q2,g3.trans q3⟩
  ·cases he;exact⟨h,hl,List.prefix_refl _⟩
theorem kd {u:bx} {most:Nat} {l:List cX} (hu:u.Wf) (hr:cW u) (hm:1<=most) (h:gU u most=some l):iK u l/\l.length<=most/\jo u<+:l:=BU hu hr (iK.init u hu hr) hm h
end Go.Proofs.YtjopoheligmmoaaGreatDoor
