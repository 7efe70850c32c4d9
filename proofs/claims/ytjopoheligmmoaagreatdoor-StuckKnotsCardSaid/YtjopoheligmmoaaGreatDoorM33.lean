import Derived.Test.YtjopoheligmmoaaGreatDoorProg
import Derived.Test.YtjopoheligmmoaaGreatDoorM24
import Derived.Lib.Builder
import Derived.Lib.Walk
import Derived.Lib.UnsafeStr
import Derived.WalkKit
import Derived.Laws.Externs
import Derived.Test.YtjopoheligmmoaaGreatDoorM15
import Derived.Shelf.RegionOpenPlain
import Derived.LoopTactic
import Derived.Lib.ItoaMem
import Derived.Test.YtjopoheligmmoaaGreatDoorM32
import Derived.Test.YtjopoheligmmoaaGreatDoorM30
namespace Go.Proofs.YtjopoheligmmoaaGreatDoor
open Go Go.Proofs Go.RowKit
set_option linter.unusedVariables false
set_option linter.unusedSimpArgs false
set_option maxHeartbeats 1000000 in
set_option maxRecDepth 100000 in
theorem A1 (b:Nat) (w:World) (h0:w.cell? ⟨b,0,none⟩=some (.pointer none)) (hsh:w.shape? b=some (242,2)) (hfz:w.frozen? ⟨b,0,none⟩=false):
 Calls Tryz.prog 201 #[.pointer (some ⟨b,0,none⟩)] w fun e w'=>e= .returned (.tuple #[])/\w'=w.setCell ⟨b,0,none⟩ (.pointer (some ⟨b,0,none⟩)):=by
 obtain⟨j,hj,hjs⟩:=Option.map_eq_some_iff.1 (show(Tryz.prog.info? 242).map (·.size)=some 2 by kernel_rfl)
 have t70:=Tryz.underlying239
 have t164:=Tryz.underlying275
 go_enter Tryz.func201,Tryz.ntmps201
 go_wp2
 rw[Lib.run_to_unsafe w ⟨b,0,none⟩ t70 t164 hj (by rw[hjs];decide) hsh (Nat.zero_lt_succ 1)]
 simp only[Result.andThen]
 rw[Oper.upon_value]
 go_wp2
 rw[run_callFunc_extern Tryz.func224 (by kernel_rfl) (by kernel_rfl) (by kernel_rfl) (e:=Extern.AbiNoEscape.same) (by kernel_rfl)]
 rw[Lib.run_noEscape]
 simp only[Result.andThen]
 rw[Oper.upon_value]
 go_wp2
 rw[Lib.run_from_unsafe w ⟨b,0,none⟩ t164 t70 hj hsh (show liesAt Tryz.prog Tryz.prog.depth 242 (2 /Tryz.prog.cellsOf 242) 0 242 1=true by kernel_rfl)]
 simp only[Result.andThen]
 rw[Oper.upon_value]
 go_wp2
 go_end0
 exact⟨rfl,rfl⟩
set_option maxHeartbeats 1000000 in
set_option maxRecDepth 100000 in
theorem FJ (b:Nat) (w:World) (h0:w.cell? ⟨b,0,none⟩=some (.pointer (some ⟨b,0,none⟩))):
 Calls Tryz.prog 201 #[.pointer (some ⟨b,0,none⟩)] w fun e w'=>e= .returned (.tuple #[])/\w'=w:=by
 obtain⟨j,hj,_⟩:=Option.map_eq_some_iff.1 (show(Tryz.prog.info? 242).map (·.size)=some 2 by kernel_rfl)
 go_enter Tryz.func201,Tryz.ntmps201
 go_wp2
 rw[Lib.run_neq_ptr_same w _ Tryz.underlying239 hj]
 go_wp2
 go_end0
 exact⟨rfl,rfl⟩
end Go.Proofs.YtjopoheligmmoaaGreatDoor
namespace Go.Proofs.YtjopoheligmmoaaGreatDoor
open Go Go.cu Go.Proofs Go.RowKit
set_option linter.unusedVariables false
set_option linter.unusedSimpArgs false
theorem alone {w0:World} {c:Cx} (hS:du w0 c) {b:Nat} {e:TypeId} {sz:Nat} {d x:AV} (hb:c.H b=some (.row e sz d [x])) (he:e∈XT) (hs:1<sz) (hq:c.ρ b≠none):
 ∃blk arr v,c.ρ b=some (blk,0,sz)/\w0.heap.size<=blk/\c.w.heap[blk]?=some (.cells arr e (0,0))/\arr.size=sz/\At c.w blk 0 sz v/\VR c x v:=by
 obtain⟨h1,h2,h3⟩:=hS.z8 b _ _ _ _ hb (by omega)
 rcases h3 with⟨h4,_⟩|⟨blk,o,z,g1,g2,⟨arr,g3,g4,g5⟩,g6,g7⟩
 ·exact absurd h4 hq
 ·obtain⟨rfl,g8⟩:=g5 he
  have g9:arr.size=sz:=by rcases g8 with g8|g8<;>omega
  obtain⟨v,g10,g11⟩:=dz g7 0 (by simp)
  simp only[List.length_cons,List.length_nil] at g6
  obtain rfl:z=sz:=by omega
  refine⟨blk,arr,v,g1,g2,g3,g9,by simpa using g10,by simpa using g11⟩
theorem LP {c:Cx} {b i:Nat} {e:TypeId} {sz:Nat} {d x:AV} {v:Value} (hb:c.H b=some (.row e sz d [x])) (hv:VR c (.pt b 1 0 0) v):c.U b/\∃blk o z,c.ρ b=some (blk,o,z)/\v= .pointer (some ⟨blk,o,none⟩):=by
 rw[VR] at hv
 obtain⟨hU0,_,ad,rfl,hrow⟩:=hv
 obtain⟨_,h⟩:=hrow _ _ _ _ hb
 obtain⟨_,blk,o,z,hρ,rfl⟩:=h rfl
 exact⟨hU0,blk,o,z,hρ,by simp⟩
theorem nR {b nx:Nat} {H:Hp} {d A S:AV} (hb:bu H b=some (.row 242 2 d [.agg [A,S]])) (hA:A= .sc (.pointer none)\/A= .pt b 1 0 0):
 cS Tryz.prog 201 [.pt b 1 0 0] H nx (fun r H2 n2=>r= .dD []/\H2=(b,some (.row 242 2 d [.agg [.pt b 1 0 0,S]]))::H/\n2=nx):=by
 refine⟨⟨_,Tryz.func201,by kernel_rfl,by kernel_rfl⟩,fun w0 c vs hS hH hU hv=> ?_⟩
 rw[ct] at hv
 obtain⟨v,vs',rfl,hv,hv'⟩:=hv
 rw[ct] at hv'
 subst hv'
 have hb':=hb
 rw[<-hH] at hb'
 have hv0:=hv
 obtain⟨hU0,blk,o,z,hρ,rfl⟩:=LP (i:=0) hb' hv
 obtain⟨blk',arr,u,hρ',hlow,harr,hsz,hat,hu⟩:=alone hS hb' (by decide) (by omega) (by rw[hρ];simp)
 rw[hρ] at hρ'
 cases hρ'
 have hu0:=hu
 rw[VR] at hu
 obtain⟨us,rfl,hu⟩:=hu
 rw[ct] at hu
 obtain⟨va,us',hus,hva,hu⟩:=hu
 rw[ct] at hu
 obtain⟨vb,us'',rfl,hvb,hu⟩:=hu
 rw[ct] at hu
 subst hu
 obtain⟨a1,a2,a3⟩:=hat
 have hcells:us=#[va,vb]:=by rw[<-Array.toArray_toList (xs:=us),hus]
 subst hcells
 have hget:∀{H2:Hp} {k:Option fC},H2=(b,k)::H->bu H2=fM c.H b k:=fun h=>by
  subst h
  funext x
  by_cases hx:x=b
  ·subst hx;simp[bu]
  ·rw[eP _ _ hx,hH];simp[bu,hx]
 rcases hA with rfl|rfl
 ·rw[VR] at hva
  subst hva
  have hc0:=a2 0 (by omega)
  simp only[Nat.add_zero,Value.cells] at hc0
  refine(A1 blk c.w hc0 (by simp[World.shape?,harr,hsz]) (by simp[World.frozen?,harr])).mono ?_
  rintro e w' ⟨rfl,rfl⟩
  rw[setCell_eq_setRow c.w blk 0 arr 242 (0,0) _ harr]
  have hbl:=setRow_heap c.w blk arr (arr.setIfInBounds 0 (.pointer (some ⟨blk,0,none⟩))) 242 (0,0) harr
  obtain⟨p1,p2⟩:=hS.put (b:=b) (e:=242) (sz:=2) d (es:=[.agg [.pt b 1 0 0,S]]) (w':=c.w.setRow blk (arr.setIfInBounds 0 (.pointer (some ⟨blk,0,none⟩)))) (blk:=blk) (o:=0) (z:=2) (by omega)
   (.inr ⟨_,_,_,hb', .inl ⟨rfl,hρ⟩⟩) (.inr ⟨_,_,_,hb',hρ⟩) rfl rfl rfl (by simp[World.setRow]) (fun k _ hne=>setRow_other c.w blk k _ hne) hbl ⟨by simp[hsz],fun _=>⟨rfl, .inl (by simp[hsz])⟩⟩ (by simp) (fun i hi=>by
    obtain rfl:i=0:=by simpa using hi
    refine⟨.agg #[.pointer (some ⟨blk,0,none⟩),vb],⟨rfl,fun j hj=> ?_,fun j x hx=> ?_⟩, ?_⟩
    ·rw[cell_of_row _ blk _ _ 242 (0,0) hbl]
     have h1:=a2 1 (by omega)
     rw[cell_of_row c.w blk _ arr 242 (0,0) harr] at h1
     rcases j with _|_|j
     ·simp[Value.cells,hsz]
     ·simpa[Value.cells] using h1
     ·omega
    ·rcases j with _|_|j
     ·simp[Value.cells] at hx;subst hx;rfl
     ·exact a3 1 x (by simpa[Value.cells] using hx)
     ·simp[Value.cells] at hx
    ·show VR c (.agg [.pt b 1 0 0,S]) _
     rw[VR]
     refine⟨_,rfl, ?_⟩
     rw[ct]
     refine⟨_,_,rfl,hv0, ?_⟩
     rw[ct]
     exact⟨_,_,rfl,hvb,by rw[ct]⟩)
  refine⟨.tuple #[], .dD [],_,nx,fM c.ρ b (some (blk,0,2)),fun x=>c.U x\/x=b,rfl,⟨rfl,rfl,rfl⟩,fun x hx=> ?_, ?_, ?_, ?_⟩
  ·rcases hx with hx|rfl
   ·exact hU x hx
   ·exact hU _ hU0
  ·rw[hget rfl];exact p1
  ·rw[hget rfl];exact p2
  ·rw[VR];exact⟨_,rfl,by rw[ct]⟩
 ·obtain⟨_,blk2,o2,z2,hρ2,rfl⟩:=LP (i:=0) hb' hva
  rw[hρ] at hρ2
  cases hρ2
  have hc0:=a2 0 (by omega)
  simp only[Nat.add_zero,Value.cells] at hc0
  refine(FJ blk c.w hc0).mono ?_
  rintro e w' ⟨rfl,rfl⟩
  have hsame:bu ((b,some (.row 242 2 d [.agg [.pt b 1 0 0,S]]))::H)=c.H:=by
   rw[hget rfl]
   funext x
   by_cases hx:x=b
   ·subst hx;rw[dU];exact hb'.symm
   ·rw[eP _ _ hx]
  refine⟨.tuple #[], .dD [],_,nx,c.ρ,c.U,rfl,⟨rfl,rfl,rfl⟩,hU, ?_, ?_, ?_⟩
  ·rw[hsame];exact hS
  ·rw[hsame];exact Cx.le.refl _
  ·rw[VR];exact⟨_,rfl,by rw[ct]⟩
set_option maxHeartbeats 1000000 in
set_option maxRecDepth 100000 in
theorem zm (b g n cap:Nat) (p:Value) (cur:Array Value) (l:List UInt8) (w:World) (c1:w.drew.cell? ⟨b,1,none⟩=some (.slice (some ⟨g,0,none⟩) l.length cap)) (hg:w.heap[g]?=some (.cells cur 5 (0,0))) (h0:l≠[]) (hc:l.length<=cap) (hcm:cap<=maxLen) (qP:cap<=cur.size)
 (hl:∀j x,l[j]?=some x->w.cell? ⟨g,j,none⟩=some (.int .u8 x.toNat)):
 Calls Tryz.prog 183 #[.pointer (some ⟨b,0,none⟩)] w fun e w'=>e= .returned (.string ⟨l.toArray⟩)/\w'=w.drew.freeze ⟨g,0,none⟩ l.length:=by
 have hl0:l.length≠0:=by simpa using h0
 have hSD:(Builtin.unsafeSliceData_ #[240] 270 #[.slice (some ⟨g,0,none⟩) l.length cap]).run Tryz.prog w.drew= .ok (.pointer (some ⟨g,0,none⟩)) w.drew:=
  Lib.run_unsafeSliceData_row _ _ _ _ _ _ (by omega)
 have hUS:(Builtin.unsafeString_ #[270,3] 9 #[.pointer (some ⟨g,0,none⟩), .int .i64 l.length]).run Tryz.prog w.drew= .ok (.string ⟨l.toArray⟩) (w.drew.freeze ⟨g,0,none⟩ l.length):=by
  refine Lib.run_unsafeString_row w.drew 270 3 9 5 Tryz.underlying270 (by kernel_rfl) g cur.size (by have hg':w.drew.heap[g]?=some (.cells cur 5 (0,0)):=hg;simp[World.shape?,hg']) l h0 (by omega) (by unfold maxLen at hcm;omega) ?_
  intro j x hx
  have:=hl j x hx
  rw[show((⟨g,0,none⟩:Addr).add j)=⟨g,j,none⟩ by unfold Addr.add;split<;>simp_all]
  exact this
 have mixed:Tryz.prog.follows .mixedOrders=true:=by kernel_rfl
 go_enter Tryz.func183,Tryz.ntmps183
 go_wp2
 go_region_o
 all_goals (go_wp2;go_ret;exact⟨rfl,rfl⟩)
theorem WZ {w0:World} {c:Cx} (h:du w0 c) {b blk o z:Nat} {k:fC} {w':World} (hb:c.H b=some k) (hρ:c.ρ b=some (blk,o,z)) (hos:w'.os=c.w.os) (htp:w'.tape=c.w.tape) (hout:w'.output=c.w.output) (hsz:w'.heap.size=c.w.heap.size)
 (hkeep:∀k,k≠blk->w'.heap[k]?=c.w.heap[k]?) {H':Nat->Option fC} (hH:H'=fM c.H b none):du w0 ⟨c.ρ,H',c.U,w',c.M0⟩/\c.le ⟨c.ρ,H',c.U,w',c.M0⟩:=by
 subst hH
 have hs:∀x k,fM c.H b none x=some k->x≠b/\c.H x=some k:=fun x k hk=>by
  by_cases hx:x=b
  ·subst hx;simp at hk
  ·rw[eP _ _ hx] at hk;exact⟨hx,hk⟩
 have hlow:=(h.SY hb hρ).1
 have hle:c.le ⟨c.ρ,fM c.H b none,c.U,w',c.M0⟩:=by
  refine⟨fun _ h=>h,by simp[hsz],fun x hm _=>⟨hkeep x ?_, ?_⟩,fun x _ e sz d es he=>⟨_,_,_,(hs x _ he).2, .inl ⟨rfl,rfl⟩⟩⟩
  ·rintro rfl;exact hm (.inr ⟨b,k,o,z,hb,hρ⟩)
  ·rintro(h0|⟨y,k,o,z,hk,hr⟩)
   ·exact hm (.inl h0)
   ·exact hm (.inr ⟨y,k,o,z,(hs y k hk).2,hr⟩)
 refine⟨⟨h.below.trans ⟨hos,htp,hout,by rw[hsz];exact Nat.le_refl _,fun k hk=>hkeep k (by omega)⟩,h.m0,fun x e sz d es he=> ?_,fun x y k k' _ _ _ _ _ hk hk'=>h.inj x y k k' _ _ _ _ _ (hs _ _ hk).2 (hs _ _ hk').2⟩,hle⟩
 obtain⟨h1,h2⟩:=hs x _ he
 obtain⟨h3,h4⟩:=h.row x _ _ _ _ h2
 refine⟨h3,h4.c8 hle rfl fun blk' o' z' hr hlt=>hkeep blk' ?_⟩
 rintro rfl
 exact h1 (h.inj x b _ _ _ _ _ _ _ h2 hb hr hρ)
theorem zl {b q nx:Nat} {H:Hp} {d d2 A:AV} {l:List UInt8} (hb:bu H b=some (.row 242 2 d [.agg [A, .sl q l.length]])) (hq:bu H q=some (.row 5 1 d2 (cU ⟨l.toArray⟩))) (h0:l≠[]):
 cS Tryz.prog 183 [.pt b 1 0 0] H nx (fun r H2 n2=>r= .sc (.string ⟨l.toArray⟩)/\H2=(q,none)::H/\n2=nx):=by
 refine⟨⟨_,Tryz.func183,by kernel_rfl,by kernel_rfl⟩,fun w0 c vs hS hH hU hv=> ?_⟩
 rw[ct] at hv
 obtain⟨v,vs',rfl,hv,hv'⟩:=hv
 rw[ct] at hv'
 subst hv'
 have hb':=hb
 rw[<-hH] at hb'
 have hq':=hq
 rw[<-hH] at hq'
 obtain⟨hU0,blk,o,z,hρ,rfl⟩:=LP (i:=0) hb' hv
 obtain⟨blk',arr,u,hρ',hlow,harr,hsz,hat,hu⟩:=alone hS hb' (by decide) (by omega) (by rw[hρ];simp)
 rw[hρ] at hρ'
 cases hρ'
 rw[VR] at hu
 obtain⟨us,rfl,hu⟩:=hu
 rw[ct] at hu
 obtain⟨va,us',hus,hva,hu⟩:=hu
 rw[ct] at hu
 obtain⟨vb,us'',rfl,hvb,hu⟩:=hu
 rw[ct] at hu
 subst hu
 obtain⟨a1,a2,a3⟩:=hat
 have hcells:us=#[va,vb]:=by rw[<-Array.toArray_toList (xs:=us),hus]
 subst hcells
 have hlen:(cU ⟨l.toArray⟩).length=l.length:=by simp[cU]
 have hl0:l.length≠0:=by simpa using h0
 rw[VR] at hvb
 obtain⟨hUq,a,cap,rfl,hr⟩:=hvb
 obtain⟨_,hr⟩:=hr _ _ _ _ hq'
 obtain⟨r1,r2,r3⟩:=hS.z8 q _ _ _ _ hq' (by omega)
 have hrow:∃g z2 cur,c.ρ q=some (g,0,z2)/\a=some ⟨g,0,none⟩/\l.length<=cap/\cap<=maxLen/\c.w.heap[g]?=some (.cells cur 5 (0,0))/\cap<=cur.size/\dv c 1 (cU ⟨l.toArray⟩) g 0:=by
  rcases r3 with⟨_,r3⟩|⟨g,o2,z2,r4,r5,⟨cur,r6,r7,r8⟩,r9,r10⟩
  ·have:=congrArg List.length r3;simp[hlen,hl0,h0] at this
  ·obtain⟨rfl,_⟩:=r8 (by decide)
   rcases hr hlen with⟨s1,_⟩|⟨g',o',z',s1,s2,s3,s4,s5,_⟩
   ·rw[r4] at s1;cases s1
   ·rw[r4] at s1
    cases s1
    exact⟨g,z2,cur,r4,s2,s3,s5,r6,by omega,r10⟩
 obtain⟨g,z2,cur,s1,rfl,s2,s3,s4,s5,s6⟩:=hrow
 have hc1:=a2 1 (by omega)
 simp only[Nat.zero_add,Value.cells] at hc1
 refine(zm blk g l.length cap va cur l c.w (by simpa using hc1) s4 h0 s2 s3 s5 fun j x hx=> ?_).mono ?_
 ·obtain⟨v,hv1,hv2⟩:=dz s6 j (by rw[hlen];exact(List.getElem?_eq_some_iff.1 hx).1)
  have hg:(cU ⟨l.toArray⟩).getD j .any= .sc (.int .u8 (x.toNat:Int)):=by simp[cU,List.getD,hx]
  rw[hg,VR] at hv2
  subst hv2
  have:=hv1.2.1 0 (by omega)
  simpa[Value.cells] using this
 rintro e w' ⟨rfl,rfl⟩
 have hfz:c.w.drew.freeze ⟨g,0,none⟩ l.length={ c.w.drew with heap:=c.w.heap.modify g fun
  | .cells c elem (lo,hi)=> .cells c elem (if lo==hi then(0,0+l.length) else(min lo 0,max hi (0+l.length)))
  |o=>o }:=by
  unfold World.freeze
  rw[if_neg hl0]
  rfl
 obtain⟨p1,p2⟩:=WZ hS hq' s1 (w':=c.w.drew.freeze ⟨g,0,none⟩ l.length) (by rw[hfz];rfl) (by rw[hfz];rfl) (by rw[hfz];rfl) (by rw[hfz];exact Array.size_modify)
  (fun k hk=>by
   rw[hfz]
   simp only[Array.getElem?_modify]
   rw[if_neg (by omega)]) (H':=bu ((q,none)::H)) (by
   funext x
   by_cases hx:x=q
   ·subst hx;simp[bu]
   ·rw[eP _ _ hx,hH];simp[bu,hx])
 refine⟨.string ⟨l.toArray⟩, .sc (.string ⟨l.toArray⟩),_,nx,c.ρ,c.U,rfl,⟨rfl,rfl,rfl⟩,hU,p1,p2, ?_⟩
 rw[VR]
end Go.Proofs.YtjopoheligmmoaaGreatDoor
namespace Go.Proofs.YtjopoheligmmoaaGreatDoor
open Go Go.cu Go.Proofs Go.RowKit
open Go.Lib (decDigits itoa)
set_option linter.unusedVariables false
set_option linter.unusedSimpArgs false
theorem W8 (n:Int):IntKind.u64.wrap n=n%18446744073709551616:=by simp[IntKind.wrap,IntKind.bits,IntKind.signed]
theorem D4:∀(k u:Nat),u<10^(k+1)->(decDigits u).length<=k+1
 |k,u,h=>by
  rw[decDigits]
  split
  ·simp
  ·rename_i hu
   cases k with
   |zero=>omega
   |succ k=>
    have:=D4 k (u /10) (by rw[Nat.pow_succ] at h;omega)
    simp only[List.length_append,List.length_cons,List.length_nil]
    omega
theorem D5 (u:Nat):0<(decDigits u).length:=by
 rw[decDigits]
 split<;>simp
def jD (l:List UInt8):Array Value:=(List.replicate (20 - l.length) (Value.int .u8 0)++l.map fun b=>Value.int .u8 (b.toNat:Int)).toArray
theorem DY {l:List UInt8} {k:Nat} (h:k+l.length=19):(jD l)[k]?=some (.int .u8 0):=by
 simp only[jD,List.getElem?_toArray]
 rw[List.getElem?_append_left (by simp;omega),List.getElem?_replicate,if_pos (by omega)]
theorem DZ {l:List UInt8} {k:Nat} (h:k+l.length=19) (d:UInt8):(jD l).setIfInBounds k (.int .u8 (d.toNat:Int))=jD (d::l):=by
 have h1:20 - l.length=k+1:=by omega
 have h2:20 - (d::l).length=k:=by simp;omega
 unfold jD
 rw[h1,h2,List.replicate_succ',List.setIfInBounds_toArray]
 congr 1
 rw[List.append_assoc,List.set_append_right _ _ (by simp)]
 simp
theorem QN {l:List UInt8} {k i:Nat} (h:k+l.length=20) (hi:i<l.length):(jD l)[k+i]?=some (.int .u8 ((l.getD i 0).toNat:Int)):=by
 have h1:20 - l.length=k:=by omega
 simp only[jD,h1,List.getElem?_toArray]
 rw[List.getElem?_append_right (by simp)]
 simp[List.getD,List.getElem?_eq_getElem hi]
theorem D2 (W:World) (b j:Nat) (z:Int) (hz:z=(j:Int)) (h:j<20):
 (Instr.sliceAt 269 (.pointer (some ⟨b,0,none⟩)) (some (.int .i64 z)) none none).run Tryz.prog W= .ok (.slice (some ⟨b,j,none⟩) (20 - j) (20 - j)) W:=by
 subst hz
 have al:Tryz.prog.arrayLen 269=20:=by kernel_rfl
 have el:Tryz.prog.elem 269=5:=by kernel_rfl
 rw[run_sliceAt_array_l W 269 ⟨b,0,none⟩ (by rw[al,el];exact Tryz.underlying269) .i64 (j:Int) (by omega) (by rw[al];omega),el,al]
 rw[show(sizeOf 5).run Tryz.prog W= .ok 1 W by kernel_rfl]
 simp only[Result.andThen,slicedAt,Int.toNat_natCast,Nat.mul_one]
 rw[if_neg (by omega),Go.Lib.add_plain,Nat.zero_add]
theorem zq (w:World) (j:Nat) (l:List UInt8) (h:j+l.length=20):
 (convert 240 9 (.slice (some ⟨w.heap.size,j,none⟩) (20 - j) (20 - j))).run Tryz.prog (w.alloc (.cells (jD l) 269))= .ok (.string ⟨l.toArray⟩) (w.alloc (.cells (jD l) 269)):=by
 rw[run_convert_bytes_arg _ 240 5 Tryz.underlying240 Tryz.underlying5 w.heap.size j (20 - j) (20 - j) (l.map fun b=>(b.toNat:Int)) (by simp;omega) (fun i hi=> ?_) 9 Tryz.underlying9]
 ·congr 2
  simp[strOfNums,Function.comp_def]
 ·rw[World.cell?_alloc_new,QN h (by omega)]
  congr 2
  simp[List.getD]
  cases hh:l[i]?<;>simp
set_option maxHeartbeats 1000000 in
set_option maxRecDepth 100000 in
theorem CL (x:Int) (h1:-9223372036854775808<=x) (h2:x<=9223372036854775807) (w:World):
 Calls Tryz.prog 181 #[.int .i64 x] w fun e w'=>e= .returned (.string ⟨(itoa x).toArray⟩)/\Below w.heap.size w w':=by
 have t1:=Tryz.underlying269
 have t2:=Tryz.underlying2
 have t3:=Tryz.underlying3
 have t4:=Tryz.underlying206
 have t5:=Tryz.underlying5
 have t6:=Tryz.underlying9
 have t7:=Tryz.underlying240
 have hu19:(decDigits x.natAbs).length<=19:=D4 18 _ (by omega)
 go_enter Tryz.func181,Tryz.ntmps181
 go_wp2
 all_goals
  go_loopw [4,5] (fun va vn wr=>∃(k n:Nat) (l:List UInt8),va= .int .i64 ((k+1:Nat):Int)/\vn= .int .u64 n/\k+l.length=19/\n<=9223372036854775808/\decDigits x.natAbs=decDigits n++l/\wr=w.alloc (.cells (jD l) 269)) (fun va _ _=>(RowKit.intOf va).toNat)
  case atStart=>
   refine⟨19,x.natAbs,[],rfl, ?_,rfl,by omega,by simp,rfl⟩
   simp only[W8]
   congr 1
   omega
  case round=>
   obtain⟨k,n,l,rfl,rfl,hk,hn,hd,rfl⟩:=hrel
   have hn0:=D5 n
   have hlen:=congrArg List.length hd
   rw[List.length_append] at hlen
   have hk1:1<=k:=by omega
   have hk2:k<=19:=by omega
   have hg:=DY hk
   have hq:IntKind.u64.wrap ((n:Int) /10)=((n /10:Nat):Int):=by rw[W8];omega
   obtain⟨d,hde⟩:∃d:UInt8,UInt8.ofNat (48+n%10)=d:=⟨_,rfl⟩
   have hset:(jD l).setIfInBounds k (.int .u8 (48+(n:Int)%10))=jD (d::l):=by
    rw[<-DZ hk,<-hde,UInt8.toNat_ofNat']
    congr 2
    omega
   have hg2:(jD (d::l))[k - 1]?=some (.int .u8 0):=DY (by simp;omega)
   have hset2:(jD (d::l)).setIfInBounds (k - 1) (.int .u8 45)=jD (45::d::l):=DZ (by simp;omega) 45
   have hs1:=D2 (w.alloc (.cells (jD (d::l)) 269)) w.heap.size k (k:Int) rfl (by omega)
   have hs2:=D2 (w.alloc (.cells (jD (45::d::l)) 269)) w.heap.size (k - 1) ((k:Int) - 1) (by omega) (by omega)
   have hc1:=zq w k (d::l) (by simp;omega)
   have hc2:=zq w (k - 1) (45::d::l) (by simp;omega)
   go_wp2
   case roundEnd=>
    rename_i hz
    have hz:¬n<10:=by simp at hz;omega
    refine⟨⟨k - 1,n /10,d::l,by congr 1;omega,by simp,by simp;omega,Nat.le_trans (Nat.div_le_self _ _) hn, ?_,rfl⟩,by simp[RowKit.intOf]⟩
    rw[hd,decDigits,dif_neg hz,<-hde,List.append_assoc];rfl
   all_goals
    have hz:((n:Int) /10==0)=true:=by assumption
    have hz:n<10:=by simp at hz;omega
    have hd2:decDigits x.natAbs=d::l:=by
     rw[hd,decDigits.eq_def n,dif_pos hz,<-hde,Nat.mod_eq_of_lt hz];rfl
    go_ret
    refine⟨?_,(Below.refl _ _).alloc (Nat.le_refl _) _⟩
    rw[itoa]
    first
    |(rw[if_pos (by assumption),hd2];rfl)
    |(rw[if_neg (by omega),show x.toNat=x.natAbs by omega,hd2];rfl)
theorem CK (x:Int) (h1:-9223372036854775808<=x) (h2:x<=9223372036854775807):Pure Tryz.prog 181 [.sc (.int .i64 x)] (fun r=>r= .sc (.string ⟨(itoa x).toArray⟩)):=by
 refine⟨⟨_,Tryz.func181,by kernel_rfl,by kernel_rfl⟩,fun M w vs hM hv=> ?_⟩
 rw[ct] at hv
 obtain⟨v,vs',rfl,h3,h4⟩:=hv
 rw[VR] at h3
 rw[ct] at h4
 subst h3
 subst h4
 refine(CL x h1 h2 w).mono ?_
 rintro e w' ⟨rfl,hb⟩
 exact⟨_,_,rfl,rfl,by simp[cK],by rw[VR],hb⟩
end Go.Proofs.YtjopoheligmmoaaGreatDoor
namespace Go.Proofs.YtjopoheligmmoaaGreatDoor
open Go Go.cu Go.Proofs
set_option linter.unusedSimpArgs false
set_option linter.unusedVariables false
abbrev lR (l:List UInt8):ByteArray:=⟨l.toArray⟩
theorem vB (l k:List UInt8):cU (lR l)++cU (lR k)=cU (lR (l++k)):=by simp[cU,lR]
theorem jb (l:List UInt8):(cU (lR l)).length=l.length:=by simp[cU,lR]
def Bd (b:Nat) (l:List UInt8) (H:Hp) (n:Nat):Prop:=∃A d,(A= .sc (.pointer none)\/A= .pt b 1 0 0)/\
 ((l=[]/\bu H b=some (.row 242 2 d [.agg [A, .sc (.slice none 0 0)]]))\/
   ∃q d2,q<n/\q≠b/\bu H b=some (.row 242 2 d [.agg [A, .sl q l.length]])/\bu H q=some (.row 5 1 d2 (cU (lR l))))
def XJ (b n:Nat) (H H2:Hp):Prop:=∀y,y<n->y≠b->(∀d es,bu H y≠some (.row 5 1 d es))->bu H2 y=bu H y
theorem zy {b nx:Nat} {l k:List UInt8} {H:Hp} (hB:Bd b l H nx) (hb:b<nx) (hk:k≠[]) (hsz:l.length+k.length<=140737488355328):
 cS Tryz.prog 180 [.pt b 1 0 0, .sc (.string (lR k))] H nx (fun r H2 n2=>nx<=n2/\Bd b (l++k) H2 n2/\XJ b nx H H2):=by
 obtain⟨A,d,hA,⟨rfl,hr⟩|⟨q,d2,hq,hqb,hr,hr2⟩⟩:=hB
 ·refine aI P5 rfl ?_
  refine cV ?_
  refine aF (nR hr hA) ?_
  rintro _ H2 n2 ⟨rfl,rfl,rfl⟩
  have a0:(cU (lR k)).length * 1<=gp:=by rw[jb];simp at hsz;unfold gp;omega
  refine cV ?_
  rw[List.nil_append]
  have e1:=jb k
  exact⟨cZ,⟨_,d, .inr rfl, .inr ⟨nx+9,_,by omega,by omega,by rw[<-e1];exact bx,bx⟩⟩,fun y h1 h2 h3=>cC⟩
 ·refine aI P5 rfl ?_
  refine cV ?_
  refine aF (nR hr hA) ?_
  rintro _ H2 n2 ⟨rfl,rfl,rfl⟩
  have a0:(cU (lR l)).length=l.length/\5=5/\1=1:=⟨jb l,rfl,rfl⟩
  have a1:(l.length+(cU (lR k)).length) * 1<=gp:=by rw[jb];unfold gp;omega
  refine cV ?_
  have e1:(l++k).length=l.length+(cU (lR k)).length:=by rw[jb,List.length_append]
  exact⟨cZ,⟨_,d, .inr rfl, .inr ⟨q,_,by omega,hqb,by rw[e1];exact bx,by rw[<-vB];exact bx⟩⟩,fun y h1 h2 h3=>by
   have hyq:y≠q:=fun e=>by subst e;exact h3 _ _ hr2
   exact cC⟩
theorem nL {b nx:Nat} {l:List UInt8} {c:UInt8} {H:Hp} (hB:Bd b l H nx) (hb:b<nx) (hsz:l.length+1<=140737488355328):
 cS Tryz.prog 182 [.pt b 1 0 0, .sc (.int .u8 (c.toNat:Int))] H nx (fun r H2 n2=>nx<=n2/\Bd b (l++[c]) H2 n2/\XJ b nx H H2):=by
 obtain⟨A,d,hA,⟨rfl,hr⟩|⟨q,d2,hq,hqb,hr,hr2⟩⟩:=hB
 ·refine aI P6 rfl ?_
  refine cV ?_
  refine aF (nR hr hA) ?_
  rintro _ H2 n2 ⟨rfl,rfl,rfl⟩
  refine cV ?_
  exact⟨cZ,⟨_,d, .inr rfl, .inr ⟨nx+9,gC false [.int .u8 0],by omega,by omega,bx,show _=some (fC.row _ _ _ [.sc (.int .u8 (c.toNat:Int))]) from bx⟩⟩,fun y h1 h2 h3=>cC⟩
 ·refine aI P6 rfl ?_
  refine cV ?_
  refine aF (nR hr hA) ?_
  rintro _ H2 n2 ⟨rfl,rfl,rfl⟩
  have a0:(cU (lR l)).length=l.length/\5=5/\1=1:=⟨jb l,rfl,rfl⟩
  refine cV ?_
  exact⟨cZ,⟨_,d, .inr rfl, .inr ⟨q,_,by omega,hqb,by rw[List.length_append];exact bx,by rw[<-vB];exact bx⟩⟩,fun y h1 h2 h3=>by
   have hyq:y≠q:=fun e=>by subst e;exact h3 _ _ hr2
   exact cC⟩
theorem Bd.skip {b n n2:Nat} {l:List UInt8} {H H2:Hp} (h:Bd b l H n) (hn:n<=n2) (hk:∀y,y<n->bu H2 y=bu H y) (hb:b<n:=by omega):Bd b l H2 n2:=by
 obtain⟨A,d,hA,⟨h0,hr⟩|⟨q,d2,hq,hqb,hr,hr2⟩⟩:=h
 ·exact⟨A,d,hA, .inl ⟨h0,(hk b hb).trans hr⟩⟩
 ·exact⟨A,d,hA, .inr ⟨q,d2,by omega,hqb,(hk b hb).trans hr,(hk q hq).trans hr2⟩⟩
theorem yu (x:Int):0<(Go.Lib.itoa x).length:=by
 unfold Go.Lib.itoa
 split
 ·simp
 ·exact D5 _
def fK (x:Int) (e:List UInt8):List UInt8:=Go.Lib.itoa x++e
theorem lM {b nx:Nat} {l e:List UInt8} {x:Int} {H:Hp} (hB:Bd b l H nx) (hb:b<nx) (h1:-9223372036854775808<=x) (h2:x<=9223372036854775807) (hsz:l.length+(fK x e).length<=140737488355328):
 cS Tryz.prog 179 [.sc (.int .i64 x), .sc (.string (lR e)), .pt b 1 0 0] H nx (fun r H2 n2=>nx<=n2/\Bd b (l++fK x e) H2 n2/\XJ b nx H H2):=by
 have c0:Pure Tryz.prog 181 [.sc (.int .i64 x)] (fun r=>r= .sc (.string (lR (Go.Lib.itoa x)))):=CK x h1 h2
 have he:lR (Go.Lib.itoa x)++lR e=lR (fK x e):=by
  apply ByteArray.ext
  simp[lR,fK]
 have hl:(fK x e).length=(Go.Lib.itoa x).length+e.length:=by simp[fK]
 have a0:(lR (Go.Lib.itoa x)).size+(lR e).size<=9223372036854775807:=by
  show(Go.Lib.itoa x).toArray.size+e.toArray.size<=_
  simp only[List.size_toArray]
  omega
 have hne:fK x e≠[]:=by
  have:=yu x
  intro h
  rw[h] at hl
  simp at hl
  omega
 refine aI U9 rfl ?_
 refine cV ?_
 rw[he]
 refine aF (zy (hB.skip (by omega) ?_) (by omega) hne hsz) ?_
 ·exact fun y hy=>cC
 rintro _ H2 n2 ⟨hn,hB2,ho⟩
 refine cV ?_
 exact⟨by omega,hB2.skip (Nat.le_refl _) fun y hy=>cC,fun y q1 q2 q3=>Eq.trans cC (by rw[ho y (by omega) q2 (by rw[show bu _ y=bu H y from cC];exact q3)];exact cC)⟩
end Go.Proofs.YtjopoheligmmoaaGreatDoor
namespace Go.Proofs.YtjopoheligmmoaaGreatDoor
open Go Go.cu Go.Proofs
open Go.Lib (decDigits itoa)
set_option linter.unusedSimpArgs false
set_option linter.unusedVariables false
end Go.Proofs.YtjopoheligmmoaaGreatDoor
namespace Go.Proofs.YtjopoheligmmoaaGreatDoor
open Go Go.cu Go.Proofs
set_option linter.unusedSimpArgs false
set_option linter.unusedVariables false
def x6 (m:MS) (t:Nat):List UInt8:=fK (m.at_.getD t 0) [44]++(m.cA.getD t []).flatMap (fun w=>fK w [44])++[124]
def HB (p:dP):List UInt8:=fK p.dy [58]++fK p.word [44]
def iU (m:MS):List UInt8:=(List.range m.at_.length).flatMap (x6 m)++m.mem.flatMap (fun w=>fK w [44])++[124]++m.hold.flatMap (fun w=>fK w [44])++[124]++m.cJ.flatMap HB
structure ZC (m:MS):Prop where
 aw:∀w∈m.at_,eT w
 sl:m.cA.length=m.at_.length
 sw:∀l∈m.cA,∀w∈l,eT w
 mw:∀w∈m.mem,eT w
 hw:∀w∈m.hold,eT w
 pw:∀p∈m.cJ,eT p.dy/\eT p.word
 sz:(iU m).length<=140737488355328
theorem O9 {α:Type} (f:α->List UInt8) (l:List α) (j:Nat):((l.take j).flatMap f).length<=(l.flatMap f).length:=by
 conv=>rhs;rw[<-List.take_append_drop j l,List.flatMap_append,List.length_append]
 omega
theorem je {α:Type} (f:α->List UInt8) {l:List α} {j:Nat} (h:j<l.length) (d:α):(l.take (j+1)).flatMap f=(l.take j).flatMap f++f (l.getD j d):=by
 rw[List.take_succ_eq_append_getElem h,List.flatMap_append]
 simp[List.getD,List.getElem?_eq_getElem h]
theorem pf {α:Type} (f:α->List UInt8) {l:List α} {j:Nat} (h:j<l.length) (d:α):((l.take j).flatMap f).length+(f (l.getD j d)).length<=(l.flatMap f).length:=by
 have:=O9 f l (j+1)
 rw[je f h d,List.length_append] at this
 exact this
theorem sG {l:List Int} (h:∀w∈l,eT w) {j:Nat} (hj:j<l.length):eT (l.getD j 0):=h _ (cT 0 hj)
theorem wj (m:MS):(iU m).length=((List.range m.at_.length).flatMap (x6 m)).length+(m.mem.flatMap (fun w=>fK w [44])).length+1+(m.hold.flatMap (fun w=>fK w [44])).length+1+(m.cJ.flatMap HB).length:=by
 simp only[iU,List.length_append,List.length_cons,List.length_nil]
theorem LU {n i:Nat} (h:i<n):(List.range n).getD i 0=i:=by simp[List.getD,h]
theorem nU {α:Type} (f:α->List UInt8) (hf:∀a,0<(f a).length):∀l:List α,l.length<=(l.flatMap f).length
 |[]=>Nat.zero_le _
 |a::l=>by
  have h1:=nU f hf l
  have h2:=hf a
  rw[List.flatMap_cons,List.length_append,List.length_cons]
  omega
theorem pz (x:Int) (e:List UInt8):0<(fK x e).length:=by
 have:=yu x
 unfold fK
 rw[List.length_append]
 omega
theorem PA (m:MS) (t:Nat):0<(x6 m t).length:=by
 unfold x6
 rw[List.length_append]
 simp
theorem OM (p:dP):0<(HB p).length:=by
 have:=pz p.dy [58]
 unfold HB
 rw[List.length_append]
 omega
set_option maxHeartbeats 2000000 in
theorem wi (u:bz) (m:MS) (h:ZC m):Pure Tryz.prog 145 [m.fz u] (fun r=>r= .sc (.string (lR (iU m)))):=by
 have hsz:=h.sz
 rw[wj] at hsz
 have g1:=nU (x6 m) (PA m) (List.range m.at_.length)
 have g2:=nU (fun w=>fK w [44]) (fun w=>pz w _) m.mem
 have g3:=nU (fun w=>fK w [44]) (fun w=>pz w _) m.hold
 have g4:=nU HB OM m.cJ
 rw[List.length_range] at g1
 refine cm ?_ (by simp[cK])
 refine aI UK rfl ?_
 refine cV ?_
 rw[List.length_map]
 refine aN (fun i:Nat=>[(0,m.fz u),(3, .pt 3 1 0 0),(4, .fn (.func 179) [] [.pt 3 1 0 0]),(21,cR m.at_),(22,i64 m.at_.length),(23,i64 i)])
  (fun i H n=>i<=m.at_.length/\4<=n/\Bd 3 (((List.range m.at_.length).take i).flatMap (x6 m)) H n) (fun i=>m.at_.length - i) 0 cH ⟨Nat.zero_le _,cZ,⟨.sc (.pointer none),_, .inl rfl, .inl ⟨rfl,bx⟩⟩⟩ ?_
 rintro i H n ⟨hi,hn,hB⟩
 by_cases hil:i<m.at_.length
 ·have e0:=fun d=>ints_at (l:=m.at_) hil d
  have e1:∀d,(m.cA.map cR).getD ((i:Int)).toNat d=cR (m.cA.getD i []):=fun d=>by rw[Int.toNat_natCast];exact dN cR m.cA i d (by rw[h.sl];exact hil)
  have a0:(m.at_.map i64).length=m.at_.length:=by simp
  have a1:(m.cA.map cR).length=m.at_.length:=by simp[h.sl]
  have hle:=pf (x6 m) (l:=List.range m.at_.length) (j:=i) (by simpa using hil) 0
  have hnx:=je (x6 m) (l:=List.range m.at_.length) (j:=i) (by simpa using hil) 0
  rw[LU hil] at hle hnx
  have hw:=sG h.aw hil
  have hth:(x6 m i).length=(fK (m.at_.getD i 0) [44]).length+((m.cA.getD i []).flatMap (fun w=>fK w [44])).length+1:=by simp only[x6,List.length_append,List.length_cons,List.length_nil]
  have hthe:x6 m i=fK (m.at_.getD i 0) [44]++(m.cA.getD i []).flatMap (fun w=>fK w [44])++[124]:=rfl
  have hsw:=h.sw _ (cT (l:=m.cA) [] (by rw[h.sl];exact hil))
  refine cV ?_
  refine aF (lM (e:=[44]) (hB.skip (by omega) ?_) (by omega) hw.1 (by have:=hw.2;omega) (by omega)) ?_
  ·exact fun y hy=>cC
  rintro _ H2 n2 ⟨hn2,hB2,_⟩
  refine cV ?_
  generalize m.cA.getD i []=sl at *
  have g5:=nU (fun w=>fK w [44]) (fun w=>pz w _) sl
  rw[List.length_map]
  refine aN (fun j:Nat=>[(0,m.fz u),(3, .pt 3 1 0 0),(4, .fn (.func 179) [] [.pt 3 1 0 0]),(5,i64 i),(21,cR m.at_),(22,i64 m.at_.length),(23,i64 i),(37,cR sl),(38,i64 (sl).length),(39,i64 j)])
   (fun j H n=>j<=(sl).length/\4<=n/\Bd 3 ((((List.range m.at_.length).take i).flatMap (x6 m)++fK (m.at_.getD i 0) [44])++((sl).take j).flatMap (fun w=>fK w [44])) H n) (fun j=>(sl).length - j) 0 cH ⟨Nat.zero_le _,cZ,by rw[List.take_zero,List.flatMap_nil,List.append_nil];exact hB2.skip (by omega) fun y hy=>cC⟩ ?_
  clear hB2
  rintro j H n ⟨hj,hn,hB⟩
  by_cases hjl:j<(sl).length
  ·have e2:=fun d=>ints_at (l:=sl) hjl d
   have a2:((sl).map i64).length=(sl).length:=by simp
   have hle2:=pf (fun w=>fK w [44]) hjl 0
   have hnx2:=je (fun w=>fK w [44]) hjl 0
   have hw2:=sG hsw hjl
   refine cV ?_
   refine aF (lM (e:=[44]) (hB.skip (by omega) ?_) (by omega) hw2.1 (by have:=hw2.2;omega) (by rw[List.length_append,List.length_append];omega)) ?_
   ·exact fun y hy=>cC
   rintro _ H3 n3 ⟨hn3,hB3,_⟩
   refine cV ?_
   exact⟨j+1,by omega,cH,by omega,by omega,by rw[hnx2,<-List.append_assoc];exact hB3.skip (by omega) fun y hy=>cC⟩
  ·obtain rfl:j=sl.length:=by omega
   rw[List.take_length] at hB
   refine cV ?_
   refine aF (nL (c:=124) (hB.skip (by omega) ?_) (by omega) (by rw[List.length_append,List.length_append];omega)) ?_
   ·exact fun y hy=>cC
   rintro _ H3 n3 ⟨hn3,hB3,_⟩
   refine cV ?_
   exact⟨i+1,by omega,cH,by omega,by omega,by rw[hnx,hthe,<-List.append_assoc,<-List.append_assoc];exact hB3.skip (by omega) fun y hy=>cC⟩
 ·obtain rfl:i=m.at_.length:=by omega
  rw[show(List.range m.at_.length).take m.at_.length=List.range m.at_.length from List.take_of_length_le (by simp)] at hB
  refine cV ?_
  rw[List.length_map]
  refine aN (fun j:Nat=>[(0,m.fz u),(3, .pt 3 1 0 0),(4, .fn (.func 179) [] [.pt 3 1 0 0]),(52,cR m.mem),(53,i64 (m.mem).length),(54,i64 j)])
   (fun j H n=>j<=(m.mem).length/\4<=n/\Bd 3 (((List.range m.at_.length).flatMap (x6 m))++((m.mem).take j).flatMap (fun w=>fK w [44])) H n) (fun j=>(m.mem).length - j) 0 cH ⟨Nat.zero_le _,cZ,by rw[List.take_zero,List.flatMap_nil,List.append_nil];exact hB.skip (by omega) fun y hy=>cC⟩ ?_
  clear hB
  rintro j H n ⟨hj,hn,hB⟩
  by_cases hjl:j<(m.mem).length
  ·have e2:=fun d=>ints_at (l:=m.mem) hjl d
   have a2:((m.mem).map i64).length=(m.mem).length:=by simp
   have hle2:=pf (fun w=>fK w [44]) hjl 0
   have hnx2:=je (fun w=>fK w [44]) hjl 0
   have hw2:=sG h.mw hjl
   refine cV ?_
   refine aF (lM (e:=[44]) (hB.skip (by omega) ?_) (by omega) hw2.1 (by have:=hw2.2;omega) (by rw[List.length_append];omega)) ?_
   ·exact fun y hy=>cC
   rintro _ H3 n3 ⟨hn3,hB3,_⟩
   refine cV ?_
   exact⟨j+1,by omega,cH,by omega,by omega,by rw[hnx2,<-List.append_assoc];exact hB3.skip (by omega) fun y hy=>cC⟩
  ·obtain rfl:j=(m.mem).length:=by omega
   rw[List.take_length] at hB
   refine cV ?_
   refine aF (nL (c:=124) (hB.skip (by omega) ?_) (by omega) (by rw[List.length_append];omega)) ?_
   ·exact fun y hy=>cC
   rintro _ H3 n3 ⟨hn3,hB3,_⟩
   clear hB hj hjl
   refine cV ?_
   rw[List.length_map]
   refine aN (fun j:Nat=>[(0,m.fz u),(3, .pt 3 1 0 0),(4, .fn (.func 179) [] [.pt 3 1 0 0]),(66,cR m.hold),(67,i64 (m.hold).length),(68,i64 j)])
    (fun j H n=>j<=(m.hold).length/\4<=n/\Bd 3 (((List.range m.at_.length).flatMap (x6 m)++m.mem.flatMap (fun w=>fK w [44])++[124])++((m.hold).take j).flatMap (fun w=>fK w [44])) H n) (fun j=>(m.hold).length - j) 0 cH ⟨Nat.zero_le _,cZ,by rw[List.take_zero,List.flatMap_nil,List.append_nil];exact hB3.skip (by omega) fun y hy=>cC⟩ ?_
   clear hB3
   rintro j H n ⟨hj,hn,hB⟩
   by_cases hjl:j<(m.hold).length
   ·have e2:=fun d=>ints_at (l:=m.hold) hjl d
    have a2:((m.hold).map i64).length=(m.hold).length:=by simp
    have hle2:=pf (fun w=>fK w [44]) hjl 0
    have hnx2:=je (fun w=>fK w [44]) hjl 0
    have hw2:=sG h.hw hjl
    refine cV ?_
    refine aF (lM (e:=[44]) (hB.skip (by omega) ?_) (by omega) hw2.1 (by have:=hw2.2;omega) (by simp only[List.length_append,List.length_cons,List.length_nil];omega)) ?_
    ·exact fun y hy=>cC
    rintro _ H3 n3 ⟨hn3,hB3,_⟩
    refine cV ?_
    exact⟨j+1,by omega,cH,by omega,by omega,by rw[hnx2,<-List.append_assoc];exact hB3.skip (by omega) fun y hy=>cC⟩
   ·obtain rfl:j=(m.hold).length:=by omega
    rw[List.take_length] at hB
    refine cV ?_
    refine aF (nL (c:=124) (hB.skip (by omega) ?_) (by omega) (by simp only[List.length_append,List.length_cons,List.length_nil];omega)) ?_
    ·exact fun y hy=>cC
    rintro _ H3 n3 ⟨hn3,hB3,_⟩
    clear hB hj hjl
    refine cV ?_
    rw[List.length_map]
    refine aN (fun j:Nat=>[(0,m.fz u),(3, .pt 3 1 0 0),(4, .fn (.func 179) [] [.pt 3 1 0 0]),(80,gV m.cJ),(81,i64 m.cJ.length),(82,i64 j)])
     (fun j H n=>j<=m.cJ.length/\4<=n/\Bd 3 (((List.range m.at_.length).flatMap (x6 m)++m.mem.flatMap (fun w=>fK w [44])++[124]++m.hold.flatMap (fun w=>fK w [44])++[124])++(m.cJ.take j).flatMap HB) H n) (fun j=>m.cJ.length - j) 0 cH ⟨Nat.zero_le _,cZ,by rw[List.take_zero,List.flatMap_nil,List.append_nil];exact hB3.skip (by omega) fun y hy=>cC⟩ ?_
    clear hB3
    rintro j H n ⟨hj,hn,hB⟩
    by_cases hjl:j<m.cJ.length
    ·have e2:∀d,(m.cJ.map dP.av).getD ((j:Int)).toNat d=(m.cJ.getD j default).av:=fun d=>by rw[Int.toNat_natCast];exact dN dP.av m.cJ j d hjl
     have a2:(m.cJ.map dP.av).length=m.cJ.length:=by simp
     have hle2:=pf HB hjl default
     have hnx2:=je HB hjl default
     obtain⟨hw2,hw3⟩:=h.pw _ (cT default hjl)
     generalize m.cJ.getD j default=p at *
     have hpl:(HB p).length=(fK p.dy [58]).length+(fK p.word [44]).length:=by simp[HB]
     refine cV ?_
     refine aF (lM (e:=[58]) (hB.skip (by omega) ?_) (by omega) hw2.1 (by have:=hw2.2;omega) (by simp only[List.length_append,List.length_cons,List.length_nil];omega)) ?_
     ·exact fun y hy=>cC
     rintro _ H3 n3 ⟨hn3,hB3,ho⟩
     have hr:bu H3 (n+1+1+1)=some (.row 155 2 (gC true [.int .i64 0, .int .i64 0]) [.agg p.cells]):=(ho _ (by omega) (by omega) (by
      intro d es
      rw[show bu _ (n+1+1+1)=some (fC.row 155 2 (gC true [.int .i64 0, .int .i64 0]) [.agg p.cells]) from bx]
      simp)).trans bx
     refine cV ?_
     refine aF (lM (e:=[44]) (hB3.skip (by omega) ?_) (by omega) hw3.1 (by have:=hw3.2;omega) (by simp only[List.length_append,List.length_cons,List.length_nil];omega)) ?_
     ·exact fun y hy=>cC
     rintro _ H4 n4 ⟨hn4,hB4,_⟩
     refine cV ?_
     exact⟨j+1,by omega,cH,by omega,by omega,by rw[hnx2,HB,<-List.append_assoc,<-List.append_assoc];exact hB4.skip (by omega) fun y hy=>cC⟩
    ·obtain rfl:j=m.cJ.length:=by omega
     rw[List.take_length] at hB
     have hne:iU m≠[]:=by
      intro e
      have:=congrArg List.length e
      rw[wj] at this
      simp at this
     change Bd 3 (iU m) H n at hB
     obtain⟨A,d,hA,⟨h0,_⟩|⟨q,d2,hq,hqb,hr,hr2⟩⟩:=hB
     ·exact absurd h0 hne
     refine cV ?_
     refine aF (zl (q:=q) (d:=d) (d2:=d2) (A:=A) (l:=iU m) ?_ ?_ hne) ?_
     ·exact bx
     ·exact bx
     rintro _ H4 n4 ⟨rfl,rfl,rfl⟩
     refine cV ?_
     exact⟨rfl⟩
end Go.Proofs.YtjopoheligmmoaaGreatDoor
namespace Go.Proofs.YtjopoheligmmoaaGreatDoor
open Go Go.cu Go.Proofs
open Go.Lib (itoa)
set_option linter.unusedSimpArgs false
set_option linter.unusedVariables false
abbrev MS.av (u:bz) (m:MS):AV:= .agg (m.cells u)
end Go.Proofs.YtjopoheligmmoaaGreatDoor
namespace Go.Proofs.YtjopoheligmmoaaGreatDoor
open Go Go.cu Go.Proofs
set_option linter.unusedSimpArgs false
set_option linter.unusedVariables false
structure cc where
 m:MS
 from_:Int
 dy:Int
 deriving Inhabited,DecidableEq
abbrev jr (l:List cc):List (List UInt8):=l.map fun f=>iU f.m
def DM (u:bz) (most k t:Nat) (l:List cc):Option (List cc):=
 if(l.getD k default).m.ja u t≠0 then some l
 else if iU ((l.getD k default).m.step u t).1∈jr l then some l
 else if l.length=most then none
 else some (l++[⟨((l.getD k default).m.step u t).1,k,t⟩])
def C1 (u:bz) (most k:Nat):List Nat->List cc->Option (List cc)
 |[],l=>some l
 |t::ts,l=>match DM u most k t l with
  |none=>none
  |some l'=>C1 u most k ts l'
def xn (u:bz) (most:Nat):Nat->Nat->List cc->Option (List cc)
 |0,_,l=>some l
 |n+1,k,l=>if k<l.length then(match C1 u most k (List.range u.bw.length) l with
  |none=>none
  |some l'=>xn u most n (k+1) l') else some l
def kX (u:bz):List cc:=[⟨cr u,-1,0⟩]
def iG (u:bz) (most:Nat):Option (List cc):=xn u most most 0 (kX u)
structure jL (u:bz) (l:List cc):Prop where
 pos:0<l.length
 first:l.getD 0 default=⟨cr u,-1,0⟩
 ok:∀i,i<l.length->eH u (l.getD i default).m/\(l.getD i default).m.cJ.length<=i
 JF:∀i,0<i->i<l.length->∃k t:Nat,k<i/\t<u.bw.length/\(l.getD k default).m.ja u t=0/\l.getD i default=⟨((l.getD k default).m.step u t).1,k,t⟩
 keys:(jr l).Nodup
theorem nH (u:bz) (m:MS) (t:Nat):(m.step u t).1.cJ.length<=m.cJ.length+1:=by
 show((m.act t (m.node u t)).1).cJ.length<=_
 generalize m.node u t=n
 unfold MS.act
 repeat' split
 all_goals first
  |exact Nat.le_succ _
  |(simp only[List.length_append,List.length_cons,List.length_nil];exact Nat.le_refl _)
theorem gQ {α:Type} {l:List α} {x d:α} {i:Nat} (h:i<l.length):(l++[x]).getD i d=l.getD i d:=by simp[List.getD,List.getElem?_append,h]
theorem tI {α:Type} {l:List α} {x d:α}:(l++[x]).getD l.length d=x:=by simp[List.getD]
theorem jL.init (u:bz) (hu:u.Wf) (hr:ca u):jL u (kX u) where
 pos:=by simp[kX]
 first:=rfl
 ok:=fun i hi=>by
  have:i=0:=by simp[kX] at hi;omega
  subst this
  exact⟨EM u hr (fun d hd=>(hu.shared d hd).word) fun t ht=>(hr.gr ht).len.1,Nat.le_refl _⟩
 JF:=fun i hi h=>by simp[kX] at h;omega
 keys:=by simp[jr,kX]
theorem jL.add {u:bz} {l:List cc} (hu:u.Wf) (hr:ca u) (h:jL u l) {k t:Nat} (hk:k<l.length) (ht:t<u.bw.length) (hb:(l.getD k default).m.ja u t=0) (hn:iU ((l.getD k default).m.step u t).1∉jr l):jL u (l++[⟨((l.getD k default).m.step u t).1,k,t⟩]) where
 pos:=by simp
 first:=by rw[gQ h.pos];exact h.first
 ok:=fun i hi=>by
  rw[List.length_append] at hi
  by_cases e:i<l.length
  ·rw[gQ e];exact h.ok i e
  ·have:i=l.length:=by simp at hi;omega
   subst this
   rw[tI]
   obtain⟨h1,h2⟩:=h.ok k hk
   refine⟨xV hu hr h1 ht (jj h1 ht hb).1, ?_⟩
   have:=nH u (l.getD k default).m t
   dsimp only
   omega
 JF:=fun i h0 hi=>by
  rw[List.length_append] at hi
  by_cases e:i<l.length
  ·obtain⟨k',t',h1,h2,h3,h4⟩:=h.JF i h0 e
   refine⟨k',t',h1,h2, ?_, ?_⟩
   ·rw[gQ (by omega)];exact h3
   ·rw[gQ e,gQ (by omega)];exact h4
  ·have:i=l.length:=by simp at hi;omega
   subst this
   refine⟨k,t,hk,ht, ?_, ?_⟩
   ·rw[gQ hk];exact hb
   ·rw[tI,gQ hk]
 keys:=by
  simp only[jr,List.map_append,List.map_cons,List.map_nil]
  refine List.nodup_append.2 ⟨h.keys,by simp,fun a ha b hb2=> ?_⟩
  simp only[List.mem_cons,List.not_mem_nil,or_false] at hb2
  subst hb2
  intro e
  exact hn (e▸ha)
theorem PC {u:bz} {l l':List cc} {most k t:Nat} (hu:u.Wf) (hr:ca u) (h:jL u l) (hl:l.length<=most) (hk:k<l.length) (ht:t<u.bw.length) (he:DM u most k t l=some l'):jL u l'/\l'.length<=most/\l<+:l':=by
 unfold DM at he
 split at he
 ·cases he;exact⟨h,hl,List.prefix_refl _⟩
 rename_i h1
 split at he
 ·cases he;exact⟨h,hl,List.prefix_refl _⟩
 rename_i h2
 split at he
 ·cases he
 ·cases he
  refine⟨h.add hu hr hk ht (by omega) h2, ?_,List.prefix_append _ _⟩
  simp only[List.length_append,List.length_cons,List.length_nil];omega
theorem ET {u:bz} {most k:Nat} (hu:u.Wf) (hr:ca u):∀{ts:List Nat} {l l':List cc},jL u l->l.length<=most->k<l.length->(∀t∈ts,t<u.bw.length)->C1 u most k ts l=some l'->jL u l'/\l'.length<=most/\l<+:l'
 |[],l,l',h,hl,hk,ht,he=>by cases he;exact⟨h,hl,List.prefix_refl _⟩
 |t::ts,l,l',h,hl,hk,ht,he=>by
  rw[C1] at he
  split at he
  ·cases he
  ·rename_i l2 h2
   obtain⟨g1,g2,g3⟩:=PC hu hr h hl hk (ht t (by simp)) h2
   obtain⟨q1,q2,q3⟩:=ET hu hr g1 g2 (Nat.lt_of_lt_of_le hk g3.length_le) (fun x hx=>ht x (by simp[hx])) he
   exact⟨q1,q2,g3.trans q3⟩
theorem DW {u:bz} {most:Nat} (hu:u.Wf) (hr:ca u):∀{n k:Nat} {l l':List cc},jL u l->l.length<=most->xn u most n k l=some l'->jL u l'/\l'.length<=most/\l<+:l'
 |0,k,l,l',h,hl,he=>by cases he;exact⟨h,hl,List.prefix_refl _⟩
 |n+1,k,l,l',h,hl,he=>by
  rw[xn] at he
  split at he
  ·rename_i hk
   split at he
   ·cases he
   ·rename_i l2 h2
    obtain⟨g1,g2,g3⟩:=ET hu hr h hl hk (fun t ht=>List.mem_range.1 ht) h2
    obtain⟨q1,q2,q3⟩:=DW hu hr g1 g2 he
    exact⟨q1,q2,g3.trans q3⟩
  ·cases he;exact⟨h,hl,List.prefix_refl _⟩
theorem lU {u:bz} {most:Nat} {l:List cc} (hu:u.Wf) (hr:ca u) (hm:1<=most) (h:iG u most=some l):jL u l/\l.length<=most/\kX u<+:l:=DW hu hr (jL.init u hu hr) hm h
end Go.Proofs.YtjopoheligmmoaaGreatDoor
