import Derived.Test.YtjopoheligmmoaaGreatDoorProg
import Derived.Test.YtjopoheligmmoaaGreatDoorM24
import Derived.Lib.Builder
import Derived.Lib.Walk
import Derived.Lib.UnsafeStr
import Derived.WalkKit
import Derived.Laws.Externs
import Derived.Test.YtjopoheligmmoaaGreatDoorM15
import Derived.Shelf.RegionOpenPlain
import Derived.LoopTactic
import Derived.Lib.ItoaMem
import Derived.Test.YtjopoheligmmoaaGreatDoorM31
import Derived.Test.YtjopoheligmmoaaGreatDoorM30
namespace Go.Proofs.YtjopoheligmmoaaGreatDoor
open Go Go.Proofs Go.RowKit
set_option linter.unusedVariables false
set_option linter.unusedSimpArgs false
set_option maxHeartbeats 1000000 in
set_option maxRecDepth 100000 in
theorem CU (b:Nat) (w:World) (h0:w.cell? ⟨b,0,none⟩=some (.pointer none)) (hsh:w.shape? b=some (242,2)) (hfz:w.frozen? ⟨b,0,none⟩=false):
 Calls Tryz.prog 201 #[.pointer (some ⟨b,0,none⟩)] w fun e w'=>e= .returned (.tuple #[])/\w'=w.setCell ⟨b,0,none⟩ (.pointer (some ⟨b,0,none⟩)):=by
 obtain⟨j,hj,hjs⟩:=Option.map_eq_some_iff.1 (show(Tryz.prog.info? 242).map (·.size)=some 2 by kernel_rfl)
 have t70:=Tryz.underlying239
 have t164:=Tryz.underlying275
 go_enter Tryz.func201,Tryz.ntmps201
 go_wp2
 rw[Lib.run_to_unsafe w ⟨b,0,none⟩ t70 t164 hj (by rw[hjs];decide) hsh (Nat.zero_lt_succ 1)]
 simp only[Result.andThen]
 rw[Oper.upon_value]
 go_wp2
 rw[run_callFunc_extern Tryz.func224 (by kernel_rfl) (by kernel_rfl) (by kernel_rfl) (e:=Extern.AbiNoEscape.same) (by kernel_rfl)]
 rw[Lib.run_noEscape]
 simp only[Result.andThen]
 rw[Oper.upon_value]
 go_wp2
 rw[Lib.run_from_unsafe w ⟨b,0,none⟩ t164 t70 hj hsh (show liesAt Tryz.prog Tryz.prog.depth 242 (2 /Tryz.prog.cellsOf 242) 0 242 1=true by kernel_rfl)]
 simp only[Result.andThen]
 rw[Oper.upon_value]
 go_wp2
 go_end0
 exact⟨rfl,rfl⟩
set_option maxHeartbeats 1000000 in
set_option maxRecDepth 100000 in
theorem HH (b:Nat) (w:World) (h0:w.cell? ⟨b,0,none⟩=some (.pointer (some ⟨b,0,none⟩))):
 Calls Tryz.prog 201 #[.pointer (some ⟨b,0,none⟩)] w fun e w'=>e= .returned (.tuple #[])/\w'=w:=by
 obtain⟨j,hj,_⟩:=Option.map_eq_some_iff.1 (show(Tryz.prog.info? 242).map (·.size)=some 2 by kernel_rfl)
 go_enter Tryz.func201,Tryz.ntmps201
 go_wp2
 rw[Lib.run_neq_ptr_same w _ Tryz.underlying239 hj]
 go_wp2
 go_end0
 exact⟨rfl,rfl⟩
end Go.Proofs.YtjopoheligmmoaaGreatDoor
namespace Go.Proofs.YtjopoheligmmoaaGreatDoor
open Go Go.cw Go.Proofs Go.RowKit
set_option linter.unusedVariables false
set_option linter.unusedSimpArgs false
theorem alone {w0:World} {c:Cx} (hS:dy w0 c) {b:Nat} {e:TypeId} {sz:Nat} {d x:AV} (hb:c.H b=some (.row e sz d [x])) (he:e∈XT) (hs:1<sz) (hq:c.ρ b≠none):
 ∃blk arr v,c.ρ b=some (blk,0,sz)/\w0.heap.size<=blk/\c.w.heap[blk]?=some (.cells arr e (0,0))/\arr.size=sz/\At c.w blk 0 sz v/\VR c x v:=by
 obtain⟨h1,h2,h3⟩:=hS.BC b _ _ _ _ hb (by omega)
 rcases h3 with⟨h4,_⟩|⟨blk,o,z,g1,g2,⟨arr,g3,g4,g5⟩,g6,g7⟩
 ·exact absurd h4 hq
 ·obtain⟨rfl,g8⟩:=g5 he
  have g9:arr.size=sz:=by rcases g8 with g8|g8<;>omega
  obtain⟨v,g10,g11⟩:=eC g7 0 (by simp)
  simp only[List.length_cons,List.length_nil] at g6
  obtain rfl:z=sz:=by omega
  refine⟨blk,arr,v,g1,g2,g3,g9,by simpa using g10,by simpa using g11⟩
theorem N3 {c:Cx} {b i:Nat} {e:TypeId} {sz:Nat} {d x:AV} {v:Value} (hb:c.H b=some (.row e sz d [x])) (hv:VR c (.pt b 1 0 0) v):c.U b/\∃blk o z,c.ρ b=some (blk,o,z)/\v= .pointer (some ⟨blk,o,none⟩):=by
 rw[VR] at hv
 obtain⟨hU0,_,ad,rfl,hrow⟩:=hv
 obtain⟨_,h⟩:=hrow _ _ _ _ hb
 obtain⟨_,blk,o,z,hρ,rfl⟩:=h rfl
 exact⟨hU0,blk,o,z,hρ,by simp⟩
theorem oF {b nx:Nat} {H:Hp} {d A S:AV} (hb:bt H b=some (.row 242 2 d [.agg [A,S]])) (hA:A= .sc (.pointer none)\/A= .pt b 1 0 0):
 cU Tryz.prog 201 [.pt b 1 0 0] H nx (fun r H2 n2=>r= .dI []/\H2=(b,some (.row 242 2 d [.agg [.pt b 1 0 0,S]]))::H/\n2=nx):=by
 refine⟨⟨_,Tryz.func201,by kernel_rfl,by kernel_rfl⟩,fun w0 c vs hS hH hU hv=> ?_⟩
 rw[cu] at hv
 obtain⟨v,vs',rfl,hv,hv'⟩:=hv
 rw[cu] at hv'
 subst hv'
 have hb':=hb
 rw[<-hH] at hb'
 have hv0:=hv
 obtain⟨hU0,blk,o,z,hρ,rfl⟩:=N3 (i:=0) hb' hv
 obtain⟨blk',arr,u,hρ',hlow,harr,hsz,hat,hu⟩:=alone hS hb' (by decide) (by omega) (by rw[hρ];simp)
 rw[hρ] at hρ'
 cases hρ'
 have hu0:=hu
 rw[VR] at hu
 obtain⟨us,rfl,hu⟩:=hu
 rw[cu] at hu
 obtain⟨va,us',hus,hva,hu⟩:=hu
 rw[cu] at hu
 obtain⟨vb,us'',rfl,hvb,hu⟩:=hu
 rw[cu] at hu
 subst hu
 obtain⟨a1,a2,a3⟩:=hat
 have hcells:us=#[va,vb]:=by rw[<-Array.toArray_toList (xs:=us),hus]
 subst hcells
 have hget:∀{H2:Hp} {k:Option fH},H2=(b,k)::H->bt H2=fU c.H b k:=fun h=>by
  subst h
  funext x
  by_cases hx:x=b
  ·subst hx;simp[bt]
  ·rw[eV _ _ hx,hH];simp[bt,hx]
 rcases hA with rfl|rfl
 ·rw[VR] at hva
  subst hva
  have hc0:=a2 0 (by omega)
  simp only[Nat.add_zero,Value.cells] at hc0
  refine(CU blk c.w hc0 (by simp[World.shape?,harr,hsz]) (by simp[World.frozen?,harr])).mono ?_
  rintro e w' ⟨rfl,rfl⟩
  rw[setCell_eq_setRow c.w blk 0 arr 242 (0,0) _ harr]
  have hbl:=setRow_heap c.w blk arr (arr.setIfInBounds 0 (.pointer (some ⟨blk,0,none⟩))) 242 (0,0) harr
  obtain⟨p1,p2⟩:=hS.put (b:=b) (e:=242) (sz:=2) d (es:=[.agg [.pt b 1 0 0,S]]) (w':=c.w.setRow blk (arr.setIfInBounds 0 (.pointer (some ⟨blk,0,none⟩)))) (blk:=blk) (o:=0) (z:=2) (by omega)
   (.inr ⟨_,_,_,hb', .inl ⟨rfl,hρ⟩⟩) (.inr ⟨_,_,_,hb',hρ⟩) rfl rfl rfl (by simp[World.setRow]) (fun k _ hne=>setRow_other c.w blk k _ hne) hbl ⟨by simp[hsz],fun _=>⟨rfl, .inl (by simp[hsz])⟩⟩ (by simp) (fun i hi=>by
    obtain rfl:i=0:=by simpa using hi
    refine⟨.agg #[.pointer (some ⟨blk,0,none⟩),vb],⟨rfl,fun j hj=> ?_,fun j x hx=> ?_⟩, ?_⟩
    ·rw[cell_of_row _ blk _ _ 242 (0,0) hbl]
     have h1:=a2 1 (by omega)
     rw[cell_of_row c.w blk _ arr 242 (0,0) harr] at h1
     rcases j with _|_|j
     ·simp[Value.cells,hsz]
     ·simpa[Value.cells] using h1
     ·omega
    ·rcases j with _|_|j
     ·simp[Value.cells] at hx;subst hx;rfl
     ·exact a3 1 x (by simpa[Value.cells] using hx)
     ·simp[Value.cells] at hx
    ·show VR c (.agg [.pt b 1 0 0,S]) _
     rw[VR]
     refine⟨_,rfl, ?_⟩
     rw[cu]
     refine⟨_,_,rfl,hv0, ?_⟩
     rw[cu]
     exact⟨_,_,rfl,hvb,by rw[cu]⟩)
  refine⟨.tuple #[], .dI [],_,nx,fU c.ρ b (some (blk,0,2)),fun x=>c.U x\/x=b,rfl,⟨rfl,rfl,rfl⟩,fun x hx=> ?_, ?_, ?_, ?_⟩
  ·rcases hx with hx|rfl
   ·exact hU x hx
   ·exact hU _ hU0
  ·rw[hget rfl];exact p1
  ·rw[hget rfl];exact p2
  ·rw[VR];exact⟨_,rfl,by rw[cu]⟩
 ·obtain⟨_,blk2,o2,z2,hρ2,rfl⟩:=N3 (i:=0) hb' hva
  rw[hρ] at hρ2
  cases hρ2
  have hc0:=a2 0 (by omega)
  simp only[Nat.add_zero,Value.cells] at hc0
  refine(HH blk c.w hc0).mono ?_
  rintro e w' ⟨rfl,rfl⟩
  have hsame:bt ((b,some (.row 242 2 d [.agg [.pt b 1 0 0,S]]))::H)=c.H:=by
   rw[hget rfl]
   funext x
   by_cases hx:x=b
   ·subst hx;rw[dV];exact hb'.symm
   ·rw[eV _ _ hx]
  refine⟨.tuple #[], .dI [],_,nx,c.ρ,c.U,rfl,⟨rfl,rfl,rfl⟩,hU, ?_, ?_, ?_⟩
  ·rw[hsame];exact hS
  ·rw[hsame];exact Cx.le.refl _
  ·rw[VR];exact⟨_,rfl,by rw[cu]⟩
set_option maxHeartbeats 1000000 in
set_option maxRecDepth 100000 in
theorem BN (b g n cap:Nat) (p:Value) (cur:Array Value) (l:List UInt8) (w:World) (c1:w.drew.cell? ⟨b,1,none⟩=some (.slice (some ⟨g,0,none⟩) l.length cap)) (hg:w.heap[g]?=some (.cells cur 5 (0,0))) (h0:l≠[]) (hc:l.length<=cap) (hcm:cap<=maxLen) (qq:cap<=cur.size)
 (hl:∀j x,l[j]?=some x->w.cell? ⟨g,j,none⟩=some (.int .u8 x.toNat)):
 Calls Tryz.prog 183 #[.pointer (some ⟨b,0,none⟩)] w fun e w'=>e= .returned (.string ⟨l.toArray⟩)/\w'=w.drew.freeze ⟨g,0,none⟩ l.length:=by
 have hl0:l.length≠0:=by simpa using h0
 have hSD:(Builtin.unsafeSliceData_ #[240] 270 #[.slice (some ⟨g,0,none⟩) l.length cap]).run Tryz.prog w.drew= .ok (.pointer (some ⟨g,0,none⟩)) w.drew:=
  Lib.run_unsafeSliceData_row _ _ _ _ _ _ (by omega)
 have hUS:(Builtin.unsafeString_ #[270,3] 9 #[.pointer (some ⟨g,0,none⟩), .int .i64 l.length]).run Tryz.prog w.drew= .ok (.string ⟨l.toArray⟩) (w.drew.freeze ⟨g,0,none⟩ l.length):=by
  refine Lib.run_unsafeString_row w.drew 270 3 9 5 Tryz.underlying270 (by kernel_rfl) g cur.size (by have hg':w.drew.heap[g]?=some (.cells cur 5 (0,0)):=hg;simp[World.shape?,hg']) l h0 (by omega) (by unfold maxLen at hcm;omega) ?_
  intro j x hx
  have:=hl j x hx
  rw[show((⟨g,0,none⟩:Addr).add j)=⟨g,j,none⟩ by unfold Addr.add;split<;>simp_all]
  exact this
 have mixed:Tryz.prog.follows .mixedOrders=true:=by kernel_rfl
 go_enter Tryz.func183,Tryz.ntmps183
 go_wp2
 go_region_o
 all_goals (go_wp2;go_ret;exact⟨rfl,rfl⟩)
theorem ZL {w0:World} {c:Cx} (h:dy w0 c) {b blk o z:Nat} {k:fH} {w':World} (hb:c.H b=some k) (hρ:c.ρ b=some (blk,o,z)) (hos:w'.os=c.w.os) (htp:w'.tape=c.w.tape) (hout:w'.output=c.w.output) (hsz:w'.heap.size=c.w.heap.size)
 (hkeep:∀k,k≠blk->w'.heap[k]?=c.w.heap[k]?) {H':Nat->Option fH} (hH:H'=fU c.H b none):dy w0 ⟨c.ρ,H',c.U,w',c.M0⟩/\c.le ⟨c.ρ,H',c.U,w',c.M0⟩:=by
 subst hH
 have hs:∀x k,fU c.H b none x=some k->x≠b/\c.H x=some k:=fun x k hk=>by
  by_cases hx:x=b
  ·subst hx;simp at hk
  ·rw[eV _ _ hx] at hk;exact⟨hx,hk⟩
 have hlow:=(h.VJ hb hρ).1
 have hle:c.le ⟨c.ρ,fU c.H b none,c.U,w',c.M0⟩:=by
  refine⟨fun _ h=>h,by simp[hsz],fun x hm _=>⟨hkeep x ?_, ?_⟩,fun x _ e sz d es he=>⟨_,_,_,(hs x _ he).2, .inl ⟨rfl,rfl⟩⟩⟩
  ·rintro rfl;exact hm (.inr ⟨b,k,o,z,hb,hρ⟩)
  ·rintro(h0|⟨y,k,o,z,hk,hr⟩)
   ·exact hm (.inl h0)
   ·exact hm (.inr ⟨y,k,o,z,(hs y k hk).2,hr⟩)
 refine⟨⟨h.below.trans ⟨hos,htp,hout,by rw[hsz];exact Nat.le_refl _,fun k hk=>hkeep k (by omega)⟩,h.m0,fun x e sz d es he=> ?_,fun x y k k' _ _ _ _ _ hk hk'=>h.inj x y k k' _ _ _ _ _ (hs _ _ hk).2 (hs _ _ hk').2⟩,hle⟩
 obtain⟨h1,h2⟩:=hs x _ he
 obtain⟨h3,h4⟩:=h.row x _ _ _ _ h2
 refine⟨h3,h4.cc hle rfl fun blk' o' z' hr hlt=>hkeep blk' ?_⟩
 rintro rfl
 exact h1 (h.inj x b _ _ _ _ _ _ _ h2 hb hr hρ)
theorem BM {b q nx:Nat} {H:Hp} {d d2 A:AV} {l:List UInt8} (hb:bt H b=some (.row 242 2 d [.agg [A, .sl q l.length]])) (hq:bt H q=some (.row 5 1 d2 (cW ⟨l.toArray⟩))) (h0:l≠[]):
 cU Tryz.prog 183 [.pt b 1 0 0] H nx (fun r H2 n2=>r= .sc (.string ⟨l.toArray⟩)/\H2=(q,none)::H/\n2=nx):=by
 refine⟨⟨_,Tryz.func183,by kernel_rfl,by kernel_rfl⟩,fun w0 c vs hS hH hU hv=> ?_⟩
 rw[cu] at hv
 obtain⟨v,vs',rfl,hv,hv'⟩:=hv
 rw[cu] at hv'
 subst hv'
 have hb':=hb
 rw[<-hH] at hb'
 have hq':=hq
 rw[<-hH] at hq'
 obtain⟨hU0,blk,o,z,hρ,rfl⟩:=N3 (i:=0) hb' hv
 obtain⟨blk',arr,u,hρ',hlow,harr,hsz,hat,hu⟩:=alone hS hb' (by decide) (by omega) (by rw[hρ];simp)
 rw[hρ] at hρ'
 cases hρ'
 rw[VR] at hu
 obtain⟨us,rfl,hu⟩:=hu
 rw[cu] at hu
 obtain⟨va,us',hus,hva,hu⟩:=hu
 rw[cu] at hu
 obtain⟨vb,us'',rfl,hvb,hu⟩:=hu
 rw[cu] at hu
 subst hu
 obtain⟨a1,a2,a3⟩:=hat
 have hcells:us=#[va,vb]:=by rw[<-Array.toArray_toList (xs:=us),hus]
 subst hcells
 have hlen:(cW ⟨l.toArray⟩).length=l.length:=by simp[cW]
 have hl0:l.length≠0:=by simpa using h0
 rw[VR] at hvb
 obtain⟨hUq,a,cap,rfl,hr⟩:=hvb
 obtain⟨_,hr⟩:=hr _ _ _ _ hq'
 obtain⟨r1,r2,r3⟩:=hS.BC q _ _ _ _ hq' (by omega)
 have hrow:∃g z2 cur,c.ρ q=some (g,0,z2)/\a=some ⟨g,0,none⟩/\l.length<=cap/\cap<=maxLen/\c.w.heap[g]?=some (.cells cur 5 (0,0))/\cap<=cur.size/\eA c 1 (cW ⟨l.toArray⟩) g 0:=by
  rcases r3 with⟨_,r3⟩|⟨g,o2,z2,r4,r5,⟨cur,r6,r7,r8⟩,r9,r10⟩
  ·have:=congrArg List.length r3;simp[hlen,hl0,h0] at this
  ·obtain⟨rfl,_⟩:=r8 (by decide)
   rcases hr hlen with⟨s1,_⟩|⟨g',o',z',s1,s2,s3,s4,s5,_⟩
   ·rw[r4] at s1;cases s1
   ·rw[r4] at s1
    cases s1
    exact⟨g,z2,cur,r4,s2,s3,s5,r6,by omega,r10⟩
 obtain⟨g,z2,cur,s1,rfl,s2,s3,s4,s5,s6⟩:=hrow
 have hc1:=a2 1 (by omega)
 simp only[Nat.zero_add,Value.cells] at hc1
 refine(BN blk g l.length cap va cur l c.w (by simpa using hc1) s4 h0 s2 s3 s5 fun j x hx=> ?_).mono ?_
 ·obtain⟨v,hv1,hv2⟩:=eC s6 j (by rw[hlen];exact(List.getElem?_eq_some_iff.1 hx).1)
  have hg:(cW ⟨l.toArray⟩).getD j .any= .sc (.int .u8 (x.toNat:Int)):=by simp[cW,List.getD,hx]
  rw[hg,VR] at hv2
  subst hv2
  have:=hv1.2.1 0 (by omega)
  simpa[Value.cells] using this
 rintro e w' ⟨rfl,rfl⟩
 have hfz:c.w.drew.freeze ⟨g,0,none⟩ l.length={ c.w.drew with heap:=c.w.heap.modify g fun
  | .cells c elem (lo,hi)=> .cells c elem (if lo==hi then(0,0+l.length) else(min lo 0,max hi (0+l.length)))
  |o=>o }:=by
  unfold World.freeze
  rw[if_neg hl0]
  rfl
 obtain⟨p1,p2⟩:=ZL hS hq' s1 (w':=c.w.drew.freeze ⟨g,0,none⟩ l.length) (by rw[hfz];rfl) (by rw[hfz];rfl) (by rw[hfz];rfl) (by rw[hfz];exact Array.size_modify)
  (fun k hk=>by
   rw[hfz]
   simp only[Array.getElem?_modify]
   rw[if_neg (by omega)]) (H':=bt ((q,none)::H)) (by
   funext x
   by_cases hx:x=q
   ·subst hx;simp[bt]
   ·rw[eV _ _ hx,hH];simp[bt,hx])
 refine⟨.string ⟨l.toArray⟩, .sc (.string ⟨l.toArray⟩),_,nx,c.ρ,c.U,rfl,⟨rfl,rfl,rfl⟩,hU,p1,p2, ?_⟩
 rw[VR]
end Go.Proofs.YtjopoheligmmoaaGreatDoor
namespace Go.Proofs.YtjopoheligmmoaaGreatDoor
open Go Go.cw Go.Proofs Go.RowKit
open Go.Lib (decDigits itoa)
set_option linter.unusedVariables false
set_option linter.unusedSimpArgs false
theorem B1 (n:Int):IntKind.u64.wrap n=n%18446744073709551616:=by simp[IntKind.wrap,IntKind.bits,IntKind.signed]
theorem tA:∀(k u:Nat),u<10^(k+1)->(decDigits u).length<=k+1
 |k,u,h=>by
  rw[decDigits]
  split
  ·simp
  ·rename_i hu
   cases k with
   |zero=>omega
   |succ k=>
    have:=tA k (u /10) (by rw[Nat.pow_succ] at h;omega)
    simp only[List.length_append,List.length_cons,List.length_nil]
    omega
theorem FY (u:Nat):0<(decDigits u).length:=by
 rw[decDigits]
 split<;>simp
def jV (l:List UInt8):Array Value:=(List.replicate (20 - l.length) (Value.int .u8 0)++l.map fun b=>Value.int .u8 (b.toNat:Int)).toArray
theorem FP {l:List UInt8} {k:Nat} (h:k+l.length=19):(jV l)[k]?=some (.int .u8 0):=by
 simp only[jV,List.getElem?_toArray]
 rw[List.getElem?_append_left (by simp;omega),List.getElem?_replicate,if_pos (by omega)]
theorem FQ {l:List UInt8} {k:Nat} (h:k+l.length=19) (d:UInt8):(jV l).setIfInBounds k (.int .u8 (d.toNat:Int))=jV (d::l):=by
 have h1:20 - l.length=k+1:=by omega
 have h2:20 - (d::l).length=k:=by simp;omega
 unfold jV
 rw[h1,h2,List.replicate_succ',List.setIfInBounds_toArray]
 congr 1
 rw[List.append_assoc,List.set_append_right _ _ (by simp)]
 simp
theorem S7 {l:List UInt8} {k i:Nat} (h:k+l.length=20) (hi:i<l.length):(jV l)[k+i]?=some (.int .u8 ((l.getD i 0).toNat:Int)):=by
 have h1:20 - l.length=k:=by omega
 simp only[jV,h1,List.getElem?_toArray]
 rw[List.getElem?_append_right (by simp)]
 simp[List.getD,List.getElem?_eq_getElem hi]
theorem FW (W:World) (b j:Nat) (z:Int) (hz:z=(j:Int)) (h:j<20):
 (Instr.sliceAt 269 (.pointer (some ⟨b,0,none⟩)) (some (.int .i64 z)) none none).run Tryz.prog W= .ok (.slice (some ⟨b,j,none⟩) (20 - j) (20 - j)) W:=by
 subst hz
 have al:Tryz.prog.arrayLen 269=20:=by kernel_rfl
 have el:Tryz.prog.elem 269=5:=by kernel_rfl
 rw[run_sliceAt_array_l W 269 ⟨b,0,none⟩ (by rw[al,el];exact Tryz.underlying269) .i64 (j:Int) (by omega) (by rw[al];omega),el,al]
 rw[show(sizeOf 5).run Tryz.prog W= .ok 1 W by kernel_rfl]
 simp only[Result.andThen,slicedAt,Int.toNat_natCast,Nat.mul_one]
 rw[if_neg (by omega),Go.Lib.add_plain,Nat.zero_add]
theorem BS (w:World) (j:Nat) (l:List UInt8) (h:j+l.length=20):
 (convert 240 9 (.slice (some ⟨w.heap.size,j,none⟩) (20 - j) (20 - j))).run Tryz.prog (w.alloc (.cells (jV l) 269))= .ok (.string ⟨l.toArray⟩) (w.alloc (.cells (jV l) 269)):=by
 rw[run_convert_bytes_arg _ 240 5 Tryz.underlying240 Tryz.underlying5 w.heap.size j (20 - j) (20 - j) (l.map fun b=>(b.toNat:Int)) (by simp;omega) (fun i hi=> ?_) 9 Tryz.underlying9]
 ·congr 2
  simp[strOfNums,Function.comp_def]
 ·rw[World.cell?_alloc_new,S7 h (by omega)]
  congr 2
  simp[List.getD]
  cases hh:l[i]?<;>simp
set_option maxHeartbeats 1000000 in
set_option maxRecDepth 100000 in
theorem D9 (x:Int) (h1:-9223372036854775808<=x) (h2:x<=9223372036854775807) (w:World):
 Calls Tryz.prog 181 #[.int .i64 x] w fun e w'=>e= .returned (.string ⟨(itoa x).toArray⟩)/\Below w.heap.size w w':=by
 have t1:=Tryz.underlying269
 have t2:=Tryz.underlying2
 have t3:=Tryz.underlying3
 have t4:=Tryz.underlying206
 have t5:=Tryz.underlying5
 have t6:=Tryz.underlying9
 have t7:=Tryz.underlying240
 have hu19:(decDigits x.natAbs).length<=19:=tA 18 _ (by omega)
 go_enter Tryz.func181,Tryz.ntmps181
 go_wp2
 all_goals
  go_loopw [4,5] (fun va vn wr=>∃(k n:Nat) (l:List UInt8),va= .int .i64 ((k+1:Nat):Int)/\vn= .int .u64 n/\k+l.length=19/\n<=9223372036854775808/\decDigits x.natAbs=decDigits n++l/\wr=w.alloc (.cells (jV l) 269)) (fun va _ _=>(RowKit.intOf va).toNat)
  case atStart=>
   refine⟨19,x.natAbs,[],rfl, ?_,rfl,by omega,by simp,rfl⟩
   simp only[B1]
   congr 1
   omega
  case round=>
   obtain⟨k,n,l,rfl,rfl,hk,hn,hd,rfl⟩:=hrel
   have hn0:=FY n
   have hlen:=congrArg List.length hd
   rw[List.length_append] at hlen
   have hk1:1<=k:=by omega
   have hk2:k<=19:=by omega
   have hg:=FP hk
   have hq:IntKind.u64.wrap ((n:Int) /10)=((n /10:Nat):Int):=by rw[B1];omega
   obtain⟨d,hde⟩:∃d:UInt8,UInt8.ofNat (48+n%10)=d:=⟨_,rfl⟩
   have hset:(jV l).setIfInBounds k (.int .u8 (48+(n:Int)%10))=jV (d::l):=by
    rw[<-FQ hk,<-hde,UInt8.toNat_ofNat']
    congr 2
    omega
   have hg2:(jV (d::l))[k - 1]?=some (.int .u8 0):=FP (by simp;omega)
   have hset2:(jV (d::l)).setIfInBounds (k - 1) (.int .u8 45)=jV (45::d::l):=FQ (by simp;omega) 45
   have hs1:=FW (w.alloc (.cells (jV (d::l)) 269)) w.heap.size k (k:Int) rfl (by omega)
   have hs2:=FW (w.alloc (.cells (jV (45::d::l)) 269)) w.heap.size (k - 1) ((k:Int) - 1) (by omega) (by omega)
   have hc1:=BS w k (d::l) (by simp;omega)
   have hc2:=BS w (k - 1) (45::d::l) (by simp;omega)
   go_wp2
   case roundEnd=>
    rename_i hz
    have hz:¬n<10:=by simp at hz;omega
    refine⟨⟨k - 1,n /10,d::l,by congr 1;omega,by simp,by simp;omega,Nat.le_trans (Nat.div_le_self _ _) hn, ?_,rfl⟩,by simp[RowKit.intOf]⟩
    rw[hd,decDigits,dif_neg hz,<-hde,List.append_assoc];rfl
   all_goals
    have hz:((n:Int) /10==0)=true:=by assumption
    have hz:n<10:=by simp at hz;omega
    have hd2:decDigits x.natAbs=d::l:=by
     rw[hd,decDigits.eq_def n,dif_pos hz,<-hde,Nat.mod_eq_of_lt hz];rfl
    go_ret
    refine⟨?_,(Below.refl _ _).alloc (Nat.le_refl _) _⟩
    rw[itoa]
    first
    |(rw[if_pos (by assumption),hd2];rfl)
    |(rw[if_neg (by omega),show x.toNat=x.natAbs by omega,hd2];rfl)
theorem D8 (x:Int) (h1:-9223372036854775808<=x) (h2:x<=9223372036854775807):Pure Tryz.prog 181 [.sc (.int .i64 x)] (fun r=>r= .sc (.string ⟨(itoa x).toArray⟩)):=by
 refine⟨⟨_,Tryz.func181,by kernel_rfl,by kernel_rfl⟩,fun M w vs hM hv=> ?_⟩
 rw[cu] at hv
 obtain⟨v,vs',rfl,h3,h4⟩:=hv
 rw[VR] at h3
 rw[cu] at h4
 subst h3
 subst h4
 refine(D9 x h1 h2 w).mono ?_
 rintro e w' ⟨rfl,hb⟩
 exact⟨_,_,rfl,rfl,by simp[cH],by rw[VR],hb⟩
end Go.Proofs.YtjopoheligmmoaaGreatDoor
namespace Go.Proofs.YtjopoheligmmoaaGreatDoor
open Go Go.cw Go.Proofs
set_option linter.unusedSimpArgs false
set_option linter.unusedVariables false
abbrev ez (l:List UInt8):ByteArray:=⟨l.toArray⟩
theorem wO (l k:List UInt8):cW (ez l)++cW (ez k)=cW (ez (l++k)):=by simp[cW,ez]
theorem jr (l:List UInt8):(cW (ez l)).length=l.length:=by simp[cW,ez]
def Bd (b:Nat) (l:List UInt8) (H:Hp) (n:Nat):Prop:=∃A d,(A= .sc (.pointer none)\/A= .pt b 1 0 0)/\
 ((l=[]/\bt H b=some (.row 242 2 d [.agg [A, .sc (.slice none 0 0)]]))\/
   ∃q d2,q<n/\q≠b/\bt H b=some (.row 242 2 d [.agg [A, .sl q l.length]])/\bt H q=some (.row 5 1 d2 (cW (ez l))))
def Z5 (b n:Nat) (H H2:Hp):Prop:=∀y,y<n->y≠b->(∀d es,bt H y≠some (.row 5 1 d es))->bt H2 y=bt H y
theorem B0 {b nx:Nat} {l k:List UInt8} {H:Hp} (hB:Bd b l H nx) (hb:b<nx) (hk:k≠[]) (hsz:l.length+k.length<=140737488355328):
 cU Tryz.prog 180 [.pt b 1 0 0, .sc (.string (ez k))] H nx (fun r H2 n2=>nx<=n2/\Bd b (l++k) H2 n2/\Z5 b nx H H2):=by
 obtain⟨A,d,hA,⟨rfl,hr⟩|⟨q,d2,hq,hqb,hr,hr2⟩⟩:=hB
 ·refine aJ SL rfl ?_
  refine cP ?_
  refine aG (oF hr hA) ?_
  rintro _ H2 n2 ⟨rfl,rfl,rfl⟩
  have a0:(cW (ez k)).length * 1<=iA:=by rw[jr];simp at hsz;unfold iA;omega
  refine cP ?_
  rw[List.nil_append]
  have e1:=jr k
  exact⟨cX,⟨_,d, .inr rfl, .inr ⟨nx+9,_,by omega,by omega,by rw[<-e1];exact bu,bu⟩⟩,fun y h1 h2 h3=>cE⟩
 ·refine aJ SL rfl ?_
  refine cP ?_
  refine aG (oF hr hA) ?_
  rintro _ H2 n2 ⟨rfl,rfl,rfl⟩
  have a0:(cW (ez l)).length=l.length/\5=5/\1=1:=⟨jr l,rfl,rfl⟩
  have a1:(l.length+(cW (ez k)).length) * 1<=iA:=by rw[jr];unfold iA;omega
  refine cP ?_
  have e1:(l++k).length=l.length+(cW (ez k)).length:=by rw[jr,List.length_append]
  exact⟨cX,⟨_,d, .inr rfl, .inr ⟨q,_,by omega,hqb,by rw[e1];exact bu,by rw[<-wO];exact bu⟩⟩,fun y h1 h2 h3=>by
   have hyq:y≠q:=fun e=>by subst e;exact h3 _ _ hr2
   exact cE⟩
theorem ny {b nx:Nat} {l:List UInt8} {c:UInt8} {H:Hp} (hB:Bd b l H nx) (hb:b<nx) (hsz:l.length+1<=140737488355328):
 cU Tryz.prog 182 [.pt b 1 0 0, .sc (.int .u8 (c.toNat:Int))] H nx (fun r H2 n2=>nx<=n2/\Bd b (l++[c]) H2 n2/\Z5 b nx H H2):=by
 obtain⟨A,d,hA,⟨rfl,hr⟩|⟨q,d2,hq,hqb,hr,hr2⟩⟩:=hB
 ·refine aJ SM rfl ?_
  refine cP ?_
  refine aG (oF hr hA) ?_
  rintro _ H2 n2 ⟨rfl,rfl,rfl⟩
  refine cP ?_
  exact⟨cX,⟨_,d, .inr rfl, .inr ⟨nx+9,gO false [.int .u8 0],by omega,by omega,bu,show _=some (fH.row _ _ _ [.sc (.int .u8 (c.toNat:Int))]) from bu⟩⟩,fun y h1 h2 h3=>cE⟩
 ·refine aJ SM rfl ?_
  refine cP ?_
  refine aG (oF hr hA) ?_
  rintro _ H2 n2 ⟨rfl,rfl,rfl⟩
  have a0:(cW (ez l)).length=l.length/\5=5/\1=1:=⟨jr l,rfl,rfl⟩
  refine cP ?_
  exact⟨cX,⟨_,d, .inr rfl, .inr ⟨q,_,by omega,hqb,by rw[List.length_append];exact bu,by rw[<-wO];exact bu⟩⟩,fun y h1 h2 h3=>by
   have hyq:y≠q:=fun e=>by subst e;exact h3 _ _ hr2
   exact cE⟩
theorem Bd.skip {b n n2:Nat} {l:List UInt8} {H H2:Hp} (h:Bd b l H n) (hn:n<=n2) (hk:∀y,y<n->bt H2 y=bt H y) (hb:b<n:=by omega):Bd b l H2 n2:=by
 obtain⟨A,d,hA,⟨h0,hr⟩|⟨q,d2,hq,hqb,hr,hr2⟩⟩:=h
 ·exact⟨A,d,hA, .inl ⟨h0,(hk b hb).trans hr⟩⟩
 ·exact⟨A,d,hA, .inr ⟨q,d2,by omega,hqb,(hk b hb).trans hr,(hk q hq).trans hr2⟩⟩
theorem zy (x:Int):0<(Go.Lib.itoa x).length:=by
 unfold Go.Lib.itoa
 split
 ·simp
 ·exact FY _
def dX (x:Int) (e:List UInt8):List UInt8:=Go.Lib.itoa x++e
theorem ln {b nx:Nat} {l e:List UInt8} {x:Int} {H:Hp} (hB:Bd b l H nx) (hb:b<nx) (h1:-9223372036854775808<=x) (h2:x<=9223372036854775807) (hsz:l.length+(dX x e).length<=140737488355328):
 cU Tryz.prog 179 [.sc (.int .i64 x), .sc (.string (ez e)), .pt b 1 0 0] H nx (fun r H2 n2=>nx<=n2/\Bd b (l++dX x e) H2 n2/\Z5 b nx H H2):=by
 have c0:Pure Tryz.prog 181 [.sc (.int .i64 x)] (fun r=>r= .sc (.string (ez (Go.Lib.itoa x)))):=D8 x h1 h2
 have he:ez (Go.Lib.itoa x)++ez e=ez (dX x e):=by
  apply ByteArray.ext
  simp[ez,dX]
 have hl:(dX x e).length=(Go.Lib.itoa x).length+e.length:=by simp[dX]
 have a0:(ez (Go.Lib.itoa x)).size+(ez e).size<=9223372036854775807:=by
  show(Go.Lib.itoa x).toArray.size+e.toArray.size<=_
  simp only[List.size_toArray]
  omega
 have hne:dX x e≠[]:=by
  have:=zy x
  intro h
  rw[h] at hl
  simp at hl
  omega
 refine aJ X4 rfl ?_
 refine cP ?_
 rw[he]
 refine aG (B0 (hB.skip (by omega) ?_) (by omega) hne hsz) ?_
 ·exact fun y hy=>cE
 rintro _ H2 n2 ⟨hn,hB2,ho⟩
 refine cP ?_
 exact⟨by omega,hB2.skip (Nat.le_refl _) fun y hy=>cE,fun y q1 q2 q3=>Eq.trans cE (by rw[ho y (by omega) q2 (by rw[show bt _ y=bt H y from cE];exact q3)];exact cE)⟩
end Go.Proofs.YtjopoheligmmoaaGreatDoor
namespace Go.Proofs.YtjopoheligmmoaaGreatDoor
open Go Go.cw Go.Proofs
open Go.Lib (decDigits itoa)
set_option linter.unusedSimpArgs false
set_option linter.unusedVariables false
theorem wu8 (n:Int):IntKind.u8.wrap n=n%256:=by simp[IntKind.wrap,IntKind.bits,IntKind.signed]
theorem zO (n:Nat) (hn:n<18446744073709551616):Pure Tryz.prog 205 [.sc (.int .u64 (n:Int))] (fun r=>r= .sc (.string (ez (decDigits n)))):=by
 induction n using Nat.strongRecOn with
 |_ n ih=>
  have r0:IntKind.u8.wrap (IntKind.u64.wrap (48+(n:Int)%10))=48+(n:Int)%10:=by rw[B1,wu8];omega
  by_cases h:n<10
  ·have r1:IntKind.u8.wrap (IntKind.u64.wrap (48+(n:Int)))=48+(n:Int):=by rw[B1,wu8];omega
   refine aD SO rfl ?_
   refine cP ?_
   rw[decDigits,dif_pos h]
   refine congrArg (fun s=>AV.sc (.string s)) ?_
   apply ByteArray.ext
   show #[UInt8.ofNat (48+(n:Int)).toNat]=_
   rw[show(48+(n:Int)).toNat=48+n by omega]
  ·have c0:=ih (n /10) (by omega) (by omega)
   have r1:IntKind.u64.wrap ((n:Int).tdiv 10)=((n /10:Nat):Int):=by rw[B1,Int.tdiv_eq_ediv_of_nonneg (by omega)];omega
   have r2:(n:Int).tmod 10=(n:Int)%10:=Int.tmod_eq_emod_of_nonneg (by omega)
   have a0:(ez (decDigits (n /10))).size+(KB [48+(n:Int)%10]).size<=9223372036854775807:=by
    have:=tA 19 (n /10) (by omega)
    show(decDigits (n /10)).toArray.size+1<=_
    simp only[List.size_toArray]
    omega
   refine aD SO rfl ?_
   refine cP ?_
   rw[decDigits.eq_def n,dif_neg h]
   refine congrArg (fun s=>AV.sc (.string s)) ?_
   apply ByteArray.ext
   rw[ByteArray.data_append,show(KB [48+(n:Int)%10]).data=#[UInt8.ofNat (48+(n:Int)%10).toNat] from rfl,show(48+(n:Int)%10).toNat=48+n%10 by omega]
   simp[ez]
theorem iU (x:Int) (h1:-9223372036854775808<=x) (h2:x<=9223372036854775807):Pure Tryz.prog 195 [.sc (.int .i64 x)] (fun r=>r= .sc (.string (ez (itoa x)))):=by
 have c0:=zO x.natAbs (by omega)
 by_cases h:0<=x
 ·have r1:IntKind.u64.wrap x=(x.natAbs:Int):=by rw[B1];omega
  refine aD SN rfl ?_
  refine cP ?_
  rw[itoa,if_neg (by omega),show x.toNat=x.natAbs by omega]
 ·have r1:IntKind.u64.wrap (0 - IntKind.u64.wrap x)=(x.natAbs:Int):=by rw[B1,B1];omega
  have a0:(ByteArray.mk [45].toArray).size+(ez (decDigits x.natAbs)).size<=9223372036854775807:=by
   have:=tA 19 x.natAbs (by omega)
   show 1+(decDigits x.natAbs).toArray.size<=_
   simp only[List.size_toArray]
   omega
  refine aD SN rfl ?_
  refine cP ?_
  rw[itoa,if_pos (by omega)]
  refine congrArg (fun s=>AV.sc (.string s)) ?_
  apply ByteArray.ext
  simp[ez]
end Go.Proofs.YtjopoheligmmoaaGreatDoor
namespace Go.Proofs.YtjopoheligmmoaaGreatDoor
open Go Go.cw Go.Proofs
set_option linter.unusedSimpArgs false
set_option linter.unusedVariables false
def nq (m:MS) (t:Nat):List UInt8:=dX (m.at_.getD t 0) [44]++(m.bz.getD t []).flatMap (fun w=>dX w [44])++[124]
def v7 (p:cy):List UInt8:=dX p.cr [58]++dX p.word [44]
def fO (m:MS):List UInt8:=(List.range m.at_.length).flatMap (nq m)++m.mem.flatMap (fun w=>dX w [44])++[124]++m.hold.flatMap (fun w=>dX w [44])++[124]++m.cA.flatMap v7
structure Z4 (m:MS):Prop where
 aw:∀w∈m.at_,ee w
 sl:m.bz.length=m.at_.length
 sw:∀l∈m.bz,∀w∈l,ee w
 mw:∀w∈m.mem,ee w
 hw:∀w∈m.hold,ee w
 pw:∀p∈m.cA,ee p.cr/\ee p.word
 sz:(fO m).length<=140737488355328
theorem RQ {α:Type} (f:α->List UInt8) (l:List α) (j:Nat):((l.take j).flatMap f).length<=(l.flatMap f).length:=by
 conv=>rhs;rw[<-List.take_append_drop j l,List.flatMap_append,List.length_append]
 omega
theorem fy {α:Type} (f:α->List UInt8) {l:List α} {j:Nat} (h:j<l.length) (d:α):(l.take (j+1)).flatMap f=(l.take j).flatMap f++f (l.getD j d):=by
 rw[List.take_succ_eq_append_getElem h,List.flatMap_append]
 simp[List.getD,List.getElem?_eq_getElem h]
theorem jS {α:Type} (f:α->List UInt8) {l:List α} {j:Nat} (h:j<l.length) (d:α):((l.take j).flatMap f).length+(f (l.getD j d)).length<=(l.flatMap f).length:=by
 have:=RQ f l (j+1)
 rw[fy f h d,List.length_append] at this
 exact this
theorem kx {l:List Int} (h:∀w∈l,ee w) {j:Nat} (hj:j<l.length):ee (l.getD j 0):=h _ (cO 0 hj)
theorem tF (m:MS):(fO m).length=((List.range m.at_.length).flatMap (nq m)).length+(m.mem.flatMap (fun w=>dX w [44])).length+1+(m.hold.flatMap (fun w=>dX w [44])).length+1+(m.cA.flatMap v7).length:=by
 simp only[fO,List.length_append,List.length_cons,List.length_nil]
theorem A7 {n i:Nat} (h:i<n):(List.range n).getD i 0=i:=by simp[List.getD,h]
theorem ig {α:Type} (f:α->List UInt8) (hf:∀a,0<(f a).length):∀l:List α,l.length<=(l.flatMap f).length
 |[]=>Nat.zero_le _
 |a::l=>by
  have h1:=ig f hf l
  have h2:=hf a
  rw[List.flatMap_cons,List.length_append,List.length_cons]
  omega
theorem kM (x:Int) (e:List UInt8):0<(dX x e).length:=by
 have:=zy x
 unfold dX
 rw[List.length_append]
 omega
theorem GQ (m:MS) (t:Nat):0<(nq m t).length:=by
 unfold nq
 rw[List.length_append]
 simp
theorem GJ (p:cy):0<(v7 p).length:=by
 have:=kM p.cr [58]
 unfold v7
 rw[List.length_append]
 omega
set_option maxHeartbeats 2000000 in
theorem xx (u:bx) (m:MS) (h:Z4 m):Pure Tryz.prog 145 [m.fz u] (fun r=>r= .sc (.string (ez (fO m)))):=by
 have hsz:=h.sz
 rw[tF] at hsz
 have g1:=ig (nq m) (GQ m) (List.range m.at_.length)
 have g2:=ig (fun w=>dX w [44]) (fun w=>kM w _) m.mem
 have g3:=ig (fun w=>dX w [44]) (fun w=>kM w _) m.hold
 have g4:=ig v7 GJ m.cA
 rw[List.length_range] at g1
 refine cp ?_ (by simp[cH])
 refine aJ XF rfl ?_
 refine cP ?_
 rw[List.length_map]
 refine aF (fun i:Nat=>[(0,m.fz u),(3, .pt 3 1 0 0),(4, .fn (.func 179) [] [.pt 3 1 0 0]),(21,cT m.at_),(22,i64 m.at_.length),(23,i64 i)])
  (fun i H n=>i<=m.at_.length/\4<=n/\Bd 3 (((List.range m.at_.length).take i).flatMap (nq m)) H n) (fun i=>m.at_.length - i) 0 cC ⟨Nat.zero_le _,cX,⟨.sc (.pointer none),_, .inl rfl, .inl ⟨rfl,bu⟩⟩⟩ ?_
 rintro i H n ⟨hi,hn,hB⟩
 by_cases hil:i<m.at_.length
 ·have e0:=fun d=>ints_at (l:=m.at_) hil d
  have e1:∀d,(m.bz.map cT).getD ((i:Int)).toNat d=cT (m.bz.getD i []):=fun d=>by rw[Int.toNat_natCast];exact cx cT m.bz i d (by rw[h.sl];exact hil)
  have a0:(m.at_.map i64).length=m.at_.length:=by simp
  have a1:(m.bz.map cT).length=m.at_.length:=by simp[h.sl]
  have hle:=jS (nq m) (l:=List.range m.at_.length) (j:=i) (by simpa using hil) 0
  have hnx:=fy (nq m) (l:=List.range m.at_.length) (j:=i) (by simpa using hil) 0
  rw[A7 hil] at hle hnx
  have hw:=kx h.aw hil
  have hth:(nq m i).length=(dX (m.at_.getD i 0) [44]).length+((m.bz.getD i []).flatMap (fun w=>dX w [44])).length+1:=by simp only[nq,List.length_append,List.length_cons,List.length_nil]
  have hthe:nq m i=dX (m.at_.getD i 0) [44]++(m.bz.getD i []).flatMap (fun w=>dX w [44])++[124]:=rfl
  have hsw:=h.sw _ (cO (l:=m.bz) [] (by rw[h.sl];exact hil))
  refine cP ?_
  refine aG (ln (e:=[44]) (hB.skip (by omega) ?_) (by omega) hw.1 (by have:=hw.2;omega) (by omega)) ?_
  ·exact fun y hy=>cE
  rintro _ H2 n2 ⟨hn2,hB2,_⟩
  refine cP ?_
  generalize m.bz.getD i []=sl at *
  have g5:=ig (fun w=>dX w [44]) (fun w=>kM w _) sl
  rw[List.length_map]
  refine aF (fun j:Nat=>[(0,m.fz u),(3, .pt 3 1 0 0),(4, .fn (.func 179) [] [.pt 3 1 0 0]),(5,i64 i),(21,cT m.at_),(22,i64 m.at_.length),(23,i64 i),(37,cT sl),(38,i64 (sl).length),(39,i64 j)])
   (fun j H n=>j<=(sl).length/\4<=n/\Bd 3 ((((List.range m.at_.length).take i).flatMap (nq m)++dX (m.at_.getD i 0) [44])++((sl).take j).flatMap (fun w=>dX w [44])) H n) (fun j=>(sl).length - j) 0 cC ⟨Nat.zero_le _,cX,by rw[List.take_zero,List.flatMap_nil,List.append_nil];exact hB2.skip (by omega) fun y hy=>cE⟩ ?_
  clear hB2
  rintro j H n ⟨hj,hn,hB⟩
  by_cases hjl:j<(sl).length
  ·have e2:=fun d=>ints_at (l:=sl) hjl d
   have a2:((sl).map i64).length=(sl).length:=by simp
   have hle2:=jS (fun w=>dX w [44]) hjl 0
   have hnx2:=fy (fun w=>dX w [44]) hjl 0
   have hw2:=kx hsw hjl
   refine cP ?_
   refine aG (ln (e:=[44]) (hB.skip (by omega) ?_) (by omega) hw2.1 (by have:=hw2.2;omega) (by rw[List.length_append,List.length_append];omega)) ?_
   ·exact fun y hy=>cE
   rintro _ H3 n3 ⟨hn3,hB3,_⟩
   refine cP ?_
   exact⟨j+1,by omega,cC,by omega,by omega,by rw[hnx2,<-List.append_assoc];exact hB3.skip (by omega) fun y hy=>cE⟩
  ·obtain rfl:j=sl.length:=by omega
   rw[List.take_length] at hB
   refine cP ?_
   refine aG (ny (c:=124) (hB.skip (by omega) ?_) (by omega) (by rw[List.length_append,List.length_append];omega)) ?_
   ·exact fun y hy=>cE
   rintro _ H3 n3 ⟨hn3,hB3,_⟩
   refine cP ?_
   exact⟨i+1,by omega,cC,by omega,by omega,by rw[hnx,hthe,<-List.append_assoc,<-List.append_assoc];exact hB3.skip (by omega) fun y hy=>cE⟩
 ·obtain rfl:i=m.at_.length:=by omega
  rw[show(List.range m.at_.length).take m.at_.length=List.range m.at_.length from List.take_of_length_le (by simp)] at hB
  refine cP ?_
  rw[List.length_map]
  refine aF (fun j:Nat=>[(0,m.fz u),(3, .pt 3 1 0 0),(4, .fn (.func 179) [] [.pt 3 1 0 0]),(52,cT m.mem),(53,i64 (m.mem).length),(54,i64 j)])
   (fun j H n=>j<=(m.mem).length/\4<=n/\Bd 3 (((List.range m.at_.length).flatMap (nq m))++((m.mem).take j).flatMap (fun w=>dX w [44])) H n) (fun j=>(m.mem).length - j) 0 cC ⟨Nat.zero_le _,cX,by rw[List.take_zero,List.flatMap_nil,List.append_nil];exact hB.skip (by omega) fun y hy=>cE⟩ ?_
  clear hB
  rintro j H n ⟨hj,hn,hB⟩
  by_cases hjl:j<(m.mem).length
  ·have e2:=fun d=>ints_at (l:=m.mem) hjl d
   have a2:((m.mem).map i64).length=(m.mem).length:=by simp
   have hle2:=jS (fun w=>dX w [44]) hjl 0
   have hnx2:=fy (fun w=>dX w [44]) hjl 0
   have hw2:=kx h.mw hjl
   refine cP ?_
   refine aG (ln (e:=[44]) (hB.skip (by omega) ?_) (by omega) hw2.1 (by have:=hw2.2;omega) (by rw[List.length_append];omega)) ?_
   ·exact fun y hy=>cE
   rintro _ H3 n3 ⟨hn3,hB3,_⟩
   refine cP ?_
   exact⟨j+1,by omega,cC,by omega,by omega,by rw[hnx2,<-List.append_assoc];exact hB3.skip (by omega) fun y hy=>cE⟩
  ·obtain rfl:j=(m.mem).length:=by omega
   rw[List.take_length] at hB
   refine cP ?_
   refine aG (ny (c:=124) (hB.skip (by omega) ?_) (by omega) (by rw[List.length_append];omega)) ?_
   ·exact fun y hy=>cE
   rintro _ H3 n3 ⟨hn3,hB3,_⟩
   clear hB hj hjl
   refine cP ?_
   rw[List.length_map]
   refine aF (fun j:Nat=>[(0,m.fz u),(3, .pt 3 1 0 0),(4, .fn (.func 179) [] [.pt 3 1 0 0]),(66,cT m.hold),(67,i64 (m.hold).length),(68,i64 j)])
    (fun j H n=>j<=(m.hold).length/\4<=n/\Bd 3 (((List.range m.at_.length).flatMap (nq m)++m.mem.flatMap (fun w=>dX w [44])++[124])++((m.hold).take j).flatMap (fun w=>dX w [44])) H n) (fun j=>(m.hold).length - j) 0 cC ⟨Nat.zero_le _,cX,by rw[List.take_zero,List.flatMap_nil,List.append_nil];exact hB3.skip (by omega) fun y hy=>cE⟩ ?_
   clear hB3
   rintro j H n ⟨hj,hn,hB⟩
   by_cases hjl:j<(m.hold).length
   ·have e2:=fun d=>ints_at (l:=m.hold) hjl d
    have a2:((m.hold).map i64).length=(m.hold).length:=by simp
    have hle2:=jS (fun w=>dX w [44]) hjl 0
    have hnx2:=fy (fun w=>dX w [44]) hjl 0
    have hw2:=kx h.hw hjl
    refine cP ?_
    refine aG (ln (e:=[44]) (hB.skip (by omega) ?_) (by omega) hw2.1 (by have:=hw2.2;omega) (by simp only[List.length_append,List.length_cons,List.length_nil];omega)) ?_
    ·exact fun y hy=>cE
    rintro _ H3 n3 ⟨hn3,hB3,_⟩
    refine cP ?_
    exact⟨j+1,by omega,cC,by omega,by omega,by rw[hnx2,<-List.append_assoc];exact hB3.skip (by omega) fun y hy=>cE⟩
   ·obtain rfl:j=(m.hold).length:=by omega
    rw[List.take_length] at hB
    refine cP ?_
    refine aG (ny (c:=124) (hB.skip (by omega) ?_) (by omega) (by simp only[List.length_append,List.length_cons,List.length_nil];omega)) ?_
    ·exact fun y hy=>cE
    rintro _ H3 n3 ⟨hn3,hB3,_⟩
    clear hB hj hjl
    refine cP ?_
    rw[List.length_map]
    refine aF (fun j:Nat=>[(0,m.fz u),(3, .pt 3 1 0 0),(4, .fn (.func 179) [] [.pt 3 1 0 0]),(80,fY m.cA),(81,i64 m.cA.length),(82,i64 j)])
     (fun j H n=>j<=m.cA.length/\4<=n/\Bd 3 (((List.range m.at_.length).flatMap (nq m)++m.mem.flatMap (fun w=>dX w [44])++[124]++m.hold.flatMap (fun w=>dX w [44])++[124])++(m.cA.take j).flatMap v7) H n) (fun j=>m.cA.length - j) 0 cC ⟨Nat.zero_le _,cX,by rw[List.take_zero,List.flatMap_nil,List.append_nil];exact hB3.skip (by omega) fun y hy=>cE⟩ ?_
    clear hB3
    rintro j H n ⟨hj,hn,hB⟩
    by_cases hjl:j<m.cA.length
    ·have e2:∀d,(m.cA.map cy.av).getD ((j:Int)).toNat d=(m.cA.getD j default).av:=fun d=>by rw[Int.toNat_natCast];exact cx cy.av m.cA j d hjl
     have a2:(m.cA.map cy.av).length=m.cA.length:=by simp
     have hle2:=jS v7 hjl default
     have hnx2:=fy v7 hjl default
     obtain⟨hw2,hw3⟩:=h.pw _ (cO default hjl)
     generalize m.cA.getD j default=p at *
     have hpl:(v7 p).length=(dX p.cr [58]).length+(dX p.word [44]).length:=by simp[v7]
     refine cP ?_
     refine aG (ln (e:=[58]) (hB.skip (by omega) ?_) (by omega) hw2.1 (by have:=hw2.2;omega) (by simp only[List.length_append,List.length_cons,List.length_nil];omega)) ?_
     ·exact fun y hy=>cE
     rintro _ H3 n3 ⟨hn3,hB3,ho⟩
     have hr:bt H3 (n+1+1+1)=some (.row 155 2 (gO true [.int .i64 0, .int .i64 0]) [.agg p.cells]):=(ho _ (by omega) (by omega) (by
      intro d es
      rw[show bt _ (n+1+1+1)=some (fH.row 155 2 (gO true [.int .i64 0, .int .i64 0]) [.agg p.cells]) from bu]
      simp)).trans bu
     refine cP ?_
     refine aG (ln (e:=[44]) (hB3.skip (by omega) ?_) (by omega) hw3.1 (by have:=hw3.2;omega) (by simp only[List.length_append,List.length_cons,List.length_nil];omega)) ?_
     ·exact fun y hy=>cE
     rintro _ H4 n4 ⟨hn4,hB4,_⟩
     refine cP ?_
     exact⟨j+1,by omega,cC,by omega,by omega,by rw[hnx2,v7,<-List.append_assoc,<-List.append_assoc];exact hB4.skip (by omega) fun y hy=>cE⟩
    ·obtain rfl:j=m.cA.length:=by omega
     rw[List.take_length] at hB
     have hne:fO m≠[]:=by
      intro e
      have:=congrArg List.length e
      rw[tF] at this
      simp at this
     change Bd 3 (fO m) H n at hB
     obtain⟨A,d,hA,⟨h0,_⟩|⟨q,d2,hq,hqb,hr,hr2⟩⟩:=hB
     ·exact absurd h0 hne
     refine cP ?_
     refine aG (BM (q:=q) (d:=d) (d2:=d2) (A:=A) (l:=fO m) ?_ ?_ hne) ?_
     ·exact bu
     ·exact bu
     rintro _ H4 n4 ⟨rfl,rfl,rfl⟩
     refine cP ?_
     exact⟨rfl⟩
end Go.Proofs.YtjopoheligmmoaaGreatDoor
namespace Go.Proofs.YtjopoheligmmoaaGreatDoor
open Go Go.cw Go.Proofs
open Go.Lib (itoa)
set_option linter.unusedSimpArgs false
set_option linter.unusedVariables false
abbrev MS.av (u:bx) (m:MS):AV:= .agg (m.cells u)
theorem ku (l k:List UInt8):ez l++ez k=ez (l++k):=by
 apply ByteArray.ext
 simp[ez]
theorem iL (l:List UInt8):(ez l).size=l.length:=by simp[ez,ByteArray.size]
theorem oD (cur:List UInt8) (x:Int) {c c':UInt8} (hc:c=c'):ez cur++ez (itoa x)++(⟨⟨[c]⟩⟩:ByteArray)=ez (cur++dX x [c']):=by
 subst hc
 rw[show(⟨⟨[c]⟩⟩:ByteArray)=ez [c] from rfl,ku,ku,dX,List.append_assoc]
theorem xd (cur:List UInt8) {c c':UInt8} (hc:c=c'):ez cur++(⟨⟨[c]⟩⟩:ByteArray)=ez (cur++[c']):=by
 subst hc
 rw[show(⟨⟨[c]⟩⟩:ByteArray)=ez [c] from rfl,ku]
theorem PM {cur:List UInt8} {x:Int} (h:cur.length+(dX x [44]).length<=140737488355328):(ez cur).size+(ez (itoa x)).size<=9223372036854775807:=by
 have:(dX x [44]).length=(itoa x).length+1:=by simp[dX]
 rw[iL,iL];omega
theorem PN {cur:List UInt8} {x:Int} (h:cur.length+(dX x [44]).length<=140737488355328):(ez cur++ez (itoa x)).size+(ez [44]).size<=9223372036854775807:=by
 have:(dX x [44]).length=(itoa x).length+1:=by simp[dX]
 rw[ku,iL,iL,List.length_append];show _+1<=_;omega
theorem S8 {cur:List UInt8} (h:cur.length+1<=140737488355328):(ez cur).size+(ez [124]).size<=9223372036854775807:=by
 rw[iL,iL];show _+1<=_;omega
set_option maxHeartbeats 2000000 in
theorem xI (u:bx) (m:MS) (h:Z4 m):Pure Tryz.prog 154 [m.av u] (fun r=>r= .sc (.string (ez (fO m)))):=by
 have hsz:=h.sz
 rw[tF] at hsz
 have g1:=ig (nq m) (GQ m) (List.range m.at_.length)
 have g2:=ig (fun w=>dX w [44]) (fun w=>kM w _) m.mem
 have g3:=ig (fun w=>dX w [44]) (fun w=>kM w _) m.hold
 have g4:=ig v7 GJ m.cA
 rw[List.length_range] at g1
 refine aD XM rfl ?_
 refine cP ?_
 rw[List.length_map]
 refine aF (fun i:Nat=>[(1, .pt 0 1 0 0),(3, .sc (.string (ez (((List.range m.at_.length).take i).flatMap (nq m))))),(15,i64 m.at_.length),(16,i64 i)])
  (fun i H n=>i<=m.at_.length/\1<=n/\∃d,bt H 0=some (.row 96 8 d [m.av u])) (fun i=>m.at_.length - i) 0 cC ⟨Nat.zero_le _,cX,⟨_,bu⟩⟩ ?_
 rintro i H n ⟨hi,hn,⟨d,hr⟩⟩
 by_cases hil:i<m.at_.length
 ·have e0:=fun d=>ints_at (l:=m.at_) hil d
  have e1:∀d,(m.bz.map cT).getD ((i:Int)).toNat d=cT (m.bz.getD i []):=fun d=>by rw[Int.toNat_natCast];exact cx cT m.bz i d (by rw[h.sl];exact hil)
  have a0:(m.at_.map i64).length=m.at_.length:=by simp
  have a1:(m.bz.map cT).length=m.at_.length:=by simp[h.sl]
  have hle:=jS (nq m) (l:=List.range m.at_.length) (j:=i) (by simpa using hil) 0
  have hnx:=fy (nq m) (l:=List.range m.at_.length) (j:=i) (by simpa using hil) 0
  rw[A7 hil] at hle hnx
  have hw:=kx h.aw hil
  have hth:(nq m i).length=(dX (m.at_.getD i 0) [44]).length+((m.bz.getD i []).flatMap (fun w=>dX w [44])).length+1:=by simp only[nq,List.length_append,List.length_cons,List.length_nil]
  have hthe:nq m i=dX (m.at_.getD i 0) [44]++(m.bz.getD i []).flatMap (fun w=>dX w [44])++[124]:=rfl
  have hsw:=h.sw _ (cO (l:=m.bz) [] (by rw[h.sl];exact hil))
  have c0:Pure Tryz.prog 195 [.sc (.int .i64 (m.at_.getD i 0))] (fun r=>r= .sc (.string (ez (itoa (m.at_.getD i 0))))):=iU _ hw.1 (by have:=hw.2;omega)
  generalize m.bz.getD i []=sl at *
  generalize ((List.range m.at_.length).take i).flatMap (nq m)=cur at *
  generalize m.at_.getD i 0=x at *
  have g5:=ig (fun w=>dX w [44]) (fun w=>kM w _) sl
  have hcx:cur.length+(dX x [44]).length<=140737488355328:=by omega
  have a2:=PM hcx
  have a3:=PN hcx
  refine cP ?_
  rw[oD cur x (c':=44) (hc:= ?hc)]
  case hc=>rfl
  clear c0 a2 a3 e0
  rw[List.length_map]
  refine aF (fun j:Nat=>[(1, .pt 0 1 0 0),(15,i64 m.at_.length),(16,i64 i),(3, .sc (.string (ez ((cur++dX x [44])++(sl.take j).flatMap (fun w=>dX w [44]))))),(32,cT sl),(33,i64 sl.length),(34,i64 j)])
   (fun j H n=>j<=sl.length/\1<=n/\∃d,bt H 0=some (.row 96 8 d [m.av u])) (fun j=>sl.length - j) 0 (by rw[List.take_zero,List.flatMap_nil,List.append_nil];exact cC) ⟨Nat.zero_le _,cX,⟨_,bu⟩⟩ ?_
  clear hr hn
  rintro j H n ⟨hj,hn,⟨d,hr⟩⟩
  by_cases hjl:j<sl.length
  ·have e2:=fun d=>ints_at (l:=sl) hjl d
   have b2:(sl.map i64).length=sl.length:=by simp
   have hle2:=jS (fun w=>dX w [44]) hjl 0
   have hnx2:=fy (fun w=>dX w [44]) hjl 0
   have hw2:=kx hsw hjl
   generalize (sl.take j).flatMap (fun w=>dX w [44])=cur2 at *
   generalize sl.getD j 0=y at *
   have hln:((cur++dX x [44])++cur2).length+(dX y [44]).length<=140737488355328:=by simp only[List.length_append,List.length_cons,List.length_nil];omega
   have a2:=PM hln
   have a3:=PN hln
   have c1:Pure Tryz.prog 195 [.sc (.int .i64 y)] (fun r=>r= .sc (.string (ez (itoa y)))):=iU _ hw2.1 (by have:=hw2.2;omega)
   refine cP ?_
   rw[oD _ y (c':=44) (hc:= ?hc)]
   case hc=>rfl
   exact⟨j+1,by omega,by rw[hnx2,<-List.append_assoc];exact cC,by omega,by omega,⟨_,bu⟩⟩
  ·obtain rfl:j=sl.length:=by omega
   rw[List.take_length]
   have a4:(ez ((cur++dX x [44])++sl.flatMap (fun w=>dX w [44]))).size+(ez [124]).size<=9223372036854775807:=S8 (by simp only[List.length_append,List.length_cons,List.length_nil];omega)
   refine cP ?_
   rw[xd _ (c':=124) (hc:= ?hc)]
   case hc=>rfl
   exact⟨i+1,by omega,by rw[hnx,hthe,<-List.append_assoc,<-List.append_assoc];exact cC,by omega,by omega,⟨_,bu⟩⟩
 ·obtain rfl:i=m.at_.length:=by omega
  rw[show(List.range m.at_.length).take m.at_.length=List.range m.at_.length from List.take_of_length_le (by simp)]
  refine cP ?_
  rw[List.length_map]
  refine aF (fun j:Nat=>[(1, .pt 0 1 0 0),(3, .sc (.string (ez (((List.range m.at_.length).flatMap (nq m))++(m.mem.take j).flatMap (fun w=>dX w [44]))))),(48,cT m.mem),(49,i64 m.mem.length),(50,i64 j)])
   (fun j H n=>j<=m.mem.length/\1<=n/\∃d,bt H 0=some (.row 96 8 d [m.av u])) (fun j=>m.mem.length - j) 0 (by rw[List.take_zero,List.flatMap_nil,List.append_nil];exact cC) ⟨Nat.zero_le _,cX,⟨_,bu⟩⟩ ?_
  clear hr hn
  rintro j H n ⟨hj,hn,⟨d,hr⟩⟩
  by_cases hjl:j<m.mem.length
  ·have e2:=fun d=>ints_at (l:=m.mem) hjl d
   have b2:(m.mem.map i64).length=m.mem.length:=by simp
   have hle2:=jS (fun w=>dX w [44]) hjl 0
   have hnx2:=fy (fun w=>dX w [44]) hjl 0
   have hw2:=kx h.mw hjl
   generalize (m.mem.take j).flatMap (fun w=>dX w [44])=cur2 at *
   generalize m.mem.getD j 0=y at *
   have hln:(((List.range m.at_.length).flatMap (nq m))++cur2).length+(dX y [44]).length<=140737488355328:=by simp only[List.length_append,List.length_cons,List.length_nil];omega
   have a2:=PM hln
   have a3:=PN hln
   have c1:Pure Tryz.prog 195 [.sc (.int .i64 y)] (fun r=>r= .sc (.string (ez (itoa y)))):=iU _ hw2.1 (by have:=hw2.2;omega)
   refine cP ?_
   rw[oD _ y (c':=44) (hc:= ?hc)]
   case hc=>rfl
   exact⟨j+1,by omega,by rw[hnx2,<-List.append_assoc];exact cC,by omega,by omega,⟨_,bu⟩⟩
  ·obtain rfl:j=m.mem.length:=by omega
   rw[List.take_length]
   have a4:(ez (((List.range m.at_.length).flatMap (nq m))++m.mem.flatMap (fun w=>dX w [44]))).size+(ez [124]).size<=9223372036854775807:=S8 (by simp only[List.length_append,List.length_cons,List.length_nil];omega)
   refine cP ?_
   rw[xd _ (c':=124) (hc:= ?hc)]
   case hc=>rfl
   clear a4
   rw[List.length_map]
   refine aF (fun j:Nat=>[(1, .pt 0 1 0 0),(3, .sc (.string (ez (((List.range m.at_.length).flatMap (nq m)++m.mem.flatMap (fun w=>dX w [44])++[124])++(m.hold.take j).flatMap (fun w=>dX w [44]))))),(63,cT m.hold),(64,i64 m.hold.length),(65,i64 j)])
    (fun j H n=>j<=m.hold.length/\1<=n/\∃d,bt H 0=some (.row 96 8 d [m.av u])) (fun j=>m.hold.length - j) 0 (by rw[List.take_zero,List.flatMap_nil,List.append_nil];exact cC) ⟨Nat.zero_le _,cX,⟨_,bu⟩⟩ ?_
   clear hr hn
   rintro j H n ⟨hj,hn,⟨d,hr⟩⟩
   by_cases hjl:j<m.hold.length
   ·have e2:=fun d=>ints_at (l:=m.hold) hjl d
    have b2:(m.hold.map i64).length=m.hold.length:=by simp
    have hle2:=jS (fun w=>dX w [44]) hjl 0
    have hnx2:=fy (fun w=>dX w [44]) hjl 0
    have hw2:=kx h.hw hjl
    generalize (m.hold.take j).flatMap (fun w=>dX w [44])=cur2 at *
    generalize m.hold.getD j 0=y at *
    have hln:(((List.range m.at_.length).flatMap (nq m)++m.mem.flatMap (fun w=>dX w [44])++[124])++cur2).length+(dX y [44]).length<=140737488355328:=by simp only[List.length_append,List.length_cons,List.length_nil];omega
    have a2:=PM hln
    have a3:=PN hln
    have c1:Pure Tryz.prog 195 [.sc (.int .i64 y)] (fun r=>r= .sc (.string (ez (itoa y)))):=iU _ hw2.1 (by have:=hw2.2;omega)
    refine cP ?_
    rw[oD _ y (c':=44) (hc:= ?hc)]
    case hc=>rfl
    exact⟨j+1,by omega,by rw[hnx2,<-List.append_assoc];exact cC,by omega,by omega,⟨_,bu⟩⟩
   ·obtain rfl:j=m.hold.length:=by omega
    rw[List.take_length]
    have a4:(ez (((List.range m.at_.length).flatMap (nq m)++m.mem.flatMap (fun w=>dX w [44])++[124])++m.hold.flatMap (fun w=>dX w [44]))).size+(ez [124]).size<=9223372036854775807:=S8 (by simp only[List.length_append,List.length_cons,List.length_nil];omega)
    refine cP ?_
    rw[xd _ (c':=124) (hc:= ?hc)]
    case hc=>rfl
    clear a4
    rw[List.length_map]
    refine aF (fun j:Nat=>[(1, .pt 0 1 0 0),(3, .sc (.string (ez (((List.range m.at_.length).flatMap (nq m)++m.mem.flatMap (fun w=>dX w [44])++[124]++m.hold.flatMap (fun w=>dX w [44])++[124])++(m.cA.take j).flatMap v7)))),(78,fY m.cA),(79,i64 m.cA.length),(80,i64 j)])
     (fun j H n=>j<=m.cA.length/\1<=n/\∃d,bt H 0=some (.row 96 8 d [m.av u])) (fun j=>m.cA.length - j) 0 (by rw[List.take_zero,List.flatMap_nil,List.append_nil];exact cC) ⟨Nat.zero_le _,cX,⟨_,bu⟩⟩ ?_
    clear hr hn
    rintro j H n ⟨hj,hn,⟨d,hr⟩⟩
    by_cases hjl:j<m.cA.length
    ·have e2:∀d,(m.cA.map cy.av).getD ((j:Int)).toNat d=(m.cA.getD j default).av:=fun d=>by rw[Int.toNat_natCast];exact cx cy.av m.cA j d hjl
     have b2:(m.cA.map cy.av).length=m.cA.length:=by simp
     have hle2:=jS v7 hjl default
     have hnx2:=fy v7 hjl default
     obtain⟨hw2,hw3⟩:=h.pw _ (cO default hjl)
     generalize (m.cA.take j).flatMap v7=cur2 at *
     generalize m.cA.getD j default=p at *
     have hpl:(v7 p).length=(itoa p.cr).length+1+(itoa p.word).length+1:=by simp[v7,dX];omega
     have hln:((List.range m.at_.length).flatMap (nq m)++m.mem.flatMap (fun w=>dX w [44])++[124]++m.hold.flatMap (fun w=>dX w [44])++[124]++cur2).length+(v7 p).length<=140737488355328:=by simp only[List.length_append,List.length_cons,List.length_nil];omega
     rw[v7,<-List.append_assoc] at hnx2
     generalize (List.range m.at_.length).flatMap (nq m)++m.mem.flatMap (fun w=>dX w [44])++[124]++m.hold.flatMap (fun w=>dX w [44])++[124]=F at *
     rw[List.length_append] at hln
     have a2:(ez (F++cur2)).size+(ez (itoa p.cr)).size<=9223372036854775807:=by simp only[ku,iL,List.length_append];omega
     have a3:(ez (F++cur2)++ez (itoa p.cr)).size+(ez [58]).size<=9223372036854775807:=by simp only[ku,iL,List.length_append,List.length_cons,List.length_nil];omega
     have a4:(ez (F++cur2)++ez (itoa p.cr)++ez [58]).size+(ez (itoa p.word)).size<=9223372036854775807:=by simp only[ku,iL,List.length_append,List.length_cons,List.length_nil];omega
     have a5:(ez (F++cur2)++ez (itoa p.cr)++ez [58]++ez (itoa p.word)).size+(ez [44]).size<=9223372036854775807:=by simp only[ku,iL,List.length_append,List.length_cons,List.length_nil];omega
     have c0:Pure Tryz.prog 195 [.sc (.int .i64 p.cr)] (fun r=>r= .sc (.string (ez (itoa p.cr)))):=iU _ hw2.1 (by have:=hw2.2;omega)
     have c1:Pure Tryz.prog 195 [.sc (.int .i64 p.word)] (fun r=>r= .sc (.string (ez (itoa p.word)))):=iU _ hw3.1 (by have:=hw3.2;omega)
     refine cP ?_
     rw[oD _ p.cr (c':=58) (hc:= ?hc),oD _ p.word (c':=44) (hc:= ?hd)]
     case hc=>rfl
     case hd=>rfl
     exact⟨j+1,by omega,by rw[hnx2,<-List.append_assoc,<-List.append_assoc];exact cC,by omega,by omega,⟨_,bu⟩⟩
    ·obtain rfl:j=m.cA.length:=by omega
     rw[List.take_length]
     refine cP ?_
     exact rfl
end Go.Proofs.YtjopoheligmmoaaGreatDoor
namespace Go.Proofs.YtjopoheligmmoaaGreatDoor
open Go Go.cw Go.Proofs
set_option linter.unusedSimpArgs false
set_option linter.unusedVariables false
structure cV where
 m:MS
 from_:Int
 cr:Int
 deriving Inhabited,DecidableEq
abbrev hP (l:List cV):List (List UInt8):=l.map fun f=>fO f.m
def vS (u:bx) (most k t:Nat) (l:List cV):Option (List cV):=
 if(l.getD k default).m.jR u t≠0 then some l
 else if fO ((l.getD k default).m.step u t).1∈hP l then some l
 else if l.length=most then none
 else some (l++[⟨((l.getD k default).m.step u t).1,k,t⟩])
def vv (u:bx) (most k:Nat):List Nat->List cV->Option (List cV)
 |[],l=>some l
 |t::ts,l=>match vS u most k t l with
  |none=>none
  |some l'=>vv u most k ts l'
def sg (u:bx) (most:Nat):Nat->Nat->List cV->Option (List cV)
 |0,_,l=>some l
 |n+1,k,l=>if k<l.length then(match vv u most k (List.range u.bw.length) l with
  |none=>none
  |some l'=>sg u most n (k+1) l') else some l
def kD (u:bx):List cV:=[⟨cz u,-1,0⟩]
def gP (u:bx) (most:Nat):Option (List cV):=sg u most most 0 (kD u)
structure iF (u:bx) (l:List cV):Prop where
 pos:0<l.length
 first:l.getD 0 default=⟨cz u,-1,0⟩
 ok:∀i,i<l.length->eN u (l.getD i default).m/\(l.getD i default).m.cA.length<=i
 HC:∀i,0<i->i<l.length->∃k t:Nat,k<i/\t<u.bw.length/\(l.getD k default).m.jR u t=0/\l.getD i default=⟨((l.getD k default).m.step u t).1,k,t⟩
 keys:(hP l).Nodup
theorem ko (u:bx) (m:MS) (t:Nat):(m.step u t).1.cA.length<=m.cA.length+1:=by
 show((m.act t (m.node u t)).1).cA.length<=_
 generalize m.node u t=n
 unfold MS.act
 repeat' split
 all_goals first
  |exact Nat.le_succ _
  |(simp only[List.length_append,List.length_cons,List.length_nil];exact Nat.le_refl _)
theorem fi {α:Type} {l:List α} {x d:α} {i:Nat} (h:i<l.length):(l++[x]).getD i d=l.getD i d:=by simp[List.getD,List.getElem?_append,h]
theorem pP {α:Type} {l:List α} {x d:α}:(l++[x]).getD l.length d=x:=by simp[List.getD]
theorem iF.init (u:bx) (hu:u.Wf) (hr:cg u):iF u (kD u) where
 pos:=by simp[kD]
 first:=rfl
 ok:=fun i hi=>by
  have:i=0:=by simp[kD] at hi;omega
  subst this
  exact⟨GG u hr (fun d hd=>(hu.shared d hd).word) fun t ht=>(hr.gr ht).len.1,Nat.le_refl _⟩
 HC:=fun i hi h=>by simp[kD] at h;omega
 keys:=by simp[hP,kD]
theorem iF.add {u:bx} {l:List cV} (hu:u.Wf) (hr:cg u) (h:iF u l) {k t:Nat} (hk:k<l.length) (ht:t<u.bw.length) (hb:(l.getD k default).m.jR u t=0) (hn:fO ((l.getD k default).m.step u t).1∉hP l):iF u (l++[⟨((l.getD k default).m.step u t).1,k,t⟩]) where
 pos:=by simp
 first:=by rw[fi h.pos];exact h.first
 ok:=fun i hi=>by
  rw[List.length_append] at hi
  by_cases e:i<l.length
  ·rw[fi e];exact h.ok i e
  ·have:i=l.length:=by simp at hi;omega
   subst this
   rw[pP]
   obtain⟨h1,h2⟩:=h.ok k hk
   refine⟨tJ hu hr h1 ht (jW h1 ht hb).1, ?_⟩
   have:=ko u (l.getD k default).m t
   dsimp only
   omega
 HC:=fun i h0 hi=>by
  rw[List.length_append] at hi
  by_cases e:i<l.length
  ·obtain⟨k',t',h1,h2,h3,h4⟩:=h.HC i h0 e
   refine⟨k',t',h1,h2, ?_, ?_⟩
   ·rw[fi (by omega)];exact h3
   ·rw[fi e,fi (by omega)];exact h4
  ·have:i=l.length:=by simp at hi;omega
   subst this
   refine⟨k,t,hk,ht, ?_, ?_⟩
   ·rw[fi hk];exact hb
   ·rw[pP,fi hk]
 keys:=by
  simp only[hP,List.map_append,List.map_cons,List.map_nil]
  refine List.nodup_append.2 ⟨h.keys,by simp,fun a ha b hb2=> ?_⟩
  simp only[List.mem_cons,List.not_mem_nil,or_false] at hb2
  subst hb2
  intro e
  exact hn (e▸ha)
theorem RS {u:bx} {l l':List cV} {most k t:Nat} (hu:u.Wf) (hr:cg u) (h:iF u l) (hl:l.length<=most) (hk:k<l.length) (ht:t<u.bw.length) (he:vS u most k t l=some l'):iF u l'/\l'.length<=most/\l<+:l':=by
 unfold vS at he
 split at he
 ·cases he;exact⟨h,hl,List.prefix_refl _⟩
 rename_i h1
 split at he
 ·cases he;exact⟨h,hl,List.prefix_refl _⟩
 rename_i h2
 split at he
 ·cases he
 ·cases he
  refine⟨h.add hu hr hk ht (by omega) h2, ?_,List.prefix_append _ _⟩
  simp only[List.length_append,List.length_cons,List.length_nil];omega
theorem GP {u:bx} {most k:Nat} (hu:u.Wf) (hr:cg u):∀{ts:List Nat} {l l':List cV},iF u l->l.length<=most->k<l.length->(∀t∈ts,t<u.bw.length)->vv u most k ts l=some l'->iF u l'/\l'.length<=most/\l<+:l'
 |[],l,l',h,hl,hk,ht,he=>by cases he;exact⟨h,hl,List.prefix_refl _⟩
 |t::ts,l,l',h,hl,hk,ht,he=>by
  rw[vv] at he
  split at he
  ·cases he
  ·rename_i l2 h2
   obtain⟨g1,g2,g3⟩:=RS hu hr h hl hk (ht t (by simp)) h2
   obtain⟨q1,q2,q3⟩:=GP hu hr g1 g2 (Nat.lt_of_lt_of_le hk g3.length_le) (fun x hx=>ht x (by simp[hx])) he
   exact⟨q1,q2,g3.trans q3⟩
theorem FN {u:bx} {most:Nat} (hu:u.Wf) (hr:cg u):∀{n k:Nat} {l l':List cV},iF u l->l.length<=most->sg u most n k l=some l'->iF u l'/\l'.length<=most/\l<+:l'
 |0,k,l,l',h,hl,he=>by cases he;exact⟨h,hl,List.prefix_refl _⟩
 |n+1,k,l,l',h,hl,he=>by
  rw[sg] at he
  split at he
  ·rename_i hk
   split at he
   ·cases he
   ·rename_i l2 h2
    obtain⟨g1,g2,g3⟩:=GP hu hr h hl hk (fun t ht=>List.mem_range.1 ht) h2
    obtain⟨q1,q2,q3⟩:=FN hu hr g1 g2 he
    exact⟨q1,q2,g3.trans q3⟩
  ·cases he;exact⟨h,hl,List.prefix_refl _⟩
theorem jd {u:bx} {most:Nat} {l:List cV} (hu:u.Wf) (hr:cg u) (hm:1<=most) (h:gP u most=some l):iF u l/\l.length<=most/\kD u<+:l:=FN hu hr (iF.init u hu hr) hm h
end Go.Proofs.YtjopoheligmmoaaGreatDoor
