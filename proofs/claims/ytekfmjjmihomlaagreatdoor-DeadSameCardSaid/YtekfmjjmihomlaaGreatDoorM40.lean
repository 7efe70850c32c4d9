import Derived.Test.YtekfmjjmihomlaaGreatDoorProg
import Derived.Test.YtekfmjjmihomlaaGreatDoorM24
import Derived.Lib.Builder
import Derived.Lib.Walk
import Derived.Lib.UnsafeStr
import Derived.WalkKit
import Derived.Laws.Externs
import Derived.Test.YtekfmjjmihomlaaGreatDoorM14
import Derived.Shelf.RegionOpenPlain
import Derived.LoopTactic
import Derived.Lib.ItoaMem
import Derived.Test.YtekfmjjmihomlaaGreatDoorM39
import Derived.Test.YtekfmjjmihomlaaGreatDoorM36
import Derived.Test.YtekfmjjmihomlaaGreatDoorM37
namespace Go.Proofs.YtekfmjjmihomlaaGreatDoor
open Go Go.Proofs Go.RowKit
set_option linter.unusedVariables false
set_option linter.unusedSimpArgs false
set_option maxHeartbeats 1000000 in
set_option maxRecDepth 100000 in
theorem C7 (b:Nat) (w:World) (h0:w.cell? ⟨b,0,none⟩=some (.pointer none)) (hsh:w.shape? b=some (140,2)) (hfz:w.frozen? ⟨b,0,none⟩=false):
 Calls Tryz.prog 104 #[.pointer (some ⟨b,0,none⟩)] w fun e w'=>e= .returned (.tuple #[])/\w'=w.setCell ⟨b,0,none⟩ (.pointer (some ⟨b,0,none⟩)):=by
 obtain⟨j,hj,hjs⟩:=Option.map_eq_some_iff.1 (show(Tryz.prog.info? 140).map (·.size)=some 2 by kernel_rfl)
 have t70:=Tryz.underlying137
 have t164:=Tryz.underlying207
 go_enter Tryz.func104,Tryz.ntmps104
 go_wp2
 rw[Lib.run_to_unsafe w ⟨b,0,none⟩ t70 t164 hj (by rw[hjs];decide) hsh (Nat.zero_lt_succ 1)]
 simp only[Result.andThen]
 rw[Oper.upon_value]
 go_wp2
 rw[run_callFunc_extern Tryz.func126 (by kernel_rfl) (by kernel_rfl) (by kernel_rfl) (e:=Extern.AbiNoEscape.same) (by kernel_rfl)]
 rw[Lib.run_noEscape]
 simp only[Result.andThen]
 rw[Oper.upon_value]
 go_wp2
 rw[Lib.run_from_unsafe w ⟨b,0,none⟩ t164 t70 hj hsh (show liesAt Tryz.prog Tryz.prog.depth 140 (2 /Tryz.prog.cellsOf 140) 0 140 1=true by kernel_rfl)]
 simp only[Result.andThen]
 rw[Oper.upon_value]
 go_wp2
 go_end0
 exact⟨rfl,rfl⟩
set_option maxHeartbeats 1000000 in
set_option maxRecDepth 100000 in
theorem ID (b:Nat) (w:World) (h0:w.cell? ⟨b,0,none⟩=some (.pointer (some ⟨b,0,none⟩))):
 Calls Tryz.prog 104 #[.pointer (some ⟨b,0,none⟩)] w fun e w'=>e= .returned (.tuple #[])/\w'=w:=by
 obtain⟨j,hj,_⟩:=Option.map_eq_some_iff.1 (show(Tryz.prog.info? 140).map (·.size)=some 2 by kernel_rfl)
 go_enter Tryz.func104,Tryz.ntmps104
 go_wp2
 rw[Lib.run_neq_ptr_same w _ Tryz.underlying137 hj]
 go_wp2
 go_end0
 exact⟨rfl,rfl⟩
end Go.Proofs.YtekfmjjmihomlaaGreatDoor
namespace Go.Proofs.YtekfmjjmihomlaaGreatDoor
open Go Go.cw Go.Proofs Go.RowKit
set_option linter.unusedVariables false
set_option linter.unusedSimpArgs false
theorem alone {w0:World} {c:Cx} (hS:du w0 c) {b:Nat} {e:TypeId} {sz:Nat} {d x:AV} (hb:c.H b=some (.row e sz d [x])) (he:e∈XT) (hs:1<sz) (hq:c.ρ b≠none):
 ∃blk arr v,c.ρ b=some (blk,0,sz)/\w0.heap.size<=blk/\c.w.heap[blk]?=some (.cells arr e (0,0))/\arr.size=sz/\At c.w blk 0 sz v/\VR c x v:=by
 obtain⟨h1,h2,h3⟩:=hS.BX b _ _ _ _ hb (by omega)
 rcases h3 with⟨h4,_⟩|⟨blk,o,z,g1,g2,⟨arr,g3,g4,g5⟩,g6,g7⟩
 ·exact absurd h4 hq
 ·obtain⟨rfl,g8⟩:=g5 he
  have g9:arr.size=sz:=by rcases g8 with g8|g8<;>omega
  obtain⟨v,g10,g11⟩:=eD g7 0 (by simp)
  simp only[List.length_cons,List.length_nil] at g6
  obtain rfl:z=sz:=by omega
  refine⟨blk,arr,v,g1,g2,g3,g9,by simpa using g10,by simpa using g11⟩
theorem P0 {c:Cx} {b i:Nat} {e:TypeId} {sz:Nat} {d x:AV} {v:Value} (hb:c.H b=some (.row e sz d [x])) (hv:VR c (.pt b 1 0 0) v):c.U b/\∃blk o z,c.ρ b=some (blk,o,z)/\v= .pointer (some ⟨blk,o,none⟩):=by
 rw[VR] at hv
 obtain⟨hU0,_,ad,rfl,hrow⟩:=hv
 obtain⟨_,h⟩:=hrow _ _ _ _ hb
 obtain⟨_,blk,o,z,hρ,rfl⟩:=h rfl
 exact⟨hU0,blk,o,z,hρ,by simp⟩
theorem nY {b nx:Nat} {H:Hp} {d A S:AV} (hb:bo H b=some (.row 140 2 d [.agg [A,S]])) (hA:A= .sc (.pointer none)\/A= .pt b 1 0 0):
 cQ Tryz.prog 104 [.pt b 1 0 0] H nx (fun r H2 n2=>r= .df []/\H2=(b,some (.row 140 2 d [.agg [.pt b 1 0 0,S]]))::H/\n2=nx):=by
 refine⟨⟨_,Tryz.func104,by kernel_rfl,by kernel_rfl⟩,fun w0 c vs hS hH hU hv=> ?_⟩
 rw[cj] at hv
 obtain⟨v,vs',rfl,hv,hv'⟩:=hv
 rw[cj] at hv'
 subst hv'
 have hb':=hb
 rw[<-hH] at hb'
 have hv0:=hv
 obtain⟨hU0,blk,o,z,hρ,rfl⟩:=P0 (i:=0) hb' hv
 obtain⟨blk',arr,u,hρ',hlow,harr,hsz,hat,hu⟩:=alone hS hb' (by decide) (by omega) (by rw[hρ];simp)
 rw[hρ] at hρ'
 cases hρ'
 have hu0:=hu
 rw[VR] at hu
 obtain⟨us,rfl,hu⟩:=hu
 rw[cj] at hu
 obtain⟨va,us',hus,hva,hu⟩:=hu
 rw[cj] at hu
 obtain⟨vb,us'',rfl,hvb,hu⟩:=hu
 rw[cj] at hu
 subst hu
 obtain⟨a1,a2,a3⟩:=hat
 have hcells:us=#[va,vb]:=by rw[<-Array.toArray_toList (xs:=us),hus]
 subst hcells
 have hget:∀{H2:Hp} {k:Option fA},H2=(b,k)::H->bo H2=fi c.H b k:=fun h=>by
  subst h
  funext x
  by_cases hx:x=b
  ·subst hx;simp[bo]
  ·rw[eV _ _ hx,hH];simp[bo,hx]
 rcases hA with rfl|rfl
 ·rw[VR] at hva
  subst hva
  have hc0:=a2 0 (by omega)
  simp only[Nat.add_zero,Value.cells] at hc0
  refine(C7 blk c.w hc0 (by simp[World.shape?,harr,hsz]) (by simp[World.frozen?,harr])).mono ?_
  rintro e w' ⟨rfl,rfl⟩
  rw[setCell_eq_setRow c.w blk 0 arr 140 (0,0) _ harr]
  have hbl:=setRow_heap c.w blk arr (arr.setIfInBounds 0 (.pointer (some ⟨blk,0,none⟩))) 140 (0,0) harr
  obtain⟨p1,p2⟩:=hS.put (b:=b) (e:=140) (sz:=2) d (es:=[.agg [.pt b 1 0 0,S]]) (w':=c.w.setRow blk (arr.setIfInBounds 0 (.pointer (some ⟨blk,0,none⟩)))) (blk:=blk) (o:=0) (z:=2) (by omega)
   (.inr ⟨_,_,_,hb', .inl ⟨rfl,hρ⟩⟩) (.inr ⟨_,_,_,hb',hρ⟩) rfl rfl rfl (by simp[World.setRow]) (fun k _ hne=>setRow_other c.w blk k _ hne) hbl ⟨by simp[hsz],fun _=>⟨rfl, .inl (by simp[hsz])⟩⟩ (by simp) (fun i hi=>by
    obtain rfl:i=0:=by simpa using hi
    refine⟨.agg #[.pointer (some ⟨blk,0,none⟩),vb],⟨rfl,fun j hj=> ?_,fun j x hx=> ?_⟩, ?_⟩
    ·rw[cell_of_row _ blk _ _ 140 (0,0) hbl]
     have h1:=a2 1 (by omega)
     rw[cell_of_row c.w blk _ arr 140 (0,0) harr] at h1
     rcases j with _|_|j
     ·simp[Value.cells,hsz]
     ·simpa[Value.cells] using h1
     ·omega
    ·rcases j with _|_|j
     ·simp[Value.cells] at hx;subst hx;rfl
     ·exact a3 1 x (by simpa[Value.cells] using hx)
     ·simp[Value.cells] at hx
    ·show VR c (.agg [.pt b 1 0 0,S]) _
     rw[VR]
     refine⟨_,rfl, ?_⟩
     rw[cj]
     refine⟨_,_,rfl,hv0, ?_⟩
     rw[cj]
     exact⟨_,_,rfl,hvb,by rw[cj]⟩)
  refine⟨.tuple #[], .df [],_,nx,fi c.ρ b (some (blk,0,2)),fun x=>c.U x\/x=b,rfl,⟨rfl,rfl,rfl⟩,fun x hx=> ?_, ?_, ?_, ?_⟩
  ·rcases hx with hx|rfl
   ·exact hU x hx
   ·exact hU _ hU0
  ·rw[hget rfl];exact p1
  ·rw[hget rfl];exact p2
  ·rw[VR];exact⟨_,rfl,by rw[cj]⟩
 ·obtain⟨_,blk2,o2,z2,hρ2,rfl⟩:=P0 (i:=0) hb' hva
  rw[hρ] at hρ2
  cases hρ2
  have hc0:=a2 0 (by omega)
  simp only[Nat.add_zero,Value.cells] at hc0
  refine(ID blk c.w hc0).mono ?_
  rintro e w' ⟨rfl,rfl⟩
  have hsame:bo ((b,some (.row 140 2 d [.agg [.pt b 1 0 0,S]]))::H)=c.H:=by
   rw[hget rfl]
   funext x
   by_cases hx:x=b
   ·subst hx;rw[dU];exact hb'.symm
   ·rw[eV _ _ hx]
  refine⟨.tuple #[], .df [],_,nx,c.ρ,c.U,rfl,⟨rfl,rfl,rfl⟩,hU, ?_, ?_, ?_⟩
  ·rw[hsame];exact hS
  ·rw[hsame];exact Cx.le.refl _
  ·rw[VR];exact⟨_,rfl,by rw[cj]⟩
set_option maxHeartbeats 1000000 in
set_option maxRecDepth 100000 in
theorem B6 (b g n cap:Nat) (p:Value) (cur:Array Value) (l:List UInt8) (w:World) (c1:w.drew.cell? ⟨b,1,none⟩=some (.slice (some ⟨g,0,none⟩) l.length cap)) (hg:w.heap[g]?=some (.cells cur 5 (0,0))) (h0:l≠[]) (hc:l.length<=cap) (hcm:cap<=maxLen) (zV:cap<=cur.size)
 (hl:∀j x,l[j]?=some x->w.cell? ⟨g,j,none⟩=some (.int .u8 x.toNat)):
 Calls Tryz.prog 68 #[.pointer (some ⟨b,0,none⟩)] w fun e w'=>e= .returned (.string ⟨l.toArray⟩)/\w'=w.drew.freeze ⟨g,0,none⟩ l.length:=by
 have hl0:l.length≠0:=by simpa using h0
 have hSD:(Builtin.unsafeSliceData_ #[138] 192 #[.slice (some ⟨g,0,none⟩) l.length cap]).run Tryz.prog w.drew= .ok (.pointer (some ⟨g,0,none⟩)) w.drew:=
  Lib.run_unsafeSliceData_row _ _ _ _ _ _ (by omega)
 have hUS:(Builtin.unsafeString_ #[192,3] 9 #[.pointer (some ⟨g,0,none⟩), .int .i64 l.length]).run Tryz.prog w.drew= .ok (.string ⟨l.toArray⟩) (w.drew.freeze ⟨g,0,none⟩ l.length):=by
  refine Lib.run_unsafeString_row w.drew 192 3 9 5 Tryz.underlying192 (by kernel_rfl) g cur.size (by have hg':w.drew.heap[g]?=some (.cells cur 5 (0,0)):=hg;simp[World.shape?,hg']) l h0 (by omega) (by unfold maxLen at hcm;omega) ?_
  intro j x hx
  have:=hl j x hx
  rw[show((⟨g,0,none⟩:Addr).add j)=⟨g,j,none⟩ by unfold Addr.add;split<;>simp_all]
  exact this
 have mixed:Tryz.prog.follows .mixedOrders=true:=by kernel_rfl
 go_enter Tryz.func68,Tryz.ntmps68
 go_wp2
 go_region_o
 all_goals (go_wp2;go_ret;exact⟨rfl,rfl⟩)
theorem YE {w0:World} {c:Cx} (h:du w0 c) {b blk o z:Nat} {k:fA} {w':World} (hb:c.H b=some k) (hρ:c.ρ b=some (blk,o,z)) (hos:w'.os=c.w.os) (htp:w'.tape=c.w.tape) (hout:w'.output=c.w.output) (hsz:w'.heap.size=c.w.heap.size)
 (hkeep:∀k,k≠blk->w'.heap[k]?=c.w.heap[k]?) {H':Nat->Option fA} (hH:H'=fi c.H b none):du w0 ⟨c.ρ,H',c.U,w',c.M0⟩/\c.le ⟨c.ρ,H',c.U,w',c.M0⟩:=by
 subst hH
 have hs:∀x k,fi c.H b none x=some k->x≠b/\c.H x=some k:=fun x k hk=>by
  by_cases hx:x=b
  ·subst hx;simp at hk
  ·rw[eV _ _ hx] at hk;exact⟨hx,hk⟩
 have hlow:=(h.W5 hb hρ).1
 have hle:c.le ⟨c.ρ,fi c.H b none,c.U,w',c.M0⟩:=by
  refine⟨fun _ h=>h,by simp[hsz],fun x hm _=>⟨hkeep x ?_, ?_⟩,fun x _ e sz d es he=>⟨_,_,_,(hs x _ he).2, .inl ⟨rfl,rfl⟩⟩⟩
  ·rintro rfl;exact hm (.inr ⟨b,k,o,z,hb,hρ⟩)
  ·rintro(h0|⟨y,k,o,z,hk,hr⟩)
   ·exact hm (.inl h0)
   ·exact hm (.inr ⟨y,k,o,z,(hs y k hk).2,hr⟩)
 refine⟨⟨h.below.trans ⟨hos,htp,hout,by rw[hsz];exact Nat.le_refl _,fun k hk=>hkeep k (by omega)⟩,h.m0,fun x e sz d es he=> ?_,fun x y k k' _ _ _ _ _ hk hk'=>h.inj x y k k' _ _ _ _ _ (hs _ _ hk).2 (hs _ _ hk').2⟩,hle⟩
 obtain⟨h1,h2⟩:=hs x _ he
 obtain⟨h3,h4⟩:=h.row x _ _ _ _ h2
 refine⟨h3,h4.keep hle rfl fun blk' o' z' hr hlt=>hkeep blk' ?_⟩
 rintro rfl
 exact h1 (h.inj x b _ _ _ _ _ _ _ h2 hb hr hρ)
theorem B5 {b q nx:Nat} {H:Hp} {d d2 A:AV} {l:List UInt8} (hb:bo H b=some (.row 140 2 d [.agg [A, .sl q l.length]])) (hq:bo H q=some (.row 5 1 d2 (cO ⟨l.toArray⟩))) (h0:l≠[]):
 cQ Tryz.prog 68 [.pt b 1 0 0] H nx (fun r H2 n2=>r= .sc (.string ⟨l.toArray⟩)/\H2=(q,none)::H/\n2=nx):=by
 refine⟨⟨_,Tryz.func68,by kernel_rfl,by kernel_rfl⟩,fun w0 c vs hS hH hU hv=> ?_⟩
 rw[cj] at hv
 obtain⟨v,vs',rfl,hv,hv'⟩:=hv
 rw[cj] at hv'
 subst hv'
 have hb':=hb
 rw[<-hH] at hb'
 have hq':=hq
 rw[<-hH] at hq'
 obtain⟨hU0,blk,o,z,hρ,rfl⟩:=P0 (i:=0) hb' hv
 obtain⟨blk',arr,u,hρ',hlow,harr,hsz,hat,hu⟩:=alone hS hb' (by decide) (by omega) (by rw[hρ];simp)
 rw[hρ] at hρ'
 cases hρ'
 rw[VR] at hu
 obtain⟨us,rfl,hu⟩:=hu
 rw[cj] at hu
 obtain⟨va,us',hus,hva,hu⟩:=hu
 rw[cj] at hu
 obtain⟨vb,us'',rfl,hvb,hu⟩:=hu
 rw[cj] at hu
 subst hu
 obtain⟨a1,a2,a3⟩:=hat
 have hcells:us=#[va,vb]:=by rw[<-Array.toArray_toList (xs:=us),hus]
 subst hcells
 have hlen:(cO ⟨l.toArray⟩).length=l.length:=by simp[cO]
 have hl0:l.length≠0:=by simpa using h0
 rw[VR] at hvb
 obtain⟨hUq,a,cap,rfl,hr⟩:=hvb
 obtain⟨_,hr⟩:=hr _ _ _ _ hq'
 obtain⟨r1,r2,r3⟩:=hS.BX q _ _ _ _ hq' (by omega)
 have hrow:∃g z2 cur,c.ρ q=some (g,0,z2)/\a=some ⟨g,0,none⟩/\l.length<=cap/\cap<=maxLen/\c.w.heap[g]?=some (.cells cur 5 (0,0))/\cap<=cur.size/\eB c 1 (cO ⟨l.toArray⟩) g 0:=by
  rcases r3 with⟨_,r3⟩|⟨g,o2,z2,r4,r5,⟨cur,r6,r7,r8⟩,r9,r10⟩
  ·have:=congrArg List.length r3;simp[hlen,hl0,h0] at this
  ·obtain⟨rfl,_⟩:=r8 (by decide)
   rcases hr hlen with⟨s1,_⟩|⟨g',o',z',s1,s2,s3,s4,s5,_⟩
   ·rw[r4] at s1;cases s1
   ·rw[r4] at s1
    cases s1
    exact⟨g,z2,cur,r4,s2,s3,s5,r6,by omega,r10⟩
 obtain⟨g,z2,cur,s1,rfl,s2,s3,s4,s5,s6⟩:=hrow
 have hc1:=a2 1 (by omega)
 simp only[Nat.zero_add,Value.cells] at hc1
 refine(B6 blk g l.length cap va cur l c.w (by simpa using hc1) s4 h0 s2 s3 s5 fun j x hx=> ?_).mono ?_
 ·obtain⟨v,hv1,hv2⟩:=eD s6 j (by rw[hlen];exact(List.getElem?_eq_some_iff.1 hx).1)
  have hg:(cO ⟨l.toArray⟩).getD j .any= .sc (.int .u8 (x.toNat:Int)):=by simp[cO,List.getD,hx]
  rw[hg,VR] at hv2
  subst hv2
  have:=hv1.2.1 0 (by omega)
  simpa[Value.cells] using this
 rintro e w' ⟨rfl,rfl⟩
 have hfz:c.w.drew.freeze ⟨g,0,none⟩ l.length={ c.w.drew with heap:=c.w.heap.modify g fun
  | .cells c elem (lo,hi)=> .cells c elem (if lo==hi then(0,0+l.length) else(min lo 0,max hi (0+l.length)))
  |o=>o }:=by
  unfold World.freeze
  rw[if_neg hl0]
  rfl
 obtain⟨p1,p2⟩:=YE hS hq' s1 (w':=c.w.drew.freeze ⟨g,0,none⟩ l.length) (by rw[hfz];rfl) (by rw[hfz];rfl) (by rw[hfz];rfl) (by rw[hfz];exact Array.size_modify)
  (fun k hk=>by
   rw[hfz]
   simp only[Array.getElem?_modify]
   rw[if_neg (by omega)]) (H':=bo ((q,none)::H)) (by
   funext x
   by_cases hx:x=q
   ·subst hx;simp[bo]
   ·rw[eV _ _ hx,hH];simp[bo,hx])
 refine⟨.string ⟨l.toArray⟩, .sc (.string ⟨l.toArray⟩),_,nx,c.ρ,c.U,rfl,⟨rfl,rfl,rfl⟩,hU,p1,p2, ?_⟩
 rw[VR]
end Go.Proofs.YtekfmjjmihomlaaGreatDoor
namespace Go.Proofs.YtekfmjjmihomlaaGreatDoor
open Go Go.cw Go.Proofs Go.RowKit
open Go.Lib (decDigits itoa)
set_option linter.unusedVariables false
set_option linter.unusedSimpArgs false
theorem YO (n:Int):IntKind.u64.wrap n=n%18446744073709551616:=by simp[IntKind.wrap,IntKind.bits,IntKind.signed]
theorem F6:∀(k u:Nat),u<10^(k+1)->(decDigits u).length<=k+1
 |k,u,h=>by
  rw[decDigits]
  split
  ·simp
  ·rename_i hu
   cases k with
   |zero=>omega
   |succ k=>
    have:=F6 k (u /10) (by rw[Nat.pow_succ] at h;omega)
    simp only[List.length_append,List.length_cons,List.length_nil]
    omega
theorem F7 (u:Nat):0<(decDigits u).length:=by
 rw[decDigits]
 split<;>simp
def jG (l:List UInt8):Array Value:=(List.replicate (20 - l.length) (Value.int .u8 0)++l.map fun b=>Value.int .u8 (b.toNat:Int)).toArray
theorem FZ {l:List UInt8} {k:Nat} (h:k+l.length=19):(jG l)[k]?=some (.int .u8 0):=by
 simp only[jG,List.getElem?_toArray]
 rw[List.getElem?_append_left (by simp;omega),List.getElem?_replicate,if_pos (by omega)]
theorem F0 {l:List UInt8} {k:Nat} (h:k+l.length=19) (d:UInt8):(jG l).setIfInBounds k (.int .u8 (d.toNat:Int))=jG (d::l):=by
 have h1:20 - l.length=k+1:=by omega
 have h2:20 - (d::l).length=k:=by simp;omega
 unfold jG
 rw[h1,h2,List.replicate_succ',List.setIfInBounds_toArray]
 congr 1
 rw[List.append_assoc,List.set_append_right _ _ (by simp)]
 simp
theorem U9 {l:List UInt8} {k i:Nat} (h:k+l.length=20) (hi:i<l.length):(jG l)[k+i]?=some (.int .u8 ((l.getD i 0).toNat:Int)):=by
 have h1:20 - l.length=k:=by omega
 simp only[jG,h1,List.getElem?_toArray]
 rw[List.getElem?_append_right (by simp)]
 simp[List.getD,List.getElem?_eq_getElem hi]
theorem F4 (W:World) (b j:Nat) (z:Int) (hz:z=(j:Int)) (h:j<20):
 (Instr.sliceAt 191 (.pointer (some ⟨b,0,none⟩)) (some (.int .i64 z)) none none).run Tryz.prog W= .ok (.slice (some ⟨b,j,none⟩) (20 - j) (20 - j)) W:=by
 subst hz
 have al:Tryz.prog.arrayLen 191=20:=by kernel_rfl
 have el:Tryz.prog.elem 191=5:=by kernel_rfl
 rw[run_sliceAt_array_l W 191 ⟨b,0,none⟩ (by rw[al,el];exact Tryz.underlying191) .i64 (j:Int) (by omega) (by rw[al];omega),el,al]
 rw[show(sizeOf 5).run Tryz.prog W= .ok 1 W by kernel_rfl]
 simp only[Result.andThen,slicedAt,Int.toNat_natCast,Nat.mul_one]
 rw[if_neg (by omega),Go.Lib.add_plain,Nat.zero_add]
theorem CE (w:World) (j:Nat) (l:List UInt8) (h:j+l.length=20):
 (convert 138 9 (.slice (some ⟨w.heap.size,j,none⟩) (20 - j) (20 - j))).run Tryz.prog (w.alloc (.cells (jG l) 191))= .ok (.string ⟨l.toArray⟩) (w.alloc (.cells (jG l) 191)):=by
 rw[run_convert_bytes_arg _ 138 5 Tryz.underlying138 Tryz.underlying5 w.heap.size j (20 - j) (20 - j) (l.map fun b=>(b.toNat:Int)) (by simp;omega) (fun i hi=> ?_) 9 Tryz.underlying9]
 ·congr 2
  simp[strOfNums,Function.comp_def]
 ·rw[World.cell?_alloc_new,U9 h (by omega)]
  congr 2
  simp[List.getD]
  cases hh:l[i]?<;>simp
set_option maxHeartbeats 1000000 in
set_option maxRecDepth 100000 in
theorem ER (x:Int) (h1:-9223372036854775808<=x) (h2:x<=9223372036854775807) (w:World):
 Calls Tryz.prog 66 #[.int .i64 x] w fun e w'=>e= .returned (.string ⟨(itoa x).toArray⟩)/\Below w.heap.size w w':=by
 have t1:=Tryz.underlying191
 have t2:=Tryz.underlying2
 have t3:=Tryz.underlying3
 have t4:=Tryz.underlying168
 have t5:=Tryz.underlying5
 have t6:=Tryz.underlying9
 have t7:=Tryz.underlying138
 have hu19:(decDigits x.natAbs).length<=19:=F6 18 _ (by omega)
 go_enter Tryz.func66,Tryz.ntmps66
 go_wp2
 all_goals
  go_loopw [4,5] (fun va vn wr=>∃(k n:Nat) (l:List UInt8),va= .int .i64 ((k+1:Nat):Int)/\vn= .int .u64 n/\k+l.length=19/\n<=9223372036854775808/\decDigits x.natAbs=decDigits n++l/\wr=w.alloc (.cells (jG l) 191)) (fun va _ _=>(RowKit.intOf va).toNat)
  case atStart=>
   refine⟨19,x.natAbs,[],rfl, ?_,rfl,by omega,by simp,rfl⟩
   simp only[YO]
   congr 1
   omega
  case round=>
   obtain⟨k,n,l,rfl,rfl,hk,hn,hd,rfl⟩:=hrel
   have hn0:=F7 n
   have hlen:=congrArg List.length hd
   rw[List.length_append] at hlen
   have hk1:1<=k:=by omega
   have hk2:k<=19:=by omega
   have hg:=FZ hk
   have hq:IntKind.u64.wrap ((n:Int) /10)=((n /10:Nat):Int):=by rw[YO];omega
   obtain⟨d,hde⟩:∃d:UInt8,UInt8.ofNat (48+n%10)=d:=⟨_,rfl⟩
   have hset:(jG l).setIfInBounds k (.int .u8 (48+(n:Int)%10))=jG (d::l):=by
    rw[<-F0 hk,<-hde,UInt8.toNat_ofNat']
    congr 2
    omega
   have hg2:(jG (d::l))[k - 1]?=some (.int .u8 0):=FZ (by simp;omega)
   have hset2:(jG (d::l)).setIfInBounds (k - 1) (.int .u8 45)=jG (45::d::l):=F0 (by simp;omega) 45
   have hs1:=F4 (w.alloc (.cells (jG (d::l)) 191)) w.heap.size k (k:Int) rfl (by omega)
   have hs2:=F4 (w.alloc (.cells (jG (45::d::l)) 191)) w.heap.size (k - 1) ((k:Int) - 1) (by omega) (by omega)
   have hc1:=CE w k (d::l) (by simp;omega)
   have hc2:=CE w (k - 1) (45::d::l) (by simp;omega)
   go_wp2
   case roundEnd=>
    rename_i hz
    have hz:¬n<10:=by simp at hz;omega
    refine⟨⟨k - 1,n /10,d::l,by congr 1;omega,by simp,by simp;omega,Nat.le_trans (Nat.div_le_self _ _) hn, ?_,rfl⟩,by simp[RowKit.intOf]⟩
    rw[hd,decDigits,dif_neg hz,<-hde,List.append_assoc];rfl
   all_goals
    have hz:((n:Int) /10==0)=true:=by assumption
    have hz:n<10:=by simp at hz;omega
    have hd2:decDigits x.natAbs=d::l:=by
     rw[hd,decDigits.eq_def n,dif_pos hz,<-hde,Nat.mod_eq_of_lt hz];rfl
    go_ret
    refine⟨?_,(Below.refl _ _).alloc (Nat.le_refl _) _⟩
    rw[itoa]
    first
    |(rw[if_pos (by assumption),hd2];rfl)
    |(rw[if_neg (by omega),show x.toNat=x.natAbs by omega,hd2];rfl)
theorem EP (x:Int) (h1:-9223372036854775808<=x) (h2:x<=9223372036854775807):Pure Tryz.prog 66 [.sc (.int .i64 x)] (fun r=>r= .sc (.string ⟨(itoa x).toArray⟩)):=by
 refine⟨⟨_,Tryz.func66,by kernel_rfl,by kernel_rfl⟩,fun M w vs hM hv=> ?_⟩
 rw[cj] at hv
 obtain⟨v,vs',rfl,h3,h4⟩:=hv
 rw[VR] at h3
 rw[cj] at h4
 subst h3
 subst h4
 refine(ER x h1 h2 w).mono ?_
 rintro e w' ⟨rfl,hb⟩
 exact⟨_,_,rfl,rfl,by simp[cF],by rw[VR],hb⟩
end Go.Proofs.YtekfmjjmihomlaaGreatDoor
namespace Go.Proofs.YtekfmjjmihomlaaGreatDoor
open Go Go.cw Go.Proofs
set_option linter.unusedSimpArgs false
set_option linter.unusedVariables false
abbrev lY (l:List UInt8):ByteArray:=⟨l.toArray⟩
theorem vq (l k:List UInt8):cO (lY l)++cO (lY k)=cO (lY (l++k)):=by simp[cO,lY]
theorem j8 (l:List UInt8):(cO (lY l)).length=l.length:=by simp[cO,lY]
def Bd (b:Nat) (l:List UInt8) (H:Hp) (n:Nat):Prop:=∃A d,(A= .sc (.pointer none)\/A= .pt b 1 0 0)/\
 ((l=[]/\bo H b=some (.row 140 2 d [.agg [A, .sc (.slice none 0 0)]]))\/
   ∃q d2,q<n/\q≠b/\bo H b=some (.row 140 2 d [.agg [A, .sl q l.length]])/\bo H q=some (.row 5 1 d2 (cO (lY l))))
def Y0 (b n:Nat) (H H2:Hp):Prop:=∀y,y<n->y≠b->(∀d es,bo H y≠some (.row 5 1 d es))->bo H2 y=bo H y
theorem CK {b nx:Nat} {l k:List UInt8} {H:Hp} (hB:Bd b l H nx) (hb:b<nx) (hk:k≠[]) (hsz:l.length+k.length<=140737488355328):
 cQ Tryz.prog 65 [.pt b 1 0 0, .sc (.string (lY k))] H nx (fun r H2 n2=>nx<=n2/\Bd b (l++k) H2 n2/\Y0 b nx H H2):=by
 obtain⟨A,d,hA,⟨rfl,hr⟩|⟨q,d2,hq,hqb,hr,hr2⟩⟩:=hB
 ·refine aJ X2 rfl ?_
  refine cz ?_
  refine aG (nY hr hA) ?_
  rintro _ H2 n2 ⟨rfl,rfl,rfl⟩
  have a0:(cO (lY k)).length * 1<=gV:=by rw[j8];simp at hsz;unfold gV;omega
  refine cz ?_
  rw[List.nil_append]
  have e1:=j8 k
  exact⟨cU,⟨_,d, .inr rfl, .inr ⟨nx+9,_,by omega,by omega,by rw[<-e1];exact bt,bt⟩⟩,fun y h1 h2 h3=>bx⟩
 ·refine aJ X2 rfl ?_
  refine cz ?_
  refine aG (nY hr hA) ?_
  rintro _ H2 n2 ⟨rfl,rfl,rfl⟩
  have a0:(cO (lY l)).length=l.length/\5=5/\1=1:=⟨j8 l,rfl,rfl⟩
  have a1:(l.length+(cO (lY k)).length) * 1<=gV:=by rw[j8];unfold gV;omega
  refine cz ?_
  have e1:(l++k).length=l.length+(cO (lY k)).length:=by rw[j8,List.length_append]
  exact⟨cU,⟨_,d, .inr rfl, .inr ⟨q,_,by omega,hqb,by rw[e1];exact bt,by rw[<-vq];exact bt⟩⟩,fun y h1 h2 h3=>by
   have hyq:y≠q:=fun e=>by subst e;exact h3 _ _ hr2
   exact bx⟩
theorem nS {b nx:Nat} {l:List UInt8} {c:UInt8} {H:Hp} (hB:Bd b l H nx) (hb:b<nx) (hsz:l.length+1<=140737488355328):
 cQ Tryz.prog 67 [.pt b 1 0 0, .sc (.int .u8 (c.toNat:Int))] H nx (fun r H2 n2=>nx<=n2/\Bd b (l++[c]) H2 n2/\Y0 b nx H H2):=by
 obtain⟨A,d,hA,⟨rfl,hr⟩|⟨q,d2,hq,hqb,hr,hr2⟩⟩:=hB
 ·refine aJ JJ rfl ?_
  refine cz ?_
  refine aG (nY hr hA) ?_
  rintro _ H2 n2 ⟨rfl,rfl,rfl⟩
  refine cz ?_
  exact⟨cU,⟨_,d, .inr rfl, .inr ⟨nx+9,gl false [.int .u8 0],by omega,by omega,bt,show _=some (fA.row _ _ _ [.sc (.int .u8 (c.toNat:Int))]) from bt⟩⟩,fun y h1 h2 h3=>bx⟩
 ·refine aJ JJ rfl ?_
  refine cz ?_
  refine aG (nY hr hA) ?_
  rintro _ H2 n2 ⟨rfl,rfl,rfl⟩
  have a0:(cO (lY l)).length=l.length/\5=5/\1=1:=⟨j8 l,rfl,rfl⟩
  refine cz ?_
  exact⟨cU,⟨_,d, .inr rfl, .inr ⟨q,_,by omega,hqb,by rw[List.length_append];exact bt,by rw[<-vq];exact bt⟩⟩,fun y h1 h2 h3=>by
   have hyq:y≠q:=fun e=>by subst e;exact h3 _ _ hr2
   exact bx⟩
theorem Bd.skip {b n n2:Nat} {l:List UInt8} {H H2:Hp} (h:Bd b l H n) (hn:n<=n2) (hk:∀y,y<n->bo H2 y=bo H y) (hb:b<n:=by omega):Bd b l H2 n2:=by
 obtain⟨A,d,hA,⟨h0,hr⟩|⟨q,d2,hq,hqb,hr,hr2⟩⟩:=h
 ·exact⟨A,d,hA, .inl ⟨h0,(hk b hb).trans hr⟩⟩
 ·exact⟨A,d,hA, .inr ⟨q,d2,by omega,hqb,(hk b hb).trans hr,(hk q hq).trans hr2⟩⟩
theorem zd (x:Int):0<(Go.Lib.itoa x).length:=by
 unfold Go.Lib.itoa
 split
 ·simp
 ·exact F7 _
def eU (x:Int) (e:List UInt8):List UInt8:=Go.Lib.itoa x++e
theorem lQ {b nx:Nat} {l e:List UInt8} {x:Int} {H:Hp} (hB:Bd b l H nx) (hb:b<nx) (h1:-9223372036854775808<=x) (h2:x<=9223372036854775807) (hsz:l.length+(eU x e).length<=140737488355328):
 cQ Tryz.prog 64 [.sc (.int .i64 x), .sc (.string (lY e)), .pt b 1 0 0] H nx (fun r H2 n2=>nx<=n2/\Bd b (l++eU x e) H2 n2/\Y0 b nx H H2):=by
 have c0:Pure Tryz.prog 66 [.sc (.int .i64 x)] (fun r=>r= .sc (.string (lY (Go.Lib.itoa x)))):=EP x h1 h2
 have he:lY (Go.Lib.itoa x)++lY e=lY (eU x e):=by
  apply ByteArray.ext
  simp[lY,eU]
 have hl:(eU x e).length=(Go.Lib.itoa x).length+e.length:=by simp[eU]
 have a0:(lY (Go.Lib.itoa x)).size+(lY e).size<=9223372036854775807:=by
  show(Go.Lib.itoa x).toArray.size+e.toArray.size<=_
  simp only[List.size_toArray]
  omega
 have hne:eU x e≠[]:=by
  have:=zd x
  intro h
  rw[h] at hl
  simp at hl
  omega
 refine aJ OO rfl ?_
 refine cz ?_
 rw[he]
 refine aG (CK (hB.skip (by omega) ?_) (by omega) hne hsz) ?_
 ·exact fun y hy=>bx
 rintro _ H2 n2 ⟨hn,hB2,ho⟩
 refine cz ?_
 exact⟨by omega,hB2.skip (Nat.le_refl _) fun y hy=>bx,fun y q1 q2 q3=>Eq.trans bx (by rw[ho y (by omega) q2 (by rw[show bo _ y=bo H y from bx];exact q3)];exact bx)⟩
end Go.Proofs.YtekfmjjmihomlaaGreatDoor
namespace Go.Proofs.YtekfmjjmihomlaaGreatDoor
open Go Go.cw Go.Proofs
open Go.Lib (decDigits itoa)
set_option linter.unusedSimpArgs false
set_option linter.unusedVariables false
end Go.Proofs.YtekfmjjmihomlaaGreatDoor
namespace Go.Proofs.YtekfmjjmihomlaaGreatDoor
open Go Go.cw Go.Proofs
set_option linter.unusedSimpArgs false
set_option linter.unusedVariables false
def uz (m:MS) (t:Nat):List UInt8:=eU (m.at_.getD t 0) [44]++(m.bw.getD t []).flatMap (fun w=>eU w [44])++[124]
def yC (p:cy):List UInt8:=eU p.cn [58]++eU p.word [44]
def gz (m:MS):List UInt8:=(List.range m.at_.length).flatMap (uz m)++m.mem.flatMap (fun w=>eU w [44])++[124]++m.hold.flatMap (fun w=>eU w [44])++[124]++m.cC.flatMap yC
structure ZP (m:MS):Prop where
 aw:∀w∈m.at_,eW w
 sl:m.bw.length=m.at_.length
 sw:∀l∈m.bw,∀w∈l,eW w
 mw:∀w∈m.mem,eW w
 hw:∀w∈m.hold,eW w
 pw:∀p∈m.cC,eW p.cn/\eW p.word
 sz:(gz m).length<=140737488355328
theorem TU {α:Type} (f:α->List UInt8) (l:List α) (j:Nat):((l.take j).flatMap f).length<=(l.flatMap f).length:=by
 conv=>rhs;rw[<-List.take_append_drop j l,List.flatMap_append,List.length_append]
 omega
theorem jc {α:Type} (f:α->List UInt8) {l:List α} {j:Nat} (h:j<l.length) (d:α):(l.take (j+1)).flatMap f=(l.take j).flatMap f++f (l.getD j d):=by
 rw[List.take_succ_eq_append_getElem h,List.flatMap_append]
 simp[List.getD,List.getElem?_eq_getElem h]
theorem qD {α:Type} (f:α->List UInt8) {l:List α} {j:Nat} (h:j<l.length) (d:α):((l.take j).flatMap f).length+(f (l.getD j d)).length<=(l.flatMap f).length:=by
 have:=TU f l (j+1)
 rw[jc f h d,List.length_append] at this
 exact this
theorem sj {l:List Int} (h:∀w∈l,eW w) {j:Nat} (hj:j<l.length):eW (l.getD j 0):=h _ (cR 0 hj)
theorem xq (m:MS):(gz m).length=((List.range m.at_.length).flatMap (uz m)).length+(m.mem.flatMap (fun w=>eU w [44])).length+1+(m.hold.flatMap (fun w=>eU w [44])).length+1+(m.cC.flatMap yC).length:=by
 simp only[gz,List.length_append,List.length_cons,List.length_nil]
theorem P3 {n i:Nat} (h:i<n):(List.range n).getD i 0=i:=by simp[List.getD,h]
theorem na {α:Type} (f:α->List UInt8) (hf:∀a,0<(f a).length):∀l:List α,l.length<=(l.flatMap f).length
 |[]=>Nat.zero_le _
 |a::l=>by
  have h1:=na f hf l
  have h2:=hf a
  rw[List.flatMap_cons,List.length_append,List.length_cons]
  omega
theorem qM (x:Int) (e:List UInt8):0<(eU x e).length:=by
 have:=zd x
 unfold eU
 rw[List.length_append]
 omega
theorem TV (m:MS) (t:Nat):0<(uz m t).length:=by
 unfold uz
 rw[List.length_append]
 simp
theorem S6 (p:cy):0<(yC p).length:=by
 have:=qM p.cn [58]
 unfold yC
 rw[List.length_append]
 omega
set_option maxHeartbeats 2000000 in
theorem xp (u:bq) (m:MS) (h:ZP m):Pure Tryz.prog 33 [m.fz u] (fun r=>r= .sc (.string (lY (gz m)))):=by
 have hsz:=h.sz
 rw[xq] at hsz
 have g1:=na (uz m) (TV m) (List.range m.at_.length)
 have g2:=na (fun w=>eU w [44]) (fun w=>qM w _) m.mem
 have g3:=na (fun w=>eU w [44]) (fun w=>qM w _) m.hold
 have g4:=na yC S6 m.cC
 rw[List.length_range] at g1
 refine dO ?_ (by simp[cF])
 refine aJ NZ rfl ?_
 refine cz ?_
 rw[List.length_map]
 refine aI (fun i:Nat=>[(0,m.fz u),(3, .pt 3 1 0 0),(4, .fn (.func 64) [] [.pt 3 1 0 0]),(21,de m.at_),(22,i64 m.at_.length),(23,i64 i)])
  (fun i H n=>i<=m.at_.length/\4<=n/\Bd 3 (((List.range m.at_.length).take i).flatMap (uz m)) H n) (fun i=>m.at_.length - i) 0 cG ⟨Nat.zero_le _,cU,⟨.sc (.pointer none),_, .inl rfl, .inl ⟨rfl,bt⟩⟩⟩ ?_
 rintro i H n ⟨hi,hn,hB⟩
 by_cases hil:i<m.at_.length
 ·have e0:=fun d=>ints_at (l:=m.at_) hil d
  have e1:∀d,(m.bw.map de).getD ((i:Int)).toNat d=de (m.bw.getD i []):=fun d=>by rw[Int.toNat_natCast];exact dN de m.bw i d (by rw[h.sl];exact hil)
  have a0:(m.at_.map i64).length=m.at_.length:=by simp
  have a1:(m.bw.map de).length=m.at_.length:=by simp[h.sl]
  have hle:=qD (uz m) (l:=List.range m.at_.length) (j:=i) (by simpa using hil) 0
  have hnx:=jc (uz m) (l:=List.range m.at_.length) (j:=i) (by simpa using hil) 0
  rw[P3 hil] at hle hnx
  have hw:=sj h.aw hil
  have hth:(uz m i).length=(eU (m.at_.getD i 0) [44]).length+((m.bw.getD i []).flatMap (fun w=>eU w [44])).length+1:=by simp only[uz,List.length_append,List.length_cons,List.length_nil]
  have hthe:uz m i=eU (m.at_.getD i 0) [44]++(m.bw.getD i []).flatMap (fun w=>eU w [44])++[124]:=rfl
  have hsw:=h.sw _ (cR (l:=m.bw) [] (by rw[h.sl];exact hil))
  refine cz ?_
  refine aG (lQ (e:=[44]) (hB.skip (by omega) ?_) (by omega) hw.1 (by have:=hw.2;omega) (by omega)) ?_
  ·exact fun y hy=>bx
  rintro _ H2 n2 ⟨hn2,hB2,_⟩
  refine cz ?_
  generalize m.bw.getD i []=sl at *
  have g5:=na (fun w=>eU w [44]) (fun w=>qM w _) sl
  rw[List.length_map]
  refine aI (fun j:Nat=>[(0,m.fz u),(3, .pt 3 1 0 0),(4, .fn (.func 64) [] [.pt 3 1 0 0]),(5,i64 i),(21,de m.at_),(22,i64 m.at_.length),(23,i64 i),(37,de sl),(38,i64 (sl).length),(39,i64 j)])
   (fun j H n=>j<=(sl).length/\4<=n/\Bd 3 ((((List.range m.at_.length).take i).flatMap (uz m)++eU (m.at_.getD i 0) [44])++((sl).take j).flatMap (fun w=>eU w [44])) H n) (fun j=>(sl).length - j) 0 cG ⟨Nat.zero_le _,cU,by rw[List.take_zero,List.flatMap_nil,List.append_nil];exact hB2.skip (by omega) fun y hy=>bx⟩ ?_
  clear hB2
  rintro j H n ⟨hj,hn,hB⟩
  by_cases hjl:j<(sl).length
  ·have e2:=fun d=>ints_at (l:=sl) hjl d
   have a2:((sl).map i64).length=(sl).length:=by simp
   have hle2:=qD (fun w=>eU w [44]) hjl 0
   have hnx2:=jc (fun w=>eU w [44]) hjl 0
   have hw2:=sj hsw hjl
   refine cz ?_
   refine aG (lQ (e:=[44]) (hB.skip (by omega) ?_) (by omega) hw2.1 (by have:=hw2.2;omega) (by rw[List.length_append,List.length_append];omega)) ?_
   ·exact fun y hy=>bx
   rintro _ H3 n3 ⟨hn3,hB3,_⟩
   refine cz ?_
   exact⟨j+1,by omega,cG,by omega,by omega,by rw[hnx2,<-List.append_assoc];exact hB3.skip (by omega) fun y hy=>bx⟩
  ·obtain rfl:j=sl.length:=by omega
   rw[List.take_length] at hB
   refine cz ?_
   refine aG (nS (c:=124) (hB.skip (by omega) ?_) (by omega) (by rw[List.length_append,List.length_append];omega)) ?_
   ·exact fun y hy=>bx
   rintro _ H3 n3 ⟨hn3,hB3,_⟩
   refine cz ?_
   exact⟨i+1,by omega,cG,by omega,by omega,by rw[hnx,hthe,<-List.append_assoc,<-List.append_assoc];exact hB3.skip (by omega) fun y hy=>bx⟩
 ·obtain rfl:i=m.at_.length:=by omega
  rw[show(List.range m.at_.length).take m.at_.length=List.range m.at_.length from List.take_of_length_le (by simp)] at hB
  refine cz ?_
  rw[List.length_map]
  refine aI (fun j:Nat=>[(0,m.fz u),(3, .pt 3 1 0 0),(4, .fn (.func 64) [] [.pt 3 1 0 0]),(52,de m.mem),(53,i64 (m.mem).length),(54,i64 j)])
   (fun j H n=>j<=(m.mem).length/\4<=n/\Bd 3 (((List.range m.at_.length).flatMap (uz m))++((m.mem).take j).flatMap (fun w=>eU w [44])) H n) (fun j=>(m.mem).length - j) 0 cG ⟨Nat.zero_le _,cU,by rw[List.take_zero,List.flatMap_nil,List.append_nil];exact hB.skip (by omega) fun y hy=>bx⟩ ?_
  clear hB
  rintro j H n ⟨hj,hn,hB⟩
  by_cases hjl:j<(m.mem).length
  ·have e2:=fun d=>ints_at (l:=m.mem) hjl d
   have a2:((m.mem).map i64).length=(m.mem).length:=by simp
   have hle2:=qD (fun w=>eU w [44]) hjl 0
   have hnx2:=jc (fun w=>eU w [44]) hjl 0
   have hw2:=sj h.mw hjl
   refine cz ?_
   refine aG (lQ (e:=[44]) (hB.skip (by omega) ?_) (by omega) hw2.1 (by have:=hw2.2;omega) (by rw[List.length_append];omega)) ?_
   ·exact fun y hy=>bx
   rintro _ H3 n3 ⟨hn3,hB3,_⟩
   refine cz ?_
   exact⟨j+1,by omega,cG,by omega,by omega,by rw[hnx2,<-List.append_assoc];exact hB3.skip (by omega) fun y hy=>bx⟩
  ·obtain rfl:j=(m.mem).length:=by omega
   rw[List.take_length] at hB
   refine cz ?_
   refine aG (nS (c:=124) (hB.skip (by omega) ?_) (by omega) (by rw[List.length_append];omega)) ?_
   ·exact fun y hy=>bx
   rintro _ H3 n3 ⟨hn3,hB3,_⟩
   clear hB hj hjl
   refine cz ?_
   rw[List.length_map]
   refine aI (fun j:Nat=>[(0,m.fz u),(3, .pt 3 1 0 0),(4, .fn (.func 64) [] [.pt 3 1 0 0]),(66,de m.hold),(67,i64 (m.hold).length),(68,i64 j)])
    (fun j H n=>j<=(m.hold).length/\4<=n/\Bd 3 (((List.range m.at_.length).flatMap (uz m)++m.mem.flatMap (fun w=>eU w [44])++[124])++((m.hold).take j).flatMap (fun w=>eU w [44])) H n) (fun j=>(m.hold).length - j) 0 cG ⟨Nat.zero_le _,cU,by rw[List.take_zero,List.flatMap_nil,List.append_nil];exact hB3.skip (by omega) fun y hy=>bx⟩ ?_
   clear hB3
   rintro j H n ⟨hj,hn,hB⟩
   by_cases hjl:j<(m.hold).length
   ·have e2:=fun d=>ints_at (l:=m.hold) hjl d
    have a2:((m.hold).map i64).length=(m.hold).length:=by simp
    have hle2:=qD (fun w=>eU w [44]) hjl 0
    have hnx2:=jc (fun w=>eU w [44]) hjl 0
    have hw2:=sj h.hw hjl
    refine cz ?_
    refine aG (lQ (e:=[44]) (hB.skip (by omega) ?_) (by omega) hw2.1 (by have:=hw2.2;omega) (by simp only[List.length_append,List.length_cons,List.length_nil];omega)) ?_
    ·exact fun y hy=>bx
    rintro _ H3 n3 ⟨hn3,hB3,_⟩
    refine cz ?_
    exact⟨j+1,by omega,cG,by omega,by omega,by rw[hnx2,<-List.append_assoc];exact hB3.skip (by omega) fun y hy=>bx⟩
   ·obtain rfl:j=(m.hold).length:=by omega
    rw[List.take_length] at hB
    refine cz ?_
    refine aG (nS (c:=124) (hB.skip (by omega) ?_) (by omega) (by simp only[List.length_append,List.length_cons,List.length_nil];omega)) ?_
    ·exact fun y hy=>bx
    rintro _ H3 n3 ⟨hn3,hB3,_⟩
    clear hB hj hjl
    refine cz ?_
    rw[List.length_map]
    refine aI (fun j:Nat=>[(0,m.fz u),(3, .pt 3 1 0 0),(4, .fn (.func 64) [] [.pt 3 1 0 0]),(80,gM m.cC),(81,i64 m.cC.length),(82,i64 j)])
     (fun j H n=>j<=m.cC.length/\4<=n/\Bd 3 (((List.range m.at_.length).flatMap (uz m)++m.mem.flatMap (fun w=>eU w [44])++[124]++m.hold.flatMap (fun w=>eU w [44])++[124])++(m.cC.take j).flatMap yC) H n) (fun j=>m.cC.length - j) 0 cG ⟨Nat.zero_le _,cU,by rw[List.take_zero,List.flatMap_nil,List.append_nil];exact hB3.skip (by omega) fun y hy=>bx⟩ ?_
    clear hB3
    rintro j H n ⟨hj,hn,hB⟩
    by_cases hjl:j<m.cC.length
    ·have e2:∀d,(m.cC.map cy.av).getD ((j:Int)).toNat d=(m.cC.getD j default).av:=fun d=>by rw[Int.toNat_natCast];exact dN cy.av m.cC j d hjl
     have a2:(m.cC.map cy.av).length=m.cC.length:=by simp
     have hle2:=qD yC hjl default
     have hnx2:=jc yC hjl default
     obtain⟨hw2,hw3⟩:=h.pw _ (cR default hjl)
     generalize m.cC.getD j default=p at *
     have hpl:(yC p).length=(eU p.cn [58]).length+(eU p.word [44]).length:=by simp[yC]
     refine cz ?_
     refine aG (lQ (e:=[58]) (hB.skip (by omega) ?_) (by omega) hw2.1 (by have:=hw2.2;omega) (by simp only[List.length_append,List.length_cons,List.length_nil];omega)) ?_
     ·exact fun y hy=>bx
     rintro _ H3 n3 ⟨hn3,hB3,ho⟩
     have hr:bo H3 (n+1+1+1)=some (.row 102 2 (gl true [.int .i64 0, .int .i64 0]) [.agg p.cells]):=(ho _ (by omega) (by omega) (by
      intro d es
      rw[show bo _ (n+1+1+1)=some (fA.row 102 2 (gl true [.int .i64 0, .int .i64 0]) [.agg p.cells]) from bt]
      simp)).trans bt
     refine cz ?_
     refine aG (lQ (e:=[44]) (hB3.skip (by omega) ?_) (by omega) hw3.1 (by have:=hw3.2;omega) (by simp only[List.length_append,List.length_cons,List.length_nil];omega)) ?_
     ·exact fun y hy=>bx
     rintro _ H4 n4 ⟨hn4,hB4,_⟩
     refine cz ?_
     exact⟨j+1,by omega,cG,by omega,by omega,by rw[hnx2,yC,<-List.append_assoc,<-List.append_assoc];exact hB4.skip (by omega) fun y hy=>bx⟩
    ·obtain rfl:j=m.cC.length:=by omega
     rw[List.take_length] at hB
     have hne:gz m≠[]:=by
      intro e
      have:=congrArg List.length e
      rw[xq] at this
      simp at this
     change Bd 3 (gz m) H n at hB
     obtain⟨A,d,hA,⟨h0,_⟩|⟨q,d2,hq,hqb,hr,hr2⟩⟩:=hB
     ·exact absurd h0 hne
     refine cz ?_
     refine aG (B5 (q:=q) (d:=d) (d2:=d2) (A:=A) (l:=gz m) ?_ ?_ hne) ?_
     ·exact bt
     ·exact bt
     rintro _ H4 n4 ⟨rfl,rfl,rfl⟩
     refine cz ?_
     exact⟨rfl⟩
end Go.Proofs.YtekfmjjmihomlaaGreatDoor
namespace Go.Proofs.YtekfmjjmihomlaaGreatDoor
open Go Go.cw Go.Proofs
open Go.Lib (itoa)
set_option linter.unusedSimpArgs false
set_option linter.unusedVariables false
abbrev MS.av (u:bq) (m:MS):AV:= .agg (m.cells u)
end Go.Proofs.YtekfmjjmihomlaaGreatDoor
namespace Go.Proofs.YtekfmjjmihomlaaGreatDoor
open Go Go.cw Go.Proofs
set_option linter.unusedSimpArgs false
set_option linter.unusedVariables false
structure c8 where
 m:MS
 from_:Int
 cn:Int
 deriving Inhabited,DecidableEq
abbrev jV (l:List c8):List (List UInt8):=l.map fun f=>gz f.m
def yO (u:bq) (most k t:Nat) (l:List c8):Option (List c8):=
 if(l.getD k default).m.l3 u t≠0 then some l
 else if gz ((l.getD k default).m.step u t).1∈jV l then some l
 else if l.length=most then none
 else some (l++[⟨((l.getD k default).m.step u t).1,k,t⟩])
def yG (u:bq) (most k:Nat):List Nat->List c8->Option (List c8)
 |[],l=>some l
 |t::ts,l=>match yO u most k t l with
  |none=>none
  |some l'=>yG u most k ts l'
def vM (u:bq) (most:Nat):Nat->Nat->List c8->Option (List c8)
 |0,_,l=>some l
 |n+1,k,l=>if k<l.length then(match yG u most k (List.range u.br.length) l with
  |none=>none
  |some l'=>vM u most n (k+1) l') else some l
def kX (u:bq):List c8:=[⟨eC u,-1,0⟩]
def jf (u:bq) (most:Nat):Option (List c8):=vM u most most 0 (kX u)
structure jv (u:bq) (l:List c8):Prop where
 pos:0<l.length
 first:l.getD 0 default=⟨eC u,-1,0⟩
 ok:∀i,i<l.length->ep u (l.getD i default).m/\(l.getD i default).m.cC.length<=i
 RO:∀i,0<i->i<l.length->∃k t:Nat,k<i/\t<u.br.length/\(l.getD k default).m.l3 u t=0/\l.getD i default=⟨((l.getD k default).m.step u t).1,k,t⟩
 keys:(jV l).Nodup
theorem sE (u:bq) (m:MS) (t:Nat):(m.step u t).1.cC.length<=m.cC.length+1:=by
 show((m.act t (m.node u t)).1).cC.length<=_
 generalize m.node u t=n
 unfold MS.act
 repeat' split
 all_goals first
  |exact Nat.le_succ _
  |(simp only[List.length_append,List.length_cons,List.length_nil];exact Nat.le_refl _)
theorem fq {α:Type} {l:List α} {x d:α} {i:Nat} (h:i<l.length):(l++[x]).getD i d=l.getD i d:=by simp[List.getD,List.getElem?_append,h]
theorem tx {α:Type} {l:List α} {x d:α}:(l++[x]).getD l.length d=x:=by simp[List.getD]
theorem jv.init (u:bq) (hu:u.Wf) (hr:cN u):jv u (kX u) where
 pos:=by simp[kX]
 first:=rfl
 ok:=fun i hi=>by
  have:i=0:=by simp[kX] at hi;omega
  subst this
  exact⟨GU u hr (fun d hd=>(hu.shared d hd).word) fun t ht=>(hr.gr ht).len.1,Nat.le_refl _⟩
 RO:=fun i hi h=>by simp[kX] at h;omega
 keys:=by simp[jV,kX]
theorem jv.add {u:bq} {l:List c8} (hu:u.Wf) (hr:cN u) (h:jv u l) {k t:Nat} (hk:k<l.length) (ht:t<u.br.length) (hb:(l.getD k default).m.l3 u t=0) (hn:gz ((l.getD k default).m.step u t).1∉jV l):jv u (l++[⟨((l.getD k default).m.step u t).1,k,t⟩]) where
 pos:=by simp
 first:=by rw[fq h.pos];exact h.first
 ok:=fun i hi=>by
  rw[List.length_append] at hi
  by_cases e:i<l.length
  ·rw[fq e];exact h.ok i e
  ·have:i=l.length:=by simp at hi;omega
   subst this
   rw[tx]
   obtain⟨h1,h2⟩:=h.ok k hk
   refine⟨nz hu hr h1 ht (jH h1 ht hb).1, ?_⟩
   have:=sE u (l.getD k default).m t
   dsimp only
   omega
 RO:=fun i h0 hi=>by
  rw[List.length_append] at hi
  by_cases e:i<l.length
  ·obtain⟨k',t',h1,h2,h3,h4⟩:=h.RO i h0 e
   refine⟨k',t',h1,h2, ?_, ?_⟩
   ·rw[fq (by omega)];exact h3
   ·rw[fq e,fq (by omega)];exact h4
  ·have:i=l.length:=by simp at hi;omega
   subst this
   refine⟨k,t,hk,ht, ?_, ?_⟩
   ·rw[fq hk];exact hb
   ·rw[tx,fq hk]
 keys:=by
  simp only[jV,List.map_append,List.map_cons,List.map_nil]
  refine List.nodup_append.2 ⟨h.keys,by simp,fun a ha b hb2=> ?_⟩
  simp only[List.mem_cons,List.not_mem_nil,or_false] at hb2
  subst hb2
  intro e
  exact hn (e▸ha)
theorem TX {u:bq} {l l':List c8} {most k t:Nat} (hu:u.Wf) (hr:cN u) (h:jv u l) (hl:l.length<=most) (hk:k<l.length) (ht:t<u.br.length) (he:yO u most k t l=some l'):jv u l'/\l'.length<=most/\l<+:l':=by
 unfold yO at he
 split at he
 ·cases he;exact⟨h,hl,List.prefix_refl _⟩
 rename_i h1
 split at he
 ·cases he;exact⟨h,hl,List.prefix_refl _⟩
 rename_i h2
 split at he
 ·cases he
 ·cases he
  refine⟨h.add hu hr hk ht (by omega) h2, ?_,List.prefix_append _ _⟩
  simp only[List.length_append,List.length_cons,List.length_nil];omega
theorem G6 {u:bq} {most k:Nat} (hu:u.Wf) (hr:cN u):∀{ts:List Nat} {l l':List c8},jv u l->l.length<=most->k<l.length->(∀t∈ts,t<u.br.length)->yG u most k ts l=some l'->jv u l'/\l'.length<=most/\l<+:l'
 |[],l,l',h,hl,hk,ht,he=>by cases he;exact⟨h,hl,List.prefix_refl _⟩
 |t::ts,l,l',h,hl,hk,ht,he=>by
  rw[yG] at he
  split at he
  ·cases he
  ·rename_i l2 h2
   obtain⟨g1,g2,g3⟩:=TX hu hr h hl hk (ht t (by simp)) h2
   obtain⟨q1,q2,q3⟩:=G6 hu hr g1 g2 (Nat.lt_of_lt_of_le hk g3.length_le) (fun x hx=>ht x (by simp[hx])) he
   exact⟨q1,q2,g3.trans q3⟩
theorem FX {u:bq} {most:Nat} (hu:u.Wf) (hr:cN u):∀{n k:Nat} {l l':List c8},jv u l->l.length<=most->vM u most n k l=some l'->jv u l'/\l'.length<=most/\l<+:l'
 |0,k,l,l',h,hl,he=>by cases he;exact⟨h,hl,List.prefix_refl _⟩
 |n+1,k,l,l',h,hl,he=>by
  rw[vM] at he
  split at he
  ·rename_i hk
   split at he
   ·cases he
   ·rename_i l2 h2
    obtain⟨g1,g2,g3⟩:=G6 hu hr h hl hk (fun t ht=>List.mem_range.1 ht) h2
    obtain⟨q1,q2,q3⟩:=FX hu hr g1 g2 he
    exact⟨q1,q2,g3.trans q3⟩
  ·cases he;exact⟨h,hl,List.prefix_refl _⟩
theorem sY {u:bq} {most:Nat} {l:List c8} (hu:u.Wf) (hr:cN u) (hm:1<=most) (h:jf u most=some l):jv u l/\l.length<=most/\kX u<+:l:=FX hu hr (jv.init u hu hr) hm h
end Go.Proofs.YtekfmjjmihomlaaGreatDoor
