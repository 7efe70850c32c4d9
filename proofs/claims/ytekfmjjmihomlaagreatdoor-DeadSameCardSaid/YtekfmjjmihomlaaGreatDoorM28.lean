import Derived.Test.YtekfmjjmihomlaaGreatDoorM26
import Derived.Test.YtekfmjjmihomlaaGreatDoorM27
import Derived.Shelf.Spec.TrailingZeros
import Derived.Test.YtekfmjjmihomlaaGreatDoorProg
import Derived.Test.YtekfmjjmihomlaaGreatDoorM23
namespace Go.Proofs.YtekfmjjmihomlaaGreatDoor
open Go Go.cw Go.Proofs
set_option linter.unusedSimpArgs false
set_option linter.unusedVariables false
theorem tn {α:Type} (F:List Int->α) (n:Node) (h:n.kind=8->F [n.next,n.next]=F [n.next]):F n.fold=F n.iA:=by
 unfold Node.fold Node.iA
 by_cases h9:n.kind=9
 ·rw[if_pos h9,if_pos h9]
 ·rw[if_neg h9,if_neg h9]
  by_cases h8:n.kind=8
  ·rw[if_pos h8]
   by_cases he:n.iu=n.next
   ·rw[if_neg (fun h=>h.2 he),he,h h8]
   ·rw[if_pos ⟨h8,he⟩]
  ·rw[if_neg h8,if_neg (fun h=>h8 h.1)]
theorem KE {g:bu} (hw:Whole g) {i:Nat} (hi:i<g.nodes.length) (s:List Bool×List Int) (hs:s.1.length=g.nodes.length):kb (g.nd i).fold s=kb (g.nd i).iA s:=
 tn (fun l=>kb l s) (g.nd i) fun h8=>FD _ s (by
  rw[hs]
  refine((hw.2.2 i hi).2.2 _ ?_).2
  unfold Node.iA
  rw[if_neg (by omega),if_pos h8];simp)
theorem S9 {α:Type} {n i:Nat} {x:α}:(List.replicate n x).getD i x=x:=by
 simp only[List.getD,List.getElem?_replicate];split<;>rfl
theorem F1 {l:List Bool} {k:Int} (d:AV) (h:k.toNat<l.length):(l.map bl).getD k.toNat d=bl (ji l k):=by
 rw[show ji l k=l.getD k.toNat default from rfl];exact dN bl l _ d h
theorem tL {l:List Bool} {k:Nat} (v:Bool):(l.map bl).set k (bl v)=(l.set k v).map bl:=by rw[List.map_set]
theorem jk (l:List Int) (k:Int):l.map i64++[i64 k]=(l++[k]).map i64:=by simp
theorem KD (s:List Bool×List Int) (l:List Int) {j:Nat} (h:j<l.length):kb (l.drop j) s=if ji s.1 (l.getD j 0)=false then kb (l.drop (j+1)) (s.1.set (l.getD j 0).toNat true,s.2++[l.getD j 0]) else kb (l.drop (j+1)) s:=by
 rw[List.drop_eq_getElem_cons h,kb,gd h]
set_option maxHeartbeats 1000000 in
theorem sD (g:bu) (hg:g.Wf) (hw:Whole g) (cut:Int) (hcut:eW cut):Pure Tryz.prog 88 [g.av,i64 cut] (fun r=>r=ju (dW g cut)):=by
 refine kN (by simp[cF,cI]) ?_
 refine aJ OW rfl ?_
 have hl:=hg.len
 have hl0:=hw.1
 have hl1:=hw.2.1
 unfold eW at hcut
 repeat' (first|refine aQ ?_|exact dR|with_reducible refine aB ?_ ?_|((with_reducible refine Ask.mk ?_);first|exact cW|exact cJ|(intro h;simp_all[bu.cells]<;>fail)|(simp_all[bu.cells]<;>fail))|(apply aA;(·(first|exact S9|exact bz)))|refine aH ?_|((with_reducible refine aE ?_ ?_)<;>intro hc<;>try(exfalso;omega)))
 have e5:(List.replicate ((g.nodes.map Node.av).length:Int).toNat (AV.sc (.bool false))).set (0:Int).toNat (AV.sc (.bool true))=((List.replicate g.nodes.length false).set 0 true).map bl:=by
  simp[List.map_set]
 refine aT (fun s:List Bool×List Int×Nat=>[(1,i64 cut),(2, .pt 0 1 0 0),(5, .sl 5 g.nodes.length),(6, .sl s.2.2 s.2.1.length)])
  (fun s H n=>12<=n/\5<s.2.2/\s.2.2<n/\(∃d,bo H 0=some (.row 45 4 d [g.av]))/\(∃d,bo H 5=some (.row 4 1 d (s.1.map bl)))/\(∃d,bo H s.2.2=some (.row 3 1 d (s.2.1.map i64)))/\mJ g cut s.1 s.2.1/\s.2.1.length+s.1.count false<=g.nodes.length)
  (fun s=>s.2.1.length+s.1.count false) ((List.replicate g.nodes.length false).set 0 true,[0],10) ⟨_,_,_,Rt.refl _ _ _,(by simp only[List.length_map];exact cG),cU,cU,cU,⟨_,bt⟩,⟨_,by rw[<-e5];exact bt⟩,⟨_,bt⟩,mJ.start hw, ?_⟩ ?_
 ·have:=count_set (l:=List.replicate g.nodes.length false) (i:=0) (by simp;omega) (by simp[List.getD,List.getElem?_replicate];split<;>rfl)
  simp only[List.count_replicate_self] at this
  simp only[List.length_cons,List.length_nil]
  omega
 rintro⟨out,todo,tb⟩ H n ⟨hn,ht5,htn,⟨d0,r0⟩,⟨d5,r5⟩,⟨dt,rt⟩,hgo,hcnt⟩
 dsimp only at ht5 htn r5 rt hgo hcnt ⊢
 have hol:=hgo.len
 by_cases hne:todo=[]
 ·subst hne
  have e1:=hgo.fin hw
  repeat' (first|refine aQ ?_|exact aC|with_reducible refine aB ?_ ?_|(apply aA;(·exact bz))|refine aH ?_|((with_reducible refine aE ?_ ?_)<;>intro hc<;>try(exfalso;omega)))
  refine⟨.inr ?_⟩
  rw[<-e1]
  refine(dv bt (by simp[hol])).trans ?_
  rw[cu _ (n9 _ _)]
 ·obtain⟨a,x,rfl⟩:∃a x,todo=a++[x]:=⟨todo.dropLast,todo.getLast hne,(List.dropLast_concat_getLast hne).symm⟩
  obtain⟨x0,x1,x2⟩:=hgo.inr x (by simp)
  have x1o:=x1
  rw[hol] at x1
  have hla:(a++[x]).length=a.length+1:=by simp
  have hml:((a++[x]).map i64).length=a.length+1:=by simp
  have htk:(((a++[x]).map i64).drop 0).take a.length=a.map i64:=by simp
  rw[hla] at hcnt ⊢
  have e1:∀d,((a++[x]).map i64).getD (((a.length+1:Nat):Int) - 1).toNat d=i64 x:=fun d=>by
   rw[show(((a.length+1:Nat):Int) - 1).toNat=a.length by omega,List.map_append]
   simp[List.getD]
  have hf:=lj (g.nd x.toNat)
  unfold gy at hf
  repeat' (first|refine aQ ?_|exact dR|with_reducible refine aB ?_ ?_|((with_reducible refine Ask.mk ?_);first|exact cW|(exact hml)|exact cJ|(intro h;simp_all[bu.cells,Node.cells]<;>fail)|(simp_all[bu.cells,Node.cells]<;>fail))|(apply aA;(·(first|exact gh x1 _|exact e1 _|exact bz)))|refine aK (hf) ?_|refine aH ?_|((with_reducible refine aE ?_ ?_)<;>intro hc<;>try(exfalso;omega)))
  ·rename_i hxc
   have hxc:x=cut:=hc
   subst hxc
   refine⟨(out,a,_), ?_,_,_,_,Rt.part (d2:=dt) (l:=(a++[x]).map i64) (n:=a.length) 6 rfl bt hml (by omega),cG,cU,cU,cU,⟨_,bt⟩,⟨_,bt⟩,⟨.any,by rw[<-htk];exact bt⟩,(by have:=hgo.cut (a:=a) (b:=[]) rfl;rwa[List.append_nil] at this),(by dsimp only;omega)⟩
   dsimp only
   omega
  ·have hxc:¬x=cut:=hc
   simp only[List.length_map]
   clear hf
   refine aT (fun q:(List Bool×List Int)×Nat×Nat=>[(1,i64 cut),(2, .pt 0 1 0 0),(5, .sl 5 g.nodes.length),(6, .sl q.2.1 q.1.2.length),(39,gy (g.nd x.toNat).fold),(40,i64 (g.nd x.toNat).fold.length),(41,i64 q.2.2)])
    (fun q H2 n2=>q.2.2<=(g.nd x.toNat).fold.length/\n<=n2/\5<q.2.1/\q.2.1<n2/\(∃d,bo H2 0=some (.row 45 4 d [g.av]))/\(∃d,bo H2 5=some (.row 4 1 d (q.1.1.map bl)))/\(∃d,bo H2 q.2.1=some (.row 3 1 d (q.1.2.map i64)))/\q.1.1.length=g.nodes.length/\kb ((g.nd x.toNat).fold.drop q.2.2) q.1=kb (g.nd x.toNat).fold (out,a)/\q.1.2.length+q.1.1.count false<=g.nodes.length)
    (fun q=>(g.nd x.toNat).fold.length - q.2.2) ((out,a),_,0) ⟨_,_,_,Rt.part (d2:=dt) (l:=(a++[x]).map i64) (n:=a.length) 6 rfl bt hml (by omega),cG,Nat.zero_le _,cU,cU,cU,⟨_,bt⟩,⟨_,bt⟩,⟨.any,by rw[<-htk];exact bt⟩,hol,rfl,(by dsimp only;omega)⟩ ?_
   have hfl:=mh (g.nd x.toNat)
   clear r0 r5 rt
   rintro⟨⟨o2,t2⟩,b2,j⟩ H2 n2 ⟨hj,hn2,hb5,hbn,⟨d02,r0⟩,⟨d52,r5⟩,⟨dt2,rt⟩,ho2,hsp,hc2⟩
   dsimp only at hj hn2 hb5 hbn r5 rt ho2 hsp hc2 ⊢
   unfold gy
   by_cases hjl:j<(g.nd x.toNat).fold.length
   ·have hm:=iQ.1 (cR 0 hjl)
    obtain⟨k0,k1⟩:=(hw.2.2 x.toNat x1).2.2 _ hm
    have hk:(((g.nd x.toNat).fold.getD j 0).toNat:Int)=(g.nd x.toNat).fold.getD j 0:=by omega
    have ek:=fun d=>F1 (l:=o2) (k:=(g.nd x.toNat).fold.getD j 0) d (by rw[ho2];exact k1)
    rw[KD _ _ hjl] at hsp
    have hol2:(o2.map bl).length=g.nodes.length:=by simp[ho2]
    have htl:(t2.map i64).length=t2.length:=by simp
    cases hfd:ji o2 ((g.nd x.toNat).fold.getD j 0) with
    |true=>
     rw[if_neg (by rw[hfd];decide)] at hsp
     rw[hfd] at ek
     repeat' (first|refine aQ ?_|exact dR|with_reducible refine aB ?_ ?_|((with_reducible refine Ask.mk ?_);first|exact cW|(exact hol2)|exact cJ)|(apply aA;(·(first|exact kY hjl _|exact ek _|exact bz)))|refine aH ?_|((with_reducible refine aE ?_ ?_)<;>intro hc<;>try(exfalso;omega)))
     exact⟨((o2,t2),b2,j+1),by dsimp only;omega,_,_,_,Rt.refl _ _ _,cG,by dsimp only;omega,cU,hb5,cU,⟨_,bt⟩,⟨_,bt⟩,⟨_,bt⟩,ho2,hsp,hc2⟩
    |false=>
     rw[if_pos hfd] at hsp
     rw[hfd] at ek
     have hct:=count_set (l:=o2) (i:=((g.nd x.toNat).fold.getD j 0).toNat) (by rw[ho2];exact k1) hfd
     repeat' (first|refine aQ ?_|exact dR|with_reducible refine aB ?_ ?_|((with_reducible refine Ask.mk ?_);first|exact cW|(exact hol2)|exact cJ)|(apply aA;(·(first|exact kY hjl _|exact ek _|exact bz)))|refine aH ?_|((with_reducible refine aE ?_ ?_)<;>intro hc<;>try(exfalso;omega)))
     refine⟨((o2.set ((g.nd x.toNat).fold.getD j 0).toNat true,t2++[(g.nd x.toNat).fold.getD j 0]),b2,j+1),by dsimp only;omega,_,_,_,Rt.refl _ _ _,cG,by dsimp only;omega,cU,hb5,cU,⟨_,bt⟩,⟨_,by rw[<-tL];exact bt⟩,⟨_,by rw[<-jk];exact bt⟩,by simp[ho2],hsp, ?_⟩
     simp only[List.length_append,List.length_cons,List.length_nil]
     omega
   ·have:j=(g.nd x.toNat).fold.length:=by omega
    subst this
    rw[List.drop_eq_nil_of_le (Nat.le_refl _),kb,KE hw x1 _ hol] at hsp
    have sp:=kP (g.nd x.toNat).iA (out,a) (fun k hk=>by have:=(hw.2.2 x.toNat x1).2.2 k hk;rw[<-hol] at this;exact this)
    rw[<-hsp] at sp
    obtain⟨t',e1,_,_,e4⟩:=sp.more
    dsimp only at e1 e4
    have hon:=hgo.on hw (a:=a) (b:=[]) rfl hxc (t:=a) hsp.symm e1
    rw[List.append_nil,<-e1] at hon
    have hlt:t2.length=a.length+t'.length:=by rw[e1,List.length_append]
    repeat' (first|refine aQ ?_|exact aC|with_reducible refine aB ?_ ?_|(apply aA;(·exact bz))|refine aH ?_|((with_reducible refine aE ?_ ?_)<;>intro hc<;>try(exfalso;omega)))
    exact⟨(o2,t2,b2),by dsimp only;omega,_,_,_,Rt.refl _ _ _,cG,cU,hb5,cU,⟨_,bt⟩,⟨_,bt⟩,⟨_,bt⟩,hon,hc2⟩
end Go.Proofs.YtekfmjjmihomlaaGreatDoor
namespace Go.Proofs
open Go.Shelf
def Tryz.DX:Go.Shelf.Ren:=⟨fun|28=>136|n=>n,fun|27=>166|3=>3|4=>4|25=>99|53=>237|0=>0|5=>5|n=>n,fun|0=>0|n=>n⟩
theorem Tryz.VW:Go.Proofs.Lays7.n28 Tryz.prog Tryz.DX:={
 mixed:=by kernel_rfl
 f28:=Tryz.func136.trans (congrArg some (by kernel_rfl))
 t0:=Tryz.underlying0
 a0:=Tryz.isAgg0
 z0:=Tryz.sizeOf0
 v0:=Tryz.zeroValue0
 i0:=by kernel_rfl
 t3:=Tryz.underlying3
 a3:=Tryz.isAgg3
 z3:=Tryz.sizeOf3
 v3:=Tryz.zeroValue3
 i3:=by kernel_rfl
 t4:=Tryz.underlying4
 a4:=Tryz.isAgg4
 z4:=Tryz.sizeOf4
 v4:=Tryz.zeroValue4
 i4:=by kernel_rfl
 t5:=Tryz.underlying5
 a5:=Tryz.isAgg5
 z5:=Tryz.sizeOf5
 v5:=Tryz.zeroValue5
 i5:=by kernel_rfl
 t25:=Tryz.underlying99
 a25:=Tryz.isAgg99
 z25:=Tryz.sizeOf99
 v25:=Tryz.zeroValue99
 i25:=by kernel_rfl
 t27:=Tryz.underlying166
 a27:=Tryz.isAgg166
 z27:=Tryz.sizeOf166
 v27:=Tryz.zeroValue166
 i27:=by kernel_rfl
 t53:=Tryz.underlying237
 a53:=Tryz.isAgg237
 z53:=Tryz.sizeOf237
 v53:=Tryz.zeroValue237
 i53:=by kernel_rfl
 g0:=by kernel_rfl }
open Go.RowKit Go.Lib in
theorem Tryz.ZO (x:Nat) (hx:x<4294967296) (w:World) (hT:x≠0->TabAt 0 Lib.deBruijn32tab w):
 Calls Tryz.prog 136 #[.int .u32 x] w fun e w'=>e= .returned (.int .i64 (Lib.ctz 32 x))/\w'=w:=Any7.bits_TrailingZeros32 Tryz.VW x hx w hT
end Go.Proofs
namespace Go.Proofs.YtekfmjjmihomlaaGreatDoor
open Go Go.cw Go.Proofs
set_option linter.unusedSimpArgs false
set_option linter.unusedVariables false
abbrev u32 (n:Nat):AV:= .sc (.int .u32 (n:Int))
theorem T1 (x:Nat) (hx:x<4294967296):Pure Tryz.prog 136 [u32 x] (fun r=>r=i64 (ctz x)):=by
 refine⟨⟨_,Tryz.func136,by kernel_rfl,by kernel_rfl⟩,fun M w vs hM hv=> ?_⟩
 rw[cj] at hv
 obtain⟨v,vs',rfl,h1,h2⟩:=hv
 rw[VR] at h1
 rw[cj] at h2
 subst h1
 subst h2
 refine(Tryz.ZO x hx w fun _=>(hM.YF (0,_) (by unfold WK;exact List.mem_singleton_self _)).2.2).mono ?_
 rintro e w' ⟨rfl,rfl⟩
 exact⟨_,_,rfl,rfl,by simp[cF],by rw[VR], .refl _ _⟩
theorem wrap32 {n:Int} (h1:0<=n) (h2:n<4294967296):IntKind.u32.wrap n=n:=by rw[wrap_u32'];omega
theorem FY {a b:Nat} (ha:a<4294967296) (hb:b<4294967296):IntKind.u32.wrap (BitVec.ofInt IntKind.u32.bits (a:Int)&&& BitVec.ofInt IntKind.u32.bits (b:Int)).toNat=((a&&& b:Nat):Int):=bits_and_u32_nat a b ha hb
theorem V4 {a b:Nat} (ha:a<4294967296) (hb:b<4294967296):IntKind.u32.wrap (BitVec.ofInt IntKind.u32.bits (a:Int)|||BitVec.ofInt IntKind.u32.bits (b:Int)).toNat=((a|||b:Nat):Int):=by
 have hx:a|||b<2^32:=Nat.or_lt_two_pow (by omega) (by omega)
 have h1:(BitVec.ofInt IntKind.u32.bits (a:Int)).toNat=a:=by
  show(BitVec.ofInt 32 (a:Int)).toNat=a
  rw[BitVec.ofInt_natCast,BitVec.toNat_ofNat];exact Nat.mod_eq_of_lt (by omega)
 have h2:(BitVec.ofInt IntKind.u32.bits (b:Int)).toNat=b:=by
  show(BitVec.ofInt 32 (b:Int)).toNat=b
  rw[BitVec.ofInt_natCast,BitVec.toNat_ofNat];exact Nat.mod_eq_of_lt (by omega)
 rw[BitVec.toNat_or,h1,h2,wrap32 (by omega) (by omega)]
theorem PZ {x:Nat} (h0:x≠0) (hx:x<4294967296):IntKind.u32.wrap ((x:Int) - 1)=((x - 1:Nat):Int):=by
 rw[wrap32 (by omega) (by omega)];omega
theorem JM (x:Nat) (hx:x<65536):cQ Tryz.prog 120 [u32 x] [] 0 (fun r H n=>∃b d,r= .sl b (bits x).length/\bo H b=some (.row 3 1 d ((bits x).map i64))):=by
 refine aJ zt rfl ?_
 repeat' (first|refine aQ ?_|exact aC|with_reducible refine aB ?_ ?_|(apply aA;(·exact bz))|refine aH ?_|((with_reducible refine aE ?_ ?_)<;>intro hc<;>try(exfalso;omega)))
 refine aT (fun s:Nat×List Int=>[(0,u32 s.1),(3, .sl 2 s.2.length)])
  (fun s H n=>3<=n/\s.1<=x/\s.2++bits s.1=bits x/\s.2.length+s.1<=x/\∃d,bo H 2=some (.row 3 1 d (s.2.map i64)))
  (fun s=>s.1) (x,[]) ⟨_,_,_,Rt.nil 3 3 1 (by omega) rfl,cG,cU,Nat.le_refl _,rfl,by simp,⟨_,bt⟩⟩ ?_
 rintro⟨y,l⟩ H n ⟨hn,hy,hb,hlen,⟨d,r2⟩⟩
 dsimp only at hy hb hlen r2 ⊢
 by_cases h0:y=0
 ·subst h0
  repeat' (first|refine aQ ?_|exact aC|with_reducible refine aB ?_ ?_|(apply aA;(·exact bz))|refine aH ?_|((with_reducible refine aE ?_ ?_)<;>intro hc<;>try(exfalso;omega)))
  rw[show bits 0=[] from rfl,List.append_nil] at hb
  rw[<-hb]
  exact⟨⟨2,d,rfl,bt⟩⟩
 ·rw[qe h0] at hb
  have hp:=pred_lt h0
  have e1:=PZ h0 (show y<4294967296 by omega)
  have e2:=FY (show y<4294967296 by omega) (show y - 1<4294967296 by omega)
  have ht:=T1 y (by omega)
  repeat' (first|refine aQ ?_|exact aC|with_reducible refine aB ?_ ?_|(apply aA;(·exact bz))|refine aK (ht) ?_|(simp only[e1])|(simp only[e2])|refine aH ?_|((with_reducible refine aE ?_ ?_)<;>intro hc<;>try(exfalso;omega)))
  exact⟨(y&&& (y - 1),l++[(ctz y:Int)]),hp,_,_,_,Rt.refl _ _ _,cG,cU,by dsimp only;omega,by dsimp only;rw[<-hb];simp,by dsimp only;simp only[List.length_append,List.length_cons,List.length_nil];omega,⟨_,by dsimp only;rw[<-jk];exact bt⟩⟩
theorem w8 (x:Nat) (hx:x<65536):Pure Tryz.prog 120 [u32 x] (fun r=>r=gy (bits x)):=by
 refine dO ((JM x hx).mono ?_) (by simp[gy,cF,cI])
 rintro r H n ⟨b,d,rfl,hb⟩
 rw[dv hb (by simp),cu _ (MC _ _)];rfl
theorem yN (n:Node):Pure Tryz.prog 135 [n.av] (fun r=>r=bl (HB n)):=by
 refine aD AH rfl ?_
 repeat' (first|refine aQ ?_|exact dR|with_reducible refine aB ?_ ?_|((with_reducible refine Ask.mk ?_);first|exact cW|exact cJ|(intro h;simp_all[Node.cells]<;>fail)|(simp_all[Node.cells]<;>fail))|(apply aA;(·exact bz))|refine aH ?_|((with_reducible refine aE ?_ ?_)<;>intro hc<;>try(exfalso;omega)))
 all_goals
  refine dZ ?_
  unfold HB
  by_cases h2:n.kind=2<;>by_cases h3:n.kind=3<;>by_cases h4:n.kind=4<;>simp_all
theorem CZ (p:Nat×Nat) (h1:p.1<256) (h2:p.2<65536):Pure Tryz.prog 86 [.agg [u32 p.1,u32 p.2]] (fun r=>r=(tQ p).av):=by
 refine aD OU rfl ?_
 obtain⟨T,G0⟩:=p
 dsimp only at h1 h2 ⊢
 unfold tQ
 by_cases h0:T=0
 ·subst h0
  repeat' (first|refine aQ ?_|exact aC|with_reducible refine aB ?_ ?_|(apply aA;(·exact bz))|refine aH ?_|((with_reducible refine aE ?_ ?_)<;>intro hc<;>try(exfalso;omega)))
  exact FQ.eq (u:=(⟨0,0,0⟩:cY).av) (by simp[cF,cT,cY.cells]) rfl
 ·have e1:=PZ h0 (show T<4294967296 by omega)
  have e2:=FY (show T<4294967296 by omega) (show T - 1<4294967296 by omega)
  dsimp only
  rw[if_neg h0]
  have l1:=w8 T (by omega)
  rw[qe h0] at l1
  unfold gy at l1
  rw[List.map_cons] at l1
  by_cases hz:T&&& (T - 1)=0
  ·rw[if_pos hz]
   rw[hz] at e2 l1
   repeat' (first|refine aQ ?_|exact aC|with_reducible refine aB ?_ ?_|(apply aA;(·exact bz))|refine aK (l1) ?_|(simp only[e1])|(simp only[e2])|refine aH ?_|((with_reducible refine aE ?_ ?_)<;>intro hc<;>try(exfalso;omega)))
   exact FQ.eq (by simp[cF,cT,cY.cells]) rfl
  ·rw[if_neg hz]
   by_cases hg:G0=0
   ·subst hg
    rw[if_neg (by simp)]
    repeat' (first|refine aQ ?_|exact aC|with_reducible refine aB ?_ ?_|(apply aA;(·exact bz))|refine aK (l1) ?_|(simp only[e1])|(simp only[e2])|refine aH ?_|((with_reducible refine aE ?_ ?_)<;>intro hc<;>try(exfalso;omega)))
    exact FQ.eq (by simp[cF,cT,cY.cells]) rfl
   ·rw[if_pos hg]
    have l2:=w8 G0 h2
    rw[qe hg] at l2
    unfold gy at l2
    rw[List.map_cons] at l2
    repeat' (first|refine aQ ?_|exact aC|with_reducible refine aB ?_ ?_|(apply aA;(·exact bz))|refine aK (l1) ?_|refine aK (l2) ?_|(simp only[e1])|(simp only[e2])|refine aH ?_|((with_reducible refine aE ?_ ?_)<;>intro hc<;>try(exfalso;omega)))
    exact FQ.eq (by simp[cF,cT,cY.cells]) rfl
end Go.Proofs.YtekfmjjmihomlaaGreatDoor
