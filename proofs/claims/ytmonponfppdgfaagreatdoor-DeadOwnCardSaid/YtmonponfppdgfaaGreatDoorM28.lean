import Derived.Test.YtmonponfppdgfaaGreatDoorM26
import Derived.Test.YtmonponfppdgfaaGreatDoorM27
import Derived.Shelf.Spec.TrailingZeros
import Derived.Test.YtmonponfppdgfaaGreatDoorProg
import Derived.Test.YtmonponfppdgfaaGreatDoorM23
namespace Go.Proofs.YtmonponfppdgfaaGreatDoor
open Go Go.dD Go.Proofs
set_option linter.unusedSimpArgs false
set_option linter.unusedVariables false
theorem rW {α:Type} (F:List Int->α) (n:Node) (h:n.kind=8->F [n.next,n.next]=F [n.next]):F n.fold=F n.dQ:=by
 unfold Node.fold Node.dQ
 by_cases h9:n.kind=9
 ·rw[if_pos h9,if_pos h9]
 ·rw[if_neg h9,if_neg h9]
  by_cases h8:n.kind=8
  ·rw[if_pos h8]
   by_cases he:n.jc=n.next
   ·rw[if_neg (fun h=>h.2 he),he,h h8]
   ·rw[if_pos ⟨h8,he⟩]
  ·rw[if_neg h8,if_neg (fun h=>h8 h.1)]
theorem DJ {g:br} (hw:Whole g) {i:Nat} (hi:i<g.nodes.length) (s:List Bool×List Int) (hs:s.1.length=g.nodes.length):j8 (g.nd i).fold s=j8 (g.nd i).dQ s:=
 rW (fun l=>j8 l s) (g.nd i) fun h8=>zy _ s (by
  rw[hs]
  refine((hw.2.2 i hi).2.2 _ ?_).2
  unfold Node.dQ
  rw[if_neg (by omega),if_pos h8];simp)
theorem KS {α:Type} {n i:Nat} {x:α}:(List.replicate n x).getD i x=x:=by
 simp only[List.getD,List.getElem?_replicate];split<;>rfl
theorem kF {l:List Bool} {k:Int} (d:AV) (h:k.toNat<l.length):(l.map bl).getD k.toNat d=bl (iF l k):=by
 rw[show iF l k=l.getD k.toNat default from rfl];exact dG bl l _ d h
theorem iK {l:List Bool} {k:Nat} (v:Bool):(l.map bl).set k (bl v)=(l.set k v).map bl:=by rw[List.map_set]
theorem fi (l:List Int) (k:Int):l.map i64++[i64 k]=(l++[k]).map i64:=by simp
theorem ua (s:List Bool×List Int) (l:List Int) {j:Nat} (h:j<l.length):j8 (l.drop j) s=if iF s.1 (l.getD j 0)=false then j8 (l.drop (j+1)) (s.1.set (l.getD j 0).toNat true,s.2++[l.getD j 0]) else j8 (l.drop (j+1)) s:=by
 rw[List.drop_eq_getElem_cons h,j8,gd h]
set_option maxHeartbeats 1000000 in
theorem qR (g:br) (hg:g.Wf) (hw:Whole g) (cut:Int) (hcut:jE cut):Pure Tryz.prog 74 [g.av,i64 cut] (fun r=>r=fE (cj g cut)):=by
 refine oj (by simp[cJ,cK]) ?_
 refine aI HB rfl ?_
 have hl:=hg.len
 have hl0:=hw.1
 have hl1:=hw.2.1
 unfold jE at hcut
 repeat' (first|refine aQ ?_|exact cP|with_reducible refine aB ?_ ?_|((with_reducible refine Ask.mk ?_);first|exact bx|exact bt|(intro h;simp_all[br.cells]<;>fail)|(simp_all[br.cells]<;>fail))|(apply aA;(·(first|exact KS|exact bp)))|refine aH ?_|((with_reducible refine aE ?_ ?_)<;>intro hc<;>try(exfalso;omega)))
 have e5:(List.replicate ((g.nodes.map Node.av).length:Int).toNat (AV.sc (.bool false))).set (0:Int).toNat (AV.sc (.bool true))=((List.replicate g.nodes.length false).set 0 true).map bl:=by
  simp[List.map_set]
 refine aP (fun s:List Bool×List Int×Nat=>[(1,i64 cut),(2, .pt 0 1 0 0),(5, .sl 5 g.nodes.length),(6, .sl s.2.2 s.2.1.length)])
  (fun s H n=>12<=n/\5<s.2.2/\s.2.2<n/\(∃d,bk H 0=some (.row 40 4 d [g.av]))/\(∃d,bk H 5=some (.row 4 1 d (s.1.map bl)))/\(∃d,bk H s.2.2=some (.row 3 1 d (s.2.1.map i64)))/\kB g cut s.1 s.2.1/\s.2.1.length+s.1.count false<=g.nodes.length)
  (fun s=>s.2.1.length+s.1.count false) ((List.replicate g.nodes.length false).set 0 true,[0],10) ⟨_,_,_,Rt.refl _ _ _,(by simp only[List.length_map];exact bu),cI,cI,cI,⟨_,bm⟩,⟨_,by rw[<-e5];exact bm⟩,⟨_,bm⟩,kB.start hw, ?_⟩ ?_
 ·have:=count_set (l:=List.replicate g.nodes.length false) (i:=0) (by simp;omega) (by simp[List.getD,List.getElem?_replicate];split<;>rfl)
  simp only[List.count_replicate_self] at this
  simp only[List.length_cons,List.length_nil]
  omega
 rintro⟨out,todo,tb⟩ H n ⟨hn,ht5,htn,⟨d0,r0⟩,⟨d5,r5⟩,⟨dt,rt⟩,hgo,hcnt⟩
 dsimp only at ht5 htn r5 rt hgo hcnt ⊢
 have hol:=hgo.len
 by_cases hne:todo=[]
 ·subst hne
  have e1:=hgo.fin hw
  repeat' (first|refine aQ ?_|exact aC|with_reducible refine aB ?_ ?_|(apply aA;(·exact bp))|refine aH ?_|((with_reducible refine aE ?_ ?_)<;>intro hc<;>try(exfalso;omega)))
  refine⟨.inr ?_⟩
  rw[<-e1]
  refine(dM bm (by simp[hol])).trans ?_
  rw[cf _ (jd _ _)]
 ·obtain⟨a,x,rfl⟩:∃a x,todo=a++[x]:=⟨todo.dropLast,todo.getLast hne,(List.dropLast_concat_getLast hne).symm⟩
  obtain⟨x0,x1,x2⟩:=hgo.inr x (by simp)
  have x1o:=x1
  rw[hol] at x1
  have hla:(a++[x]).length=a.length+1:=by simp
  have hml:((a++[x]).map i64).length=a.length+1:=by simp
  have htk:(((a++[x]).map i64).drop 0).take a.length=a.map i64:=by simp
  rw[hla] at hcnt ⊢
  have e1:∀d,((a++[x]).map i64).getD (((a.length+1:Nat):Int) - 1).toNat d=i64 x:=fun d=>by
   rw[show(((a.length+1:Nat):Int) - 1).toNat=a.length by omega,List.map_append]
   simp[List.getD]
  have hf:=lQ (g.nd x.toNat)
  unfold dV at hf
  repeat' (first|refine aQ ?_|exact cP|with_reducible refine aB ?_ ?_|((with_reducible refine Ask.mk ?_);first|exact bx|(exact hml)|exact bt|(intro h;simp_all[br.cells,Node.cells]<;>fail)|(simp_all[br.cells,Node.cells]<;>fail))|(apply aA;(·(first|exact eH x1 _|exact e1 _|exact bp)))|refine aK (hf) ?_|refine aH ?_|((with_reducible refine aE ?_ ?_)<;>intro hc<;>try(exfalso;omega)))
  ·rename_i hxc
   have hxc:x=cut:=hc
   subst hxc
   refine⟨(out,a,_), ?_,_,_,_,Rt.part (d2:=dt) (l:=(a++[x]).map i64) (n:=a.length) 6 rfl bm hml (by omega),bu,cI,cI,cI,⟨_,bm⟩,⟨_,bm⟩,⟨.any,by rw[<-htk];exact bm⟩,(by have:=hgo.cut (a:=a) (b:=[]) rfl;rwa[List.append_nil] at this),(by dsimp only;omega)⟩
   dsimp only
   omega
  ·have hxc:¬x=cut:=hc
   simp only[List.length_map]
   clear hf
   refine aP (fun q:(List Bool×List Int)×Nat×Nat=>[(1,i64 cut),(2, .pt 0 1 0 0),(5, .sl 5 g.nodes.length),(6, .sl q.2.1 q.1.2.length),(39,dV (g.nd x.toNat).fold),(40,i64 (g.nd x.toNat).fold.length),(41,i64 q.2.2)])
    (fun q H2 n2=>q.2.2<=(g.nd x.toNat).fold.length/\n<=n2/\5<q.2.1/\q.2.1<n2/\(∃d,bk H2 0=some (.row 40 4 d [g.av]))/\(∃d,bk H2 5=some (.row 4 1 d (q.1.1.map bl)))/\(∃d,bk H2 q.2.1=some (.row 3 1 d (q.1.2.map i64)))/\q.1.1.length=g.nodes.length/\j8 ((g.nd x.toNat).fold.drop q.2.2) q.1=j8 (g.nd x.toNat).fold (out,a)/\q.1.2.length+q.1.1.count false<=g.nodes.length)
    (fun q=>(g.nd x.toNat).fold.length - q.2.2) ((out,a),_,0) ⟨_,_,_,Rt.part (d2:=dt) (l:=(a++[x]).map i64) (n:=a.length) 6 rfl bm hml (by omega),bu,Nat.zero_le _,cI,cI,cI,⟨_,bm⟩,⟨_,bm⟩,⟨.any,by rw[<-htk];exact bm⟩,hol,rfl,(by dsimp only;omega)⟩ ?_
   have hfl:=mJ (g.nd x.toNat)
   clear r0 r5 rt
   rintro⟨⟨o2,t2⟩,b2,j⟩ H2 n2 ⟨hj,hn2,hb5,hbn,⟨d02,r0⟩,⟨d52,r5⟩,⟨dt2,rt⟩,ho2,hsp,hc2⟩
   dsimp only at hj hn2 hb5 hbn r5 rt ho2 hsp hc2 ⊢
   unfold dV
   by_cases hjl:j<(g.nd x.toNat).fold.length
   ·have hm:=iP.1 (cE 0 hjl)
    obtain⟨k0,k1⟩:=(hw.2.2 x.toNat x1).2.2 _ hm
    have hk:(((g.nd x.toNat).fold.getD j 0).toNat:Int)=(g.nd x.toNat).fold.getD j 0:=by omega
    have ek:=fun d=>kF (l:=o2) (k:=(g.nd x.toNat).fold.getD j 0) d (by rw[ho2];exact k1)
    rw[ua _ _ hjl] at hsp
    have hol2:(o2.map bl).length=g.nodes.length:=by simp[ho2]
    have htl:(t2.map i64).length=t2.length:=by simp
    cases hfd:iF o2 ((g.nd x.toNat).fold.getD j 0) with
    |true=>
     rw[if_neg (by rw[hfd];decide)] at hsp
     rw[hfd] at ek
     repeat' (first|refine aQ ?_|exact cP|with_reducible refine aB ?_ ?_|((with_reducible refine Ask.mk ?_);first|exact bx|(exact hol2)|exact bt)|(apply aA;(·(first|exact e9 hjl _|exact ek _|exact bp)))|refine aH ?_|((with_reducible refine aE ?_ ?_)<;>intro hc<;>try(exfalso;omega)))
     exact⟨((o2,t2),b2,j+1),by dsimp only;omega,_,_,_,Rt.refl _ _ _,bu,by dsimp only;omega,cI,hb5,cI,⟨_,bm⟩,⟨_,bm⟩,⟨_,bm⟩,ho2,hsp,hc2⟩
    |false=>
     rw[if_pos hfd] at hsp
     rw[hfd] at ek
     have hct:=count_set (l:=o2) (i:=((g.nd x.toNat).fold.getD j 0).toNat) (by rw[ho2];exact k1) hfd
     repeat' (first|refine aQ ?_|exact cP|with_reducible refine aB ?_ ?_|((with_reducible refine Ask.mk ?_);first|exact bx|(exact hol2)|exact bt)|(apply aA;(·(first|exact e9 hjl _|exact ek _|exact bp)))|refine aH ?_|((with_reducible refine aE ?_ ?_)<;>intro hc<;>try(exfalso;omega)))
     refine⟨((o2.set ((g.nd x.toNat).fold.getD j 0).toNat true,t2++[(g.nd x.toNat).fold.getD j 0]),b2,j+1),by dsimp only;omega,_,_,_,Rt.refl _ _ _,bu,by dsimp only;omega,cI,hb5,cI,⟨_,bm⟩,⟨_,by rw[<-iK];exact bm⟩,⟨_,by rw[<-fi];exact bm⟩,by simp[ho2],hsp, ?_⟩
     simp only[List.length_append,List.length_cons,List.length_nil]
     omega
   ·have:j=(g.nd x.toNat).fold.length:=by omega
    subst this
    rw[List.drop_eq_nil_of_le (Nat.le_refl _),j8,DJ hw x1 _ hol] at hsp
    have sp:=jN (g.nd x.toNat).dQ (out,a) (fun k hk=>by have:=(hw.2.2 x.toNat x1).2.2 k hk;rw[<-hol] at this;exact this)
    rw[<-hsp] at sp
    obtain⟨t',e1,_,_,e4⟩:=sp.more
    dsimp only at e1 e4
    have hon:=hgo.on hw (a:=a) (b:=[]) rfl hxc (t:=a) hsp.symm e1
    rw[List.append_nil,<-e1] at hon
    have hlt:t2.length=a.length+t'.length:=by rw[e1,List.length_append]
    repeat' (first|refine aQ ?_|exact aC|with_reducible refine aB ?_ ?_|(apply aA;(·exact bp))|refine aH ?_|((with_reducible refine aE ?_ ?_)<;>intro hc<;>try(exfalso;omega)))
    exact⟨(o2,t2,b2),by dsimp only;omega,_,_,_,Rt.refl _ _ _,bu,cI,hb5,cI,⟨_,bm⟩,⟨_,bm⟩,⟨_,bm⟩,hon,hc2⟩
end Go.Proofs.YtmonponfppdgfaaGreatDoor
namespace Go.Proofs
open Go.Shelf
def Tryz.yx:Go.Shelf.Ren:=⟨fun|28=>115|n=>n,fun|27=>113|3=>3|4=>4|25=>159|53=>158|0=>0|5=>5|n=>n,fun|0=>0|n=>n⟩
theorem Tryz.ML:Go.Proofs.Lays7.n28 Tryz.prog Tryz.yx:={
 mixed:=by kernel_rfl
 f28:=Tryz.func115.trans (congrArg some (by kernel_rfl))
 t0:=Tryz.underlying0
 a0:=Tryz.isAgg0
 z0:=Tryz.sizeOf0
 v0:=Tryz.zeroValue0
 i0:=by kernel_rfl
 t3:=Tryz.underlying3
 a3:=Tryz.isAgg3
 z3:=Tryz.sizeOf3
 v3:=Tryz.zeroValue3
 i3:=by kernel_rfl
 t4:=Tryz.underlying4
 a4:=Tryz.isAgg4
 z4:=Tryz.sizeOf4
 v4:=Tryz.zeroValue4
 i4:=by kernel_rfl
 t5:=Tryz.underlying5
 a5:=Tryz.isAgg5
 z5:=Tryz.sizeOf5
 v5:=Tryz.zeroValue5
 i5:=by kernel_rfl
 t25:=Tryz.underlying159
 a25:=Tryz.isAgg159
 z25:=Tryz.sizeOf159
 v25:=Tryz.zeroValue159
 i25:=by kernel_rfl
 t27:=Tryz.underlying113
 a27:=Tryz.isAgg113
 z27:=Tryz.sizeOf113
 v27:=Tryz.zeroValue113
 i27:=by kernel_rfl
 t53:=Tryz.underlying158
 a53:=Tryz.isAgg158
 z53:=Tryz.sizeOf158
 v53:=Tryz.zeroValue158
 i53:=by kernel_rfl
 g0:=by kernel_rfl }
open Go.RowKit Go.Lib in
theorem Tryz.PJ (x:Nat) (hx:x<4294967296) (w:World) (hT:x≠0->TabAt 0 Lib.deBruijn32tab w):
 Calls Tryz.prog 115 #[.int .u32 x] w fun e w'=>e= .returned (.int .i64 (Lib.ctz 32 x))/\w'=w:=Any7.bits_TrailingZeros32 Tryz.ML x hx w hT
end Go.Proofs
namespace Go.Proofs.YtmonponfppdgfaaGreatDoor
open Go Go.dD Go.Proofs
set_option linter.unusedSimpArgs false
set_option linter.unusedVariables false
abbrev u32 (n:Nat):AV:= .sc (.int .u32 (n:Int))
theorem K4 (x:Nat) (hx:x<4294967296):Pure Tryz.prog 115 [u32 x] (fun r=>r=i64 (ctz x)):=by
 refine⟨⟨_,Tryz.func115,by kernel_rfl,by kernel_rfl⟩,fun M w vs hM hv=> ?_⟩
 rw[c9] at hv
 obtain⟨v,vs',rfl,h1,h2⟩:=hv
 rw[VR] at h1
 rw[c9] at h2
 subst h1
 subst h2
 refine(Tryz.PJ x hx w fun _=>(hM.O0 (0,_) (by unfold M7;exact List.mem_singleton_self _)).2.2).mono ?_
 rintro e w' ⟨rfl,rfl⟩
 exact⟨_,_,rfl,rfl,by simp[cJ],by rw[VR], .refl _ _⟩
theorem wrap32 {n:Int} (h1:0<=n) (h2:n<4294967296):IntKind.u32.wrap n=n:=by rw[wrap_u32'];omega
theorem AP {a b:Nat} (ha:a<4294967296) (hb:b<4294967296):IntKind.u32.wrap (BitVec.ofInt IntKind.u32.bits (a:Int)&&& BitVec.ofInt IntKind.u32.bits (b:Int)).toNat=((a&&& b:Nat):Int):=bits_and_u32_nat a b ha hb
theorem MU {a b:Nat} (ha:a<4294967296) (hb:b<4294967296):IntKind.u32.wrap (BitVec.ofInt IntKind.u32.bits (a:Int)|||BitVec.ofInt IntKind.u32.bits (b:Int)).toNat=((a|||b:Nat):Int):=by
 have hx:a|||b<2^32:=Nat.or_lt_two_pow (by omega) (by omega)
 have h1:(BitVec.ofInt IntKind.u32.bits (a:Int)).toNat=a:=by
  show(BitVec.ofInt 32 (a:Int)).toNat=a
  rw[BitVec.ofInt_natCast,BitVec.toNat_ofNat];exact Nat.mod_eq_of_lt (by omega)
 have h2:(BitVec.ofInt IntKind.u32.bits (b:Int)).toNat=b:=by
  show(BitVec.ofInt 32 (b:Int)).toNat=b
  rw[BitVec.ofInt_natCast,BitVec.toNat_ofNat];exact Nat.mod_eq_of_lt (by omega)
 rw[BitVec.toNat_or,h1,h2,wrap32 (by omega) (by omega)]
theorem IU {x:Nat} (h0:x≠0) (hx:x<4294967296):IntKind.u32.wrap ((x:Int) - 1)=((x - 1:Nat):Int):=by
 rw[wrap32 (by omega) (by omega)];omega
theorem CX (x:Nat) (hx:x<65536):cM Tryz.prog 100 [u32 x] [] 0 (fun r H n=>∃b d,r= .sl b (bits x).length/\bk H b=some (.row 3 1 d ((bits x).map i64))):=by
 refine aI wx rfl ?_
 repeat' (first|refine aQ ?_|exact aC|with_reducible refine aB ?_ ?_|(apply aA;(·exact bp))|refine aH ?_|((with_reducible refine aE ?_ ?_)<;>intro hc<;>try(exfalso;omega)))
 refine aP (fun s:Nat×List Int=>[(0,u32 s.1),(3, .sl 2 s.2.length)])
  (fun s H n=>3<=n/\s.1<=x/\s.2++bits s.1=bits x/\s.2.length+s.1<=x/\∃d,bk H 2=some (.row 3 1 d (s.2.map i64)))
  (fun s=>s.1) (x,[]) ⟨_,_,_,Rt.nil 3 3 1 (by omega) rfl,bu,cI,Nat.le_refl _,rfl,by simp,⟨_,bm⟩⟩ ?_
 rintro⟨y,l⟩ H n ⟨hn,hy,hb,hlen,⟨d,r2⟩⟩
 dsimp only at hy hb hlen r2 ⊢
 by_cases h0:y=0
 ·subst h0
  repeat' (first|refine aQ ?_|exact aC|with_reducible refine aB ?_ ?_|(apply aA;(·exact bp))|refine aH ?_|((with_reducible refine aE ?_ ?_)<;>intro hc<;>try(exfalso;omega)))
  rw[show bits 0=[] from rfl,List.append_nil] at hb
  rw[<-hb]
  exact⟨⟨2,d,rfl,bm⟩⟩
 ·rw[pK h0] at hb
  have hp:=pred_lt h0
  have e1:=IU h0 (show y<4294967296 by omega)
  have e2:=AP (show y<4294967296 by omega) (show y - 1<4294967296 by omega)
  have ht:=K4 y (by omega)
  repeat' (first|refine aQ ?_|exact aC|with_reducible refine aB ?_ ?_|(apply aA;(·exact bp))|refine aK (ht) ?_|(simp only[e1])|(simp only[e2])|refine aH ?_|((with_reducible refine aE ?_ ?_)<;>intro hc<;>try(exfalso;omega)))
  exact⟨(y&&& (y - 1),l++[(ctz y:Int)]),hp,_,_,_,Rt.refl _ _ _,bu,cI,by dsimp only;omega,by dsimp only;rw[<-hb];simp,by dsimp only;simp only[List.length_append,List.length_cons,List.length_nil];omega,⟨_,by dsimp only;rw[<-fi];exact bm⟩⟩
theorem uU (x:Nat) (hx:x<65536):Pure Tryz.prog 100 [u32 x] (fun r=>r=dV (bits x)):=by
 refine cV ((CX x hx).mono ?_) (by simp[dV,cJ,cK])
 rintro r H n ⟨b,d,rfl,hb⟩
 rw[dM hb (by simp),cf _ (oP _ _)];rfl
theorem va (n:Node):Pure Tryz.prog 114 [n.av] (fun r=>r=bl (vd n)):=by
 refine aG xK rfl ?_
 repeat' (first|refine aQ ?_|exact cP|with_reducible refine aB ?_ ?_|((with_reducible refine Ask.mk ?_);first|exact bx|exact bt|(intro h;simp_all[Node.cells]<;>fail)|(simp_all[Node.cells]<;>fail))|(apply aA;(·exact bp))|refine aH ?_|((with_reducible refine aE ?_ ?_)<;>intro hc<;>try(exfalso;omega)))
 all_goals
  refine cn ?_
  unfold vd
  by_cases h2:n.kind=2<;>by_cases h3:n.kind=3<;>by_cases h4:n.kind=4<;>simp_all
theorem y4 (p:Nat×Nat) (h1:p.1<256) (h2:p.2<65536):Pure Tryz.prog 72 [.agg [u32 p.1,u32 p.2]] (fun r=>r=(rL p).av):=by
 refine aG G9 rfl ?_
 obtain⟨T,G0⟩:=p
 dsimp only at h1 h2 ⊢
 unfold rL
 by_cases h0:T=0
 ·subst h0
  repeat' (first|refine aQ ?_|exact aC|with_reducible refine aB ?_ ?_|(apply aA;(·exact bp))|refine aH ?_|((with_reducible refine aE ?_ ?_)<;>intro hc<;>try(exfalso;omega)))
  exact vg.eq (u:=(⟨0,0,0⟩:cF).av) (by simp[cJ,cL,cF.cells]) rfl
 ·have e1:=IU h0 (show T<4294967296 by omega)
  have e2:=AP (show T<4294967296 by omega) (show T - 1<4294967296 by omega)
  dsimp only
  rw[if_neg h0]
  have l1:=uU T (by omega)
  rw[pK h0] at l1
  unfold dV at l1
  rw[List.map_cons] at l1
  by_cases hz:T&&& (T - 1)=0
  ·rw[if_pos hz]
   rw[hz] at e2 l1
   repeat' (first|refine aQ ?_|exact aC|with_reducible refine aB ?_ ?_|(apply aA;(·exact bp))|refine aK (l1) ?_|(simp only[e1])|(simp only[e2])|refine aH ?_|((with_reducible refine aE ?_ ?_)<;>intro hc<;>try(exfalso;omega)))
   exact vg.eq (by simp[cJ,cL,cF.cells]) rfl
  ·rw[if_neg hz]
   by_cases hg:G0=0
   ·subst hg
    rw[if_neg (by simp)]
    repeat' (first|refine aQ ?_|exact aC|with_reducible refine aB ?_ ?_|(apply aA;(·exact bp))|refine aK (l1) ?_|(simp only[e1])|(simp only[e2])|refine aH ?_|((with_reducible refine aE ?_ ?_)<;>intro hc<;>try(exfalso;omega)))
    exact vg.eq (by simp[cJ,cL,cF.cells]) rfl
   ·rw[if_pos hg]
    have l2:=uU G0 h2
    rw[pK hg] at l2
    unfold dV at l2
    rw[List.map_cons] at l2
    repeat' (first|refine aQ ?_|exact aC|with_reducible refine aB ?_ ?_|(apply aA;(·exact bp))|refine aK (l1) ?_|refine aK (l2) ?_|(simp only[e1])|(simp only[e2])|refine aH ?_|((with_reducible refine aE ?_ ?_)<;>intro hc<;>try(exfalso;omega)))
    exact vg.eq (by simp[cJ,cL,cF.cells]) rfl
end Go.Proofs.YtmonponfppdgfaaGreatDoor
