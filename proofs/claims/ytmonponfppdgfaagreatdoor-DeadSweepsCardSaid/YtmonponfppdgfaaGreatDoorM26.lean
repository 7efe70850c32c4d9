import Derived.Test.YtmonponfppdgfaaGreatDoorM24
import Derived.Test.YtmonponfppdgfaaGreatDoorM25
import Derived.Shelf.Spec.TrailingZeros
import Derived.Test.YtmonponfppdgfaaGreatDoorProg
import Derived.Test.YtmonponfppdgfaaGreatDoorM22
section
/- What is reached: the walk. -/
namespace Go.Proofs.YtmonponfppdgfaaGreatDoor
open Go Go.ch Go.Proofs
set_option linter.unusedSimpArgs false
set_option linter.unusedVariables false
theorem qq {α:Type} (F:List Int→α) (n:Node) (h:n.kind=8→F [n.next,n.next]=F [n.next]):F n.fold=F n.dK:=by
 unfold Node.fold Node.dK
 by_cases h9:n.kind=9
 ·rw[if_pos h9,if_pos h9]
 ·rw[if_neg h9,if_neg h9]
  by_cases h8:n.kind=8
  ·rw[if_pos h8]
   by_cases he:n.jT=n.next
   ·rw[if_neg (fun h=>h.2 he),he,h h8]
   ·rw[if_pos ⟨h8,he⟩]
  ·rw[if_neg h8,if_neg (fun h=>h8 h.1)]
theorem BC {g:bo} (hw:Whole g) {i:Nat} (hi:i<g.nodes.length) (s:List Bool×List Int) (hs:s.1.length=g.nodes.length):jO (g.nd i).fold s=jO (g.nd i).dK s:=
 qq (fun l=>jO l s) (g.nd i) fun h8=>yd _ s (by
  rw[hs]
  refine((hw.2.2 i hi).2.2 _ ?_).2
  unfold Node.dK
  rw[if_neg (by omega),if_pos h8];simp)
theorem IH {α:Type} {n i:Nat} {x:α}:(List.replicate n x).getD i x=x:=by
 simp only[List.getD,List.getElem?_replicate];split<;>rfl
theorem jl {l:List Bool} {k:Int} (d:AV) (h:k.toNat<l.length):(l.map bl).getD k.toNat d=bl (gl l k):=by
 rw[show gl l k=l.getD k.toNat default from rfl];exact dJ bl l _ d h
theorem iZ {l:List Bool} {k:Nat} (v:Bool):(l.map bl).set k (bl v)=(l.set k v).map bl:=by rw[List.map_set]
theorem fV (l:List Int) (k:Int):l.map i64++[i64 k]=(l++[k]).map i64:=by simp
theorem tg (s:List Bool×List Int) (l:List Int) {j:Nat} (h:j<l.length):jO (l.drop j) s=if gl s.1 (l.getD j 0)=false then jO (l.drop (j+1)) (s.1.set (l.getD j 0).toNat true,s.2++[l.getD j 0]) else jO (l.drop (j+1)) s:=by
 rw[List.drop_eq_getElem_cons h,jO,gd h]
set_option maxHeartbeats 1000000 in
theorem pg (g:bo) (hg:g.Wf) (hw:Whole g) (cut:Int) (hcut:jE cut):Pure Tryz.prog 74 [g.av,i64 cut] (fun r=>r=fp (cd g cut)):=by
 refine oM (by simp[cG,cJ]) ?_
 refine aL EV rfl ?_
 have hl:=hg.len
 have hl0:=hw.1
 have hl1:=hw.2.1
 unfold jE at hcut
 repeat' (first|((with_reducible refine aE ?_);conv=>whnf)|refine aG ?_|exact cN|with_reducible refine aD ?_ ?_|((with_reducible refine Ask.mk ?_);first|exact bw|exact br|(intro h;simp_all[bo.cells]<;>fail)|(simp_all[bo.cells]<;>fail))|(apply aA;(·(first|exact IH|exact bm)))|refine aH ?_|((with_reducible refine aB ?_ ?_)<;>intro hc<;>(try simp only[List.length_map,ne_eq,cD] at hc)<;>try(exfalso;omega)))
 have e5:(List.replicate ((g.nodes.map Node.av).length:Int).toNat (AV.sc (.bool false))).set (0:Int).toNat (AV.sc (.bool true))=((List.replicate g.nodes.length false).set 0 true).map bl:=by
  simp[List.map_set]
 refine aR (fun s:List Bool×List Int×Nat=>[(1,i64 cut),(2, .pt 0 1 0 0),(5, .sl 5 g.nodes.length),(6, .sl s.2.2 s.2.1.length)])
  (fun s H n=>12≤n∧5<s.2.2∧s.2.2<n∧(∃d,bj H 0=some (.row 40 4 d [g.av]))∧(∃d,bj H 5=some (.row 4 1 d (s.1.map bl)))∧(∃d,bj H s.2.2=some (.row 3 1 d (s.2.1.map i64)))∧jg g cut s.1 s.2.1∧s.2.1.length+s.1.count false≤g.nodes.length)
  (fun s=>s.2.1.length+s.1.count false) ((List.replicate g.nodes.length false).set 0 true,[0],10) ⟨_,_,_,Rt.refl _ _ _,(by simp only[List.length_map];exact bt),cH,cH,cH,⟨_,bk⟩,⟨_,by rw[←e5];exact bk⟩,⟨_,bk⟩,jg.start hw, ?_⟩ ?_
 ·have:=count_set (l:=List.replicate g.nodes.length false) (i:=0) (by simp;omega) (by simp[List.getD,List.getElem?_replicate];split<;>rfl)
  simp only[List.count_replicate_self] at this
  simp only[List.length_cons,List.length_nil]
  omega
 rintro⟨out,todo,tb⟩ H n ⟨hn,ht5,htn,⟨d0,r0⟩,⟨d5,r5⟩,⟨dt,rt⟩,hgo,hcnt⟩
 dsimp only at ht5 htn r5 rt hgo hcnt ⊢
 have hol:=hgo.len
 by_cases hne:todo=[]
 ·subst hne
  have e1:=hgo.fin hw
  repeat' (first|((with_reducible refine aE ?_);conv=>whnf)|refine aG ?_|exact aC|with_reducible refine aD ?_ ?_|(apply aA;(·exact bm))|refine aH ?_|((with_reducible refine aB ?_ ?_)<;>intro hc<;>(try simp only[List.length_map,ne_eq,cD] at hc)<;>try(exfalso;omega)))
  refine⟨.inr ?_⟩
  rw[←e1]
  refine(dH bk (by simp[hol])).trans ?_
  rw[ca _ (jU _ _)]
 ·obtain⟨a,x,rfl⟩:∃a x,todo=a++[x]:=⟨todo.dropLast,todo.getLast hne,(List.dropLast_concat_getLast hne).symm⟩
  obtain⟨x0,x1,x2⟩:=hgo.inr x (by simp)
  have x1o:=x1
  rw[hol] at x1
  have hla:(a++[x]).length=a.length+1:=by simp
  have hml:((a++[x]).map i64).length=a.length+1:=by simp
  have htk:(((a++[x]).map i64).drop 0).take a.length=a.map i64:=by simp
  rw[hla] at hcnt ⊢
  have e1:∀d,((a++[x]).map i64).getD (((a.length+1:Nat):Int) - 1).toNat d=i64 x:=fun d=>by
   rw[show(((a.length+1:Nat):Int) - 1).toNat=a.length by omega,List.map_append]
   simp[List.getD]
  have hf:=kr (g.nd x.toNat)
  unfold dO at hf
  repeat' (first|((with_reducible refine aE ?_);conv=>whnf)|refine aG ?_|exact cN|with_reducible refine aD ?_ ?_|((with_reducible refine Ask.mk ?_);first|exact bw|(exact hml)|exact br|(intro h;simp_all[bo.cells,Node.cells]<;>fail)|(simp_all[bo.cells,Node.cells]<;>fail))|(apply aA;(·(first|exact dy x1 _|exact e1 _|exact bm)))|refine aK (hf) ?_|refine aH ?_|((with_reducible refine aB ?_ ?_)<;>intro hc<;>(try simp only[List.length_map,ne_eq,cD] at hc)<;>try(exfalso;omega)))
  ·rename_i hxc
   have hxc:x=cut:=hc
   subst hxc
   refine⟨(out,a,_), ?_,_,_,_,Rt.part (d2:=dt) (l:=(a++[x]).map i64) (n:=a.length) 6 rfl bk hml (by omega),bt,cH,cH,cH,⟨_,bk⟩,⟨_,bk⟩,⟨.any,by rw[←htk];exact bk⟩,(by have:=hgo.cut (a:=a) (b:=[]) rfl;rwa[List.append_nil] at this),(by dsimp only;omega)⟩
   dsimp only
   omega
  ·have hxc:¬x=cut:=hc
   simp only[List.length_map]
   clear hf
   refine aR (fun q:(List Bool×List Int)×Nat×Nat=>[(1,i64 cut),(2, .pt 0 1 0 0),(5, .sl 5 g.nodes.length),(6, .sl q.2.1 q.1.2.length),(39,dO (g.nd x.toNat).fold),(40,i64 (g.nd x.toNat).fold.length),(41,i64 q.2.2)])
    (fun q H2 n2=>q.2.2≤(g.nd x.toNat).fold.length∧n≤n2∧5<q.2.1∧q.2.1<n2∧(∃d,bj H2 0=some (.row 40 4 d [g.av]))∧(∃d,bj H2 5=some (.row 4 1 d (q.1.1.map bl)))∧(∃d,bj H2 q.2.1=some (.row 3 1 d (q.1.2.map i64)))∧q.1.1.length=g.nodes.length∧jO ((g.nd x.toNat).fold.drop q.2.2) q.1=jO (g.nd x.toNat).fold (out,a)∧q.1.2.length+q.1.1.count false≤g.nodes.length)
    (fun q=>(g.nd x.toNat).fold.length - q.2.2) ((out,a),_,0) ⟨_,_,_,Rt.part (d2:=dt) (l:=(a++[x]).map i64) (n:=a.length) 6 rfl bk hml (by omega),bt,Nat.zero_le _,cH,cH,cH,⟨_,bk⟩,⟨_,bk⟩,⟨.any,by rw[←htk];exact bk⟩,hol,rfl,(by dsimp only;omega)⟩ ?_
   have hfl:=la (g.nd x.toNat)
   clear r0 r5 rt
   rintro⟨⟨o2,t2⟩,b2,j⟩ H2 n2 ⟨hj,hn2,hb5,hbn,⟨d02,r0⟩,⟨d52,r5⟩,⟨dt2,rt⟩,ho2,hsp,hc2⟩
   dsimp only at hj hn2 hb5 hbn r5 rt ho2 hsp hc2 ⊢
   unfold dO
   by_cases hjl:j<(g.nd x.toNat).fold.length
   ·have hm:=gz.1 (cC 0 hjl)
    obtain⟨k0,k1⟩:=(hw.2.2 x.toNat x1).2.2 _ hm
    have hk:(((g.nd x.toNat).fold.getD j 0).toNat:Int)=(g.nd x.toNat).fold.getD j 0:=by omega
    have ek:=fun d=>jl (l:=o2) (k:=(g.nd x.toNat).fold.getD j 0) d (by rw[ho2];exact k1)
    rw[tg _ _ hjl] at hsp
    have hol2:(o2.map bl).length=g.nodes.length:=by simp[ho2]
    have htl:(t2.map i64).length=t2.length:=by simp
    cases hfd:gl o2 ((g.nd x.toNat).fold.getD j 0) with
    |true=>
     rw[if_neg (by rw[hfd];decide)] at hsp
     rw[hfd] at ek
     repeat' (first|((with_reducible refine aE ?_);conv=>whnf)|refine aG ?_|exact cN|with_reducible refine aD ?_ ?_|((with_reducible refine Ask.mk ?_);first|exact bw|(exact hol2)|exact br)|(apply aA;(·(first|exact eS hjl _|exact ek _|exact bm)))|refine aH ?_|((with_reducible refine aB ?_ ?_)<;>intro hc<;>(try simp only[List.length_map,ne_eq,cD] at hc)<;>try(exfalso;omega)))
     exact⟨((o2,t2),b2,j+1),by dsimp only;omega,_,_,_,Rt.refl _ _ _,bt,by dsimp only;omega,cH,hb5,cH,⟨_,bk⟩,⟨_,bk⟩,⟨_,bk⟩,ho2,hsp,hc2⟩
    |false=>
     rw[if_pos hfd] at hsp
     rw[hfd] at ek
     have hct:=count_set (l:=o2) (i:=((g.nd x.toNat).fold.getD j 0).toNat) (by rw[ho2];exact k1) hfd
     repeat' (first|((with_reducible refine aE ?_);conv=>whnf)|refine aG ?_|exact cN|with_reducible refine aD ?_ ?_|((with_reducible refine Ask.mk ?_);first|exact bw|(exact hol2)|exact br)|(apply aA;(·(first|exact eS hjl _|exact ek _|exact bm)))|refine aH ?_|((with_reducible refine aB ?_ ?_)<;>intro hc<;>(try simp only[List.length_map,ne_eq,cD] at hc)<;>try(exfalso;omega)))
     refine⟨((o2.set ((g.nd x.toNat).fold.getD j 0).toNat true,t2++[(g.nd x.toNat).fold.getD j 0]),b2,j+1),by dsimp only;omega,_,_,_,Rt.refl _ _ _,bt,by dsimp only;omega,cH,hb5,cH,⟨_,bk⟩,⟨_,by rw[←iZ];exact bk⟩,⟨_,by rw[←fV];exact bk⟩,by simp[ho2],hsp, ?_⟩
     simp only[List.length_append,List.length_cons,List.length_nil]
     omega
   ·have:j=(g.nd x.toNat).fold.length:=by omega
    subst this
    rw[List.drop_eq_nil_of_le (Nat.le_refl _),jO,BC hw x1 _ hol] at hsp
    have sp:=ij (g.nd x.toNat).dK (out,a) (fun k hk=>by have:=(hw.2.2 x.toNat x1).2.2 k hk;rw[←hol] at this;exact this)
    rw[←hsp] at sp
    obtain⟨t',e1,_,_,e4⟩:=sp.more
    dsimp only at e1 e4
    have hon:=hgo.on hw (a:=a) (b:=[]) rfl hxc (t:=a) hsp.symm e1
    rw[List.append_nil,←e1] at hon
    have hlt:t2.length=a.length+t'.length:=by rw[e1,List.length_append]
    repeat' (first|((with_reducible refine aE ?_);conv=>whnf)|refine aG ?_|exact aC|with_reducible refine aD ?_ ?_|(apply aA;(·exact bm))|refine aH ?_|((with_reducible refine aB ?_ ?_)<;>intro hc<;>(try simp only[List.length_map,ne_eq,cD] at hc)<;>try(exfalso;omega)))
    exact⟨(o2,t2,b2),by dsimp only;omega,_,_,_,Rt.refl _ _ _,bt,cH,hb5,cH,⟨_,bk⟩,⟨_,bk⟩,⟨_,bk⟩,hon,hc2⟩
end Go.Proofs.YtmonponfppdgfaaGreatDoor
end
section
/- The library's count of trailing zeros at this program, as a tool of the kit laid it in plain words. -/
namespace Go.Proofs
open Go.Shelf
def Tryz.xm:Go.Shelf.Ren:=⟨fun|28=>115|n=>n,fun|27=>113|3=>3|4=>4|25=>159|53=>158|0=>0|5=>5|n=>n,fun|0=>0|n=>n⟩
theorem Tryz.JX:Go.Proofs.Lays7.n28 Tryz.prog Tryz.xm:={
 mixed:=by kernel_rfl
 f28:=Tryz.func115.trans (congrArg some (by kernel_rfl))
 t0:=Tryz.underlying0
 a0:=Tryz.isAgg0
 z0:=Tryz.sizeOf0
 v0:=Tryz.zeroValue0
 i0:=by kernel_rfl
 t3:=Tryz.underlying3
 a3:=Tryz.isAgg3
 z3:=Tryz.sizeOf3
 v3:=Tryz.zeroValue3
 i3:=by kernel_rfl
 t4:=Tryz.underlying4
 a4:=Tryz.isAgg4
 z4:=Tryz.sizeOf4
 v4:=Tryz.zeroValue4
 i4:=by kernel_rfl
 t5:=Tryz.underlying5
 a5:=Tryz.isAgg5
 z5:=Tryz.sizeOf5
 v5:=Tryz.zeroValue5
 i5:=by kernel_rfl
 t25:=Tryz.underlying159
 a25:=Tryz.isAgg159
 z25:=Tryz.sizeOf159
 v25:=Tryz.zeroValue159
 i25:=by kernel_rfl
 t27:=Tryz.underlying113
 a27:=Tryz.isAgg113
 z27:=Tryz.sizeOf113
 v27:=Tryz.zeroValue113
 i27:=by kernel_rfl
 t53:=Tryz.underlying158
 a53:=Tryz.isAgg158
 z53:=Tryz.sizeOf158
 v53:=Tryz.zeroValue158
 i53:=by kernel_rfl
 g0:=by kernel_rfl }
open Go.RowKit Go.Lib in
theorem Tryz.MW (x:Nat) (hx:x<4294967296) (w:World) (hT:x≠0→TabAt 0 Lib.deBruijn32tab w):
 Calls Tryz.prog 115 #[.int .u32 x] w fun e w'=>e= .returned (.int .i64 (Lib.ctz 32 x))∧w'=w:=Any7.bits_TrailingZeros32 Tryz.JX x hx w hT
end Go.Proofs
end
section
/- Locks as bits: the library's count of zeros, the lists of bits. -/
namespace Go.Proofs.YtmonponfppdgfaaGreatDoor
open Go Go.ch Go.Proofs
set_option linter.unusedSimpArgs false
set_option linter.unusedVariables false
abbrev u32 (n:Nat):AV:= .sc (.int .u32 (n:Int))
theorem IS (x:Nat) (hx:x<4294967296):Pure Tryz.prog 115 [u32 x] (fun r=>r=i64 (ctz x)):=by
 refine⟨⟨_,Tryz.func115,by kernel_rfl,by kernel_rfl⟩,fun M w vs hM hv=> ?_⟩
 rw[cY] at hv
 obtain⟨v,vs',rfl,h1,h2⟩:=hv
 rw[VR] at h1
 rw[cY] at h2
 subst h1
 subst h2
 refine(Tryz.MW x hx w fun _=>(hM.MF (0,_) (by unfold KF;exact List.mem_singleton_self _)).2.2).mono ?_
 rintro e w' ⟨rfl,rfl⟩
 exact⟨_,_,rfl,rfl,by simp[cG],by rw[VR], .refl _ _⟩
theorem wrap32 {n:Int} (h1:0≤n) (h2:n<4294967296):IntKind.u32.wrap n=n:=by rw[wrap_u32'];omega
theorem yu {a b:Nat} (ha:a<4294967296) (hb:b<4294967296):IntKind.u32.wrap (BitVec.ofInt IntKind.u32.bits (a:Int)&&& BitVec.ofInt IntKind.u32.bits (b:Int)).toNat=((a&&& b:Nat):Int):=bits_and_u32_nat a b ha hb
theorem J5 {a b:Nat} (ha:a<4294967296) (hb:b<4294967296):IntKind.u32.wrap (BitVec.ofInt IntKind.u32.bits (a:Int)|||BitVec.ofInt IntKind.u32.bits (b:Int)).toNat=((a|||b:Nat):Int):=by
 have hx:a|||b<2^32:=Nat.or_lt_two_pow (by omega) (by omega)
 have h1:(BitVec.ofInt IntKind.u32.bits (a:Int)).toNat=a:=by
  show(BitVec.ofInt 32 (a:Int)).toNat=a
  rw[BitVec.ofInt_natCast,BitVec.toNat_ofNat];exact Nat.mod_eq_of_lt (by omega)
 have h2:(BitVec.ofInt IntKind.u32.bits (b:Int)).toNat=b:=by
  show(BitVec.ofInt 32 (b:Int)).toNat=b
  rw[BitVec.ofInt_natCast,BitVec.toNat_ofNat];exact Nat.mod_eq_of_lt (by omega)
 rw[BitVec.toNat_or,h1,h2,wrap32 (by omega) (by omega)]
theorem F6 {x:Nat} (h0:x≠0) (hx:x<4294967296):IntKind.u32.wrap ((x:Int) - 1)=((x - 1:Nat):Int):=by
 rw[wrap32 (by omega) (by omega)];omega
theorem AT (x:Nat) (hx:x<65536):cM Tryz.prog 100 [u32 x] [] 0 (fun r H n=>∃b d,r= .sl b (bits x).length∧bj H b=some (.row 3 1 d ((bits x).map i64))):=by
 refine aL vv rfl ?_
 repeat' (first|((with_reducible refine aE ?_);conv=>whnf)|refine aG ?_|exact aC|with_reducible refine aD ?_ ?_|(apply aA;(·exact bm))|refine aH ?_|((with_reducible refine aB ?_ ?_)<;>intro hc<;>(try simp only[List.length_map,ne_eq,cD] at hc)<;>try(exfalso;omega)))
 refine aR (fun s:Nat×List Int=>[(0,u32 s.1),(3, .sl 2 s.2.length)])
  (fun s H n=>3≤n∧s.1≤x∧s.2++bits s.1=bits x∧s.2.length+s.1≤x∧∃d,bj H 2=some (.row 3 1 d (s.2.map i64)))
  (fun s=>s.1) (x,[]) ⟨_,_,_,Rt.nil 3 3 1 (by omega) rfl,bt,cH,Nat.le_refl _,rfl,by simp,⟨_,bk⟩⟩ ?_
 rintro⟨y,l⟩ H n ⟨hn,hy,hb,hlen,⟨d,r2⟩⟩
 dsimp only at hy hb hlen r2 ⊢
 by_cases h0:y=0
 ·subst h0
  repeat' (first|((with_reducible refine aE ?_);conv=>whnf)|refine aG ?_|exact aC|with_reducible refine aD ?_ ?_|(apply aA;(·exact bm))|refine aH ?_|((with_reducible refine aB ?_ ?_)<;>intro hc<;>(try simp only[List.length_map,ne_eq,cD] at hc)<;>try(exfalso;omega)))
  rw[show bits 0=[] from rfl,List.append_nil] at hb
  rw[←hb]
  exact⟨⟨2,d,rfl,bk⟩⟩
 ·rw[o8 h0] at hb
  have hp:=pred_lt h0
  have e1:=F6 h0 (show y<4294967296 by omega)
  have e2:=yu (show y<4294967296 by omega) (show y - 1<4294967296 by omega)
  have ht:=IS y (by omega)
  repeat' (first|((with_reducible refine aE ?_);conv=>whnf)|refine aG ?_|exact aC|with_reducible refine aD ?_ ?_|(apply aA;(·exact bm))|refine aK (ht) ?_|(simp only[e1])|(simp only[e2])|refine aH ?_|((with_reducible refine aB ?_ ?_)<;>intro hc<;>(try simp only[List.length_map,ne_eq,cD] at hc)<;>try(exfalso;omega)))
  exact⟨(y&&& (y - 1),l++[(ctz y:Int)]),hp,_,_,_,Rt.refl _ _ _,bt,cH,by dsimp only;omega,by dsimp only;rw[←hb];simp,by dsimp only;simp only[List.length_append,List.length_cons,List.length_nil];omega,⟨_,by dsimp only;rw[←fV];exact bk⟩⟩
theorem tT (x:Nat) (hx:x<65536):Pure Tryz.prog 100 [u32 x] (fun r=>r=dO (bits x)):=by
 refine cT ((AT x hx).mono ?_) (by simp[dO,cG,cJ])
 rintro r H n ⟨b,d,rfl,hb⟩
 rw[dH hb (by simp),ca _ (nj _ _)];rfl
theorem uc (n:Node):Pure Tryz.prog 114 [n.av] (fun r=>r=bl (uh n)):=by
 refine aJ wI rfl ?_
 repeat' (first|((with_reducible refine aE ?_);conv=>whnf)|refine aG ?_|exact cN|with_reducible refine aD ?_ ?_|((with_reducible refine Ask.mk ?_);first|exact bw|exact br|(intro h;simp_all[Node.cells]<;>fail)|(simp_all[Node.cells]<;>fail))|(apply aA;(·exact bm))|refine aH ?_|((with_reducible refine aB ?_ ?_)<;>intro hc<;>(try simp only[List.length_map,ne_eq,cD] at hc)<;>try(exfalso;omega)))
 all_goals
  refine cg ?_
  unfold uh
  by_cases h2:n.kind=2<;>by_cases h3:n.kind=3<;>by_cases h4:n.kind=4<;>simp_all
theorem xV (p:Nat×Nat) (h1:p.1<256) (h2:p.2<65536):Pure Tryz.prog 72 [.agg [u32 p.1,u32 p.2]] (fun r=>r=(qe p).av):=by
 refine aJ ET rfl ?_
 obtain⟨T,G⟩:=p
 dsimp only at h1 h2 ⊢
 unfold qe
 by_cases h0:T=0
 ·subst h0
  repeat' (first|((with_reducible refine aE ?_);conv=>whnf)|refine aG ?_|exact aC|with_reducible refine aD ?_ ?_|(apply aA;(·exact bm))|refine aH ?_|((with_reducible refine aB ?_ ?_)<;>intro hc<;>(try simp only[List.length_map,ne_eq,cD] at hc)<;>try(exfalso;omega)))
  exact xI.eq (u:=(⟨0,0,0⟩:cB).av) (by simp[cG,cL,cB.cells]) rfl
 ·have e1:=F6 h0 (show T<4294967296 by omega)
  have e2:=yu (show T<4294967296 by omega) (show T - 1<4294967296 by omega)
  dsimp only
  rw[if_neg h0]
  have l1:=tT T (by omega)
  rw[o8 h0] at l1
  unfold dO at l1
  rw[List.map_cons] at l1
  by_cases hz:T&&& (T - 1)=0
  ·rw[if_pos hz]
   rw[hz] at e2 l1
   repeat' (first|((with_reducible refine aE ?_);conv=>whnf)|refine aG ?_|exact aC|with_reducible refine aD ?_ ?_|(apply aA;(·exact bm))|refine aK (l1) ?_|(simp only[e1])|(simp only[e2])|refine aH ?_|((with_reducible refine aB ?_ ?_)<;>intro hc<;>(try simp only[List.length_map,ne_eq,cD] at hc)<;>try(exfalso;omega)))
   exact xI.eq (by simp[cG,cL,cB.cells]) rfl
  ·rw[if_neg hz]
   by_cases hg:G=0
   ·subst hg
    rw[if_neg (by simp)]
    repeat' (first|((with_reducible refine aE ?_);conv=>whnf)|refine aG ?_|exact aC|with_reducible refine aD ?_ ?_|(apply aA;(·exact bm))|refine aK (l1) ?_|(simp only[e1])|(simp only[e2])|refine aH ?_|((with_reducible refine aB ?_ ?_)<;>intro hc<;>(try simp only[List.length_map,ne_eq,cD] at hc)<;>try(exfalso;omega)))
    exact xI.eq (by simp[cG,cL,cB.cells]) rfl
   ·rw[if_pos hg]
    have l2:=tT G h2
    rw[o8 hg] at l2
    unfold dO at l2
    rw[List.map_cons] at l2
    repeat' (first|((with_reducible refine aE ?_);conv=>whnf)|refine aG ?_|exact aC|with_reducible refine aD ?_ ?_|(apply aA;(·exact bm))|refine aK (l1) ?_|refine aK (l2) ?_|(simp only[e1])|(simp only[e2])|refine aH ?_|((with_reducible refine aB ?_ ?_)<;>intro hc<;>(try simp only[List.length_map,ne_eq,cD] at hc)<;>try(exfalso;omega)))
    exact xI.eq (by simp[cG,cL,cB.cells]) rfl
end Go.Proofs.YtmonponfppdgfaaGreatDoor
end
