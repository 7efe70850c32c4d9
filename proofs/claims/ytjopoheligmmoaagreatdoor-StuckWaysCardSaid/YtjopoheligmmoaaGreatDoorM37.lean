import Derived.Test.YtjopoheligmmoaaGreatDoorM36
import Derived.Test.YtjopoheligmmoaaGreatDoorM30
namespace Go.Proofs.YtjopoheligmmoaaGreatDoor
open Go Go.cw Go.Proofs
set_option linter.unusedSimpArgs false
set_option linter.unusedVariables false
set_option maxRecDepth 8000
structure qw (mb:Nat) (L:List (Int×Nat)) (S:Int->List Int) (H:Hp):Prop where
 map:∃d,bt H mb=some (.row 3 0 d (mapA (fB L S)))
 row:∀p∈L,∃d,bt H p.2=some (.row 3 1 d ((S p.1).map i64))
 keys:(L.map (·.1)).Nodup
def mm (L:List (Int×Nat)) (S:Int->List Int) (x:Int):List Int:=if x∈L.map (·.1) then S x else[]
theorem qw.cc {mb:Nat} {L:List (Int×Nat)} {S:Int->List Int} {H H':Hp} (h:qw mb L S H) {nx:Nat} (hmb:mb<nx) (hids:∀p∈L,p.2<nx) (hk:∀y,y<nx->bt H' y=bt H y):qw mb L S H':=
 ⟨by obtain⟨d,hd⟩:=h.map;exact⟨d,(hk mb hmb).trans hd⟩,fun p hp=>by obtain⟨d,hd⟩:=h.row p hp;exact⟨d,(hk _ (hids p hp)).trans hd⟩,h.keys⟩
abbrev oA.av (e:oA):AV:= .agg [i64 e.at_,i64 e.from_]
def pE (R:Option (List Int)) (nx k:Nat) (r:AV) (H:Hp):Prop:=match R with
 |none=>r= .sc (.slice none 0 0)
 |some w=>∃b d,nx<=b/\b<k/\r= .sl b w.length/\bt H b=some (.row 3 1 d (w.map i64))
theorem LD {l:List oA} (hp:0<l.length) (e:oA):(jN (l++[e])).tail=(jN l).tail++[e.at_]:=by
 cases l with
 |nil=>simp at hp
 |cons a r=>simp[jN]
theorem PO {l:List oA} {first x:Int} (hp:0<l.length) (h0:l.getD 0 default=⟨first,-1,0⟩) (hx:x≠first):x∈(jN l).tail↔x∈jN l:=by
 cases l with
 |nil=>simp at hp
 |cons a r=>
  have:a=⟨first,-1,0⟩:=by simpa[List.getD] using h0
  subst this
  simp[jN,hx]
theorem LV {lead:Int->List Int} {first:Int} {k:Nat} {l:List oA} (h:kS lead first k l):∀i,i<l.length->(l.getD i default).dep<=i:=by
 intro i
 induction i using Nat.strongRecOn with
 |_ i ih=>
  intro hi
  by_cases h0:i=0
  ·subst h0;rw[h.zero];exact Nat.le_refl _
  ·obtain⟨p,h1,_,_,_,h5⟩:=h.par i (by omega) hi
   have:=ih p h1 (by omega)
   omega
set_option maxHeartbeats 4000000 in
theorem pB {mb nx n:Nat} {L:List (Int×Nat)} {S:Int->List Int} {H0:Hp} (hL:qw mb L S H0) (hmb:mb<nx) (hids:∀p∈L,p.2<nx) (hin:∀x,∀y∈mm L S x,0<=y/\y<n) (hn:n<=16) (hS:∀x,(S x).length<=16) {first:Int} (hf:0<=first/\first<n):
 cU Tryz.prog 41 [.mp mb,i64 first] H0 nx (fun r H k=>nx<=k/\(∀y,y<nx->bt H y=bt H0 y)/\pE (sh (mm L S) n first) nx k r H):=by
 refine aJ aAW rfl ?_
 refine cP ?_
 refine aF (fun σ:Nat×List oA=>[(0, .mp mb),(1,i64 first),(5, .sl (nx+3) σ.2.length),(6, .mp (nx+5)),(7,i64 σ.1)])
  (fun σ H k=>σ.1<=n/\kS (mm L S) first σ.1 σ.2/\(∀x∈jN σ.2,0<=x/\x<n)/\zB (mm L S) first (n+1 - σ.1) σ.1 σ.2=sh (mm L S) n first/\nx+6<=k/\(∃d,bt H (nx+3)=some (.row 144 2 d (σ.2.map oA.av)))/\(∃d,bt H (nx+5)=some (.row 3 0 d (mapA (NA (jN σ.2).tail))))/\∀y,y<nx->bt H y=bt H0 y) (fun σ=>n+1 - σ.1) (0,[⟨first,-1,0⟩])
  cC ⟨Nat.zero_le _,kS.start _ _,fun x hx=>by simp only[jN,List.map_cons,List.map_nil,List.mem_cons,List.not_mem_nil,or_false] at hx;rw[hx];exact hf,rfl,cX,⟨_,bu⟩,⟨_,bu⟩,fun y hy=>cE⟩ ?_
 rintro⟨k,l⟩ H m ⟨hkn,hI,hat,hB,hm,⟨d1,r1⟩,⟨d2,r2⟩,hkeep⟩
 dsimp only at hkn hI hat hB r1 r2 ⊢
 have hlen:=iJ n _ hI.nd hat
 rw[List.length_map] at hlen
 have a0:(l.map oA.av).length=l.length:=List.length_map _
 rw[show n+1 - k=(n - k)+1 by omega,zB] at hB
 by_cases hkl:k<l.length
 ·rw[if_pos hkl] at hB
  have e0:∀d,(l.map oA.av).getD ((k:Int)).toNat d= .agg [i64 (l.getD k default).at_,i64 (l.getD k default).from_]:=fun d=>by rw[Int.toNat_natCast];exact cx oA.av l k d hkl
  have hL1:=hL.cc hmb hids hkeep
  obtain⟨d3,r3⟩:=hL1.map
  by_cases hx:(l.getD k default).at_∈L.map (·.1)
  ·obtain⟨p,hp,hpe⟩:=List.mem_map.1 hx
   have g0:=AG (S:=S) (.sc (.slice none 0 0)) hp hL1.keys
   obtain⟨d4,r4⟩:=hL1.row p hp
   rw[hpe] at g0 r4
   have hlead:mm L S (l.getD k default).at_=S (l.getD k default).at_:=if_pos hx
   rw[hlead] at hB
   have hSx:=hS (l.getD k default).at_
   have hinx:=hin (l.getD k default).at_
   rw[hlead] at hinx
   have hpn:=hids p hp
   have a1:((S (l.getD k default).at_).map i64).length=(S (l.getD k default).at_).length:=List.length_map _
   refine cP ?_
   clear e0 g0 r3
   generalize hxs:S (l.getD k default).at_=xs at *
   refine aF (fun σ:Nat×List oA=>[(0, .mp mb),(1,i64 first),(5, .sl (nx+3) σ.2.length),(6, .mp (nx+5)),(7,i64 k),(28, .sl p.2 xs.length),(29,i64 xs.length),(30,i64 σ.1)])
    (fun σ H2 m2=>σ.1<=xs.length/\kS (mm L S) first k σ.2/\l<+:σ.2/\(∀x∈jN σ.2,0<=x/\x<n)/\GR first k (l.getD k default).dep (xs.drop σ.1) σ.2=GR first k (l.getD k default).dep xs l/\m<=m2/\(∃d,bt H2 (nx+3)=some (.row 144 2 d (σ.2.map oA.av)))/\(∃d,bt H2 (nx+5)=some (.row 3 0 d (mapA (NA (jN σ.2).tail))))/\(∃d,bt H2 p.2=some (.row 3 1 d (xs.map i64)))/\∀y,y<nx->bt H2 y=bt H0 y) (fun σ=>xs.length - σ.1) (0,l)
    cC ⟨Nat.zero_le _,hI,List.prefix_refl _,hat,rfl,cX,⟨_,bu⟩,⟨_,bu⟩,⟨_,bu⟩,fun y hy=>Eq.trans cE (hkeep y hy)⟩ ?_
   clear r1 r2 r4 a0
   rintro⟨j,l2⟩ H2 m2 ⟨hj,hI2,hpre,hat2,hT,hm2,⟨d1,r1⟩,⟨d2,r2⟩,⟨d4,r4⟩,hkeep2⟩
   dsimp only at hj hI2 hpre hat2 hT r1 r2 ⊢
   have hlen2:=iJ n _ hI2.nd hat2
   rw[List.length_map] at hlen2
   have hp2:=hI2.pos
   have hkl2:k<l2.length:=Nat.lt_of_lt_of_le hkl hpre.length_le
   have hgk:=lE (d:=default) hpre hkl
   have a0:(l2.map oA.av).length=l2.length:=List.length_map _
   by_cases hjl:j<xs.length
   ·have e0:∀d,(xs.map i64).getD ((j:Int)).toNat d=i64 (xs.getD j 0):=fun d=>ints_at hjl d
    rw[List.drop_eq_getElem_cons hjl,show xs[j]=xs.getD j 0 by simp[List.getD,hjl],GR] at hT
    have hxm:=hinx (xs.getD j 0) (cO 0 hjl)
    have hxl:xs.getD j 0∈mm L S (l2.getD k default).at_:=by rw[hgk,hlead];exact cO 0 hjl
    generalize xs.getD j 0=x at *
    by_cases hxf:x=first
    ·rw[if_pos hxf] at hT
     rw[<-hT] at hB
     dsimp only at hB
     have r0:=decide_eq_true hxf
     refine cP ?_
     clear e0 r0 r2 r4
     have hfrom:∀i,i<l.length->(l.getD i default).from_<l.length:=fun i hi=>by
      by_cases h0:i=0
      ·subst h0;rw[hI.zero];show(-1:Int)<_;omega
      ·obtain⟨q,q1,q2,q3,_⟩:=hI.par i (by omega) hi
       rw[q3];omega
     have hR:pE (sh (mm L S) n first) nx=pE (some (qn l k)) nx:=by rw[hB]
     rw[hR]
     have hup:v8 l2 (k+1) k=v8 l (k+1) k:=GV hpre (k+1) k (by omega) hfrom
     have hwl:=(O4 hI k hkl).len
     refine aR (fun σ:Int×List Int=>[(5, .sl (nx+3) l2.length),(10, .sl (m2+10) σ.2.length),(11,i64 σ.1)])
      (fun σ H3 m3=>((σ.1=-1/\σ.2=v8 l2 (k+1) k)\/∃i:Nat,σ.1=i/\i<=k/\σ.2++v8 l2 (i+1) i=v8 l2 (k+1) k)/\m2+11<=m3/\(∃d,bt H3 (nx+3)=some (.row 144 2 d (l2.map oA.av)))/\(∃d,bt H3 (m2+10)=some (.row 3 1 d (σ.2.map i64)))/\∀y,y<nx->bt H3 y=bt H0 y) (fun σ=>(σ.1+1).toNat) (k,[])
      ⟨_,_,_,Rt.nil 10 3 1 (by omega) rfl,cC, .inr ⟨k,rfl,Nat.le_refl _,rfl⟩,cX,⟨_,bu⟩,⟨_,bu⟩,fun y hy=>Eq.trans cE (hkeep2 y hy)⟩ ?_
     clear r1
     rintro⟨at_,out⟩ H3 m3 ⟨hcase,hm3,⟨d1,r1⟩,⟨d5,r5⟩,hkeep3⟩
     dsimp only at hcase r5 ⊢
     rcases hcase with⟨rfl,hout⟩|⟨i,rfl,hik,hout⟩
     ·have hol:out.length<=1048576:=by
       have h1:=hwl
       unfold qn at h1
       rw[List.length_reverse] at h1
       rw[hout,hup,h1]
       have:=hI.mono k k (Nat.le_refl _) hkl
       have hd:(l.getD k default).dep<=k:=LV hI k hkl
       omega
      refine cP ?_
      refine aG (qe (b:=m2+10) (l:=out) ?_ hol ⟨d5, ?_⟩) ?_
      ·exact cX
      ·exact bu
      rintro _ H4 m4 ⟨⟨d6,r6⟩,hm4,hkeep4⟩
      refine cP ?_
      have hw:qn l k=out.reverse:=by unfold qn;rw[hout,hup]
      rw[hw]
      refine⟨⟨?_,fun y hy=> ?_,m2+10,d6,by omega, ?_,by rw[List.length_reverse],bu⟩⟩
      ·exact cX
      ·refine Eq.trans cE (Eq.trans (hkeep4 y ?_ (by omega)) (Eq.trans cE (hkeep3 y hy)))
       exact cX
      ·exact cX
     ·have hil:i<l2.length:=by omega
      have e0:∀d,(l2.map oA.av).getD ((i:Int)).toNat d= .agg [i64 (l2.getD i default).at_,i64 (l2.getD i default).from_]:=fun d=>by rw[Int.toNat_natCast];exact cx oA.av l2 i d hil
      have hge:(0:Int)<=i:=by omega
      have hol:out.length<=1048576:=by
       have h1:=congrArg List.length hout
       have h2:=hwl
       unfold qn at h2
       rw[List.length_reverse] at h2
       rw[hup,h2,List.length_append] at h1
       have hd:(l.getD k default).dep<=k:=LV hI k hkl
       omega
      have a1:(out.map i64).length=out.length:=List.length_map _
      rw[v8,if_neg (by omega),Int.toNat_natCast] at hout
      by_cases h0:i=0
      ·subst h0
       have hz:=hI2.zero
       rw[hz] at e0 hout
       dsimp only at e0 hout
       rw[v8] at hout
       refine cP ?_
       exact⟨(-1,out++[first]),by dsimp only;omega,_,_,_,Rt.refl _ _ _,by rw[List.length_append];exact cC, .inl ⟨rfl,hout⟩,cX,⟨_,bu⟩,⟨_,by dsimp only;rw[List.map_append];exact bu⟩,fun y hy=>Eq.trans cE (hkeep3 y hy)⟩
      ·obtain⟨q,q1,q2,q3,_⟩:=hI2.par i (by omega) hil
       rw[q3,BW hI2 q (by omega) i q1] at hout
       rw[q3] at e0
       refine cP ?_
       exact⟨((q:Int),out++[(l2.getD i default).at_]),by dsimp only;omega,_,_,_,Rt.refl _ _ _,by rw[List.length_append];exact cC, .inr ⟨q,rfl,by omega,by dsimp only;rw[List.append_assoc];exact hout⟩,cX,⟨_,bu⟩,⟨_,by dsimp only;rw[List.map_append];exact bu⟩,fun y hy=>Eq.trans cE (hkeep3 y hy)⟩
    ·rw[if_neg hxf] at hT
     have r0:=decide_eq_false hxf
     have hmem:=PO hp2 hI2.zero hxf
     by_cases hin2:x∈jN l2
     ·rw[if_pos hin2] at hT
      have g0:=T1 (jN l2).tail x (hmem.2 hin2)
      refine cP ?_
      exact⟨(j+1,l2),by dsimp only;omega,cC,by dsimp only;omega,hI2,hpre,hat2,hT,cX,⟨_,bu⟩,⟨_,bu⟩,⟨_,bu⟩,fun y hy=>Eq.trans cE (hkeep2 y hy)⟩
     ·rw[if_neg hin2] at hT
      have hnm:=mt hmem.1 hin2
      have g0:=QS (jN l2).tail x hnm
      have g1:=T2 (jN l2).tail x hnm
      have hadd:=hI2.add hkl2 hxl hxf hin2
      rw[hgk] at hadd
      refine cP ?_
      refine⟨(j+1,l2++[⟨x,k,(l.getD k default).dep+1⟩]),by dsimp only;omega, ?_,by dsimp only;omega,hadd,hpre.trans (List.prefix_append _ _),fun y hy=> ?_,hT,cX, ?_, ?_,⟨_,bu⟩,fun y hy=>Eq.trans cE (hkeep2 y hy)⟩
      ·rw[List.length_append];exact cC
      ·unfold jN at hy
       rw[List.map_append] at hy
       rcases List.mem_append.1 hy with hy|hy
       ·exact hat2 y hy
       ·simp only[List.map_cons,List.map_nil,List.mem_cons,List.not_mem_nil,or_false] at hy
        rw[hy];exact hxm
      ·rw[List.map_append];exact⟨_,bu⟩
      ·rw[LD hp2];exact⟨_,bu⟩
   ·obtain rfl:j=xs.length:=by omega
    rw[List.drop_length,GR] at hT
    rw[<-hT] at hB
    dsimp only at hB
    refine cP ?_
    exact⟨(k+1,l2),by dsimp only;omega,cC,by dsimp only;omega,hI2.on,hat2,by dsimp only;rw[show n+1 - (k+1)=n - k by omega];exact hB,cX,⟨_,bu⟩,⟨_,bu⟩,fun y hy=>Eq.trans cE (hkeep2 y hy)⟩
  ·have g0:=xA (S:=S) (.sc (.slice none 0 0)) hx
   have hlead:mm L S (l.getD k default).at_=[]:=if_neg hx
   rw[hlead,GR] at hB
   dsimp only at hB
   refine cP ?_
   refine aF (fun _:Nat=>[(0, .mp mb),(1,i64 first),(5, .sl (nx+3) l.length),(6, .mp (nx+5)),(7,i64 k),(29,i64 0),(30,i64 0)])
    (fun _ H2 m2=>m<=m2/\(∃d,bt H2 (nx+3)=some (.row 144 2 d (l.map oA.av)))/\(∃d,bt H2 (nx+5)=some (.row 3 0 d (mapA (NA (jN l).tail))))/\∀y,y<nx->bt H2 y=bt H0 y) (fun _=>0) 0
    cC ⟨cX,⟨_,bu⟩,⟨_,bu⟩,fun y hy=>Eq.trans cE (hkeep y hy)⟩ ?_
   clear r1 r2
   rintro _ H2 m2 ⟨hm2,⟨d1,r1⟩,⟨d2,r2⟩,hkeep2⟩
   refine cP ?_
   exact⟨(k+1,l),by dsimp only;omega,cC,by dsimp only;omega,hI.on,hat,by dsimp only;rw[show n+1 - (k+1)=n - k by omega];exact hB,cX,⟨_,bu⟩,⟨_,bu⟩,fun y hy=>Eq.trans cE (hkeep2 y hy)⟩
 ·rw[if_neg hkl] at hB
  refine cP ?_
  rw[<-hB]
  exact⟨⟨cX,fun y hy=>Eq.trans cE (hkeep y hy),rfl⟩⟩
end Go.Proofs.YtjopoheligmmoaaGreatDoor
namespace Go.cw
structure B7 (P:Program) (n:Nat) (c:Code) where
 lc:LC
 ok:dD P n c=some lc
set_option maxRecDepth 100000 in
def I5 {P:Program} {n:Nat} {c:Code} {lc:LC}
 (h:dD P n c=some lc:=by with_unfolding_all conv=>lhs;(reduce;simp only[Int.reduceOfNat,Int.reduceNegSucc])):B7 P n c:=⟨lc,h⟩
end Go.cw
namespace Go.Proofs.YtjopoheligmmoaaGreatDoor
open Go Go.cw Go.Proofs
set_option linter.unusedSimpArgs false
set_option linter.unusedVariables false
set_option maxRecDepth 100000
set_option maxRecDepth 8000
noncomputable def ZE:Nat:=(Tryz.f15).ntmps
theorem OD:ZE=86:=by kernel_rfl
noncomputable def lr0:B7 Tryz.prog 86 (Code.l jb):=I5
noncomputable def lr1:B7 Tryz.prog 86 (Code.l (Code.r jb)):=I5
noncomputable def lr2:B7 Tryz.prog 86 (Code.l (Code.r (Code.r jb))):=I5
noncomputable def lr3:B7 Tryz.prog 86 (Code.l (Code.r (Code.r (Code.r jb)))):=I5
noncomputable def lr4:B7 Tryz.prog 86 (Code.l (Code.r (Code.r (Code.r (Code.r jb))))):=I5
noncomputable def lr6:B7 Tryz.prog 86 (Code.r (Code.r (Code.r (Code.r (Code.r (Code.r jb)))))):=I5
theorem JT:jb= .seq (Code.l jb) (.seq (Code.l (Code.r jb)) (.seq (Code.l (Code.r (Code.r jb))) (.seq (Code.l (Code.r (Code.r (Code.r jb)))) (.seq (Code.l (Code.r (Code.r (Code.r (Code.r jb))))) (.seq ZG (Code.r (Code.r (Code.r (Code.r (Code.r (Code.r jb))))))))))):=by kernel_rfl
def kA (es:List fA) (h:Int):List Int:=es.foldl (fun a e=>if e.held=h/\e.taken∉a then a++[e.taken] else a) []
theorem qz (es:List fA) (e:fA) (h:Int):kA (es++[e]) h=if e.held=h/\e.taken∉kA es h then kA es h++[e.taken] else kA es h:=by unfold kA;rw[List.foldl_append];rfl
theorem yr {h x:Int}:∀(es:List fA),x∈kA es h↔∃e∈es,e.held=h/\e.taken=x:=by
 intro es
 induction es using AJ with
 |h0=>simp[kA]
 |h1 l e ih=>
  rw[qz]
  constructor
  ·intro hx
   split at hx
   ·rename_i hc
    rcases List.mem_append.1 hx with hx|hx
    ·obtain⟨y,hy,h1⟩:=ih.1 hx
     exact⟨y,List.mem_append_left _ hy,h1⟩
    ·simp only[List.mem_cons,List.not_mem_nil,or_false] at hx
     exact⟨e,by simp,hc.1,hx.symm⟩
   ·obtain⟨y,hy,h1⟩:=ih.1 hx
    exact⟨y,List.mem_append_left _ hy,h1⟩
  ·rintro⟨y,hy,h1,h2⟩
   rcases List.mem_append.1 hy with hy|hy
   ·have:=ih.2 ⟨y,hy,h1,h2⟩
    split
    ·exact List.mem_append_left _ this
    ·exact this
   ·simp only[List.mem_cons,List.not_mem_nil,or_false] at hy
    subst hy
    by_cases hm:y.taken∈kA l h
    ·rw[if_neg fun c=>c.2 hm,<-h2];exact hm
    ·rw[if_pos ⟨h1,hm⟩,h2];simp
theorem CD {h:Int}:∀(es:List fA),(kA es h).Nodup:=by
 intro es
 induction es using AJ with
 |h0=>exact List.nodup_nil
 |h1 l e ih=>
  rw[qz]
  split
  ·rename_i hc
   refine List.nodup_append.2 ⟨ih,by simp,fun a ha b hb=> ?_⟩
   simp only[List.mem_cons,List.not_mem_nil,or_false] at hb
   subst hb
   exact fun e=>hc.2 (e▸ha)
  ·exact ih
theorem FM {u:bx} (hr:cg u) {es:List fA} (hes:∀e∈es,e∈dn u) (h:Int):(kA es h).length<=16:=by
 have:=iJ u.cB.length _ (CD es (h:=h)) fun x hx=>by
  obtain⟨e,he,_,rfl⟩:=(yr es).1 hx
  exact(zQ hr (hes e he)).2
 have:=hr.oh.2.1
 omega
theorem AH {S S':Int->List Int}:∀(L:List (Int×Nat)) (i:Nat) (p:Int×Nat),p∈L->(L.map (·.1)).Nodup->(∀x,x≠p.1->S' x=S x)->∃j,fG false (.int .i64 p.1) (fB L S) i=some (some (i+j, .sl p.2 (S p.1).length))/\(fB L S).set j (.dI [.sc (.int .i64 p.1), .sl p.2 (S' p.1).length])=fB L S'
 |[],i,p,h,_,_=>by cases h
 |q::r,i,p,h,hn,hS=>by
  rw[List.map_cons,List.nodup_cons] at hn
  have e1:fB (q::r) S=og (.int .i64 q.1) (.sl q.2 (S q.1).length)::fB r S:=rfl
  have e2:fB (q::r) S'=og (.int .i64 q.1) (.sl q.2 (S' q.1).length)::fB r S':=rfl
  rw[e1,e2]
  rcases List.mem_cons.1 h with rfl|h
  ·refine⟨0,by simp[fG,uK,og,DJ], ?_⟩
   rw[List.set_cons_zero]
   congr 1
   unfold fB
   refine List.map_congr_left fun q hq=> ?_
   rw[hS q.1 fun e=>hn.1 (by rw[<-e];exact List.mem_map.2 ⟨q,hq,rfl⟩)]
  ·have hne:p.1≠q.1:=fun e=>hn.1 (by rw[<-e];exact List.mem_map.2 ⟨p,h,rfl⟩)
   obtain⟨j,hj,hs⟩:=AH r (i+1) p h hn.2 hS
   refine⟨j+1, ?_, ?_⟩
   ·simp only[fG,uK,og,DJ,if_true,decide_eq_false hne]
    rw[hj]
    simp;omega
   ·rw[List.set_cons_succ,hs,hS q.1 hne.symm]
theorem yA {S S':Int->List Int} {L:List (Int×Nat)} {p:Int×Nat} (hp:p∈L) (hk:(L.map (·.1)).Nodup) (hS:∀x,x≠p.1->S' x=S x):qW false (.int .i64 p.1) (fB L S) (.sl p.2 (S' p.1).length)=some (fB L S'):=by
 obtain⟨j,hj,hs⟩:=AH L 0 p hp hk hS
 unfold qW
 rw[hj]
 simp only[Nat.zero_add]
 rw[hs]
theorem xz {S S':Int->List Int} {L:List (Int×Nat)} {x:Int} (b:Nat) (hx:x∉L.map (·.1)) (hS:∀y,y≠x->S' y=S y):qW false (.int .i64 x) (fB L S) (.sl b (S' x).length)=some (fB (L++[(x,b)]) S'):=by
 unfold qW
 rw[rV L x 0 hx]
 simp only[fB,List.map_append,List.map_cons,List.map_nil,Option.some.injEq]
 congr 1
 refine List.map_congr_left fun q hq=> ?_
 rw[hS q.1 fun e=>hx (by rw[<-e];exact List.mem_map.2 ⟨q,hq,rfl⟩)]
def gU (u:bx) (h:Int):List Int:=eX (kA (dn u) h)
theorem IY {u:bx} {h x:Int}:x∈gU u h↔∃e∈dn u,e.held=h/\e.taken=x:=by unfold gU;rw[J4,yr]
theorem NB {u:bx} (hr:cg u) (h:Int):∀x∈gU u h,0<=x/\x<u.cB.length:=fun x hx=>by
 obtain⟨e,he,_,rfl⟩:=IY.1 hx
 exact(zQ hr he).2
def sZ (u:bx):Option (List Int):=kB (gU u) u.cB.length u.cB.length
theorem _root_.Go.cw.WC.last {P:Program} {n lo:Nat} {fr:Fr} {H:Hp} {nx:Nat} {Q:QT} {code:Code} {lc:LC} (hl:dD P n code=some lc) (h:Go (W P n lo lc fr H nx Q)):WC P n lo code fr H nx Q:=WC.low hl (fX h)
theorem yQ {a:AV} {H:Hp} {nx:Nat} {R:AV->Hp->Nat->Prop} (h:WC Tryz.prog 86 nx jb (kG 0 [a]) H nx (vD [.tmp 2, .tmp 3, .tmp 4] R)):cU Tryz.prog 15 [a] H nx R:=by
 have hn:(Tryz.f15).ntmps=86:=OD
 refine cU.Q3 Tryz.func15 (by kernel_rfl) (show _=some jb by kernel_rfl) (lrs:=[.tmp 2, .tmp 3, .tmp 4]) (by kernel_rfl) (by rw[hn];exact(by decide:1<=86)) ?_
 rw[hn]
 exact h
theorem contains_nil (x:Int):Pure Tryz.prog 39 [.sc (.slice none 0 0),i64 x] (fun r=>r=bl false):=
 Pure.args (lC [] x (by decide)) fun c=> .cons (cw.db.jE c c 1 .any) (.cons (fun _ h=>h) .nil)
theorem GY {H:Hp} {b:Nat} {e:TypeId} {d:AV} {l:List Int} (x:Int) (h:bt H b=some (.row e 1 d (l.map i64))):[AV.sl b l.length,i64 x].map (cw.dY H 6)=[cT l,i64 x]:=by
 show[cw.dY H 6 (.sl b l.length),i64 x]=_
 rw[dH (k:=5) h (by simp),cn _ ((cD _ _).2 fun _ _=>by simp[cH])]
theorem JG {L:List (Int×Nat)} (hb:(L.map (·.2)).Nodup) {p q:Int×Nat} (hp:p∈L) (hq:q∈L) (e:p.2=q.2):p=q:=by
 obtain⟨i,hi,rfl⟩:=List.getElem_of_mem hp
 obtain⟨j,hj,rfl⟩:=List.getElem_of_mem hq
 have:=(List.getElem_inj (xs:=L.map (·.2)) (h₀:=by simpa using hi) (h₁:=by simpa using hj) hb).1 (by simpa using e)
 subst this;rfl
theorem JE {L:List (Int×Nat)} (hb:(L.map (·.1)).Nodup) {p q:Int×Nat} (hp:p∈L) (hq:q∈L) (e:p.1=q.1):p=q:=by
 obtain⟨i,hi,rfl⟩:=List.getElem_of_mem hp
 obtain⟨j,hj,rfl⟩:=List.getElem_of_mem hq
 have:=(List.getElem_inj (xs:=L.map (·.1)) (h₀:=by simpa using hi) (h₁:=by simpa using hj) hb).1 (by simpa using e)
 subst this;rfl
theorem DM {L:List (Int×Nat)} {S S':Int->List Int} (h:∀p∈L,(S' p.1).length=(S p.1).length):fB L S'=fB L S:=List.map_congr_left fun p hp=>by rw[h p hp]
def KY (u:bx) (r:AV) (H:Hp):Prop:=match sZ u with
 |none=>r= .dI [.sc (.slice none 0 0),bl false,i64 0]
 |some w=>∃b d,r= .dI [.sl b w.length,bl true,i64 0]/\bt H b=some (.row 3 1 d (w.map i64))
set_option maxHeartbeats 4000000 in
theorem JS (u:bx) (hu:u.Wf) (hr:cg u):cU Tryz.prog 15 [u.av] [] 0 (fun r H n=>KY u r H):=by
 have c0:=uH u hu hr
 have hel:=rK hr (Nat.le_refl u.bw.length)
 have hgl:=hr.oh.2.2
 have hle:=hr.oh.2.1
 change (dn u).length<=_ at hel
 refine yQ ?_
 rw[JT]
 refine WC.cut lr0.ok ?_
 refine cP ?_
 refine⟨_,_,_,Rt.refl _ _ _,WC.cut lr1.ok ?_⟩
 refine cP ?_
 refine⟨_,_,_,Rt.refl _ _ _,WC.cut lr2.ok ?_⟩
 refine cP ?_
 refine⟨_,_,_,Rt.refl _ _ _,WC.cut lr3.ok ?_⟩
 refine cP ?_
 refine⟨_,_,_,Rt.refl _ _ _,WC.cut lr4.ok ?_⟩
 refine cP ?_
 simp only[List.length_map]
 clear c0
 have hR:∀r H,KY u r H=match kB (gU u) u.cB.length u.cB.length with
  |none=>r= .dI [.sc (.slice none 0 0),bl false,i64 0]
  |some w=>∃b d,r= .dI [.sl b w.length,bl true,i64 0]/\bt H b=some (.row 3 1 d (w.map i64)):=fun _ _=>rfl
 have hles:∀i h,(kA ((dn u).take i) h).length<=16:=fun i h=>FM hr (fun e he=>List.mem_of_mem_take he) h
 refine aF (fun σ:Nat×List (Int×Nat)=>[(1, .pt 0 1 0 0),(7, .mp 12),(23,xq (dn u)),(24,i64 (dn u).length),(25,i64 σ.1)])
  (fun σ H n=>σ.1<=(dn u).length/\13<=n/\(∃d,bt H 0=some (.row 25 3 d [u.av]))/\qw 12 σ.2 (kA ((dn u).take σ.1)) H/\(σ.2.map (·.2)).Nodup/\(∀p∈σ.2,13<=p.2/\p.2<n)/\∀h,h∈σ.2.map (·.1)↔kA ((dn u).take σ.1) h≠[]) (fun σ=>(dn u).length - σ.1) (0,[])
  cC ⟨Nat.zero_le _,cX,⟨_,bu⟩,⟨⟨_,bu⟩,(fun p hp=>by cases hp),List.nodup_nil⟩,List.nodup_nil,(fun p hp=>by cases hp),fun h=>by simp[kA]⟩ ?_
 rintro⟨i,L⟩ H n ⟨hi,hn,⟨d0,r0⟩,hL,hb,hids,hkeys⟩
 dsimp only at hi hL hb hids hkeys ⊢
 have a0:((dn u).map fA.av).length=(dn u).length:=List.length_map _
 obtain⟨d1,r1⟩:=hL.map
 by_cases hil:i<(dn u).length
 ·have e0:∀d,((dn u).map fA.av).getD ((i:Int)).toNat d=((dn u).getD i default).av:=fun d=>by rw[Int.toNat_natCast];exact cx fA.av (dn u) i d hil
  have hsn:=fun h=>qz ((dn u).take i) ((dn u).getD i default) h
  rw[show(dn u).take i++[(dn u).getD i default]=(dn u).take (i+1) by rw[List.take_succ_eq_append_getElem hil];simp[List.getD,hil]] at hsn
  have hl1:=hles i
  have hl2:=hles (i+1)
  generalize (dn u).getD i default=e at *
  generalize h2:kA ((dn u).take (i+1))=S2 at *
  generalize kA ((dn u).take i)=S at *
  obtain⟨hd,tk,th,nd⟩:=e
  dsimp only at hsn
  by_cases hx:hd∈L.map (·.1)
  ·obtain⟨p,hp,hpe⟩:=List.mem_map.1 hx
   have g0:=AG (S:=S) (.sc (.slice none 0 0)) hp hL.keys
   obtain⟨d4,r4⟩:=hL.row p hp
   obtain⟨hp0,hp1⟩:=hids p hp
   rw[hpe] at g0 r4
   have hlS:=hl1 hd
   have hc:=lC (S hd) tk (by omega)
   refine cP ?_
   refine aP hc (GY tk bu) (by simp only[c8,cH];exact⟨(cD _ _).2 fun _ _=>by simp[cH],trivial,trivial⟩) (by simp[gT]) ?_
   clear hc
   by_cases hm:tk∈S hd
   ·have r2:=decide_eq_true hm
    have hSS:S2=S:=funext fun h=>by rw[hsn,if_neg fun c=>c.2 (by rw[<-c.1];exact hm)]
    rw[hSS] at h2
    refine cP ?_
    refine⟨(i+1,L),by dsimp only;omega,cC,by dsimp only;omega,cX,⟨_,bu⟩, ?_,hb,fun q hq=>⟨(hids q hq).1,Nat.lt_of_lt_of_le (hids q hq).2 cX⟩, ?_⟩
    ·dsimp only
     rw[h2]
     refine⟨⟨_,bu⟩,fun q hq=> ?_,hL.keys⟩
     obtain⟨dq,rq⟩:=hL.row q hq
     have hq1:=hids q hq
     exact⟨dq,bu⟩
    ·dsimp only
     rw[h2]
     exact hkeys
   ·have r2:=decide_eq_false hm
    have hS2:∀x,x≠hd->S2 x=S x:=fun x hx=>by rw[hsn,if_neg fun c=>hx c.1.symm]
    have hS3:S2 hd=S hd++[tk]:=by rw[hsn,if_pos ⟨rfl,hm⟩]
    have g1:=yA (S:=S) (S':=S2) hp hL.keys (fun x hx=>hS2 x (by rw[<-hpe];exact hx))
    rw[hpe,hS3,List.length_append,List.length_singleton] at g1
    refine cP ?_
    refine⟨(i+1,L),by dsimp only;omega,cC,by dsimp only;omega,cX,⟨_,bu⟩, ?_,hb,fun q hq=>⟨(hids q hq).1,Nat.lt_of_lt_of_le (hids q hq).2 cX⟩, ?_⟩
    ·dsimp only
     rw[h2]
     refine⟨⟨_,bu⟩,fun q hq=> ?_,hL.keys⟩
     by_cases hqp:q=p
     ·subst hqp
      rw[hpe,hS3,List.map_append]
      exact⟨_,bu⟩
     ·obtain⟨dq,rq⟩:=hL.row q hq
      have hq1:=hids q hq
      have hq2:q.2≠p.2:=fun e=>hqp (JG hb hq hp e)
      have hq3:q.1≠hd:=fun e=>hqp (JE hL.keys hq hp (e.trans hpe.symm))
      rw[hS2 _ hq3]
      exact⟨dq,bu⟩
    ·dsimp only
     rw[h2]
     intro h
     by_cases e:h=hd
     ·rw[e,hS3]
      exact⟨fun _=>by simp,fun _=>hx⟩
     ·rw[hS2 h e];exact hkeys h
  ·have g0:=xA (S:=S) (.sc (.slice none 0 0)) hx
   have c0:=contains_nil tk
   have hS0:S hd=[]:=by
    have:=mt (hkeys hd).2 hx
    simpa using this
   have hS2:∀x,x≠hd->S2 x=S x:=fun x hx=>by rw[hsn,if_neg fun c=>hx c.1.symm]
   have hS3:S2 hd=[tk]:=by rw[hsn,hS0,if_pos ⟨rfl,by simp⟩];rfl
   have g1:=xz (S:=S) (S':=S2) (n+22) hx hS2
   rw[hS3,List.length_singleton] at g1
   refine cP ?_
   refine⟨(i+1,L++[(hd,n+22)]),by dsimp only;omega,cC,by dsimp only;omega,cX,⟨_,bu⟩, ?_, ?_,fun q hq=> ?_, ?_⟩
   ·dsimp only
    rw[h2]
    refine⟨⟨_,bu⟩,fun q hq=> ?_, ?_⟩
    ·rcases List.mem_append.1 hq with hq|hq
     ·obtain⟨dq,rq⟩:=hL.row q hq
      have hq1:=hids q hq
      have hq3:q.1≠hd:=fun e=>hx (by rw[<-e];exact List.mem_map.2 ⟨q,hq,rfl⟩)
      rw[hS2 _ hq3]
      exact⟨dq,bu⟩
     ·simp only[List.mem_cons,List.not_mem_nil,or_false] at hq
      subst hq
      dsimp only
      rw[hS3]
      exact⟨_,bu⟩
    ·rw[List.map_append]
     refine List.nodup_append.2 ⟨hL.keys,by simp,fun a ha b hb=> ?_⟩
     simp only[List.map_cons,List.map_nil,List.mem_cons,List.not_mem_nil,or_false] at hb
     subst hb
     exact fun e=>hx (e▸ha)
   ·dsimp only
    rw[List.map_append]
    refine List.nodup_append.2 ⟨hb,by simp,fun a ha b hb=> ?_⟩
    simp only[List.map_cons,List.map_nil,List.mem_cons,List.not_mem_nil,or_false] at hb
    subst hb
    obtain⟨q,hq,rfl⟩:=List.mem_map.1 ha
    have:=(hids q hq).2
    omega
   ·rcases List.mem_append.1 hq with hq|hq
    ·exact⟨(hids q hq).1,Nat.lt_of_lt_of_le (hids q hq).2 cX⟩
    ·simp only[List.mem_cons,List.not_mem_nil,or_false] at hq
     subst hq
     refine⟨by dsimp only;omega, ?_⟩
     exact cX
   ·dsimp only
    rw[h2]
    intro h
    rw[List.map_append,List.mem_append]
    by_cases e:h=hd
    ·rw[e,hS3];simp
    ·rw[hS2 h e,<-hkeys h];simp[e]
 ·obtain rfl:i=(dn u).length:=by omega
  rw[List.take_length] at hL hkeys r1
  refine cP ?_
  have hne:∀p∈L,kA (dn u) p.1≠[]:=fun p hp=>(hkeys p.1).1 (List.mem_map.2 ⟨p,hp,rfl⟩)
  have hls:∀h,(kA (dn u) h).length<=16:=fun h=>FM hr (fun e he=>he) h
  have h12:(12:Nat)∉L.map (·.2):=fun h=>by
   obtain⟨p,hp,e⟩:=List.mem_map.1 h
   have:=(hids p hp).1
   omega
  have h00:(0:Nat)∉L.map (·.2):=fun h=>by
   obtain⟨p,hp,e⟩:=List.mem_map.1 h
   have:=(hids p hp).1
   omega
  refine⟨[(1, .pt 0 1 0 0),(7, .mp 12)],_,_,Rt.less cC,WC.seq (UK (L:=L) (S:=kA (dn u)) JV (by decide) rfl (by simp[vu,cq]) hb hL.keys h12 ⟨_,bu⟩ (fun p hp=> ?_) (fun p hp=>⟨hne p hp,by have:=hls p.1;omega⟩) fun H' hrows hrest=> ?_)⟩
  ·obtain⟨dp,rp⟩:=hL.row p hp
   have:=hids p hp
   exact⟨dp,bu⟩
  have hL':qw 12 L (gU u) H':=by
   refine⟨⟨d1, ?_⟩,hrows,hL.keys⟩
   rw[hrest 12 h12,show fB L (gU u)=fB L (kA (dn u)) from DM fun p _=>lr _]
   exact bu
  have hu0:∃d,bt H' 0=some (.row 25 3 d [u.av]):=⟨d0,by rw[hrest 0 h00];exact bu⟩
  have hlead:mm L (gU u)=gU u:=by
   funext x
   unfold mm
   split
   ·rfl
   ·rename_i hx
    have:=mt (hkeys x).2 hx
    simp only[ne_eq,Classical.not_not] at this
    unfold gU
    rw[this];simp[eX]
  have hin:=NB hr
  clear r0 r1 hrest hrows hL
  obtain⟨d0,r0⟩:=hu0
  show WC Tryz.prog 86 0 _ _ H' _ _
  refine WC.last lr6.ok ?_
  refine cP ?_
  simp only[List.length_map]
  have hids1:∀p∈L,p.2<n+1:=fun p hp=>Nat.lt_succ_of_lt (hids p hp).2
  refine aF (fun σ:Nat×AV=>[(1, .pt 0 1 0 0),(7, .mp 12),(11,σ.2),(61,i64 u.cB.length),(62,i64 σ.1)])
   (fun σ H2 n2=>σ.1<=u.cB.length/\n+1<=n2/\(∀y,y<n+1->bt H2 y=bt H' y)/\((kB (gU u) u.cB.length σ.1=none/\σ.2= .sc (.slice none 0 0))\/∃w b d,kB (gU u) u.cB.length σ.1=some w/\σ.2= .sl b w.length/\n+1<=b/\b<n2/\bt H2 b=some (.row 3 1 d (w.map i64)))) (fun σ=>u.cB.length - σ.1) (0, .sc (.slice none 0 0))
   cC ⟨Nat.zero_le _,cX,fun y hy=>cE, .inl ⟨rfl,rfl⟩⟩ ?_
  rintro⟨k,bA⟩ H2 n2 ⟨hk,hn2,hkeep,hbest⟩
  dsimp only at hk hbest ⊢
  have hL2:=hL'.cc (by omega:12<n+1) hids1 hkeep
  have r2:bt H2 0=some (.row 25 3 d0 [u.av]):=(hkeep 0 (by omega)).trans r0
  by_cases hkl:k<u.cB.length
  ·have hnx:=fun w hw=>((tm (lead:=gU u) (n:=u.cB.length) (first:=(k:Int)) hin ⟨by omega,by omega⟩).1 w hw)
   have hstep:kB (gU u) u.cB.length (k+1)=match sh (gU u) u.cB.length (k:Int),kB (gU u) u.cB.length k with
    |none,b=>b
    |some l,none=>some l
    |some l,some b=>if l.length<b.length then some l else some b:=rfl
   rcases hbest with⟨hb0,rfl⟩|⟨w,b,d3,hb0,rfl,hb1,hb2,r3⟩
   ·rw[hb0] at hstep
    refine cP ?_
    refine aG (pB (n:=u.cB.length) (first:=(k:Int)) (hL2.cc (nx:=n2) (by omega) (fun p hp=>by have:=hids p hp;omega) fun y hy=>cE) ?_ ?_ (by rw[hlead];exact hin) hle (fun x=>by unfold gU;rw[lr];exact hls x) ⟨by omega,by omega⟩) ?_
    ·exact cX
    ·exact fun p hp=>Nat.lt_of_lt_of_le (hids p hp).2 cX
    rintro r H4 m4 ⟨hm4,hkeep4,hR4⟩
    rw[hlead] at hR4
    unfold pE at hR4
    cases hq:sh (gU u) u.cB.length (k:Int) with
    |none=>
     rw[hq] at hR4 hstep
     dsimp only at hR4 hstep
     subst hR4
     refine cP ?_
     refine⟨(k+1, .sc (.slice none 0 0)),by dsimp only;omega,cC,by dsimp only;omega,cX,fun y hy=>Eq.trans cE (Eq.trans (hkeep4 y ?_) (Eq.trans cE (hkeep y hy))), .inl ⟨hstep,rfl⟩⟩
     exact Nat.lt_of_lt_of_le (Nat.lt_of_lt_of_le hy hn2) cX
    |some w=>
     rw[hq] at hR4 hstep
     dsimp only at hR4 hstep
     obtain⟨b,d4,hb1,hb2,rfl,r4⟩:=hR4
     obtain⟨_,hcy,_,hwin,_⟩:=hnx w hq
     have hwl:=hcy.pos
     refine cP ?_
     refine aT (yE bu ⟨by simp,hwl⟩) ?_
     refine cP ?_
     refine⟨(k+1, .sl b w.length),by dsimp only;omega,cC,by dsimp only;omega,cX,fun y hy=>Eq.trans cE (Eq.trans (hkeep4 y ?_) (Eq.trans cE (hkeep y hy))), .inr ⟨w,b,d4,hstep,rfl, ?_, ?_,bu⟩⟩
     ·exact Nat.lt_of_lt_of_le (Nat.lt_of_lt_of_le hy hn2) cX
     ·omega
     ·exact Nat.lt_of_lt_of_le hb2 cX
   ·rw[hb0] at hstep
    refine cP ?_
    refine aG (pB (n:=u.cB.length) (first:=(k:Int)) (hL2.cc (nx:=n2) (by omega) (fun p hp=>by have:=hids p hp;omega) fun y hy=>cE) ?_ ?_ (by rw[hlead];exact hin) hle (fun x=>by unfold gU;rw[lr];exact hls x) ⟨by omega,by omega⟩) ?_
    ·exact cX
    ·exact fun p hp=>Nat.lt_of_lt_of_le (Nat.lt_of_lt_of_le (hids1 p hp) hn2) cX
    rintro r H4 m4 ⟨hm4,hkeep4,hR4⟩
    rw[hlead] at hR4
    unfold pE at hR4
    have hb3:=hkeep4 b (Nat.lt_of_lt_of_le hb2 cX)
    have r5:bt H4 b=some (.row 3 1 d3 (w.map i64)):=hb3.trans bu
    clear hb3
    have hwl:0<w.length:=by
     obtain⟨f,hf,hbf,_⟩:=oE hb0
     exact(((tm (lead:=gU u) (n:=u.cB.length) (first:=(f:Int)) hin ⟨by omega,by omega⟩).1 w hbf).2.1).pos
    cases hq:sh (gU u) u.cB.length (k:Int) with
    |none=>
     rw[hq] at hR4 hstep
     dsimp only at hR4 hstep
     subst hR4
     refine cP ?_
     refine⟨(k+1, .sl b w.length),by dsimp only;omega,cC,by dsimp only;omega,cX,fun y hy=>Eq.trans cE (Eq.trans (hkeep4 y ?_) (Eq.trans cE (hkeep y hy))), .inr ⟨w,b,d3,hstep,rfl,hb1, ?_,bu⟩⟩
     ·exact Nat.lt_of_lt_of_le (Nat.lt_of_lt_of_le hy hn2) cX
     ·exact Nat.lt_of_lt_of_le hb2 cX
    |some w2=>
     rw[hq] at hR4 hstep
     dsimp only at hR4 hstep
     obtain⟨b4,d4,hb4,hb5,rfl,r4⟩:=hR4
     obtain⟨_,hcy,_,hwin,_⟩:=hnx w2 hq
     have hwl2:=hcy.pos
     have a1:(w.map i64).length=w.length:=List.length_map _
     have a2:(w2.map i64).length=w2.length:=List.length_map _
     by_cases hlt:w2.length<w.length
     ·rw[if_pos hlt] at hstep
      have r6:=decide_eq_true (show((w2.length:Int))<w.length by omega)
      refine cP ?_
      refine⟨(k+1, .sl b4 w2.length),by dsimp only;omega,cC,by dsimp only;omega,cX,fun y hy=>Eq.trans cE (Eq.trans (hkeep4 y ?_) (Eq.trans cE (hkeep y hy))), .inr ⟨w2,b4,d4,hstep,rfl, ?_, ?_,bu⟩⟩
      ·exact Nat.lt_of_lt_of_le (Nat.lt_of_lt_of_le hy hn2) cX
      ·omega
      ·exact Nat.lt_of_lt_of_le hb5 cX
     ·rw[if_neg hlt] at hstep
      refine cP ?_
      refine aV (fun hc=>absurd hc (by simp;omega)) (fun hc=> ?_)
      refine cP ?_
      refine⟨(k+1, .sl b w.length),by dsimp only;omega,cC,by dsimp only;omega,cX,fun y hy=>Eq.trans cE (Eq.trans (hkeep4 y ?_) (Eq.trans cE (hkeep y hy))), .inr ⟨w,b,d3,hstep,rfl,hb1, ?_,bu⟩⟩
      ·exact Nat.lt_of_lt_of_le (Nat.lt_of_lt_of_le hy hn2) cX
      ·exact Nat.lt_of_lt_of_le hb2 cX
  ·obtain rfl:k=u.cB.length:=by omega
   rcases hbest with⟨hb0,rfl⟩|⟨w,b,d3,hb0,rfl,hb1,hb2,r3⟩
   ·refine cP ?_
    exact⟨by rw[hR,hb0];rfl⟩
   ·have hwl:0<w.length:=by
     obtain⟨f,hf,hbf,_⟩:=oE hb0
     exact(((tm (lead:=gU u) (n:=u.cB.length) (first:=(f:Int)) hin ⟨by omega,by omega⟩).1 w hbf).2.1).pos
    refine cP ?_
    refine aT (yE bu ⟨by simp,hwl⟩) ?_
    refine cP ?_
    exact⟨by rw[hR,hb0];exact⟨b,d3,rfl,bu⟩⟩
theorem zP {P:Program} {ss:List tS} {fr fr2:Fr} {H H2:Hp} {nx nx2:Nat} {Q:QT} (h:Rt fr H nx fr2 H2 nx2) (k:gZ P ss fr2 H2 nx2 Q):gZ P ss fr H nx Q:=
 ⟨fun n lo code hc w0 M0 c0 a w hh=>k.1 n lo code hc w0 M0 c0 a w (h w0 M0 c0 lo n a w hh)⟩
theorem HJ {P:Program} {ss:List tS} {fr fr2:Fr} {H H2:Hp} {nx nx2:Nat} {Q:QT} (h:Rt fr H nx fr2 H2 nx2) (C:Hp->Prop) (hC:C H2) (k:∀H3,C H3->gZ P ss fr2 H3 nx2 Q):gZ P ss fr H nx Q:=zP h (k H2 hC)
theorem S9 {u:bx} {m:MS} {L:ML} {H:Hp} (hM:L.At u m H) (nx:Nat):Wk (.pt L.mr 1 0 0) H nx (m.fz u) (mj (kr L.all H) H) nx:=by
 have:=Wk.V8 (nx:=nx) (r:= .pt L.mr 1 0 0) (kr L.all H) 6 (fun b q hq=>sA hq)
 rwa[hM.vm 2] at this
end Go.Proofs.YtjopoheligmmoaaGreatDoor
namespace Go.cw
open Go.RowKit
set_option linter.unusedSimpArgs false
set_option linter.unusedVariables false
section
variable {P:Program} {n lo:Nat} {fr:Fr} {H:Hp} {nx:Nat} {Q:QT}
theorem WL.rt {lc:LC} {fr2:Fr} {H2:Hp} {nx2:Nat} (hw:Rt fr H nx fr2 H2 nx2) (h:WL P n lo lc fr2 H2 nx2 Q):WL P n lo lc fr H nx Q:=
 fun code hc w0 M0 c0 a w hh=>h code hc w0 M0 c0 a w (hw _ _ _ _ _ _ _ hh)
theorem WL.cut {a b:LC} (h:Go (W P n lo a fr H nx (jH (fun fr' H' nx'=>∃fr2 H2 nx2,Rt fr' H' nx' fr2 H2 nx2/\WL P n lo b fr2 H2 nx2 Q) Q))):WL P n lo (.seq a b) fr H nx Q:=
 WL.seq ((fX h).mono fun e fr H nx hh=>by
  cases e with
  |normal=>
   obtain⟨fr2,H2,nx2,h1,h2⟩:=hh
   exact WL.rt h1 h2
  |exit id=>exact hh
  |ret=>exact hh)
theorem ar {f:FuncId} {args:List AV} {R:AV->Hp->Nat->Prop} (X:dw P f) (ha:Nat.ble args.length X.n=true) (h:WL P X.n nx X.lc (kG 0 args) H nx (vD X.rs R)):cU P f args H nx R:=by
 obtain⟨fn,h1,h2,h3,h4,h5⟩:=X.ok
 have h6:X.n=fn.ntmps:=h5
 rw[h6] at h ha
 exact cU.qZ h1 h2 h3 h4 (Nat.le_of_ble_eq_true ha) (h.mono fun _ _ _ _=>yP)
theorem WL.last {lc:LC} (h:Go (W P n lo lc fr H nx Q)):WL P n lo lc fr H nx Q:=fX h
theorem aa {lc:LC} {b:Nat} {q:Option fH} (h:bt H b=q) (k:∀H2:Hp,bt H2 b=q->Go (W P n lo lc fr H2 nx Q)):W P n lo lc fr H nx Q:=k H h
end
end Go.cw
namespace Go.Proofs.YtjopoheligmmoaaGreatDoor
open Go Go.cw Go.Proofs
set_option linter.unusedSimpArgs false
set_option linter.unusedVariables false
set_option maxRecDepth 8000
theorem VU (u:bx) (m:MS) (h:eN u m) {t:Nat} (ht:t<u.bw.length):Pure Tryz.prog 30 [m.fz u,i64 t] (fun r=>r=i64 (m.at_.getD t 0)):=by
 have c0:=BT u m t
 have hl:=h.nG
 rw[decide_eq_true (by omega:¬((t:Int)<0\/(m.at_.length:Int)<=t))] at c0
 have e0:=fun d=>ints_at (l:=m.at_) (k:=t) (by omega) d
 have a0:(m.at_.map i64).length=u.bw.length:=by simp[hl]
 refine aD aAO rfl ?_
 refine cP ?_
 first|exact rfl|trivial
theorem IN (u:bx) (m:MS) (h:eN u m) {x:Nat} (hx:x<u.cB.length):Pure Tryz.prog 33 [m.fz u,i64 x] (fun r=>r=i64 (m.hold.getD x 0)):=by
 have hl:=h.hl
 have e0:=fun d=>ints_at (l:=m.hold) (k:=x) (by omega) d
 have a0:(m.hold.map i64).length=u.cB.length:=by simp[hl]
 refine aD aAQ rfl ?_
 refine cP ?_
 refine aV (fun hc=>absurd hc (by simp[hl];omega)) fun hc=> ?_
 refine cP ?_
 first|exact rfl|trivial
abbrev pg (u:bx) (m:MS):AV:= .agg [cF u.shared,cF u.cB,cZ u.bw,m.fz u]
theorem qR (u:bx) (hr:cg u) (m:MS) (h:eN u m) {t:Nat} (ht:t<u.bw.length):Pure Tryz.prog 50 [pg u m,i64 t] (fun r=>r=i64 (ep u m t)):=by
 have c0:=VU u m h ht
 have hno:=h.node hr ht
 obtain⟨p0,p1⟩:=h.iS t ht
 have e0:∀d,(u.bw.map cG.av).getD ((t:Int)).toNat d=(u.gr t).av:=fun d=>nV ht d
 have a0:(u.bw.map cG.av).length=u.bw.length:=by simp
 have hh:ep u m t=if((u.gr t).nd (m.at_.getD t 0).toNat).kind=5 then m.hold.getD ((u.gr t).nd (m.at_.getD t 0).toNat).cI.toNat 0 else -1:=by
  unfold ep MS.node;rw[Int.toNat_natCast]
 rw[hh]
 unfold MS.node at hno
 obtain⟨j,hj⟩:∃j:Nat,m.at_.getD t 0=j:=⟨(m.at_.getD t 0).toNat,by omega⟩
 rw[hj] at c0 p1 hno ⊢
 rw[Int.toNat_natCast] at hno ⊢
 generalize u.gr t=g at *
 have e1:∀d,(g.nodes.map Node.av).getD ((j:Int)).toNat d=(g.nd j).av:=fun d=>gm (by omega) d
 have a1:(g.nodes.map Node.av).length=g.nodes.length:=by simp
 generalize g.nd j=n at *
 by_cases h5:n.kind=5
 ·obtain⟨x0,x1⟩:=gK hno (.inl h5)
  have c1:=IN u m h (x:=n.cI.toNat) (by omega)
  rw[Int.toNat_of_nonneg x0] at c1
  rw[if_pos h5]
  have r0:decide (n.kind≠5)=false:=decide_eq_false fun e=>e h5
  refine aD Y1 rfl ?_
  refine cP ?_
  first|exact rfl|trivial
 ·rw[if_neg h5]
  have r0:decide (n.kind≠5)=true:=decide_eq_true h5
  refine aD Y1 rfl ?_
  refine cP ?_
  first|exact rfl|trivial
set_option maxHeartbeats 2000000 in
theorem ER (u:bx) (hr:cg u) (m:MS) (h:eN u m) {t:Nat} (ht:t<u.bw.length) (H0:Hp) (nx:Nat):
 cU Tryz.prog 49 [i64 t, .fn (.func 50) [pg u m] []] H0 nx (fun r H k=>nx<=k/\(∀y,y<nx->bt H y=bt H0 y)/\pE (lI (ep u m) u.bw.length (t:Int)) nx k r H):=by
 have hfew:=hr.oh.2.2
 have c0:=qR u hr m h ht
 have hf:cH 0 (pg u m):=by simp[cH,c8,cD]
 refine aJ aAY rfl ?_
 refine cP ?_
 generalize hfn:ep u m=hd at *
 have hlt:∀x:Int,0<=x->x<u.bw.length->-1<=hd x/\hd x<u.bw.length:=fun x h0 h1=>by rw[<-hfn];exact wu hr h ⟨h0,h1⟩
 have hcw:∀x:Int,0<=x->x<u.bw.length->Pure Tryz.prog 50 [pg u m,i64 x] (fun r=>r=i64 (hd x)):=fun x h0 h1=>by
  obtain⟨k,rfl⟩:∃k:Nat,x=k:=⟨x.toNat,by omega⟩
  rw[<-hfn];exact qR u hr m h (by omega)
 refine aF (fun σ:Int×List Int=>[(0,i64 t),(1, .fn (.func 50) [pg u m] []),(5, .sl (nx+2) σ.2.length),(6,i64 σ.1)])
  (fun σ H2 n2=>kz hd (t:Int) σ.2/\(∀x∈σ.2,0<=x/\x<u.bw.length)/\σ.1=hd (σ.2.getD (σ.2.length - 1) 0)/\lH hd (t:Int) (u.bw.length+1 - σ.2.length) σ.2 σ.1=lI hd u.bw.length (t:Int)/\nx+3<=n2/\(∃d,bt H2 (nx+2)=some (.row 3 1 d (σ.2.map i64)))/\∀y,y<nx->bt H2 y=bt H0 y) (fun σ=>u.bw.length+1 - σ.2.length) (hd t,[(t:Int)])
  cC ⟨.one (by omega),fun x hx=>by simp only[List.mem_cons,List.not_mem_nil,or_false] at hx;omega,rfl,rfl,cX,⟨_,bu⟩,fun y hy=>cE⟩ ?_
 clear c0
 rintro⟨s,out⟩ H2 n2 ⟨hg,hin,hs,hR,hn2,⟨d1,r1⟩,hkeep⟩
 dsimp only at hg hin hs hR r1 ⊢
 have hol:=iJ _ _ hg.nd hin
 have hp:=hg.pos
 have hlast:=hin _ (cO 0 (show out.length - 1<out.length by omega))
 have hsl:=hlt _ hlast.1 hlast.2
 rw[<-hs] at hsl
 have a0:(out.map i64).length=out.length:=List.length_map _
 rw[show u.bw.length+1 - out.length=(u.bw.length - out.length)+1 by omega,lH] at hR
 by_cases hst:s=t
 ·rw[if_pos hst] at hR
  have r0:decide (s≠t)=false:=decide_eq_false fun e=>e hst
  rw[<-hR]
  refine cP ?_
  refine⟨⟨?_,fun y hy=>Eq.trans cE (hkeep y hy),nx+2,d1,by omega, ?_,rfl,bu⟩⟩
  ·exact cX
  ·exact cX
 ·rw[if_neg hst] at hR
  have r0:decide (s≠t)=true:=decide_eq_true hst
  have hview:∀H3,bt H3 (nx+2)=some (.row 3 1 d1 (out.map i64))->[AV.sl (nx+2) out.length,i64 s].map (cw.dY H3 6)=[cT out,i64 s]:=fun H3 h3=>GY s h3
  have hfit:c8 0 [cT out,i64 s]:=by
   simp only[c8,cH];exact⟨(cD _ _).2 fun _ _=>by simp[cH],trivial,trivial⟩
  refine cP ?_
  refine bG (fun _=>lC out s (by omega)) (hview _ bu) hfit (by simp[gT]) ?_
  by_cases h0:s<0
  ·rw[if_pos (.inl h0)] at hR
   rw[<-hR]
   refine cP ?_
   refine⟨⟨?_,fun y hy=>Eq.trans cE (hkeep y hy),rfl⟩⟩
   exact cX
  ·by_cases hm:s∈out
   ·rw[if_pos (.inr hm)] at hR
    rw[<-hR]
    rw[decide_eq_true hm]
    refine cP ?_
    refine⟨⟨?_,fun y hy=>Eq.trans cE (hkeep y hy),rfl⟩⟩
    exact cX
   ·rw[if_neg fun e=>e.elim h0 hm] at hR
    rw[decide_eq_false hm]
    have c0:=hcw s (by omega) hsl.2
    refine cP ?_
    have hm2:=hg.more hs (by omega) hm
    have hin2:∀x∈out++[s],0<=x/\x<u.bw.length:=fun x hx=>by
     rcases List.mem_append.1 hx with hx|hx
     ·exact hin x hx
     ·simp only[List.mem_cons,List.not_mem_nil,or_false] at hx;omega
    refine⟨(hd s,out++[s]), ?_,by rw[List.length_append];exact cC,hm2,hin2, ?_, ?_,cX,⟨_,by dsimp only;rw[List.map_append];exact bu⟩,fun y hy=>Eq.trans cE (hkeep y hy)⟩
    ·dsimp only;rw[List.length_append,List.length_singleton];omega
    ·dsimp only;rw[List.length_append,List.length_singleton,Nat.add_sub_cancel,fg]
    ·dsimp only
     rw[List.length_append,List.length_singleton,show u.bw.length+1 - (out.length+1)=u.bw.length - out.length by omega]
     exact hR
abbrev VH (u:bx) (m:MS) (t:Int):MS:=if m.jR u t=0 then(m.step u t.toNat).1 else m
theorem DZ (u:bx) (m:MS) (t:Int):(VH u m t).cA.length<=m.cA.length+1:=by
 unfold VH
 split
 ·exact ko u m _
 ·omega
theorem yZ {u:bx} {m:MS} {L:ML} {H:Hp} {nx:Nat} (hu:u.Wf) (hr:cg u) (h:eN u m) (hM:L.At u m H) (hlt:∀y∈L.all,y<nx) (hpl:m.cA.length<=1048576) (t:Int):
 cU Tryz.prog 31 [.pt L.mr 1 0 0,i64 t] H nx (fun r H' k=>(∃d e,r= .dI [.agg d,i64 e])/\L.At u (VH u m t) H'/\nx<=k/\∀y,y<nx->y∉L.all->bt H' y=bt H y):=by
 by_cases hb:m.jR u t=0
 ·obtain⟨k,rfl,hk⟩:=CG h hb
  have:=xK hu hr h hM hlt hpl hk hb
  refine this.mono ?_
  rintro r H' n ⟨rfl,h1,h2,h3⟩
  refine⟨⟨_,_,rfl⟩, ?_,h2,h3⟩
  unfold VH;rw[if_pos hb,Int.toNat_natCast];exact h1
 ·refine(OP hr h hM hlt t hb).mono ?_
  rintro r H' n ⟨rfl,h2,h3⟩
  refine⟨⟨_,_,rfl⟩, ?_,h2,fun y hy _=>h3 y hy⟩
  unfold VH;rw[if_neg hb]
  exact hM.cc fun y hy=>h3 y (hlt y hy)
theorem JK (u:bx) (m:MS) (w:List Int) {i:Nat} (hi:i<w.length):iK u m (w.take (i+1))=VH u (iK u m (w.take i)) (w.getD i 0):=by
 rw[List.take_succ_eq_append_getElem hi,rj,show w[i]=w.getD i 0 by simp[List.getD,hi]]
 rfl
theorem AB {u:bx} {m:MS} {k:Nat} {l:List Int} (h:jQ u m k=some l):∀n,k<=n->jQ u m n=some l:=by
 intro n hn
 obtain⟨d,rfl⟩:∃d,n=k+d:=⟨n - k,by omega⟩
 induction d with
 |zero=>exact h
 |succ d ih=>
  rw[<-Nat.add_assoc,jQ,ih (by omega)]
def FI (u:bx) (m:MS) (r:AV) (H:Hp):Prop:=match u5 u m with
 |none=>r= .dI [.sc (.slice none 0 0),bl false,i64 0]
 |some w=>∃b d,r= .dI [.sl b w.length,bl true,i64 0]/\bt H b=some (.row 3 1 d (w.map i64))
set_option maxHeartbeats 4000000 in
theorem IV (u:bx) (hu:u.Wf) (hr:cg u) (w:List Int) (hw:w.length<=1048576):cU Tryz.prog 21 [u.av,cT w] [] 0 (fun r H n=>FI u (iK u (cz u) w) r H):=by
 have a0:(w.map i64).length=w.length:=List.length_map _
 have hgl:=hr.oh.2.2
 refine ar aAM rfl ?_
 refine WL.cut ?_
 refine cP ?_
 refine⟨_,_,_,Rt.refl _ _ _,WL.cut ?_⟩
 refine cP ?_
 refine aG (uk u hu hr _ _) ?_
 rintro _ H1 n1 ⟨L,rfl,hM,hL,hn1,hkp⟩
 refine cP ?_
 refine⟨_,_,_,Rt.refl _ _ _,WL.cut ?_⟩
 refine cP ?_
 refine⟨_,_,_,Rt.refl _ _ _,WL.cut ?_⟩
 refine cP ?_
 obtain⟨d0,r0⟩:∃d,bt H1 0=some (.row 25 3 d [u.av]):=⟨_,Eq.trans (hkp 0 (by omega)) bu⟩
 have hL0:∀x∈L.all,1<=x:=fun x hx=>by have:=(hL x hx).1;omega
 have hL1:∀x∈L.all,x<n1:=fun x hx=>(hL x hx).2
 clear hkp hL
 refine⟨_,_,_,Rt.refl _ _ _,WL.cut ?_⟩
 refine cP ?_
 rw[a0]
 refine aF (fun i:Nat=>[(2, .pt 0 1 0 0),(7, .pt L.mr 1 0 0),(25,cT w),(26,i64 w.length),(27,i64 i)])
  (fun i H n=>i<=w.length/\n1<=n/\L.At u (iK u (cz u) (w.take i)) H/\(iK u (cz u) (w.take i)).cA.length<=i/\∃d,bt H 0=some (.row 25 3 d [u.av])) (fun i=>w.length - i) 0
  cC ⟨Nat.zero_le _,cX,hM.cc fun y hy=> ?_,Nat.zero_le _,⟨_,bu⟩⟩ ?_
 ·have:=hL1 y hy;have:=hL0 y hy;exact cE
 clear r0 hM
 rintro i H n ⟨hi,hn,hM,hpr,⟨d0,r0⟩⟩
 have hsit:ve u (iK u (cz u) (w.take i)):=ve.JJ hu hr (ve.new hu hr)
 by_cases hil:i<w.length
 ·have e0:∀d,(w.map i64).getD ((i:Int)).toNat d=i64 (w.getD i 0):=fun d=>ints_at hil d
  have hpn:=JK u (cz u) w hil
  have hp2:=DZ u (iK u (cz u) (w.take i)) (w.getD i 0)
  rw[<-hpn] at hp2
  refine cP ?_
  refine aG (yZ hu hr hsit.ok (hM.cc fun y hy=> ?_) (fun y hy=> ?_) (by omega) (w.getD i 0)) ?_
  ·have:=hL1 y hy;have:=hL0 y hy;exact cE
  ·exact Nat.lt_of_lt_of_le (Nat.lt_of_lt_of_le (hL1 y hy) hn) cX
  rintro _ H2 n2 ⟨⟨d,e,rfl⟩,hM2,hn2,hkeep2⟩
  rw[<-hpn] at hM2
  have r1:bt H2 0=some (.row 25 3 d0 [u.av]):=Eq.trans (hkeep2 0 (by omega) fun h=>by have:=hL0 0 h;omega) bu
  refine cP ?_
  refine⟨i+1,by omega,cC,by omega,cX,hM2.cc fun y hy=> ?_,by omega,⟨_,bu⟩⟩
  have:=hL1 y hy;have:=hL0 y hy;exact cE
 ·obtain rfl:i=w.length:=by omega
  rw[List.take_length] at hM hpr hsit
  refine cP ?_
  generalize iK u (cz u) w=m at *
  have hz:(0:Nat)∉L.all:=fun h=>by have:=hL0 0 h;omega
  have hM2:L.At u m (dS H none):=hM.cc fun y hy=>by have:=hL1 y hy;have:=hL0 y hy;exact cE
  refine⟨[(2, .pt 0 1 0 0),(7,m.fz u)],_,_,Rt.trans (Rt.slot 7 rfl (S9 hM2 _)) (Rt.less cC),WL.last (aa (b:=0) (q:=some (.row 25 3 d0 [u.av])) ((eW hz).trans (Eq.trans cE r0)) fun H2 r3=> ?_)⟩
  clear hM hM2 r0 hpr
  refine cP ?_
  simp only[List.length_map]
  refine aF (fun t:Nat=>[(2, .pt 0 1 0 0),(11, .pt (n+4) 1 0 0),(39,cZ u.bw),(40,i64 u.bw.length),(41,i64 t)])
   (fun t H3 n3=>t<=u.bw.length/\n+5<=n3/\jQ u m t=none/\∃d,bt H3 (n+4)=some (.row 90 4 d [pg u m])) (fun t=>u.bw.length - t) 0
   cC ⟨Nat.zero_le _,cX,rfl,⟨_,bu⟩⟩ ?_
  clear r3
  rintro t H3 n3 ⟨ht,hn3,hkt,⟨d4,r4⟩⟩
  have hnx:jQ u m (t+1)=lI (ep u m) u.bw.length (t:Int):=by
   rw[jQ,hkt]
  by_cases htl:t<u.bw.length
  ·refine cP ?_
   refine aG (ER u hr m hsit.ok htl _ _) ?_
   rintro r H5 n5 ⟨hn5,hkeep5,hR⟩
   have r5:bt H5 (n+4)=some (.row 90 4 d4 [pg u m]):=Eq.trans (hkeep5 (n+4) (Nat.lt_of_lt_of_le (by omega) (show n3<=_ from cX))) bu
   unfold pE at hR
   cases hq:lI (ep u m) u.bw.length (t:Int) with
   |none=>
    rw[hq] at hR hnx
    dsimp only at hR
    subst hR
    refine cP ?_
    exact⟨t+1,by omega,cC,by omega,cX,hnx,⟨_,bu⟩⟩
   |some l=>
    rw[hq] at hR hnx
    dsimp only at hR
    obtain⟨b,d6,hb1,hb2,rfl,r6⟩:=hR
    have hl:=(s8 (by omega) hq).1.pos
    have a2:(l.map i64).length=l.length:=List.length_map _
    refine cP ?_
    refine⟨?_⟩
    unfold FI u5
    rw[AB hnx _ (by omega)]
    exact⟨b,d6,rfl,bu⟩
  ·obtain rfl:t=u.bw.length:=by omega
   refine cP ?_
   refine⟨?_⟩
   unfold FI u5
   rw[hkt]
end Go.Proofs.YtjopoheligmmoaaGreatDoor
