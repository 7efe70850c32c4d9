import Derived.Test.YtjopoheligmmoaaGreatDoorM38
import Derived.Test.YtjopoheligmmoaaGreatDoorM37
import Derived.Test.YtjopoheligmmoaaGreatDoorM31
namespace Go.Proofs.YtjopoheligmmoaaGreatDoor
open Go Go.dA Go.Proofs
set_option linter.unusedSimpArgs false
set_option linter.unusedVariables false
set_option maxRecDepth 8000
structure rB (mb:Nat) (L:List (Int×Nat)) (S:Int->List Int) (H:Hp):Prop where
 map:∃d,cC H mb=some (.row 3 0 d (mapA (fE L S)))
 row:∀p∈L,∃d,cC H p.2=some (.row 3 1 d ((S p.1).map i64))
 keys:(L.map (·.1)).Nodup
def mq (L:List (Int×Nat)) (S:Int->List Int) (x:Int):List Int:=if x∈L.map (·.1) then S x else[]
theorem rB.cd {mb:Nat} {L:List (Int×Nat)} {S:Int->List Int} {H H':Hp} (h:rB mb L S H) {nx:Nat} (hmb:mb<nx) (hids:∀p∈L,p.2<nx) (hk:∀y,y<nx->cC H' y=cC H y):rB mb L S H':=
 ⟨by obtain⟨d,hd⟩:=h.map;exact⟨d,(hk mb hmb).trans hd⟩,fun p hp=>by obtain⟨d,hd⟩:=h.row p hp;exact⟨d,(hk _ (hids p hp)).trans hd⟩,h.keys⟩
abbrev lL.av (e:lL):AV:= .agg [i64 e.at_,i64 e.from_]
def pD (R:Option (List Int)) (nx k:Nat) (r:AV) (H:Hp):Prop:=match R with
 |none=>r= .sc (.slice none 0 0)
 |some w=>∃b d,nx<=b/\b<k/\r= .sl b w.length/\cC H b=some (.row 3 1 d (w.map i64))
theorem K9 {l:List lL} (hp:0<l.length) (e:lL):(ic (l++[e])).tail=(ic l).tail++[e.at_]:=by
 cases l with
 |nil=>simp at hp
 |cons a r=>simp[ic]
theorem PJ {l:List lL} {first x:Int} (hp:0<l.length) (h0:l.getD 0 default=⟨first,-1,0⟩) (hx:x≠first):x∈(ic l).tail↔x∈ic l:=by
 cases l with
 |nil=>simp at hp
 |cons a r=>
  have:a=⟨first,-1,0⟩:=by simpa[List.getD] using h0
  subst this
  simp[ic,hx]
theorem LU {lead:Int->List Int} {first:Int} {k:Nat} {l:List lL} (h:iZ lead first k l):∀i,i<l.length->(l.getD i default).dep<=i:=by
 intro i
 induction i using Nat.strongRecOn with
 |_ i ih=>
  intro hi
  by_cases h0:i=0
  ·subst h0;rw[h.zero];exact Nat.le_refl _
  ·obtain⟨p,h1,_,_,_,h5⟩:=h.par i (by omega) hi
   have:=ih p h1 (by omega)
   omega
set_option maxHeartbeats 4000000 in
theorem pA {mb nx n:Nat} {L:List (Int×Nat)} {S:Int->List Int} {H0:Hp} (hL:rB mb L S H0) (hmb:mb<nx) (hids:∀p∈L,p.2<nx) (hin:∀x,∀y∈mq L S x,0<=y/\y<n) (hn:n<=16) (hS:∀x,(S x).length<=16) {first:Int} (hf:0<=first/\first<n):
 cT Tryz.prog 41 [.mp mb,i64 first] H0 nx (fun r H k=>nx<=k/\(∀y,y<nx->cC H y=cC H0 y)/\pD (mE (mq L S) n first) nx k r H):=by
 refine aM aAP rfl ?_
 refine ca ?_
 refine aI (fun σ:Nat×List lL=>[(0, .mp mb),(1,i64 first),(5, .sl (nx+3) σ.2.length),(6, .mp (nx+5)),(7,i64 σ.1)])
  (fun σ H k=>σ.1<=n/\iZ (mq L S) first σ.1 σ.2/\(∀x∈ic σ.2,0<=x/\x<n)/\tM (mq L S) first (n+1 - σ.1) σ.1 σ.2=mE (mq L S) n first/\nx+6<=k/\(∃d,cC H (nx+3)=some (.row 144 2 d (σ.2.map lL.av)))/\(∃d,cC H (nx+5)=some (.row 3 0 d (mapA (NF (ic σ.2).tail))))/\∀y,y<nx->cC H y=cC H0 y) (fun σ=>n+1 - σ.1) (0,[⟨first,-1,0⟩])
  cJ ⟨Nat.zero_le _,iZ.start _ _,fun x hx=>by simp only[ic,List.map_cons,List.map_nil,List.mem_cons,List.not_mem_nil,or_false] at hx;rw[hx];exact hf,rfl,cZ,⟨_,cE⟩,⟨_,cE⟩,fun y hy=>cM⟩ ?_
 rintro⟨k,l⟩ H m ⟨hkn,hI,hat,hB,hm,⟨d1,r1⟩,⟨d2,r2⟩,hkeep⟩
 dsimp only at hkn hI hat hB r1 r2 ⊢
 have hlen:=fW n _ hI.nd hat
 rw[List.length_map] at hlen
 have a0:(l.map lL.av).length=l.length:=List.length_map _
 rw[show n+1 - k=(n - k)+1 by omega,tM] at hB
 by_cases hkl:k<l.length
 ·rw[if_pos hkl] at hB
  have e0:∀d,(l.map lL.av).getD ((k:Int)).toNat d= .agg [i64 (l.getD k default).at_,i64 (l.getD k default).from_]:=fun d=>by rw[Int.toNat_natCast];exact dI lL.av l k d hkl
  have hL1:=hL.cd hmb hids hkeep
  obtain⟨d3,r3⟩:=hL1.map
  by_cases hx:(l.getD k default).at_∈L.map (·.1)
  ·obtain⟨p,hp,hpe⟩:=List.mem_map.1 hx
   have g0:=zr (S:=S) (.sc (.slice none 0 0)) hp hL1.keys
   obtain⟨d4,r4⟩:=hL1.row p hp
   rw[hpe] at g0 r4
   have hlead:mq L S (l.getD k default).at_=S (l.getD k default).at_:=if_pos hx
   rw[hlead] at hB
   have hSx:=hS (l.getD k default).at_
   have hinx:=hin (l.getD k default).at_
   rw[hlead] at hinx
   have hpn:=hids p hp
   have a1:((S (l.getD k default).at_).map i64).length=(S (l.getD k default).at_).length:=List.length_map _
   refine ca ?_
   clear e0 g0 r3
   generalize hxs:S (l.getD k default).at_=xs at *
   refine aI (fun σ:Nat×List lL=>[(0, .mp mb),(1,i64 first),(5, .sl (nx+3) σ.2.length),(6, .mp (nx+5)),(7,i64 k),(28, .sl p.2 xs.length),(29,i64 xs.length),(30,i64 σ.1)])
    (fun σ H2 m2=>σ.1<=xs.length/\iZ (mq L S) first k σ.2/\l<+:σ.2/\(∀x∈ic σ.2,0<=x/\x<n)/\yQ first k (l.getD k default).dep (xs.drop σ.1) σ.2=yQ first k (l.getD k default).dep xs l/\m<=m2/\(∃d,cC H2 (nx+3)=some (.row 144 2 d (σ.2.map lL.av)))/\(∃d,cC H2 (nx+5)=some (.row 3 0 d (mapA (NF (ic σ.2).tail))))/\(∃d,cC H2 p.2=some (.row 3 1 d (xs.map i64)))/\∀y,y<nx->cC H2 y=cC H0 y) (fun σ=>xs.length - σ.1) (0,l)
    cJ ⟨Nat.zero_le _,hI,List.prefix_refl _,hat,rfl,cZ,⟨_,cE⟩,⟨_,cE⟩,⟨_,cE⟩,fun y hy=>Eq.trans cM (hkeep y hy)⟩ ?_
   clear r1 r2 r4 a0
   rintro⟨j,l2⟩ H2 m2 ⟨hj,hI2,hpre,hat2,hT,hm2,⟨d1,r1⟩,⟨d2,r2⟩,⟨d4,r4⟩,hkeep2⟩
   dsimp only at hj hI2 hpre hat2 hT r1 r2 ⊢
   have hlen2:=fW n _ hI2.nd hat2
   rw[List.length_map] at hlen2
   have hp2:=hI2.pos
   have hkl2:k<l2.length:=Nat.lt_of_lt_of_le hkl hpre.length_le
   have hgk:=gB (d:=default) hpre hkl
   have a0:(l2.map lL.av).length=l2.length:=List.length_map _
   by_cases hjl:j<xs.length
   ·have e0:∀d,(xs.map i64).getD ((j:Int)).toNat d=i64 (xs.getD j 0):=fun d=>ints_at hjl d
    rw[List.drop_eq_getElem_cons hjl,show xs[j]=xs.getD j 0 by simp[List.getD,hjl],yQ] at hT
    have hxm:=hinx (xs.getD j 0) (cQ 0 hjl)
    have hxl:xs.getD j 0∈mq L S (l2.getD k default).at_:=by rw[hgk,hlead];exact cQ 0 hjl
    generalize xs.getD j 0=x at *
    by_cases hxf:x=first
    ·rw[if_pos hxf] at hT
     rw[<-hT] at hB
     dsimp only at hB
     have r0:=decide_eq_true hxf
     refine ca ?_
     clear e0 r0 r2 r4
     have hfrom:∀i,i<l.length->(l.getD i default).from_<l.length:=fun i hi=>by
      by_cases h0:i=0
      ·subst h0;rw[hI.zero];show(-1:Int)<_;omega
      ·obtain⟨q,q1,q2,q3,_⟩:=hI.par i (by omega) hi
       rw[q3];omega
     have hR:pD (mE (mq L S) n first) nx=pD (some (iF l k)) nx:=by rw[hB]
     rw[hR]
     have hup:vB l2 (k+1) k=vB l (k+1) k:=yM hpre (k+1) k (by omega) hfrom
     have hwl:=(E7 hI k hkl).len
     refine aV (fun σ:Int×List Int=>[(5, .sl (nx+3) l2.length),(10, .sl (m2+10) σ.2.length),(11,i64 σ.1)])
      (fun σ H3 m3=>((σ.1=-1/\σ.2=vB l2 (k+1) k)\/∃i:Nat,σ.1=i/\i<=k/\σ.2++vB l2 (i+1) i=vB l2 (k+1) k)/\m2+11<=m3/\(∃d,cC H3 (nx+3)=some (.row 144 2 d (l2.map lL.av)))/\(∃d,cC H3 (m2+10)=some (.row 3 1 d (σ.2.map i64)))/\∀y,y<nx->cC H3 y=cC H0 y) (fun σ=>(σ.1+1).toNat) (k,[])
      ⟨_,_,_,Rt.nil 10 3 1 (by omega) rfl,cJ, .inr ⟨k,rfl,Nat.le_refl _,rfl⟩,cZ,⟨_,cE⟩,⟨_,cE⟩,fun y hy=>Eq.trans cM (hkeep2 y hy)⟩ ?_
     clear r1
     rintro⟨at_,out⟩ H3 m3 ⟨hcase,hm3,⟨d1,r1⟩,⟨d5,r5⟩,hkeep3⟩
     dsimp only at hcase r5 ⊢
     rcases hcase with⟨rfl,hout⟩|⟨i,rfl,hik,hout⟩
     ·have hol:out.length<=1048576:=by
       have h1:=hwl
       unfold iF at h1
       rw[List.length_reverse] at h1
       rw[hout,hup,h1]
       have:=hI.mono k k (Nat.le_refl _) hkl
       have hd:(l.getD k default).dep<=k:=LU hI k hkl
       omega
      refine ca ?_
      refine aJ (qg (b:=m2+10) (l:=out) ?_ hol ⟨d5, ?_⟩) ?_
      ·exact cZ
      ·exact cE
      rintro _ H4 m4 ⟨⟨d6,r6⟩,hm4,hkeep4⟩
      refine ca ?_
      have hw:iF l k=out.reverse:=by unfold iF;rw[hout,hup]
      rw[hw]
      refine⟨⟨?_,fun y hy=> ?_,m2+10,d6,by omega, ?_,by rw[List.length_reverse],cE⟩⟩
      ·exact cZ
      ·refine Eq.trans cM (Eq.trans (hkeep4 y ?_ (by omega)) (Eq.trans cM (hkeep3 y hy)))
       exact cZ
      ·exact cZ
     ·have hil:i<l2.length:=by omega
      have e0:∀d,(l2.map lL.av).getD ((i:Int)).toNat d= .agg [i64 (l2.getD i default).at_,i64 (l2.getD i default).from_]:=fun d=>by rw[Int.toNat_natCast];exact dI lL.av l2 i d hil
      have hge:(0:Int)<=i:=by omega
      have hol:out.length<=1048576:=by
       have h1:=congrArg List.length hout
       have h2:=hwl
       unfold iF at h2
       rw[List.length_reverse] at h2
       rw[hup,h2,List.length_append] at h1
       have hd:(l.getD k default).dep<=k:=LU hI k hkl
       omega
      have a1:(out.map i64).length=out.length:=List.length_map _
      rw[vB,if_neg (by omega),Int.toNat_natCast] at hout
      by_cases h0:i=0
      ·subst h0
       have hz:=hI2.zero
       rw[hz] at e0 hout
       dsimp only at e0 hout
       rw[vB] at hout
       refine ca ?_
       exact⟨(-1,out++[first]),by dsimp only;omega,_,_,_,Rt.refl _ _ _,by rw[List.length_append];exact cJ, .inl ⟨rfl,hout⟩,cZ,⟨_,cE⟩,⟨_,by dsimp only;rw[List.map_append];exact cE⟩,fun y hy=>Eq.trans cM (hkeep3 y hy)⟩
      ·obtain⟨q,q1,q2,q3,_⟩:=hI2.par i (by omega) hil
       rw[q3,BL hI2 q (by omega) i q1] at hout
       rw[q3] at e0
       refine ca ?_
       exact⟨((q:Int),out++[(l2.getD i default).at_]),by dsimp only;omega,_,_,_,Rt.refl _ _ _,by rw[List.length_append];exact cJ, .inr ⟨q,rfl,by omega,by dsimp only;rw[List.append_assoc];exact hout⟩,cZ,⟨_,cE⟩,⟨_,by dsimp only;rw[List.map_append];exact cE⟩,fun y hy=>Eq.trans cM (hkeep3 y hy)⟩
    ·rw[if_neg hxf] at hT
     have r0:=decide_eq_false hxf
     have hmem:=PJ hp2 hI2.zero hxf
     by_cases hin2:x∈ic l2
     ·rw[if_pos hin2] at hT
      have g0:=TS (ic l2).tail x (hmem.2 hin2)
      refine ca ?_
      exact⟨(j+1,l2),by dsimp only;omega,cJ,by dsimp only;omega,hI2,hpre,hat2,hT,cZ,⟨_,cE⟩,⟨_,cE⟩,⟨_,cE⟩,fun y hy=>Eq.trans cM (hkeep2 y hy)⟩
     ·rw[if_neg hin2] at hT
      have hnm:=mt hmem.1 hin2
      have g0:=QG (ic l2).tail x hnm
      have g1:=TT (ic l2).tail x hnm
      have hadd:=hI2.add hkl2 hxl hxf hin2
      rw[hgk] at hadd
      refine ca ?_
      refine⟨(j+1,l2++[⟨x,k,(l.getD k default).dep+1⟩]),by dsimp only;omega, ?_,by dsimp only;omega,hadd,hpre.trans (List.prefix_append _ _),fun y hy=> ?_,hT,cZ, ?_, ?_,⟨_,cE⟩,fun y hy=>Eq.trans cM (hkeep2 y hy)⟩
      ·rw[List.length_append];exact cJ
      ·unfold ic at hy
       rw[List.map_append] at hy
       rcases List.mem_append.1 hy with hy|hy
       ·exact hat2 y hy
       ·simp only[List.map_cons,List.map_nil,List.mem_cons,List.not_mem_nil,or_false] at hy
        rw[hy];exact hxm
      ·rw[List.map_append];exact⟨_,cE⟩
      ·rw[K9 hp2];exact⟨_,cE⟩
   ·obtain rfl:j=xs.length:=by omega
    rw[List.drop_length,yQ] at hT
    rw[<-hT] at hB
    dsimp only at hB
    refine ca ?_
    exact⟨(k+1,l2),by dsimp only;omega,cJ,by dsimp only;omega,hI2.on,hat2,by dsimp only;rw[show n+1 - (k+1)=n - k by omega];exact hB,cZ,⟨_,cE⟩,⟨_,cE⟩,fun y hy=>Eq.trans cM (hkeep2 y hy)⟩
  ·have g0:=wZ (S:=S) (.sc (.slice none 0 0)) hx
   have hlead:mq L S (l.getD k default).at_=[]:=if_neg hx
   rw[hlead,yQ] at hB
   dsimp only at hB
   refine ca ?_
   refine aI (fun _:Nat=>[(0, .mp mb),(1,i64 first),(5, .sl (nx+3) l.length),(6, .mp (nx+5)),(7,i64 k),(29,i64 0),(30,i64 0)])
    (fun _ H2 m2=>m<=m2/\(∃d,cC H2 (nx+3)=some (.row 144 2 d (l.map lL.av)))/\(∃d,cC H2 (nx+5)=some (.row 3 0 d (mapA (NF (ic l).tail))))/\∀y,y<nx->cC H2 y=cC H0 y) (fun _=>0) 0
    cJ ⟨cZ,⟨_,cE⟩,⟨_,cE⟩,fun y hy=>Eq.trans cM (hkeep y hy)⟩ ?_
   clear r1 r2
   rintro _ H2 m2 ⟨hm2,⟨d1,r1⟩,⟨d2,r2⟩,hkeep2⟩
   refine ca ?_
   exact⟨(k+1,l),by dsimp only;omega,cJ,by dsimp only;omega,hI.on,hat,by dsimp only;rw[show n+1 - (k+1)=n - k by omega];exact hB,cZ,⟨_,cE⟩,⟨_,cE⟩,fun y hy=>Eq.trans cM (hkeep2 y hy)⟩
 ·rw[if_neg hkl] at hB
  refine ca ?_
  rw[<-hB]
  exact⟨⟨cZ,fun y hy=>Eq.trans cM (hkeep y hy),rfl⟩⟩
end Go.Proofs.YtjopoheligmmoaaGreatDoor
namespace Go.dA
structure BR (P:Program) (n:Nat) (c:Code) where
 lc:LC
 ok:dE P n c=some lc
set_option maxRecDepth 100000 in
def I4 {P:Program} {n:Nat} {c:Code} {lc:LC}
 (h:dE P n c=some lc:=by with_unfolding_all conv=>lhs;(reduce;simp only[Int.reduceOfNat,Int.reduceNegSucc])):BR P n c:=⟨lc,h⟩
end Go.dA
namespace Go.Proofs.YtjopoheligmmoaaGreatDoor
open Go Go.dA Go.Proofs
set_option linter.unusedSimpArgs false
set_option linter.unusedVariables false
set_option maxRecDepth 100000
set_option maxRecDepth 8000
noncomputable def Y0:Nat:=(Tryz.f15).ntmps
theorem OA:Y0=86:=by kernel_rfl
noncomputable def lr0:BR Tryz.prog 86 (Code.l jb):=I4
noncomputable def lr1:BR Tryz.prog 86 (Code.l (Code.r jb)):=I4
noncomputable def lr2:BR Tryz.prog 86 (Code.l (Code.r (Code.r jb))):=I4
noncomputable def lr3:BR Tryz.prog 86 (Code.l (Code.r (Code.r (Code.r jb)))):=I4
noncomputable def lr4:BR Tryz.prog 86 (Code.l (Code.r (Code.r (Code.r (Code.r jb))))):=I4
noncomputable def lr6:BR Tryz.prog 86 (Code.r (Code.r (Code.r (Code.r (Code.r (Code.r jb)))))):=I4
theorem wa:jb= .seq (Code.l jb) (.seq (Code.l (Code.r jb)) (.seq (Code.l (Code.r (Code.r jb))) (.seq (Code.l (Code.r (Code.r (Code.r jb)))) (.seq (Code.l (Code.r (Code.r (Code.r (Code.r jb))))) (.seq Y1 (Code.r (Code.r (Code.r (Code.r (Code.r (Code.r jb))))))))))):=by kernel_rfl
def je (es:List dO) (h:Int):List Int:=es.foldl (fun a e=>if e.held=h/\e.taken∉a then a++[e.taken] else a) []
theorem rD (es:List dO) (e:dO) (h:Int):je (es++[e]) h=if e.held=h/\e.taken∉je es h then je es h++[e.taken] else je es h:=by unfold je;rw[List.foldl_append];rfl
theorem yc {h x:Int}:∀(es:List dO),x∈je es h↔∃e∈es,e.held=h/\e.taken=x:=by
 intro es
 induction es using zw with
 |h0=>simp[je]
 |h1 l e ih=>
  rw[rD]
  constructor
  ·intro hx
   split at hx
   ·rename_i hc
    rcases List.mem_append.1 hx with hx|hx
    ·obtain⟨y,hy,h1⟩:=ih.1 hx
     exact⟨y,List.mem_append_left _ hy,h1⟩
    ·simp only[List.mem_cons,List.not_mem_nil,or_false] at hx
     exact⟨e,by simp,hc.1,hx.symm⟩
   ·obtain⟨y,hy,h1⟩:=ih.1 hx
    exact⟨y,List.mem_append_left _ hy,h1⟩
  ·rintro⟨y,hy,h1,h2⟩
   rcases List.mem_append.1 hy with hy|hy
   ·have:=ih.2 ⟨y,hy,h1,h2⟩
    split
    ·exact List.mem_append_left _ this
    ·exact this
   ·simp only[List.mem_cons,List.not_mem_nil,or_false] at hy
    subst hy
    by_cases hm:y.taken∈je l h
    ·rw[if_neg fun c=>c.2 hm,<-h2];exact hm
    ·rw[if_pos ⟨h1,hm⟩,h2];simp
theorem BX {h:Int}:∀(es:List dO),(je es h).Nodup:=by
 intro es
 induction es using zw with
 |h0=>exact List.nodup_nil
 |h1 l e ih=>
  rw[rD]
  split
  ·rename_i hc
   refine List.nodup_append.2 ⟨ih,by simp,fun a ha b hb=> ?_⟩
   simp only[List.mem_cons,List.not_mem_nil,or_false] at hb
   subst hb
   exact fun e=>hc.2 (e▸ha)
  ·exact ih
theorem FF {u:cF} (hr:cj u) {es:List dO} (hes:∀e∈es,e∈dK u) (h:Int):(je es h).length<=16:=by
 have:=fW u.cI.length _ (BX es (h:=h)) fun x hx=>by
  obtain⟨e,he,_,rfl⟩:=(yc es).1 hx
  exact(qC hr (hes e he)).2
 have:=hr.qD.2.1
 omega
theorem zt {S S':Int->List Int}:∀(L:List (Int×Nat)) (i:Nat) (p:Int×Nat),p∈L->(L.map (·.1)).Nodup->(∀x,x≠p.1->S' x=S x)->∃j,fJ false (.int .i64 p.1) (fE L S) i=some (some (i+j, .sl p.2 (S p.1).length))/\(fE L S).set j (.dQ [.sc (.int .i64 p.1), .sl p.2 (S' p.1).length])=fE L S'
 |[],i,p,h,_,_=>by cases h
 |q::r,i,p,h,hn,hS=>by
  rw[List.map_cons,List.nodup_cons] at hn
  have e1:fE (q::r) S=oc (.int .i64 q.1) (.sl q.2 (S q.1).length)::fE r S:=rfl
  have e2:fE (q::r) S'=oc (.int .i64 q.1) (.sl q.2 (S' q.1).length)::fE r S':=rfl
  rw[e1,e2]
  rcases List.mem_cons.1 h with rfl|h
  ·refine⟨0,by simp[fJ,tg,oc,DB], ?_⟩
   rw[List.set_cons_zero]
   congr 1
   unfold fE
   refine List.map_congr_left fun q hq=> ?_
   rw[hS q.1 fun e=>hn.1 (by rw[<-e];exact List.mem_map.2 ⟨q,hq,rfl⟩)]
  ·have hne:p.1≠q.1:=fun e=>hn.1 (by rw[<-e];exact List.mem_map.2 ⟨p,h,rfl⟩)
   obtain⟨j,hj,hs⟩:=zt r (i+1) p h hn.2 hS
   refine⟨j+1, ?_, ?_⟩
   ·simp only[fJ,tg,oc,DB,if_true,decide_eq_false hne]
    rw[hj]
    simp;omega
   ·rw[List.set_cons_succ,hs,hS q.1 hne.symm]
theorem xh {S S':Int->List Int} {L:List (Int×Nat)} {p:Int×Nat} (hp:p∈L) (hk:(L.map (·.1)).Nodup) (hS:∀x,x≠p.1->S' x=S x):qW false (.int .i64 p.1) (fE L S) (.sl p.2 (S' p.1).length)=some (fE L S'):=by
 obtain⟨j,hj,hs⟩:=zt L 0 p hp hk hS
 unfold qW
 rw[hj]
 simp only[Nat.zero_add]
 rw[hs]
theorem xg {S S':Int->List Int} {L:List (Int×Nat)} {x:Int} (b:Nat) (hx:x∉L.map (·.1)) (hS:∀y,y≠x->S' y=S y):qW false (.int .i64 x) (fE L S) (.sl b (S' x).length)=some (fE (L++[(x,b)]) S'):=by
 unfold qW
 rw[rZ L x 0 hx]
 simp only[fE,List.map_append,List.map_cons,List.map_nil,Option.some.injEq]
 congr 1
 refine List.map_congr_left fun q hq=> ?_
 rw[hS q.1 fun e=>hx (by rw[<-e];exact List.mem_map.2 ⟨q,hq,rfl⟩)]
def fB (u:cF) (h:Int):List Int:=eU (je (dK u) h)
theorem oM {u:cF} {h x:Int}:x∈fB u h↔∃e∈dK u,e.held=h/\e.taken=x:=by unfold fB;rw[J0,yc]
theorem uM {u:cF} (hr:cj u) (h:Int):∀x∈fB u h,0<=x/\x<u.cI.length:=fun x hx=>by
 obtain⟨e,he,_,rfl⟩:=oM.1 hx
 exact(qC hr he).2
def jU (u:cF):Option (List Int):=eM (fB u) u.cI.length u.cI.length
section
def lexLt:List Int->List Int->Prop
 |x::a,y::b=>x<y\/x=y/\lexLt a b
 |_,_=>False
def v8 (a b:List Int):Prop:=a.length<b.length\/a.length=b.length/\(a=b\/lexLt a b)
def RU (a b:List Int):Prop:=a.length<b.length\/a.length=b.length/\lexLt a b
theorem rb:∀{a b:List Int} (x y:List Int),lexLt a b->lexLt (a++x) (b++y)
 |[],b,_,_,h=>by simp[lexLt] at h
 |x::a,[],_,_,h=>by simp[lexLt] at h
 |x::a,y::b,p,q,h=>by
  rw[lexLt] at h
  rw[List.cons_append,List.cons_append,lexLt]
  exact h.imp id fun h=>⟨h.1,rb p q h.2⟩
theorem rf:∀(a:List Int) {x y:Int} (p q:List Int),x<y->lexLt (a++x::p) (a++y::q)
 |[],x,y,p,q,h=>by rw[List.nil_append,List.nil_append,lexLt];exact .inl h
 |z::a,x,y,p,q,h=>by rw[List.cons_append,List.cons_append,lexLt];exact .inr ⟨rfl,rf a p q h⟩
theorem nU:∀{a b c:List Int},lexLt a b->lexLt b c->lexLt a c
 |[],b,c,h,_=>by simp[lexLt] at h
 |x::a,[],c,h,_=>by simp[lexLt] at h
 |x::a,y::b,[],_,h=>by simp[lexLt] at h
 |x::a,y::b,z::c,h,k=>by
  rw[lexLt] at h k ⊢
  rcases h with h|⟨h,h2⟩<;>rcases k with k|⟨k,k2⟩
  ·exact .inl (by omega)
  ·exact .inl (by omega)
  ·exact .inl (by omega)
  ·exact .inr ⟨by omega,nU h2 k2⟩
theorem re:∀{a:List Int},¬lexLt a a
 |[],h=>by simp[lexLt] at h
 |x::a,h=>by
  rw[lexLt] at h
  rcases h with h|⟨_,h⟩
  ·omega
  ·exact re h
theorem RU.le {a b:List Int} (h:RU a b):v8 a b:=h.imp id fun h=>⟨h.1, .inr h.2⟩
theorem v8.refl (a:List Int):v8 a a:= .inr ⟨rfl, .inl rfl⟩
theorem v8.trans {a b c:List Int} (h:v8 a b) (k:v8 b c):v8 a c:=by
 unfold v8 at *
 rcases h with h|⟨h,h2⟩<;>rcases k with k|⟨k,k2⟩
 ·exact .inl (by omega)
 ·exact .inl (by omega)
 ·exact .inl (by omega)
 ·refine .inr ⟨by omega, ?_⟩
  rcases h2 with rfl|h2
  ·exact k2
  ·rcases k2 with rfl|k2
   ·exact .inr h2
   ·exact .inr (nU h2 k2)
theorem v8.len {a b:List Int} (h:v8 a b):a.length<=b.length:=by rcases h with h|h<;>omega
theorem RU.app {a b:List Int} (x y:Int) (h:RU a b):RU (a++[x]) (b++[y]):=by
 rcases h with h|⟨h,h2⟩
 ·exact .inl (by simpa using h)
 ·exact .inr ⟨by simpa using h,rb _ _ h2⟩
theorem v8.app {a b:List Int} (x:Int) (h:v8 a b):v8 (a++[x]) (b++[x]):=by
 rcases h with h|⟨h,rfl|h2⟩
 ·exact .inl (by simpa using h)
 ·exact .refl _
 ·exact .inr ⟨by simpa using h, .inr (rb _ _ h2)⟩
theorem RU.snoc (a:List Int) {x y:Int} (h:x<y):RU (a++[x]) (a++[y]):= .inr ⟨by simp,rf a [] [] h⟩
section
variable {lead:Int->List Int} {first:Int} {k:Nat} {l:List lL}
def KR (l:List lL):Prop:=∀i j,i<j->j<l.length->RU (iF l i) (iF l j)
theorem lu {l':List lL} (h:iZ lead first k l) (hp:l<+:l') {i:Nat} (hi:i<l.length):iF l' i=iF l i:=by
 unfold iF
 rw[yM hp (i+1) i (by omega) fun j hj=> ?_]
 by_cases h0:j=0
 ·subst h0;rw[h.zero];dsimp only;omega
 ·obtain⟨p,h1,h2,h3,_⟩:=h.par j (by omega) hj
  rw[h3];omega
theorem qu (h:iZ lead first k l) {i:Nat} (hi:i<l.length):(iF l i).length=(l.getD i default).dep+1:=(E7 h i hi).len
theorem QN (h:iZ lead first k l) (ho:KR l) (hk:k<l.length) {i:Nat} (hi:i<l.length):v8 (iF l i) (iF l k++[(l.getD i default).at_]):=by
 by_cases hik:i<=k
 ·refine .inl ?_
  have h1:=qu h hi
  have h2:=qu h hk
  have:=h.mono i k hik hk
  rw[List.length_append,List.length_cons,List.length_nil]
  omega
 ·obtain⟨p,h1,h2,h3,h4,h5⟩:=h.par i (by omega) hi
  rw[oZ h hi h1 h3]
  by_cases hpk:p=k
  ·subst hpk;exact .refl _
  ·exact((ho p k (by omega) hk).app _ _).le
theorem yL {d:Nat}:∀{xs:List Int} {l l':List lL},iZ lead first k l->KR l->k<l.length->d=(l.getD k default).dep->(∀x∈xs,x∈lead (l.getD k default).at_)->xs.Pairwise (·<=·)->(∀i,i<l.length->k<i->(l.getD i default).from_=(k:Nat)->∀x∈xs,(l.getD i default).at_<=x)->yQ first k d xs l=some l'->KR l'
 |[],l,l',h,ho,hk,hd,hx,hs,hr,he=>by rw[yQ] at he;cases he;exact ho
 |x::r,l,l',h,ho,hk,hd,hx,hs,hr,he=>by
  rw[yQ] at he
  split at he
  ·cases he
  ·rename_i hf
   have hxr:=fun y hy=>hx y (List.mem_cons_of_mem _ hy)
   obtain⟨hs1,hs2⟩:=List.pairwise_cons.1 hs
   by_cases hm:x∈ic l
   ·rw[if_pos hm] at he
    exact yL h ho hk hd hxr hs2 (fun i hi hki hfr y hy=>hr i hi hki hfr y (List.mem_cons_of_mem _ hy)) he
   ·rw[if_neg hm,hd] at he
    have ha:=h.add hk (hx x (by simp)) hf hm
    have hpre:l<+:l++[⟨x,k,(l.getD k default).dep+1⟩]:=List.prefix_append _ _
    have hkk:k<(l++[(⟨x,k,(l.getD k default).dep+1⟩:lL)]).length:=by simp;omega
    have hgk:=gB (d:=default) hpre hk
    have hnew:(l++[(⟨x,k,(l.getD k default).dep+1⟩:lL)]).getD l.length default=⟨x,k,(l.getD k default).dep+1⟩:=fH
    have hway:iF (l++[⟨x,k,(l.getD k default).dep+1⟩]) l.length=iF l k++[x]:=by
     rw[oZ ha (by simp) hk (by rw[hnew]),hnew,lu h hpre hk]
    refine yL ha (fun i j hij hj=> ?_) hkk (by rw[hgk]) (by rw[hgk];exact hxr) hs2 (fun i hi hki hfr y hy=> ?_) he
    ·rw[List.length_append,List.length_cons,List.length_nil] at hj
     by_cases hjl:j<l.length
     ·rw[lu h hpre hjl,lu h hpre (by omega)]
      exact ho i j hij hjl
     ·obtain rfl:j=l.length:=by omega
      rw[hway,lu h hpre hij]
      by_cases hik:i<=k
      ·refine .inl ?_
       have h1:=qu h hij
       have h2:=qu h hk
       have:=h.mono i k hik hk
       rw[List.length_append,List.length_cons,List.length_nil]
       omega
      ·obtain⟨p,h1,h2,h3,h4,h5⟩:=h.par i (by omega) hij
       rw[oZ h hij h1 h3]
       by_cases hpk:p=k
       ·subst hpk
        have hle:=hr i hij (by omega) h3 x (by simp)
        have hne:(l.getD i default).at_≠x:=fun e=>hm (ji.2 ⟨i,hij,e⟩)
        exact .snoc _ (by omega)
       ·exact(ho p k (by omega) hk).app _ _
    ·rw[List.length_append,List.length_cons,List.length_nil] at hi
     by_cases hil:i<l.length
     ·rw[ee _ hil] at hfr ⊢
      exact hr i hil hki hfr y (List.mem_cons_of_mem _ hy)
     ·obtain rfl:i=l.length:=by omega
      rw[fH]
      exact hs1 y hy
def KQ (lead:Int->List Int) (l:List lL) (k:Nat):Prop:=∀j,j<k->j<l.length->∀y∈lead (l.getD j default).at_,∃i,i<l.length/\(l.getD i default).at_=y/\v8 (iF l i) (iF l j++[y])
theorem EB {c:List Int} (h:iZ lead first k l) (hd:FA lead first l k) (ho:KR l) (hl:KQ lead l k) (hk:k<l.length) (hc:nE lead c) (h0:c.getD 0 0=first) (hlen:c.length=(iF l k).length):v8 (iF l k) c:=by
 have hp:=hc.pos
 have hge:∀i,i<l.length->k<=i->v8 (iF l k) (iF l i):=fun i hi hki=>by
  by_cases e:k=i
  ·subst e;exact .refl _
  ·exact(ho k i (by omega) hi).le
 have key:∀i,i<c.length->∃q,q<l.length/\(l.getD q default).at_=c.getD i 0/\v8 (iF l q) (c.take (i+1)):=by
  intro i
  induction i with
  |zero=>
   intro _
   refine⟨0,h.pos,by rw[h.zero,h0], ?_⟩
   rw[wx h]
   have:c.take 1=[first]:=by
    cases c with
    |nil=>simp at hp
    |cons x c=>simp at h0;subst h0;rfl
   rw[this];exact .refl _
  |succ i ih=>
   intro hi
   obtain⟨q,q1,q2,q3⟩:=ih (by omega)
   have hqk:q<k:=by
    rcases Nat.lt_or_ge q k with h2|h2
    ·exact h2
    ·have h3:=(hge q q1 h2).len
     have h4:=q3.len
     rw[List.length_take] at h4
     omega
   have hon:=hc.on i (by omega)
   rw[Nat.mod_eq_of_lt hi,<-q2] at hon
   obtain⟨q',g1,g2,g3⟩:=hl q hqk q1 _ hon
   refine⟨q',g1,g2,g3.trans ?_⟩
   have:=q3.app (c.getD (i+1) 0)
   rwa[show c.take (i+1)++[c.getD (i+1) 0]=c.take (i+1+1) by rw[List.take_succ_eq_append_getElem hi];simp[List.getD,hi]] at this
 obtain⟨q,q1,q2,q3⟩:=key (c.length - 1) (by omega)
 rw[List.take_of_length_le (by omega)] at q3
 have hqk:k<=q:=by
  apply Nat.le_of_not_lt
  intro hqk
  have hon:=hc.on (c.length - 1) (by omega)
  rw[show c.length - 1+1=c.length by omega,Nat.mod_self,h0,<-q2] at hon
  exact(hd q hqk q1 _ hon).1 rfl
 exact(hge q q1 hqk).trans q3
theorem tN (hsort:∀x,(lead x).Pairwise (·<=·)):∀(f k:Nat) (l:List lL),iZ lead first k l->FA lead first l k->KR l->KQ lead l k->(∀i,i<l.length->k<i->∃p:Nat,p<k/\(l.getD i default).from_=(p:Nat))->
 ∀w,tM lead first f k l=some w->∀c,nE lead c->c.getD 0 0=first->c.length=w.length->v8 w c
 |0,k,l,h,hd,ho,hl,hpar,w,hw=>by rw[tM] at hw;cases hw
 |f+1,k,l,h,hd,ho,hl,hpar,w,hw=>by
  rw[tM] at hw
  split at hw
  ·rename_i hk
   cases ht:yQ first k (l.getD k default).dep (lead (l.getD k default).at_) l with
   |none=>
    rw[ht] at hw
    dsimp only at hw
    cases hw
    exact fun c hc h0 hlen=>EB h hd ho hl hk hc h0 hlen
   |some l'=>
    rw[ht] at hw
    dsimp only at hw
    obtain⟨h1,h2,h3⟩:=qq h hk rfl (fun x hx=>hx) ht
    have ho':=yL h ho hk rfl (fun x hx=>hx) (hsort _) (fun i hi hki hfr x hx=>by
     obtain⟨p,p1,p2⟩:=hpar i hi hki
     rw[hfr] at p2
     have:k=p:=by exact_mod_cast p2
     omega) ht
    have hk':k<l'.length:=Nat.lt_of_lt_of_le hk h2.length_le
    refine tN hsort f (k+1) l' h1.on (fun j hj hjl x hx=> ?_) ho' (fun j hj hjl y hy=> ?_) (fun i hi hki=> ?_) w hw
    ·by_cases e:j=k
     ·subst e
      rw[gB h2 hk] at hx ⊢
      obtain⟨g1,g2⟩:=h3 x hx
      obtain⟨i,hi,g3⟩:=ji.1 g2
      refine⟨g1,i,hi,g3, ?_⟩
      have:=h1.top hk' hi
      rw[gB h2 hk] at this
      exact this
     ·rw[gB h2 (show j<l.length by omega)] at hx ⊢
      obtain⟨g1,i,hi,g2,g3⟩:=hd j (by omega) (by omega) x hx
      exact⟨g1,i,Nat.lt_of_lt_of_le hi h2.length_le,by rw[gB h2 hi];exact g2,by rw[gB h2 hi];exact g3⟩
    ·by_cases e:j=k
     ·subst e
      rw[gB h2 hk] at hy
      obtain⟨g1,g2⟩:=h3 y hy
      obtain⟨i,hi,g3⟩:=ji.1 g2
      refine⟨i,hi,g3, ?_⟩
      have:=QN h1 ho' hk' hi
      rwa[g3] at this
     ·have hjl2:j<l.length:=by omega
      rw[gB h2 hjl2] at hy
      obtain⟨i,hi,g2,g3⟩:=hl j (by omega) hjl2 y hy
      exact⟨i,Nat.lt_of_lt_of_le hi h2.length_le,by rw[gB h2 hi];exact g2,by rw[lu h h2 hi,lu h h2 hjl2];exact g3⟩
    ·obtain⟨p,p1,p2,p3,_⟩:=h1.par i (by omega) hi
     exact⟨p,by omega,p3⟩
  ·cases hw
end
theorem G2 {lead:Int->List Int} {n:Nat} {first:Int} (hsort:∀x,(lead x).Pairwise (·<=·)) {w:List Int} (hw:mE lead n first=some w):∀c,nE lead c->c.getD 0 0=first->c.length=w.length->v8 w c:=
 tN hsort (n+1) 0 _ (.start lead first) (fun j hj=>by omega) (fun i j hij hj=>by simp at hj;omega) (fun j hj=>by omega) (fun i hi hki=>by simp at hi;omega) w hw
end
section
theorem A9 {α:Type} {P:List α->Prop} (h0:P []) (h1:∀l x,P l->P (l++[x])):∀l,P l:=by
 have key:∀n (l:List α),l.length=n->P l:=by
  intro n
  induction n with
  |zero=>intro l hl;rw[List.length_eq_zero_iff] at hl;subst hl;exact h0
  |succ n ih=>
   intro l hl
   have hne:l≠[]:=fun e=>by subst e;simp at hl
   rw[<-List.dropLast_concat_getLast hne]
   exact h1 _ _ (ih _ (by simp[hl]))
 exact fun l=>key _ l rfl
def gN (r:Int) (out:List Int) (e:dO):List Int:=if out.getD e.held.toNat 0<0/\out.getD e.taken.toNat 0=r then out.set e.held.toNat (r+1) else out
def tn (E:List dO) (r:Nat) (out:List Int):List Int:=E.foldl (gN r) out
def oq (E:List dO) (out:List Int):Nat->List Int
 |0=>out
 |r+1=>tn E r (oq E out r)
def rO (E:List dO) (n:Nat) (to:Nat):List Int:=oq E ((List.replicate n (-1)).set to 0) n
inductive sD (E:List dO) (to:Int):Nat->Int->Prop
 |zero:sD E to 0 to
 |succ {r:Nat} {e:dO}:e∈E->sD E to r e.taken->sD E to (r+1) e.held
section
variable {E:List dO} {n:Nat}
theorem zF (r:Int) (out:List Int) (e:dO):(gN r out e).length=out.length:=by unfold gN;split<;>simp
theorem oH (r:Int):∀(E:List dO) (out:List Int),(E.foldl (gN r) out).length=out.length
 |[],out=>rfl
 |e::E,out=>by rw[List.foldl_cons,oH r E,zF]
theorem MH {l:List Int} {i j:Nat} {v:Int} (h:i<l.length):(l.set i v).getD j 0=if i=j then v else l.getD j 0:=by
 simp only[List.getD,List.getElem?_set]
 by_cases e:i=j
 ·subst e;simp[h]
 ·simp[e]
theorem OG (hE:∀e∈E,(0<=e.held/\e.held<n)/\0<=e.taken/\e.taken<n) (r:Nat) (out:List Int) (hl:out.length=n):∀(D:List dO),(∀e∈D,e∈E)->∀x,x<n->
 (D.foldl (gN r) out).getD x 0=if out.getD x 0<0/\(∃e∈D,e.held=x/\out.getD e.taken.toNat 0=r) then(r:Int)+1 else out.getD x 0:=by
 refine A9 (fun _ x _=>by simp) fun D e ih=> ?_
 ·intro hD x hx
  have ih:=ih fun e he=>hD e (by simp[he])
  obtain⟨⟨e1,e2⟩,e3,e4⟩:=hE e (hD e (by simp))
  rw[List.foldl_append,List.foldl_cons,List.foldl_nil]
  have hlen:=oH (r:Int) D out
  have iht:=ih e.taken.toNat (by omega)
  have ihh:=ih e.held.toNat (by omega)
  have ihx:=ih x hx
  generalize hG:D.foldl (gN r) out=g at *
  -- what is r stays what it was
  have ht:g.getD e.taken.toNat 0=r↔out.getD e.taken.toNat 0=r:=by
   rw[iht]
   split
   ·rename_i h;constructor
    ·intro h2;omega
    ·intro h2;omega
   ·exact Iff.rfl
  have hneg:∀y:Nat,y<n->(g.getD y 0<0↔out.getD y 0<0/\¬∃e∈D,e.held=y/\out.getD e.taken.toNat 0=r):=fun y hy=>by
   rw[ih y hy]
   by_cases hc:out.getD y 0<0/\∃e∈D,e.held=y/\out.getD e.taken.toNat 0=r
   ·rw[if_pos hc]
    constructor
    ·intro h;omega
    ·intro h;exact absurd hc.2 h.2
   ·rw[if_neg hc]
    exact⟨fun h=>⟨h,fun h2=>hc ⟨h,h2⟩⟩,fun h=>h.1⟩
  have hex:(∃e'∈D++[e],e'.held=x/\out.getD e'.taken.toNat 0=r)↔(∃e'∈D,e'.held=x/\out.getD e'.taken.toNat 0=r)\/e.held=x/\out.getD e.taken.toNat 0=r:=by
   constructor
   ·rintro⟨e',h1,h2⟩
    rcases List.mem_append.1 h1 with h1|h1
    ·exact .inl ⟨e',h1,h2⟩
    ·simp only[List.mem_cons,List.not_mem_nil,or_false] at h1
     subst h1;exact .inr h2
   ·rintro(⟨e',h1,h2⟩|h2)
    ·exact⟨e',by simp[h1],h2⟩
    ·exact⟨e,by simp,h2⟩
  simp only[hex]
  unfold gN
  by_cases hc:g.getD e.held.toNat 0<0/\g.getD e.taken.toNat 0=r
  ·rw[if_pos hc,MH (by omega)]
   obtain⟨hc1,hc2⟩:=hc
   rw[ht] at hc2
   rw[hneg _ (by omega)] at hc1
   by_cases hxe:e.held.toNat=x
   ·rw[if_pos hxe,if_pos]
    subst hxe
    exact⟨hc1.1, .inr ⟨(Int.toNat_of_nonneg e1).symm,hc2⟩⟩
   ·rw[if_neg hxe,ihx]
    have:¬(e.held=x/\out.getD e.taken.toNat 0=r):=fun h=>hxe (by omega)
    simp only[this,or_false]
  ·rw[if_neg hc,ihx]
   by_cases h1:out.getD x 0<0/\∃e'∈D,e'.held=x/\out.getD e'.taken.toNat 0=r
   ·rw[if_pos h1,if_pos ⟨h1.1, .inl h1.2⟩]
   ·rw[if_neg h1,if_neg]
    rintro⟨h2,h3|⟨h3,h4⟩⟩
    ·exact h1 ⟨h2,h3⟩
    ·apply hc
     refine⟨?_,ht.2 h4⟩
     rw[show e.held.toNat=x by omega,hneg x hx]
     exact⟨h2,fun h5=>h1 ⟨h2,h5⟩⟩
structure GU (E:List dO) (n:Nat) (to:Nat) (R:Nat) (out:List Int):Prop where
 len:out.length=n
 low:∀x,x<n->-1<=out.getD x 0
 U4:∀x:Nat,x<n->0<=out.getD x 0->sD E to (out.getD x 0).toNat x/\out.getD x 0<=R
 least:∀r,r<=R->∀x:Nat,x<n->sD E to r x->0<=out.getD x 0/\out.getD x 0<=r
theorem HR {to:Nat} (ht:to<n):GU E n to 0 ((List.replicate n (-1)).set to 0):=by
 have at_:∀x,x<n->((List.replicate n (-1:Int)).set to 0).getD x 0=if to=x then 0 else -1:=fun x hx=>by
  rw[MH (by simpa using ht)]
  simp[List.getD,hx]
 refine⟨by simp,fun x hx=> ?_,fun x hx h=> ?_,fun r hr x hx h=> ?_⟩
 ·rw[at_ x hx];split<;>omega
 ·rw[at_ x hx] at h ⊢
  split at h
  ·rename_i e
   subst e
   rw[if_pos rfl]
   exact⟨.zero,by omega⟩
  ·omega
 ·obtain rfl:r=0:=by omega
  rw[at_ x hx]
  have:(x:Int)=to:=by
   generalize hy:(x:Int)=y at h
   cases h
   rfl
  rw[if_pos (by omega)]
  omega
theorem HQ (hE:∀e∈E,(0<=e.held/\e.held<n)/\0<=e.taken/\e.taken<n) {to R:Nat} {out:List Int} (h:GU E n to R out):GU E n to (R+1) (tn E R out):=by
 have hat:=OG hE R out h.len E (fun e he=>he)
 unfold tn
 refine⟨by rw[oH,h.len],fun x hx=> ?_,fun x hx h0=> ?_,fun r hr x hx hw=> ?_⟩
 ·rw[hat x hx]
  split
  ·omega
  ·exact h.low x hx
 ·rw[hat x hx] at h0 ⊢
  split at h0
  ·rename_i hc
   rw[if_pos hc]
   obtain⟨_,e,he,e1,e2⟩:=hc
   obtain⟨_,e3,e4⟩:=hE e he
   have:=(h.U4 e.taken.toNat (by omega) (by omega)).1
   rw[e2,Int.toNat_natCast,Int.toNat_of_nonneg e3] at this
   refine⟨?_,by omega⟩
   rw[show((R:Int)+1).toNat=R+1 by omega,<-e1]
   exact .succ he this
  ·rename_i hc
   rw[if_neg hc]
   have:=h.U4 x hx h0
   exact⟨this.1,by omega⟩
 ·rw[hat x hx]
  by_cases hrR:r<=R
  ·have:=h.least r hrR x hx hw
   rw[if_neg (by omega)]
   exact this
  ·obtain rfl:r=R+1:=by omega
   generalize hy:(x:Int)=y at hw
   cases hw with
   |succ he hw=>
    rename_i e
    obtain⟨_,e3,e4⟩:=hE e he
    have ht:=h.least R (Nat.le_refl _) e.taken.toNat (by omega) (by rw[Int.toNat_of_nonneg e3];exact hw)
    by_cases hneg:out.getD x 0<0
    ·by_cases hR:out.getD e.taken.toNat 0=R
     ·rw[if_pos ⟨hneg,e,he,rfl,hR⟩];omega
     ·have hq:=(h.U4 e.taken.toNat (by omega) ht.1).1
      rw[Int.toNat_of_nonneg e3] at hq
      have hs:=sD.succ he hq
      rw[<-hy] at hs
      have:=h.least _ (by omega) x hx hs
      omega
    ·rw[if_neg (by omega)]
     have:=(h.U4 x hx (by omega)).2
     omega
theorem rQ (hE:∀e∈E,(0<=e.held/\e.held<n)/\0<=e.taken/\e.taken<n) {to:Nat} (ht:to<n):∀R,GU E n to R (oq E ((List.replicate n (-1)).set to 0) R)
 |0=>HR ht
 |R+1=>HQ hE (rQ hE ht R)
def iu (d:List Int) (frm:Int) (best:Int) (e:dO):Int:=if e.held=frm/\0<=d.getD e.taken.toNat 0/\(best<0\/d.getD e.taken.toNat 0<d.getD best.toNat 0\/d.getD e.taken.toNat 0=d.getD best.toNat 0/\e.taken<best) then e.taken else best
def AL (E:List dO) (d:List Int) (frm:Int):Int:=E.foldl (iu d frm) (-1)
theorem w4 (d:List Int) (frm:Int):∀(D:List dO),(∀e∈D,0<=e.taken)->
 (D.foldl (iu d frm) (-1)=-1/\∀e∈D,e.held=frm->d.getD e.taken.toNat 0<0)\/
 (0<=D.foldl (iu d frm) (-1)/\(∃e∈D,e.held=frm/\e.taken=D.foldl (iu d frm) (-1)/\0<=d.getD e.taken.toNat 0)/\
  ∀e∈D,e.held=frm->0<=d.getD e.taken.toNat 0->d.getD (D.foldl (iu d frm) (-1)).toNat 0<d.getD e.taken.toNat 0\/d.getD (D.foldl (iu d frm) (-1)).toNat 0=d.getD e.taken.toNat 0/\D.foldl (iu d frm) (-1)<=e.taken):=by
 refine A9 (fun _=> .inl ⟨rfl,fun e he=>by cases he⟩) fun D e ih=> ?_
 ·intro hD
  have ih:=ih fun e he=>hD e (by simp[he])
  have he0:=hD e (by simp)
  rw[List.foldl_append,List.foldl_cons,List.foldl_nil]
  generalize D.foldl (iu d frm) (-1)=b at *
  unfold iu
  have hmem:∀e',e'∈D++[e]↔e'∈D\/e'=e:=fun e'=>by simp
  by_cases hc:e.held=frm/\0<=d.getD e.taken.toNat 0/\(b<0\/d.getD e.taken.toNat 0<d.getD b.toNat 0\/d.getD e.taken.toNat 0=d.getD b.toNat 0/\e.taken<b)
  ·rw[if_pos hc]
   obtain⟨c1,c2,c3⟩:=hc
   refine .inr ⟨he0,⟨e,by simp,c1,rfl,c2⟩,fun e' he' h1 h2=> ?_⟩
   rcases(hmem e').1 he' with h3|rfl
   ·rcases ih with⟨i1,i2⟩|⟨i1,_,i3⟩
    ·have:=i2 e' h3 h1;omega
    ·have:=i3 e' h3 h1 h2;omega
   ·exact .inr ⟨rfl,Int.le_refl _⟩
  ·rw[if_neg hc]
   rcases ih with⟨i1,i2⟩|⟨i1,⟨e2,i4,i5⟩,i3⟩
   ·refine .inl ⟨i1,fun e' he' h1=> ?_⟩
    rcases(hmem e').1 he' with h3|rfl
    ·exact i2 e' h3 h1
    ·apply Int.not_le.1
     intro h2
     exact hc ⟨h1,h2, .inl (by omega)⟩
   ·refine .inr ⟨i1,⟨e2,by simp[i4],i5⟩,fun e' he' h1 h2=> ?_⟩
    rcases(hmem e').1 he' with h3|rfl
    ·exact i3 e' h3 h1 h2
    ·have:¬(b<0\/d.getD e'.taken.toNat 0<d.getD b.toNat 0\/d.getD e'.taken.toNat 0=d.getD b.toNat 0/\e'.taken<b):=fun h=>hc ⟨h1,h2,h⟩
     omega
end
section
variable {E:List dO} {lead:Int->List Int} {to:Int}
theorem wu (hlead:∀h x,x∈lead h↔∃e∈E,e.held=h/\e.taken=x) {r:Nat} {y:Int} (h:sD E to r y):∃p:List Int,p.length=r/\(∀j,j+1<r->p.getD (j+1) 0∈lead (p.getD j 0))/\(r=0->y=to)/\(0<r->p.getD 0 0=y/\to∈lead (p.getD (r - 1) 0)):=by
 induction h with
 |zero=>exact⟨[],rfl,fun j hj=>by omega,fun _=>rfl,fun h=>by omega⟩
 |succ he hw ih=>
  rename_i r e
  obtain⟨p,h1,h2,h3,h4⟩:=ih
  have hed:e.taken∈lead e.held:=(hlead _ _).2 ⟨e,he,rfl,rfl⟩
  refine⟨e.held::p,by simp[h1],fun j hj=> ?_,fun h=>by omega,fun _=>⟨rfl, ?_⟩⟩
  ·cases j with
   |zero=>
    show p.getD 0 0∈lead e.held
    rw[(h4 (by omega)).1];exact hed
   |succ j=>exact h2 j (by omega)
  ·cases r with
   |zero=>
    show to∈lead e.held
    rw[<-h3 rfl];exact hed
   |succ r=>
    show to∈lead (p.getD r 0)
    exact(h4 (by omega)).2
theorem we {w p:List Int} {i r:Nat} {y:Int} (h0:w.getD 0 0=to) (hon:∀q,q<i->w.getD (q+1) 0∈lead (w.getD q 0)) (hi:i<w.length) (hy:y∈lead (w.getD i 0))
 (h1:p.length=r) (h2:∀j,j+1<r->p.getD (j+1) 0∈lead (p.getD j 0)) (h3:r=0->y=to) (h4:0<r->p.getD 0 0=y/\to∈lead (p.getD (r - 1) 0)):nE lead (w.take (i+1)++p)/\(w.take (i+1)++p).getD 0 0=to/\(w.take (i+1)++p).length=i+1+r:=by
 have hl:(w.take (i+1)).length=i+1:=by rw[List.length_take];omega
 have hlen:(w.take (i+1)++p).length=i+1+r:=by rw[List.length_append,hl,h1]
 have ga:∀q,q<=i->(w.take (i+1)++p).getD q 0=w.getD q 0:=fun q hq=>by
  rw[ee _ (by omega)]
  simp[List.getD,List.getElem?_take,show q<i+1 by omega]
 have gb:∀j,(w.take (i+1)++p).getD (i+1+j) 0=p.getD j 0:=fun j=>by
  simp only[List.getD]
  rw[List.getElem?_append_right (by omega),hl,show i+1+j - (i+1)=j by omega]
 refine⟨⟨by omega,fun q hq=> ?_⟩,by rw[ga 0 (by omega),h0],hlen⟩
 rw[hlen] at hq ⊢
 by_cases hqi:q<i
 ·rw[Nat.mod_eq_of_lt (by omega),ga q (by omega),ga (q+1) (by omega)]
  exact hon q hqi
 ·by_cases e:q=i
  ·subst e
   rw[ga q (Nat.le_refl _)]
   by_cases hr:r=0
   ·rw[hr,Nat.add_zero,Nat.mod_self,ga 0 (by omega),h0,<-h3 hr];exact hy
   ·rw[Nat.mod_eq_of_lt (by omega)]
    have:=gb 0
    rw[Nat.add_zero] at this
    rw[this,(h4 (by omega)).1];exact hy
  ·obtain⟨j,rfl⟩:∃j,q=i+1+j:=⟨q - (i+1),by omega⟩
   rw[gb j]
   by_cases hj:j+1<r
   ·rw[Nat.mod_eq_of_lt (by omega),show i+1+j+1=i+1+(j+1) by omega,gb]
    exact h2 j hj
   ·rw[show i+1+j+1=i+1+r by omega,Nat.mod_self,ga 0 (by omega),h0,show j=r - 1 by omega]
    exact(h4 (by omega)).2
theorem wc (hlead:∀h x,x∈lead h↔∃e∈E,e.held=h/\e.taken=x) {w:List Int} (hc:nE lead w) (h0:w.getD 0 0=to):∀m,m<=w.length->sD E to m (w.getD ((w.length - m)%w.length) 0)
 |0,_=>by rw[Nat.sub_zero,Nat.mod_self,h0];exact .zero
 |m+1,hm=>by
  have ih:=wc hlead hc h0 m (by omega)
  have hon:=hc.on (w.length - (m+1)) (by omega)
  rw[show w.length - (m+1)+1=w.length - m by omega] at hon
  rw[Nat.mod_eq_of_lt (show w.length - (m+1)<w.length by omega)]
  obtain⟨e,he,e1,e2⟩:=(hlead _ _).1 hon
  rw[<-e2] at ih
  rw[<-e1]
  exact .succ he ih
theorem JC {n f:Nat} (hlead:∀h x,x∈lead h↔∃e∈E,e.held=h/\e.taken=x) (hE:∀e∈E,(0<=e.held/\e.held<n)/\0<=e.taken/\e.taken<n) (hsort:∀x,(lead x).Pairwise (·<=·)) (hf:f<n) {w:List Int} (hw:mE lead n (f:Int)=some w) {i:Nat} (hi:i<w.length):
 AL E (rO E n f) (w.getD i 0)=w.getD ((i+1)%w.length) 0/\(rO E n f).getD (w.getD ((i+1)%w.length) 0).toNat 0=((w.length - 1 - i:Nat):Int):=by
 have hd:GU E n f n (rO E n f):=rQ hE hf n
 have hin:∀x,∀y∈lead x,0<=y/\y<(n:Int):=fun x y hy=>by
  obtain⟨e,he,_,rfl⟩:=(hlead _ _).1 hy
  exact(hE e he).2
 obtain⟨p1,p2,p3,p4,p5⟩:=(iO hin (by omega)).1 w hw
 have pl:=G2 hsort hw
 have hwn:w.length<=n:=fW n w p3 p4
 have hm:(i+1)%w.length<w.length:=Nat.mod_lt _ p2.pos
 generalize rO E n f=d at *
 have hy:=p2.on i hi
 have hyr:=p4 _ (cQ 0 hm)
 have hwalk:=wc hlead p2 p1 (w.length - 1 - i) (by omega)
 rw[show w.length - (w.length - 1 - i)=i+1 by omega] at hwalk
 generalize hyy:w.getD ((i+1)%w.length) 0=y at *
 have hdy:=hd.least (w.length - 1 - i) (by omega) y.toNat (by omega) (by rw[Int.toNat_of_nonneg hyr.1];exact hwalk)
 obtain⟨e0,he0,e01,e02⟩:=(hlead _ _).1 hy
 have hns:=w4 d (w.getD i 0) E (fun e he=>(hE e he).2.1)
 unfold AL
 rcases hns with⟨_,hall⟩|⟨hb0,⟨e1,he1,e11,e12,e13⟩,hmin⟩
 ·have:=hall e0 he0 e01
  rw[e02] at this
  omega
 ·have hm0:=hmin e0 he0 e01 (by rw[e02];exact hdy.1)
  rw[e02] at hm0
  generalize E.foldl (iu d (w.getD i 0)) (-1)=b at *
  have hbr:=(hE e1 he1).2
  rw[e12] at hbr e13
  have hbw:=(hd.U4 b.toNat (by omega) e13).1
  rw[Int.toNat_of_nonneg hbr.1] at hbw
  have hbl:b∈lead (w.getD i 0):=(hlead _ _).2 ⟨e1,he1,e11,e12⟩
  obtain⟨p,q1,q2,q3,q4⟩:=wu hlead hbw
  obtain⟨c1,c2,c3⟩:=we p1 (fun q hq=>by have:=p2.on q (by omega);rwa[Nat.mod_eq_of_lt (by omega)] at this) hi hbl q1 q2 q3 q4
  have hlen:=p5 _ c1 c2
  rw[c3] at hlen
  have heq:d.getD b.toNat 0=d.getD y.toNat 0:=by omega
  refine⟨?_,by omega⟩
  apply Classical.byContradiction
  intro hne
  have hlt:b<y:=by omega
  have hr:(d.getD b.toNat 0).toNat=w.length - 1 - i:=by omega
  by_cases h0:w.length - 1 - i=0
  ·have hb:=q3 (by omega)
   rw[show i+1=w.length by omega,Nat.mod_self,p1] at hyy
   omega
  ·have hil:i+1<w.length:=by omega
   rw[Nat.mod_eq_of_lt hil] at hyy
   have hwle:=pl _ c1 c2 (by rw[c3];omega)
   have hp0:=(q4 (by omega)).1
   obtain⟨pt,hpt⟩:∃pt,p=b::pt:=by
    cases p with
    |nil=>rw[List.length_nil] at q1;omega
    |cons x p=>exact⟨p,by rw[show x=b from hp0]⟩
   have hws:w=w.take (i+1)++y::w.drop (i+2):=by
    rw[<-hyy]
    have h1:=(List.take_append_drop (i+1) w).symm
    rw[List.drop_eq_getElem_cons hil] at h1
    rw[show w.getD (i+1) 0=w[i+1] by simp[List.getD,hil]]
    exact h1
   have hlex:lexLt (w.take (i+1)++p) w:=by
    have:=rf (w.take (i+1)) pt (w.drop (i+2)) hlt
    rw[<-hpt,<-hws] at this
    exact this
   rcases hwle with h|⟨_,h|h⟩
   ·omega
   ·rw[<-h] at hlex;exact re hlex
   ·exact re (nU h hlex)
theorem JB {n f:Nat} (hlead:∀h x,x∈lead h↔∃e∈E,e.held=h/\e.taken=x) (hE:∀e∈E,(0<=e.held/\e.held<n)/\0<=e.taken/\e.taken<n) (hf:f<n) (hw:mE lead n (f:Int)=none):AL E (rO E n f) (f:Int)=-1:=by
 have hd:GU E n f n (rO E n f):=rQ hE hf n
 have hin:∀x,∀y∈lead x,0<=y/\y<(n:Int):=fun x y hy=>by
  obtain⟨e,he,_,rfl⟩:=(hlead _ _).1 hy
  exact(hE e he).2
 have hno:=(iO hin (by omega)).2 hw
 generalize rO E n f=d at *
 unfold AL
 rcases w4 d (f:Int) E (fun e he=>(hE e he).2.1) with⟨h,_⟩|⟨hb0,⟨e1,he1,e11,e12,e13⟩,_⟩
 ·exact h
 ·exfalso
  have hbr:=(hE e1 he1).2
  have hbw:=(hd.U4 e1.taken.toNat (by omega) e13).1
  rw[Int.toNat_of_nonneg hbr.1] at hbw
  obtain⟨p,q1,q2,q3,q4⟩:=wu hlead hbw
  obtain⟨c1,c2,_⟩:=we (w:=[(f:Int)]) (i:=0) (to:=(f:Int)) rfl (fun q hq=>by omega) (by simp) ((hlead _ _).2 ⟨e1,he1,e11,rfl⟩) q1 q2 q3 q4
  exact hno _ c1 c2
end
end
theorem _root_.Go.dA.WC.last {P:Program} {n lo:Nat} {fr:Fr} {H:Hp} {nx:Nat} {Q:QT} {code:Code} {lc:LC} (hl:dE P n code=some lc) (h:Go (W P n lo lc fr H nx Q)):WC P n lo code fr H nx Q:=WC.low hl (fV h)
theorem qh {a:AV} {H:Hp} {nx:Nat} {R:AV->Hp->Nat->Prop} (h:WC Tryz.prog 86 nx jb (kI 0 [a]) H nx (ua [.tmp 2, .tmp 3, .tmp 4] R)):cT Tryz.prog 15 [a] H nx R:=by
 have hn:(Tryz.f15).ntmps=86:=OA
 refine cT.QQ Tryz.func15 (by kernel_rfl) (show _=some jb by kernel_rfl) (lrs:=[.tmp 2, .tmp 3, .tmp 4]) (by kernel_rfl) (by rw[hn];exact(by decide:1<=86)) ?_
 rw[hn]
 exact h
theorem contains_nil (x:Int):Pure Tryz.prog 39 [.sc (.slice none 0 0),i64 x] (fun r=>r=bl false):=
 Pure.args (lC [] x (by decide)) fun c=> .cons (dA.dY.ja c c 1 .any) (.cons (fun _ h=>h) .nil)
theorem GR {H:Hp} {b:Nat} {e:TypeId} {d:AV} {l:List Int} (x:Int) (h:cC H b=some (.row e 1 d (l.map i64))):[AV.sl b l.length,i64 x].map (dA.df H 6)=[c8 l,i64 x]:=by
 show[dA.df H 6 (.sl b l.length),i64 x]=_
 rw[dN (k:=5) h (by simp),cr _ ((cL _ _).2 fun _ _=>by simp[cP])]
theorem JH {L:List (Int×Nat)} (hb:(L.map (·.2)).Nodup) {p q:Int×Nat} (hp:p∈L) (hq:q∈L) (e:p.2=q.2):p=q:=by
 obtain⟨i,hi,rfl⟩:=List.getElem_of_mem hp
 obtain⟨j,hj,rfl⟩:=List.getElem_of_mem hq
 have:=(List.getElem_inj (xs:=L.map (·.2)) (h₀:=by simpa using hi) (h₁:=by simpa using hj) hb).1 (by simpa using e)
 subst this;rfl
theorem JF {L:List (Int×Nat)} (hb:(L.map (·.1)).Nodup) {p q:Int×Nat} (hp:p∈L) (hq:q∈L) (e:p.1=q.1):p=q:=by
 obtain⟨i,hi,rfl⟩:=List.getElem_of_mem hp
 obtain⟨j,hj,rfl⟩:=List.getElem_of_mem hq
 have:=(List.getElem_inj (xs:=L.map (·.1)) (h₀:=by simpa using hi) (h₁:=by simpa using hj) hb).1 (by simpa using e)
 subst this;rfl
theorem DE {L:List (Int×Nat)} {S S':Int->List Int} (h:∀p∈L,(S' p.1).length=(S p.1).length):fE L S'=fE L S:=List.map_congr_left fun p hp=>by rw[h p hp]
def KU (u:cF) (r:AV) (H:Hp):Prop:=match jU u with
 |none=>r= .dQ [.sc (.slice none 0 0),bl false,i64 0]
 |some w=>∃b d,r= .dQ [.sl b w.length,bl true,i64 0]/\cC H b=some (.row 3 1 d (w.map i64))
theorem OC (u:cF) (hu:u.Wf) (hr:¬cj u):cT Tryz.prog 15 [u.av] [] 0 (fun r H n=>r= .dQ [.sc (.slice none 0 0),bl false,i64 60]):=by
 have c0:=vr u hu hr
 refine qh ?_
 rw[wa]
 refine WC.cut lr0.ok ?_
 refine ca ?_
 refine⟨_,_,_,Rt.refl _ _ _,WC.cut lr1.ok ?_⟩
 refine ca ?_
 refine⟨_,_,_,Rt.refl _ _ _,WC.cut lr2.ok ?_⟩
 refine ca ?_
 exact⟨rfl⟩
set_option maxHeartbeats 4000000 in
theorem JR (u:cF) (hu:u.Wf) (hr:cj u):cT Tryz.prog 15 [u.av] [] 0 (fun r H n=>KU u r H):=by
 have c0:=pK u hu hr
 have hel:=lV hr (Nat.le_refl u.cD.length)
 have hgl:=hr.qD.2.2
 have hle:=hr.qD.2.1
 change (dK u).length<=_ at hel
 refine qh ?_
 rw[wa]
 refine WC.cut lr0.ok ?_
 refine ca ?_
 refine⟨_,_,_,Rt.refl _ _ _,WC.cut lr1.ok ?_⟩
 refine ca ?_
 refine⟨_,_,_,Rt.refl _ _ _,WC.cut lr2.ok ?_⟩
 refine ca ?_
 refine⟨_,_,_,Rt.refl _ _ _,WC.cut lr3.ok ?_⟩
 refine ca ?_
 refine⟨_,_,_,Rt.refl _ _ _,WC.cut lr4.ok ?_⟩
 refine ca ?_
 simp only[List.length_map]
 clear c0
 have hR:∀r H,KU u r H=match eM (fB u) u.cI.length u.cI.length with
  |none=>r= .dQ [.sc (.slice none 0 0),bl false,i64 0]
  |some w=>∃b d,r= .dQ [.sl b w.length,bl true,i64 0]/\cC H b=some (.row 3 1 d (w.map i64)):=fun _ _=>rfl
 have hles:∀i h,(je ((dK u).take i) h).length<=16:=fun i h=>FF hr (fun e he=>List.mem_of_mem_take he) h
 refine aI (fun σ:Nat×List (Int×Nat)=>[(1, .pt 0 1 0 0),(7, .mp 12),(23,eV (dK u)),(24,i64 (dK u).length),(25,i64 σ.1)])
  (fun σ H n=>σ.1<=(dK u).length/\13<=n/\(∃d,cC H 0=some (.row 25 3 d [u.av]))/\rB 12 σ.2 (je ((dK u).take σ.1)) H/\(σ.2.map (·.2)).Nodup/\(∀p∈σ.2,13<=p.2/\p.2<n)/\∀h,h∈σ.2.map (·.1)↔je ((dK u).take σ.1) h≠[]) (fun σ=>(dK u).length - σ.1) (0,[])
  cJ ⟨Nat.zero_le _,cZ,⟨_,cE⟩,⟨⟨_,cE⟩,(fun p hp=>by cases hp),List.nodup_nil⟩,List.nodup_nil,(fun p hp=>by cases hp),fun h=>by simp[je]⟩ ?_
 rintro⟨i,L⟩ H n ⟨hi,hn,⟨d0,r0⟩,hL,hb,hids,hkeys⟩
 dsimp only at hi hL hb hids hkeys ⊢
 have a0:((dK u).map dO.av).length=(dK u).length:=List.length_map _
 obtain⟨d1,r1⟩:=hL.map
 by_cases hil:i<(dK u).length
 ·have e0:∀d,((dK u).map dO.av).getD ((i:Int)).toNat d=((dK u).getD i default).av:=fun d=>by rw[Int.toNat_natCast];exact dI dO.av (dK u) i d hil
  have hsn:=fun h=>rD ((dK u).take i) ((dK u).getD i default) h
  rw[show(dK u).take i++[(dK u).getD i default]=(dK u).take (i+1) by rw[List.take_succ_eq_append_getElem hil];simp[List.getD,hil]] at hsn
  have hl1:=hles i
  have hl2:=hles (i+1)
  generalize (dK u).getD i default=e at *
  generalize h2:je ((dK u).take (i+1))=S2 at *
  generalize je ((dK u).take i)=S at *
  obtain⟨hd,tk,th,nd⟩:=e
  dsimp only at hsn
  by_cases hx:hd∈L.map (·.1)
  ·obtain⟨p,hp,hpe⟩:=List.mem_map.1 hx
   have g0:=zr (S:=S) (.sc (.slice none 0 0)) hp hL.keys
   obtain⟨d4,r4⟩:=hL.row p hp
   obtain⟨hp0,hp1⟩:=hids p hp
   rw[hpe] at g0 r4
   have hlS:=hl1 hd
   have hc:=lC (S hd) tk (by omega)
   refine ca ?_
   refine aW hc (GR tk cE) (by simp only[cg,cP];exact⟨(cL _ _).2 fun _ _=>by simp[cP],trivial,trivial⟩) (by simp[fu]) ?_
   clear hc
   by_cases hm:tk∈S hd
   ·have r2:=decide_eq_true hm
    have hSS:S2=S:=funext fun h=>by rw[hsn,if_neg fun c=>c.2 (by rw[<-c.1];exact hm)]
    rw[hSS] at h2
    refine ca ?_
    refine⟨(i+1,L),by dsimp only;omega,cJ,by dsimp only;omega,cZ,⟨_,cE⟩, ?_,hb,fun q hq=>⟨(hids q hq).1,Nat.lt_of_lt_of_le (hids q hq).2 cZ⟩, ?_⟩
    ·dsimp only
     rw[h2]
     refine⟨⟨_,cE⟩,fun q hq=> ?_,hL.keys⟩
     obtain⟨dq,rq⟩:=hL.row q hq
     have hq1:=hids q hq
     exact⟨dq,cE⟩
    ·dsimp only
     rw[h2]
     exact hkeys
   ·have r2:=decide_eq_false hm
    have hS2:∀x,x≠hd->S2 x=S x:=fun x hx=>by rw[hsn,if_neg fun c=>hx c.1.symm]
    have hS3:S2 hd=S hd++[tk]:=by rw[hsn,if_pos ⟨rfl,hm⟩]
    have g1:=xh (S:=S) (S':=S2) hp hL.keys (fun x hx=>hS2 x (by rw[<-hpe];exact hx))
    rw[hpe,hS3,List.length_append,List.length_singleton] at g1
    refine ca ?_
    refine⟨(i+1,L),by dsimp only;omega,cJ,by dsimp only;omega,cZ,⟨_,cE⟩, ?_,hb,fun q hq=>⟨(hids q hq).1,Nat.lt_of_lt_of_le (hids q hq).2 cZ⟩, ?_⟩
    ·dsimp only
     rw[h2]
     refine⟨⟨_,cE⟩,fun q hq=> ?_,hL.keys⟩
     by_cases hqp:q=p
     ·subst hqp
      rw[hpe,hS3,List.map_append]
      exact⟨_,cE⟩
     ·obtain⟨dq,rq⟩:=hL.row q hq
      have hq1:=hids q hq
      have hq2:q.2≠p.2:=fun e=>hqp (JH hb hq hp e)
      have hq3:q.1≠hd:=fun e=>hqp (JF hL.keys hq hp (e.trans hpe.symm))
      rw[hS2 _ hq3]
      exact⟨dq,cE⟩
    ·dsimp only
     rw[h2]
     intro h
     by_cases e:h=hd
     ·rw[e,hS3]
      exact⟨fun _=>by simp,fun _=>hx⟩
     ·rw[hS2 h e];exact hkeys h
  ·have g0:=wZ (S:=S) (.sc (.slice none 0 0)) hx
   have c0:=contains_nil tk
   have hS0:S hd=[]:=by
    have:=mt (hkeys hd).2 hx
    simpa using this
   have hS2:∀x,x≠hd->S2 x=S x:=fun x hx=>by rw[hsn,if_neg fun c=>hx c.1.symm]
   have hS3:S2 hd=[tk]:=by rw[hsn,hS0,if_pos ⟨rfl,by simp⟩];rfl
   have g1:=xg (S:=S) (S':=S2) (n+22) hx hS2
   rw[hS3,List.length_singleton] at g1
   refine ca ?_
   refine⟨(i+1,L++[(hd,n+22)]),by dsimp only;omega,cJ,by dsimp only;omega,cZ,⟨_,cE⟩, ?_, ?_,fun q hq=> ?_, ?_⟩
   ·dsimp only
    rw[h2]
    refine⟨⟨_,cE⟩,fun q hq=> ?_, ?_⟩
    ·rcases List.mem_append.1 hq with hq|hq
     ·obtain⟨dq,rq⟩:=hL.row q hq
      have hq1:=hids q hq
      have hq3:q.1≠hd:=fun e=>hx (by rw[<-e];exact List.mem_map.2 ⟨q,hq,rfl⟩)
      rw[hS2 _ hq3]
      exact⟨dq,cE⟩
     ·simp only[List.mem_cons,List.not_mem_nil,or_false] at hq
      subst hq
      dsimp only
      rw[hS3]
      exact⟨_,cE⟩
    ·rw[List.map_append]
     refine List.nodup_append.2 ⟨hL.keys,by simp,fun a ha b hb=> ?_⟩
     simp only[List.map_cons,List.map_nil,List.mem_cons,List.not_mem_nil,or_false] at hb
     subst hb
     exact fun e=>hx (e▸ha)
   ·dsimp only
    rw[List.map_append]
    refine List.nodup_append.2 ⟨hb,by simp,fun a ha b hb=> ?_⟩
    simp only[List.map_cons,List.map_nil,List.mem_cons,List.not_mem_nil,or_false] at hb
    subst hb
    obtain⟨q,hq,rfl⟩:=List.mem_map.1 ha
    have:=(hids q hq).2
    omega
   ·rcases List.mem_append.1 hq with hq|hq
    ·exact⟨(hids q hq).1,Nat.lt_of_lt_of_le (hids q hq).2 cZ⟩
    ·simp only[List.mem_cons,List.not_mem_nil,or_false] at hq
     subst hq
     refine⟨by dsimp only;omega, ?_⟩
     exact cZ
   ·dsimp only
    rw[h2]
    intro h
    rw[List.map_append,List.mem_append]
    by_cases e:h=hd
    ·rw[e,hS3];simp
    ·rw[hS2 h e,<-hkeys h];simp[e]
 ·obtain rfl:i=(dK u).length:=by omega
  rw[List.take_length] at hL hkeys r1
  refine ca ?_
  have hne:∀p∈L,je (dK u) p.1≠[]:=fun p hp=>(hkeys p.1).1 (List.mem_map.2 ⟨p,hp,rfl⟩)
  have hls:∀h,(je (dK u) h).length<=16:=fun h=>FF hr (fun e he=>he) h
  have h12:(12:Nat)∉L.map (·.2):=fun h=>by
   obtain⟨p,hp,e⟩:=List.mem_map.1 h
   have:=(hids p hp).1
   omega
  have h00:(0:Nat)∉L.map (·.2):=fun h=>by
   obtain⟨p,hp,e⟩:=List.mem_map.1 h
   have:=(hids p hp).1
   omega
  refine⟨[(1, .pt 0 1 0 0),(7, .mp 12)],_,_,Rt.less cJ,WC.seq (UA (L:=L) (S:=je (dK u)) JU (by decide) rfl (by simp[vS,cu]) hb hL.keys h12 ⟨_,cE⟩ (fun p hp=> ?_) (fun p hp=>⟨hne p hp,by have:=hls p.1;omega⟩) fun H' hrows hrest=> ?_)⟩
  ·obtain⟨dp,rp⟩:=hL.row p hp
   have:=hids p hp
   exact⟨dp,cE⟩
  have hL':rB 12 L (fB u) H':=by
   refine⟨⟨d1, ?_⟩,hrows,hL.keys⟩
   rw[hrest 12 h12,show fE L (fB u)=fE L (je (dK u)) from DE fun p _=>lr _]
   exact cE
  have hu0:∃d,cC H' 0=some (.row 25 3 d [u.av]):=⟨d0,by rw[hrest 0 h00];exact cE⟩
  have hlead:mq L (fB u)=fB u:=by
   funext x
   unfold mq
   split
   ·rfl
   ·rename_i hx
    have:=mt (hkeys x).2 hx
    simp only[ne_eq,Classical.not_not] at this
    unfold fB
    rw[this];simp[eU]
  have hin:=uM hr
  clear r0 r1 hrest hrows hL
  obtain⟨d0,r0⟩:=hu0
  show WC Tryz.prog 86 0 _ _ H' _ _
  refine WC.last lr6.ok ?_
  refine ca ?_
  simp only[List.length_map]
  have hids1:∀p∈L,p.2<n+1:=fun p hp=>Nat.lt_succ_of_lt (hids p hp).2
  refine aI (fun σ:Nat×AV=>[(1, .pt 0 1 0 0),(7, .mp 12),(11,σ.2),(61,i64 u.cI.length),(62,i64 σ.1)])
   (fun σ H2 n2=>σ.1<=u.cI.length/\n+1<=n2/\(∀y,y<n+1->cC H2 y=cC H' y)/\((eM (fB u) u.cI.length σ.1=none/\σ.2= .sc (.slice none 0 0))\/∃w b d,eM (fB u) u.cI.length σ.1=some w/\σ.2= .sl b w.length/\n+1<=b/\b<n2/\cC H2 b=some (.row 3 1 d (w.map i64)))) (fun σ=>u.cI.length - σ.1) (0, .sc (.slice none 0 0))
   cJ ⟨Nat.zero_le _,cZ,fun y hy=>cM, .inl ⟨rfl,rfl⟩⟩ ?_
  rintro⟨k,bA⟩ H2 n2 ⟨hk,hn2,hkeep,hbest⟩
  dsimp only at hk hbest ⊢
  have hL2:=hL'.cd (by omega:12<n+1) hids1 hkeep
  have r2:cC H2 0=some (.row 25 3 d0 [u.av]):=(hkeep 0 (by omega)).trans r0
  by_cases hkl:k<u.cI.length
  ·have hnx:=fun w hw=>((iO (lead:=fB u) (n:=u.cI.length) (first:=(k:Int)) hin ⟨by omega,by omega⟩).1 w hw)
   have hstep:eM (fB u) u.cI.length (k+1)=match mE (fB u) u.cI.length (k:Int),eM (fB u) u.cI.length k with
    |none,b=>b
    |some l,none=>some l
    |some l,some b=>if l.length<b.length then some l else some b:=rfl
   rcases hbest with⟨hb0,rfl⟩|⟨w,b,d3,hb0,rfl,hb1,hb2,r3⟩
   ·rw[hb0] at hstep
    refine ca ?_
    refine aJ (pA (n:=u.cI.length) (first:=(k:Int)) (hL2.cd (nx:=n2) (by omega) (fun p hp=>by have:=hids p hp;omega) fun y hy=>cM) ?_ ?_ (by rw[hlead];exact hin) hle (fun x=>by unfold fB;rw[lr];exact hls x) ⟨by omega,by omega⟩) ?_
    ·exact cZ
    ·exact fun p hp=>Nat.lt_of_lt_of_le (hids p hp).2 cZ
    rintro r H4 m4 ⟨hm4,hkeep4,hR4⟩
    rw[hlead] at hR4
    unfold pD at hR4
    cases hq:mE (fB u) u.cI.length (k:Int) with
    |none=>
     rw[hq] at hR4 hstep
     dsimp only at hR4 hstep
     subst hR4
     refine ca ?_
     refine⟨(k+1, .sc (.slice none 0 0)),by dsimp only;omega,cJ,by dsimp only;omega,cZ,fun y hy=>Eq.trans cM (Eq.trans (hkeep4 y ?_) (Eq.trans cM (hkeep y hy))), .inl ⟨hstep,rfl⟩⟩
     exact Nat.lt_of_lt_of_le (Nat.lt_of_lt_of_le hy hn2) cZ
    |some w=>
     rw[hq] at hR4 hstep
     dsimp only at hR4 hstep
     obtain⟨b,d4,hb1,hb2,rfl,r4⟩:=hR4
     obtain⟨_,hcy,_,hwin,_⟩:=hnx w hq
     have hwl:=hcy.pos
     refine ca ?_
     refine aZ (xo cE ⟨by simp,hwl⟩) ?_
     refine ca ?_
     refine⟨(k+1, .sl b w.length),by dsimp only;omega,cJ,by dsimp only;omega,cZ,fun y hy=>Eq.trans cM (Eq.trans (hkeep4 y ?_) (Eq.trans cM (hkeep y hy))), .inr ⟨w,b,d4,hstep,rfl, ?_, ?_,cE⟩⟩
     ·exact Nat.lt_of_lt_of_le (Nat.lt_of_lt_of_le hy hn2) cZ
     ·omega
     ·exact Nat.lt_of_lt_of_le hb2 cZ
   ·rw[hb0] at hstep
    refine ca ?_
    refine aJ (pA (n:=u.cI.length) (first:=(k:Int)) (hL2.cd (nx:=n2) (by omega) (fun p hp=>by have:=hids p hp;omega) fun y hy=>cM) ?_ ?_ (by rw[hlead];exact hin) hle (fun x=>by unfold fB;rw[lr];exact hls x) ⟨by omega,by omega⟩) ?_
    ·exact cZ
    ·exact fun p hp=>Nat.lt_of_lt_of_le (Nat.lt_of_lt_of_le (hids1 p hp) hn2) cZ
    rintro r H4 m4 ⟨hm4,hkeep4,hR4⟩
    rw[hlead] at hR4
    unfold pD at hR4
    have hb3:=hkeep4 b (Nat.lt_of_lt_of_le hb2 cZ)
    have r5:cC H4 b=some (.row 3 1 d3 (w.map i64)):=hb3.trans cE
    clear hb3
    have hwl:0<w.length:=by
     obtain⟨f,hf,hbf,_⟩:=jw hb0
     exact(((iO (lead:=fB u) (n:=u.cI.length) (first:=(f:Int)) hin ⟨by omega,by omega⟩).1 w hbf).2.1).pos
    cases hq:mE (fB u) u.cI.length (k:Int) with
    |none=>
     rw[hq] at hR4 hstep
     dsimp only at hR4 hstep
     subst hR4
     refine ca ?_
     refine⟨(k+1, .sl b w.length),by dsimp only;omega,cJ,by dsimp only;omega,cZ,fun y hy=>Eq.trans cM (Eq.trans (hkeep4 y ?_) (Eq.trans cM (hkeep y hy))), .inr ⟨w,b,d3,hstep,rfl,hb1, ?_,cE⟩⟩
     ·exact Nat.lt_of_lt_of_le (Nat.lt_of_lt_of_le hy hn2) cZ
     ·exact Nat.lt_of_lt_of_le hb2 cZ
    |some w2=>
     rw[hq] at hR4 hstep
     dsimp only at hR4 hstep
     obtain⟨b4,d4,hb4,hb5,rfl,r4⟩:=hR4
     obtain⟨_,hcy,_,hwin,_⟩:=hnx w2 hq
     have hwl2:=hcy.pos
     have a1:(w.map i64).length=w.length:=List.length_map _
     have a2:(w2.map i64).length=w2.length:=List.length_map _
     by_cases hlt:w2.length<w.length
     ·rw[if_pos hlt] at hstep
      have r6:=decide_eq_true (show((w2.length:Int))<w.length by omega)
      refine ca ?_
      refine⟨(k+1, .sl b4 w2.length),by dsimp only;omega,cJ,by dsimp only;omega,cZ,fun y hy=>Eq.trans cM (Eq.trans (hkeep4 y ?_) (Eq.trans cM (hkeep y hy))), .inr ⟨w2,b4,d4,hstep,rfl, ?_, ?_,cE⟩⟩
      ·exact Nat.lt_of_lt_of_le (Nat.lt_of_lt_of_le hy hn2) cZ
      ·omega
      ·exact Nat.lt_of_lt_of_le hb5 cZ
     ·rw[if_neg hlt] at hstep
      refine ca ?_
      refine aY (fun hc=>absurd hc (by simp;omega)) (fun hc=> ?_)
      refine ca ?_
      refine⟨(k+1, .sl b w.length),by dsimp only;omega,cJ,by dsimp only;omega,cZ,fun y hy=>Eq.trans cM (Eq.trans (hkeep4 y ?_) (Eq.trans cM (hkeep y hy))), .inr ⟨w,b,d3,hstep,rfl,hb1, ?_,cE⟩⟩
      ·exact Nat.lt_of_lt_of_le (Nat.lt_of_lt_of_le hy hn2) cZ
      ·exact Nat.lt_of_lt_of_le hb2 cZ
  ·obtain rfl:k=u.cI.length:=by omega
   rcases hbest with⟨hb0,rfl⟩|⟨w,b,d3,hb0,rfl,hb1,hb2,r3⟩
   ·refine ca ?_
    exact⟨by rw[hR,hb0];rfl⟩
   ·have hwl:0<w.length:=by
     obtain⟨f,hf,hbf,_⟩:=jw hb0
     exact(((iO (lead:=fB u) (n:=u.cI.length) (first:=(f:Int)) hin ⟨by omega,by omega⟩).1 w hbf).2.1).pos
    refine ca ?_
    refine aZ (xo cE ⟨by simp,hwl⟩) ?_
    refine ca ?_
    exact⟨by rw[hR,hb0];exact⟨b,d3,rfl,cE⟩⟩
theorem SY {u:cF} {m:MS} {L:ML} {H:Hp} (hM:L.At u m H) (nx:Nat):Wk (.pt L.mr 1 0 0) H nx (m.fz u) (mm (ku L.all H) H) nx:=by
 have:=Wk.V0 (nx:=nx) (r:= .pt L.mr 1 0 0) (ku L.all H) 6 (fun b q hq=>rz hq)
 rwa[hM.pT 2] at this
end Go.Proofs.YtjopoheligmmoaaGreatDoor
namespace Go.dA
open Go.RowKit
set_option linter.unusedSimpArgs false
set_option linter.unusedVariables false
section
variable {P:Program} {n lo:Nat} {fr:Fr} {H:Hp} {nx:Nat} {Q:QT}
theorem WL.rt {lc:LC} {fr2:Fr} {H2:Hp} {nx2:Nat} (hw:Rt fr H nx fr2 H2 nx2) (h:WL P n lo lc fr2 H2 nx2 Q):WL P n lo lc fr H nx Q:=
 fun code hc w0 M0 c0 a w hh=>h code hc w0 M0 c0 a w (hw _ _ _ _ _ _ _ hh)
theorem WL.cut {a b:LC} (h:Go (W P n lo a fr H nx (jA (fun fr' H' nx'=>∃fr2 H2 nx2,Rt fr' H' nx' fr2 H2 nx2/\WL P n lo b fr2 H2 nx2 Q) Q))):WL P n lo (.seq a b) fr H nx Q:=
 WL.seq ((fV h).mono fun e fr H nx hh=>by
  cases e with
  |normal=>
   obtain⟨fr2,H2,nx2,h1,h2⟩:=hh
   exact WL.rt h1 h2
  |exit id=>exact hh
  |ret=>exact hh)
theorem bD {f:FuncId} {args:List AV} {R:AV->Hp->Nat->Prop} (X:eB P f) (ha:Nat.ble args.length X.n=true) (h:WL P X.n nx X.lc (kI 0 args) H nx (ua X.rs R)):cT P f args H nx R:=by
 obtain⟨fn,h1,h2,h3,h4,h5⟩:=X.ok
 have h6:X.n=fn.ntmps:=h5
 rw[h6] at h ha
 exact cT.q8 h1 h2 h3 h4 (Nat.le_of_ble_eq_true ha) (h.mono fun _ _ _ _=>yB)
theorem WL.last {lc:LC} (h:Go (W P n lo lc fr H nx Q)):WL P n lo lc fr H nx Q:=fV h
theorem ak {lc:LC} {b:Nat} {q:Option fD} (h:cC H b=q) (k:∀H2:Hp,cC H2 b=q->Go (W P n lo lc fr H2 nx Q)):W P n lo lc fr H nx Q:=k H h
end
end Go.dA
namespace Go.Proofs.YtjopoheligmmoaaGreatDoor
open Go Go.dA Go.Proofs
set_option linter.unusedSimpArgs false
set_option linter.unusedVariables false
set_option maxRecDepth 8000
theorem VJ (u:cF) (m:MS) (h:eo u m) {t:Nat} (ht:t<u.cD.length):Pure Tryz.prog 30 [m.fz u,i64 t] (fun r=>r=i64 (m.at_.getD t 0)):=by
 have c0:=BI u m t
 have hl:=h.rI
 rw[decide_eq_true (by omega:¬((t:Int)<0\/(m.at_.length:Int)<=t))] at c0
 have e0:=fun d=>ints_at (l:=m.at_) (k:=t) (by omega) d
 have a0:(m.at_.map i64).length=u.cD.length:=by simp[hl]
 refine aG aAF rfl ?_
 refine ca ?_
 first|exact rfl|trivial
theorem IL (u:cF) (m:MS) (h:eo u m) {x:Nat} (hx:x<u.cI.length):Pure Tryz.prog 33 [m.fz u,i64 x] (fun r=>r=i64 (m.hold.getD x 0)):=by
 have hl:=h.hl
 have e0:=fun d=>ints_at (l:=m.hold) (k:=x) (by omega) d
 have a0:(m.hold.map i64).length=u.cI.length:=by simp[hl]
 refine aG aAH rfl ?_
 refine ca ?_
 refine aY (fun hc=>absurd hc (by simp[hl];omega)) fun hc=> ?_
 refine ca ?_
 first|exact rfl|trivial
abbrev pc (u:cF) (m:MS):AV:= .agg [cq u.shared,cq u.cI,dy u.cD,m.fz u]
theorem qP (u:cF) (hr:cj u) (m:MS) (h:eo u m) {t:Nat} (ht:t<u.cD.length):Pure Tryz.prog 50 [pc u m,i64 t] (fun r=>r=i64 (ew u m t)):=by
 have c0:=VJ u m h ht
 have hno:=h.node hr ht
 obtain⟨p0,p1⟩:=h.iN t ht
 have e0:∀d,(u.cD.map cG.av).getD ((t:Int)).toNat d=(u.gr t).av:=fun d=>kZ ht d
 have a0:(u.cD.map cG.av).length=u.cD.length:=by simp
 have hh:ew u m t=if((u.gr t).nd (m.at_.getD t 0).toNat).kind=5 then m.hold.getD ((u.gr t).nd (m.at_.getD t 0).toNat).cV.toNat 0 else -1:=by
  unfold ew MS.node;rw[Int.toNat_natCast]
 rw[hh]
 unfold MS.node at hno
 obtain⟨j,hj⟩:∃j:Nat,m.at_.getD t 0=j:=⟨(m.at_.getD t 0).toNat,by omega⟩
 rw[hj] at c0 p1 hno ⊢
 rw[Int.toNat_natCast] at hno ⊢
 generalize u.gr t=g at *
 have e1:∀d,(g.nodes.map Node.av).getD ((j:Int)).toNat d=(g.nd j).av:=fun d=>fx (by omega) d
 have a1:(g.nodes.map Node.av).length=g.nodes.length:=by simp
 generalize g.nd j=n at *
 by_cases h5:n.kind=5
 ·obtain⟨x0,x1⟩:=gE hno (.inl h5)
  have c1:=IL u m h (x:=n.cV.toNat) (by omega)
  rw[Int.toNat_of_nonneg x0] at c1
  rw[if_pos h5]
  have r0:decide (n.kind≠5)=false:=decide_eq_false fun e=>e h5
  refine aG YN rfl ?_
  refine ca ?_
  first|exact rfl|trivial
 ·rw[if_neg h5]
  have r0:decide (n.kind≠5)=true:=decide_eq_true h5
  refine aG YN rfl ?_
  refine ca ?_
  first|exact rfl|trivial
set_option maxHeartbeats 2000000 in
theorem EE (u:cF) (hr:cj u) (m:MS) (h:eo u m) {t:Nat} (ht:t<u.cD.length) (H0:Hp) (nx:Nat):
 cT Tryz.prog 49 [i64 t, .fn (.func 50) [pc u m] []] H0 nx (fun r H k=>nx<=k/\(∀y,y<nx->cC H y=cC H0 y)/\pD (lG (ew u m) u.cD.length (t:Int)) nx k r H):=by
 have hfew:=hr.qD.2.2
 have c0:=qP u hr m h ht
 have hf:cP 0 (pc u m):=by simp[cP,cg,cL]
 refine aM aAV rfl ?_
 refine ca ?_
 generalize hfn:ew u m=hd at *
 have hlt:∀x:Int,0<=x->x<u.cD.length->-1<=hd x/\hd x<u.cD.length:=fun x h0 h1=>by rw[<-hfn];exact wU hr h ⟨h0,h1⟩
 have hcw:∀x:Int,0<=x->x<u.cD.length->Pure Tryz.prog 50 [pc u m,i64 x] (fun r=>r=i64 (hd x)):=fun x h0 h1=>by
  obtain⟨k,rfl⟩:∃k:Nat,x=k:=⟨x.toNat,by omega⟩
  rw[<-hfn];exact qP u hr m h (by omega)
 refine aI (fun σ:Int×List Int=>[(0,i64 t),(1, .fn (.func 50) [pc u m] []),(5, .sl (nx+2) σ.2.length),(6,i64 σ.1)])
  (fun σ H2 n2=>kz hd (t:Int) σ.2/\(∀x∈σ.2,0<=x/\x<u.cD.length)/\σ.1=hd (σ.2.getD (σ.2.length - 1) 0)/\lF hd (t:Int) (u.cD.length+1 - σ.2.length) σ.2 σ.1=lG hd u.cD.length (t:Int)/\nx+3<=n2/\(∃d,cC H2 (nx+2)=some (.row 3 1 d (σ.2.map i64)))/\∀y,y<nx->cC H2 y=cC H0 y) (fun σ=>u.cD.length+1 - σ.2.length) (hd t,[(t:Int)])
  cJ ⟨.one (by omega),fun x hx=>by simp only[List.mem_cons,List.not_mem_nil,or_false] at hx;omega,rfl,rfl,cZ,⟨_,cE⟩,fun y hy=>cM⟩ ?_
 clear c0
 rintro⟨s,out⟩ H2 n2 ⟨hg,hin,hs,hR,hn2,⟨d1,r1⟩,hkeep⟩
 dsimp only at hg hin hs hR r1 ⊢
 have hol:=fW _ _ hg.nd hin
 have hp:=hg.pos
 have hlast:=hin _ (cQ 0 (show out.length - 1<out.length by omega))
 have hsl:=hlt _ hlast.1 hlast.2
 rw[<-hs] at hsl
 have a0:(out.map i64).length=out.length:=List.length_map _
 rw[show u.cD.length+1 - out.length=(u.cD.length - out.length)+1 by omega,lF] at hR
 by_cases hst:s=t
 ·rw[if_pos hst] at hR
  have r0:decide (s≠t)=false:=decide_eq_false fun e=>e hst
  rw[<-hR]
  refine ca ?_
  refine⟨⟨?_,fun y hy=>Eq.trans cM (hkeep y hy),nx+2,d1,by omega, ?_,rfl,cE⟩⟩
  ·exact cZ
  ·exact cZ
 ·rw[if_neg hst] at hR
  have r0:decide (s≠t)=true:=decide_eq_true hst
  have hview:∀H3,cC H3 (nx+2)=some (.row 3 1 d1 (out.map i64))->[AV.sl (nx+2) out.length,i64 s].map (dA.df H3 6)=[c8 out,i64 s]:=fun H3 h3=>GR s h3
  have hfit:cg 0 [c8 out,i64 s]:=by
   simp only[cg,cP];exact⟨(cL _ _).2 fun _ _=>by simp[cP],trivial,trivial⟩
  refine ca ?_
  refine bM (fun _=>lC out s (by omega)) (hview _ cE) hfit (by simp[fu]) ?_
  by_cases h0:s<0
  ·rw[if_pos (.inl h0)] at hR
   rw[<-hR]
   refine ca ?_
   refine⟨⟨?_,fun y hy=>Eq.trans cM (hkeep y hy),rfl⟩⟩
   exact cZ
  ·by_cases hm:s∈out
   ·rw[if_pos (.inr hm)] at hR
    rw[<-hR]
    rw[decide_eq_true hm]
    refine ca ?_
    refine⟨⟨?_,fun y hy=>Eq.trans cM (hkeep y hy),rfl⟩⟩
    exact cZ
   ·rw[if_neg fun e=>e.elim h0 hm] at hR
    rw[decide_eq_false hm]
    have c0:=hcw s (by omega) hsl.2
    refine ca ?_
    have hm2:=hg.more hs (by omega) hm
    have hin2:∀x∈out++[s],0<=x/\x<u.cD.length:=fun x hx=>by
     rcases List.mem_append.1 hx with hx|hx
     ·exact hin x hx
     ·simp only[List.mem_cons,List.not_mem_nil,or_false] at hx;omega
    refine⟨(hd s,out++[s]), ?_,by rw[List.length_append];exact cJ,hm2,hin2, ?_, ?_,cZ,⟨_,by dsimp only;rw[List.map_append];exact cE⟩,fun y hy=>Eq.trans cM (hkeep y hy)⟩
    ·dsimp only;rw[List.length_append,List.length_singleton];omega
    ·dsimp only;rw[List.length_append,List.length_singleton,Nat.add_sub_cancel,fH]
    ·dsimp only
     rw[List.length_append,List.length_singleton,show u.cD.length+1 - (out.length+1)=u.cD.length - out.length by omega]
     exact hR
abbrev U7 (u:cF) (m:MS) (t:Int):MS:=if m.ly u t=0 then(m.step u t.toNat).1 else m
theorem DQ (u:cF) (m:MS) (t:Int):(U7 u m t).cW.length<=m.cW.length+1:=by
 unfold U7
 split
 ·exact np u m _
 ·omega
theorem yH {u:cF} {m:MS} {L:ML} {H:Hp} {nx:Nat} (hu:u.Wf) (hr:cj u) (h:eo u m) (hM:L.At u m H) (hlt:∀y∈L.all,y<nx) (hpl:m.cW.length<=1048576) (t:Int):
 cT Tryz.prog 31 [.pt L.mr 1 0 0,i64 t] H nx (fun r H' k=>(∃d e,r= .dQ [.agg d,i64 e])/\L.At u (U7 u m t) H'/\nx<=k/\∀y,y<nx->y∉L.all->cC H' y=cC H y):=by
 by_cases hb:m.ly u t=0
 ·obtain⟨k,rfl,hk⟩:=B0 h hb
  have:=wm hu hr h hM hlt hpl hk hb
  refine this.mono ?_
  rintro r H' n ⟨rfl,h1,h2,h3⟩
  refine⟨⟨_,_,rfl⟩, ?_,h2,h3⟩
  unfold U7;rw[if_pos hb,Int.toNat_natCast];exact h1
 ·refine(OP hr h hM hlt t hb).mono ?_
  rintro r H' n ⟨rfl,h2,h3⟩
  refine⟨⟨_,_,rfl⟩, ?_,h2,fun y hy _=>h3 y hy⟩
  unfold U7;rw[if_neg hb]
  exact hM.cd fun y hy=>h3 y (hlt y hy)
theorem JK (u:cF) (m:MS) (w:List Int) {i:Nat} (hi:i<w.length):jT u m (w.take (i+1))=U7 u (jT u m (w.take i)) (w.getD i 0):=by
 rw[List.take_succ_eq_append_getElem hi,w7,show w[i]=w.getD i 0 by simp[List.getD,hi]]
 rfl
theorem zn {u:cF} {m:MS} {k:Nat} {l:List Int} (h:jI u m k=some l):∀n,k<=n->jI u m n=some l:=by
 intro n hn
 obtain⟨d,rfl⟩:∃d,n=k+d:=⟨n - k,by omega⟩
 induction d with
 |zero=>exact h
 |succ d ih=>
  rw[<-Nat.add_assoc,jI,ih (by omega)]
def FB (u:cF) (m:MS) (r:AV) (H:Hp):Prop:=match uK u m with
 |none=>r= .dQ [.sc (.slice none 0 0),bl false,i64 0]
 |some w=>∃b d,r= .dQ [.sl b w.length,bl true,i64 0]/\cC H b=some (.row 3 1 d (w.map i64))
set_option maxHeartbeats 4000000 in
theorem IU (u:cF) (hu:u.Wf) (hr:cj u) (w:List Int) (hw:w.length<=1048576):cT Tryz.prog 21 [u.av,c8 w] [] 0 (fun r H n=>FB u (jT u (eH u) w) r H):=by
 have a0:(w.map i64).length=w.length:=List.length_map _
 have hgl:=hr.qD.2.2
 refine bD aAE rfl ?_
 refine WL.cut ?_
 refine ca ?_
 refine⟨_,_,_,Rt.refl _ _ _,WL.cut ?_⟩
 refine ca ?_
 refine aJ (uU u hu hr _ _) ?_
 rintro _ H1 n1 ⟨L,rfl,hM,hL,hn1,hkp⟩
 refine ca ?_
 refine⟨_,_,_,Rt.refl _ _ _,WL.cut ?_⟩
 refine ca ?_
 refine⟨_,_,_,Rt.refl _ _ _,WL.cut ?_⟩
 refine ca ?_
 obtain⟨d0,r0⟩:∃d,cC H1 0=some (.row 25 3 d [u.av]):=⟨_,Eq.trans (hkp 0 (by omega)) cE⟩
 have hL0:∀x∈L.all,1<=x:=fun x hx=>by have:=(hL x hx).1;omega
 have hL1:∀x∈L.all,x<n1:=fun x hx=>(hL x hx).2
 clear hkp hL
 refine⟨_,_,_,Rt.refl _ _ _,WL.cut ?_⟩
 refine ca ?_
 rw[a0]
 refine aI (fun i:Nat=>[(2, .pt 0 1 0 0),(7, .pt L.mr 1 0 0),(25,c8 w),(26,i64 w.length),(27,i64 i)])
  (fun i H n=>i<=w.length/\n1<=n/\L.At u (jT u (eH u) (w.take i)) H/\(jT u (eH u) (w.take i)).cW.length<=i/\∃d,cC H 0=some (.row 25 3 d [u.av])) (fun i=>w.length - i) 0
  cJ ⟨Nat.zero_le _,cZ,hM.cd fun y hy=> ?_,Nat.zero_le _,⟨_,cE⟩⟩ ?_
 ·have:=hL1 y hy;have:=hL0 y hy;exact cM
 clear r0 hM
 rintro i H n ⟨hi,hn,hM,hpr,⟨d0,r0⟩⟩
 have hsit:xF u (jT u (eH u) (w.take i)):=xF.N0 hu hr (xF.new hu hr)
 by_cases hil:i<w.length
 ·have e0:∀d,(w.map i64).getD ((i:Int)).toNat d=i64 (w.getD i 0):=fun d=>ints_at hil d
  have hpn:=JK u (eH u) w hil
  have hp2:=DQ u (jT u (eH u) (w.take i)) (w.getD i 0)
  rw[<-hpn] at hp2
  refine ca ?_
  refine aJ (yH hu hr hsit.ok (hM.cd fun y hy=> ?_) (fun y hy=> ?_) (by omega) (w.getD i 0)) ?_
  ·have:=hL1 y hy;have:=hL0 y hy;exact cM
  ·exact Nat.lt_of_lt_of_le (Nat.lt_of_lt_of_le (hL1 y hy) hn) cZ
  rintro _ H2 n2 ⟨⟨d,e,rfl⟩,hM2,hn2,hkeep2⟩
  rw[<-hpn] at hM2
  have r1:cC H2 0=some (.row 25 3 d0 [u.av]):=Eq.trans (hkeep2 0 (by omega) fun h=>by have:=hL0 0 h;omega) cE
  refine ca ?_
  refine⟨i+1,by omega,cJ,by omega,cZ,hM2.cd fun y hy=> ?_,by omega,⟨_,cE⟩⟩
  have:=hL1 y hy;have:=hL0 y hy;exact cM
 ·obtain rfl:i=w.length:=by omega
  rw[List.take_length] at hM hpr hsit
  refine ca ?_
  generalize jT u (eH u) w=m at *
  have hz:(0:Nat)∉L.all:=fun h=>by have:=hL0 0 h;omega
  have hM2:L.At u m (dW H none):=hM.cd fun y hy=>by have:=hL1 y hy;have:=hL0 y hy;exact cM
  refine⟨[(2, .pt 0 1 0 0),(7,m.fz u)],_,_,Rt.trans (Rt.slot 7 rfl (SY hM2 _)) (Rt.less cJ),WL.last (ak (b:=0) (q:=some (.row 25 3 d0 [u.av])) ((eX hz).trans (Eq.trans cM r0)) fun H2 r3=> ?_)⟩
  clear hM hM2 r0 hpr
  refine ca ?_
  simp only[List.length_map]
  refine aI (fun t:Nat=>[(2, .pt 0 1 0 0),(11, .pt (n+4) 1 0 0),(39,dy u.cD),(40,i64 u.cD.length),(41,i64 t)])
   (fun t H3 n3=>t<=u.cD.length/\n+5<=n3/\jI u m t=none/\∃d,cC H3 (n+4)=some (.row 90 4 d [pc u m])) (fun t=>u.cD.length - t) 0
   cJ ⟨Nat.zero_le _,cZ,rfl,⟨_,cE⟩⟩ ?_
  clear r3
  rintro t H3 n3 ⟨ht,hn3,hkt,⟨d4,r4⟩⟩
  have hnx:jI u m (t+1)=lG (ew u m) u.cD.length (t:Int):=by
   rw[jI,hkt]
  by_cases htl:t<u.cD.length
  ·refine ca ?_
   refine aJ (EE u hr m hsit.ok htl _ _) ?_
   rintro r H5 n5 ⟨hn5,hkeep5,hR⟩
   have r5:cC H5 (n+4)=some (.row 90 4 d4 [pc u m]):=Eq.trans (hkeep5 (n+4) (Nat.lt_of_lt_of_le (by omega) (show n3<=_ from cZ))) cE
   unfold pD at hR
   cases hq:lG (ew u m) u.cD.length (t:Int) with
   |none=>
    rw[hq] at hR hnx
    dsimp only at hR
    subst hR
    refine ca ?_
    exact⟨t+1,by omega,cJ,by omega,cZ,hnx,⟨_,cE⟩⟩
   |some l=>
    rw[hq] at hR hnx
    dsimp only at hR
    obtain⟨b,d6,hb1,hb2,rfl,r6⟩:=hR
    have hl:=(sU (by omega) hq).1.pos
    have a2:(l.map i64).length=l.length:=List.length_map _
    refine ca ?_
    refine⟨?_⟩
    unfold FB uK
    rw[zn hnx _ (by omega)]
    exact⟨b,d6,rfl,cE⟩
  ·obtain rfl:t=u.cD.length:=by omega
   refine ca ?_
   refine⟨?_⟩
   unfold FB uK
   rw[hkt]
end Go.Proofs.YtjopoheligmmoaaGreatDoor
