import Derived.Test.YtekfmjjmihomlaaGreatM40
import Derived.Test.YtekfmjjmihomlaaGreatM38
import Derived.Test.YtekfmjjmihomlaaGreatM35
import Derived.Test.YtekfmjjmihomlaaGreatM36
import Derived.Test.YtekfmjjmihomlaaGreatM26
section
/- The document's All. -/
namespace Go.Proofs.YtekfmjjmihomlaaGreat
open Go Go.cV Go.Proofs
set_option linter.unusedSimpArgs false
set_option linter.unusedVariables false
set_option maxRecDepth 8000
def kY (u:bj) (p:cH×Bool):List AV:=[bn u.shared,bn u.bo,cL u.bh,cW p.1.m.at_,pc p.1.m.bg,cW p.1.m.mem,cW p.1.m.hold,dE p.1.m.bk,i64 p.1.from_,i64 p.1.cS,bl p.2]
abbrev iS (u:bj) (p:cH×Bool):AV:= .agg (kY u p)
noncomputable def qu (u:bj) (mo:Nat):AV:=match fp u mo with
 |none=> .dH [.sc (.slice none 0 0),i64 3]
 |some l=> .dH [.im 11 .any (l.map fun f=>iS u (f,f.m.stuck u)),i64 0]
theorem E8 {H:Hp} {d:AV} {es:List AV} {n:Nat} (h:bd H 28=some (.row 82 11 d es)) (hf:cP 0 es) (hl:es.length=n):cV.dR H 6 (.dH [.sl 28 n,i64 0])= .dH [.im 11 .any es,i64 0]:=by
 show AV.dH (List.map (cV.dR H 5) [.sl 28 n,i64 0])=_
 rw[List.map_cons,List.map_cons,List.map_nil,dG h hl,cc _ hf,cr _ (show bw 0 (i64 0) by simp[bw])]
def fO (u:bj) (i t j:Nat) (m:MS):Bool:=if j<i then m.stuck u else if j=i then(List.range t).all fun s=>decide (m.mC u s≠0) else true
theorem B4 (u:bj) (i:Nat) (m:MS):fO u i 0 i m=true:=by simp[fO]
theorem flag_on {u:bj} {i t:Nat} {m:MS} (h:m.mC u t≠0):fO u i (t+1) i m=fO u i t i m:=by
 simp[fO,List.range_succ,h]
theorem flag_off {u:bj} {i t:Nat} {m:MS} (h:m.mC u t=0):fO u i (t+1) i m=false:=by
 simp[fO,List.range_succ,h]
theorem E5 {u:bj} {i:Nat} {m:MS} (h:eN u m):fO u i u.bh.length i m=m.stuck u:=by
 unfold fO MS.stuck
 rw[if_neg (Nat.lt_irrefl _),if_pos rfl,h.nD]
theorem s7 {u:bj} {i t t' j:Nat} {m:MS} (h:j≠i):fO u i t j m=fO u i t' j m:=by simp[fO,h]
theorem B3 {u:bj} {i t j:Nat} {m:MS} (h:j≠i):fO u (i+1) 0 j m=fO u i t j m:=by
 unfold fO
 by_cases h1:j<i
 ·rw[if_pos h1,if_pos (by omega)]
 ·rw[if_neg h1,if_neg h,if_neg (by omega)]
  split<;>simp
structure pn (u:bj) (i t:Nat) (lb:List (cH×Bool)) (S:List (List UInt8)):Prop where
 fs:gR u (lb.map Prod.fst)
 IE:ud S
 mem:∀k,k∈S↔k∈gq (lb.map Prod.fst)
 len:S.length=lb.length
 flag:∀j,j<lb.length→(lb.getD j default).2=fO u i t j (lb.getD j default).1.m
theorem pn.same {u:bj} {i t:Nat} {lb:List (cH×Bool)} {S:List (List UInt8)} (h:pn u i t lb S) (hb:(lb.getD i default).1.m.mC u t≠0):pn u i (t+1) lb S:=
 ⟨h.fs,h.IE,h.mem,h.len,fun j hj=>by
  rw[h.flag j hj]
  by_cases e:j=i
  ·subst e;exact(flag_on hb).symm
  ·exact s7 e⟩
theorem uX {lb:List (cH×Bool)} {i:Nat} (b:Bool) (hi:i<lb.length):(lb.set i ((lb.getD i default).1,b)).map Prod.fst=lb.map Prod.fst:=by
 rw[List.map_set]
 apply List.ext_getElem (by simp)
 intro j h1 h2
 rw[List.getElem_set]
 split
 ·rename_i e;subst e;simp[List.getD,hi]
 ·rfl
theorem pn.off {u:bj} {i t:Nat} {lb:List (cH×Bool)} {S:List (List UInt8)} (h:pn u i t lb S) (hi:i<lb.length) (hb:(lb.getD i default).1.m.mC u t=0):pn u i (t+1) (lb.set i ((lb.getD i default).1,false)) S:=
 ⟨by rw[uX _ hi];exact h.fs,h.IE,fun k=>by rw[uX _ hi];exact h.mem k,by rw[List.length_set];exact h.len,fun j hj=>by
  rw[List.length_set] at hj
  by_cases e:j=i
  ·subst e
   rw[eF hj]
   exact(flag_off hb).symm
  ·rw[getD_set_ne (Ne.symm e),h.flag j hj]
   exact s7 e⟩
theorem pn.add {u:bj} {i t:Nat} {lb:List (cH×Bool)} {S:List (List UInt8)} (h:pn u i t lb S) (hi:i<lb.length) {f:cH} (hf:gR u ((lb++[(f,true)]).map Prod.fst)) (hk:eW f.m∉gq (lb.map Prod.fst)):pn u i t (lb++[(f,true)]) (eY S (spot S (eW f.m)) (eW f.m)):=
 ⟨hf,yy h.IE fun e=>hk ((h.mem _).1 e),fun k=>by
  have hm:=h.mem k
  unfold eY
  have h1:k∈S↔k∈S.take (spot S (eW f.m))∨k∈S.drop (spot S (eW f.m)):=by
   conv=>lhs;rw[←List.take_append_drop (spot S (eW f.m)) S]
   exact List.mem_append
  rw[h1] at hm
  simp only[List.mem_append,List.mem_cons,gq,List.map_append,List.map_cons,List.map_nil,List.not_mem_nil,or_false] at hm ⊢
  constructor
  ·rintro(e|e|e)
   ·exact .inl (hm.1 (.inl e))
   ·exact .inr e
   ·exact .inl (hm.1 (.inr e))
  ·rintro(e|e)
   ·rcases hm.2 e with e|e
    ·exact .inl e
    ·exact .inr (.inr e)
   ·exact .inr (.inl e),by rw[jF (pe _ _),List.length_append,h.len];rfl,fun j hj=>by
  rw[List.length_append,List.length_cons,List.length_nil] at hj
  by_cases e:j=lb.length
  ·subst e
   rw[mW]
   unfold fO
   rw[if_neg (by omega),if_neg (by omega)]
  ·rw[ew (by omega)]
   exact h.flag j (by omega)⟩
set_option maxHeartbeats 4000000 in
theorem C9 (u:bj) (hu:u.Wf) (hr:ct u) (mo:Nat) (hmo:1≤mo∧mo≤65536) (c0:Pure Tryz.prog 66 [u.av] (fun r=>r=mQ (0,0,0))):Pure Tryz.prog 34 [u.av,i64 mo] (fun r=>r=qu u mo):=by
 have c1:=DE u hu hr c0
 have hgl:=hr.tv
 have hF:=gR.init u hu hr
 have hm0:=(hF.ok 0 hF.pos).1
 have hm0':(List.getD (jI u) 0 default).m=cq u:=rfl
 rw[hm0'] at hm0
 have c2:=tH u (cq u) (hm0.OO hr (by simp[cq]))
 have a0:(u.bh.map cB.av).length=u.bh.length:=by simp
 refine dP ?_ (by unfold qu;split<;>simp[bw,cP,bu,kY])
 refine aQ yZ rfl ?_
 refine cN ?_
 refine aP (fun σ:Nat×List (cH×Bool)×List (List UInt8)=>[(1,i64 mo),(2, .pt 0 1 0 0),(11, .sl 28 σ.2.1.length),(12, .sl 31 σ.2.2.length),(13,i64 σ.1)])
  (fun σ H n=>σ.1≤σ.2.1.length∧σ.2.1.length≤mo∧pn u σ.1 0 σ.2.1 σ.2.2∧pM u mo (mo - σ.1) σ.1 (σ.2.1.map Prod.fst)=fp u mo∧34≤n∧(∃d,bd H 0=some (.row 25 3 d [u.av]))∧(∃d,bd H 28=some (.row 82 11 d (σ.2.1.map (iS u))))∧(∃d,bd H 31=some (.row 9 1 d (σ.2.2.map dw)))) (fun σ=>mo - σ.1) (0,[(⟨cq u,-1,0⟩,true)],[eW (cq u)])
  cC ⟨Nat.zero_le _,by show 1≤mo;omega,⟨hF,by simp[ud],fun k=>by simp[gq],rfl,fun j hj=>by
   have:j=0:=by simpa using hj
   subst this;exact(B4 _ _ _).symm⟩,rfl,cU,⟨_,bf⟩,⟨_,bf⟩,⟨_,bf⟩⟩ ?_
 clear c0 c1 c2 hm0 hm0'
 rintro⟨i,lb,S⟩ H n ⟨hi,hl,hI,hall,hn,⟨d0,r0'⟩,⟨d1,r1'⟩,⟨d2,r2'⟩⟩
 dsimp only at hi hl hI hall r1' r2' ⊢
 by_cases hil:i<lb.length
 ·obtain⟨hmok,hpl⟩:=hI.fs.ok i (by simpa using hil)
  have hgd:∀(lb:List (cH×Bool)) (j:Nat),j<lb.length→(lb.map Prod.fst).getD j default=(lb.getD j default).1:=fun lb j hj=>by simp[List.getD,hj]
  rw[hgd _ _ hil] at hmok hpl
  have hmk:mo - i=(mo - (i+1))+1:=by omega
  rw[hmk,pM,if_pos (by simpa using hil)] at hall
  generalize hmm:(lb.getD i default).1.m=m at hmok hpl
  refine cN ?_
  refine aP (fun σ:Nat×List (cH×Bool)×List (List UInt8)=>[(1,i64 mo),(2, .pt 0 1 0 0),(11, .sl 28 σ.2.1.length),(12, .sl 31 σ.2.2.length),(13,i64 i),(14,i64 σ.1)])
   (fun σ H n=>σ.1≤u.bh.length∧i<σ.2.1.length∧σ.2.1.length≤mo∧pn u i σ.1 σ.2.1 σ.2.2∧(σ.2.1.getD i default).1.m=m∧(match rl u mo i ((List.range u.bh.length).drop σ.1) (σ.2.1.map Prod.fst) with
    |none=>none
    |some l2=>pM u mo (mo - (i+1)) (i+1) l2)=fp u mo∧34≤n∧(∃d,bd H 0=some (.row 25 3 d [u.av]))∧(∃d,bd H 28=some (.row 82 11 d (σ.2.1.map (iS u))))∧(∃d,bd H 31=some (.row 9 1 d (σ.2.2.map dw)))) (fun σ=>u.bh.length - σ.1) (0,lb,S)
   cC ⟨Nat.zero_le _,hil,hl,hI,hmm,hall,cU,⟨_,bf⟩,⟨_,bf⟩,⟨_,bf⟩⟩ ?_
  clear r0' r1' r2' hall hI hl hil hn hmm hi
  rintro⟨t,lb,S⟩ H n ⟨ht,hil,hl,hI,hmm,hall,hn,⟨d0,r0'⟩,⟨d1,r1'⟩,⟨d2,r2'⟩⟩
  dsimp only at ht hil hl hI hmm hall r1' r2' ⊢
  have a1:(lb.map (iS u)).length=lb.length:=by simp
  have a2:(S.map dw).length=S.length:=by simp
  have e0:∀d,(lb.map (iS u)).getD ((i:Int)).toNat d=iS u (lb.getD i default):=fun d=>by rw[Int.toNat_natCast];exact cu (iS u) lb i d hil
  have hmm2:((lb.map Prod.fst).getD i default).m=m:=by rw[hgd _ _ hil,hmm]
  by_cases htl:t<u.bh.length
  ·rw[show(List.range u.bh.length).drop t=t::(List.range u.bh.length).drop (t+1) by rw[List.drop_eq_getElem_cons (by simpa using htl)];simp,rl] at hall
   have hne:m.at_≠[]:=fun e=>by have:=hmok.nD;rw[e] at this;simp at this;omega
   have c3:=zB u hr m hmok hne (by omega)
   by_cases hb:m.mC u t=0
   ·have c4:=zP u hu hr m hmok (by omega) t htl hb
    have hm2:=u0 hu hr hmok htl (lA hmok htl hb).1
    have hp2:=lT u m t
    have htry:rJ u mo i t (lb.map Prod.fst)=if eW (m.step u t).1∈gq (lb.map Prod.fst) then some (lb.map Prod.fst) else if(lb.map Prod.fst).length=mo then none else some (lb.map Prod.fst++[⟨(m.step u t).1,i,t⟩]):=by
     unfold rJ
     rw[hmm2,if_neg (fun e=>e hb)]
    have hadd:eW (m.step u t).1∉gq (lb.map Prod.fst)→gR u (lb.map Prod.fst++[⟨(m.step u t).1,i,t⟩]):=fun hn=>by
     have:=hI.fs.add hu hr (k:=i) (t:=t) (by simpa using hil) htl (by rw[hmm2];exact hb) (by rw[hmm2];exact hn)
     rw[hmm2] at this
     exact this
    rw[htry] at hall
    have c5:=tH u (m.step u t).1 (hm2.OO hr (by omega))
    have hoff:=hI.off hil (t:=t) (by rw[hmm];exact hb)
    have hrow:(lb.map (iS u)).set ((i:Int)).toNat (.agg ((kY u (lb.getD i default)).set 10 (bl false)))=(lb.set i ((lb.getD i default).1,false)).map (iS u):=by
     rw[Int.toNat_natCast,List.map_set];rfl
    have hfst:=uX (lb:=lb) (i:=i) false hil
    have hmm3:((lb.set i ((lb.getD i default).1,false)).getD i default).1.m=m:=by rw[eF hil];exact hmm
    have hSl:=hI.len
    have hsp:=pe S (eW (m.step u t).1)
    generalize m.step u t=ms at *
    obtain⟨m2,act⟩:=ms
    dsimp only at hm2 hp2 hall hadd c4 c5 hsp
    refine cN ?_
    show gQ _ _ [MS.av u (lb.getD i default).1.m] _ _ _
    rw[hmm]
    refine cN ?_
    refine aS (DO S (eW m2) hI.IE (by omega)) ?_ (by simp[cP,bw,bu]) (by simp[gp]) ?_
    ·rw[List.map_cons,List.map_cons,List.map_nil,dG (b:=31) bf a2,cc _ ((bu _ _).2 fun _ _=>by simp[bw]),cr _ (show bw 0 (dw (eW m2)) by simp[bw])]
    by_cases hin:eW m2∈gq (lb.map Prod.fst)
    ·rw[decide_eq_true ((hI.mem _).2 hin)]
     rw[if_pos hin] at hall
     refine cN ?_
     exact⟨(t+1,lb.set i ((lb.getD i default).1,false),S),by dsimp only;omega,cC,by dsimp only;omega,by dsimp only;rw[List.length_set];exact hil,by dsimp only;rw[List.length_set];exact hl,hoff,hmm3,by dsimp only;rw[hfst];exact hall,cU,⟨_,bf⟩,⟨_,by dsimp only;rw[←hrow];exact bf⟩,⟨_,bf⟩⟩
    ·rw[decide_eq_false fun e=>hin ((hI.mem _).1 e)]
     rw[if_neg hin] at hall
     have hll:(lb.map Prod.fst).length=lb.length:=by simp
     have hl2:(((lb.map (iS u)).set ((i:Int)).toNat (.agg ((kY u (lb.getD i default)).set 10 (bl false))))).length=lb.length:=by simp
     by_cases hfull:lb.length=mo
     ·rw[if_pos (by rw[hll];exact hfull)] at hall
      have hall2:none=fp u mo:=hall
      refine cN ?_
      refine⟨?_⟩
      unfold qu
      rw[←hall2]
      exact cr 6 (by simp[bw,cP])
     ·rw[if_neg (by rw[hll];exact hfull)] at hall
      have hnew:=hoff.add (f:=⟨m2,i,t⟩) (by rw[List.length_set];exact hil) (by rw[List.map_append,hfst];exact hadd hin) (by rw[hfst];exact hin)
      have hrow2:(lb.set i ((lb.getD i default).1,false)++[((⟨m2,i,t⟩:cH),true)]).map (iS u)=(lb.map (iS u)).set ((i:Int)).toNat (.agg ((kY u (lb.getD i default)).set 10 (bl false)))++[iS u (⟨m2,i,t⟩,true)]:=by rw[List.map_append,←hrow];rfl
      refine cN ?_
      refine aL (ve S (spot S (eW m2)) (eW m2) hsp (by omega) cU ⟨_,bf⟩) ?_
      rintro r H2 n2 ⟨rfl,⟨d3,r3'⟩,hn2,hk2⟩
      have q0:∃d,bd H2 0=some (.row 25 3 d [u.av]):=⟨_,(hk2 0 cU (by omega)).trans bf⟩
      have q15:∃d,bd H2 (n+15)=some (.row 80 8 d [m2.av u]):=⟨_,(hk2 (n+15) cU (by omega)).trans bf⟩
      have q28:∃d,bd H2 28=some (.row 82 11 d ((lb.map (iS u)).set ((i:Int)).toNat (.agg ((kY u (lb.getD i default)).set 10 (bl false))))):=⟨_,(hk2 28 cU (by omega)).trans bf⟩
      clear hk2
      obtain⟨d5,q0⟩:=q0
      obtain⟨d6,q15⟩:=q15
      obtain⟨d7,q28⟩:=q28
      have e11:(lb.set i ((lb.getD i default).1,false)++[((⟨m2,i,t⟩:cH),true)]).length=lb.length+1:=by simp
      have e12:(eY S (spot S (eW m2)) (eW m2)).length=S.length+1:=jF hsp
      refine cN ?_
      exact⟨(t+1,lb.set i ((lb.getD i default).1,false)++[((⟨m2,i,t⟩:cH),true)],eY S (spot S (eW m2)) (eW m2)),by dsimp only;omega,by dsimp only;rw[e11,e12];exact cC,by dsimp only;omega,by dsimp only;rw[e11];omega,by dsimp only;rw[e11];omega,hnew,by dsimp only;rw[ew (by rw[List.length_set];exact hil)];exact hmm3,by dsimp only;rw[List.map_append,hfst];exact hall,cU,⟨_,bf⟩,⟨_,by dsimp only;rw[hrow2];exact bf⟩,⟨_,bf⟩⟩
   ·have c4:=DG u hr m hmok t hb
    have r0:=decide_eq_true hb
    have htry:rJ u mo i t (lb.map Prod.fst)=some (lb.map Prod.fst):=by
     unfold rJ
     rw[hmm2,if_pos hb]
    rw[htry] at hall
    refine cN ?_
    show gQ _ _ [MS.av u (lb.getD i default).1.m] _ _ _
    rw[hmm]
    refine cN ?_
    exact⟨(t+1,lb,S),by dsimp only;omega,cC,by dsimp only;omega,hil,hl,hI.same (by rw[hmm];exact hb),hmm,hall,cU,⟨_,bf⟩,⟨_,bf⟩,⟨_,bf⟩⟩
  ·have htG:t=u.bh.length:=by omega
   subst htG
   rw[List.drop_of_length_le (by simp),rl] at hall
   refine cN ?_
   refine⟨(i+1,lb,S),by dsimp only;omega,cC,by dsimp only;omega,hl,⟨hI.fs,hI.IE,hI.mem,hI.len,fun j hj=> ?_⟩,hall,cU,⟨_,bf⟩,⟨_,bf⟩,⟨_,bf⟩⟩
   rw[hI.flag j hj]
   by_cases e:j=i
   ·subst e
    rw[hmm,E5 hmok]
    unfold fO
    rw[if_pos (Nat.lt_succ_self _)]
   ·exact(B3 e).symm
 ·have hi2:i=lb.length:=by omega
  have hl2:fp u mo=some (lb.map Prod.fst):=by
   rw[←hall]
   subst hi2
   cases h:mo - lb.length with
   |zero=>rfl
   |succ q=>rw[pM,if_neg (by simp)]
  have hrow:lb.map (iS u)=(lb.map Prod.fst).map fun f=>iS u (f,f.m.stuck u):=by
   rw[List.map_map]
   refine List.map_congr_left fun p hp=> ?_
   obtain⟨j,hj,rfl⟩:=List.mem_iff_getElem.1 hp
   have:=hI.flag j hj
   rw[show lb.getD j default=lb[j] by simp[List.getD,hj]] at this
   show iS u lb[j]=iS u (lb[j].1,lb[j].1.m.stuck u)
   rw[show lb[j].1.m.stuck u=lb[j].2 by rw[this];unfold fO;rw[if_pos (by omega)]]
  refine cN ?_
  refine⟨?_⟩
  unfold qu
  rw[hl2]
  exact(E8 (es:=lb.map (iS u)) bf ((bu _ _).2 fun _ _=>by simp[bw,cP,bu,kY]) (by simp)).trans (by rw[hrow])
end Go.Proofs.YtekfmjjmihomlaaGreat
end
section
/- Ends: in order, each once. -/
namespace Go.Proofs.YtekfmjjmihomlaaGreat
open Go Go.cV Go.Proofs
set_option linter.unusedSimpArgs false
set_option linter.unusedVariables false
end Go.Proofs.YtekfmjjmihomlaaGreat
end
section
/- Ends put in one by one are the ends in order. -/
namespace Go.Proofs.YtekfmjjmihomlaaGreat
open Go Go.cV Go.Proofs
set_option linter.unusedSimpArgs false
set_option linter.unusedVariables false
def iM:List dc→dc→List dc
 |[],e=>[e]
 |x::l,e=>if ep x e<0 then x::iM l e else if ep x e=0 then x::l else e::x::l
end Go.Proofs.YtekfmjjmihomlaaGreat
end
section
/- Put walked. -/
namespace Go.Proofs.YtekfmjjmihomlaaGreat
open Go Go.cV Go.Proofs
set_option linter.unusedSimpArgs false
set_option linter.unusedVariables false
set_option maxRecDepth 8000
end Go.Proofs.YtekfmjjmihomlaaGreat
end
section
/- The document's All for every unit; Count and Shows. -/
namespace Go.Proofs.YtekfmjjmihomlaaGreat
open Go Go.cV Go.Proofs
set_option linter.unusedSimpArgs false
set_option linter.unusedVariables false
set_option maxRecDepth 8000
abbrev A9 (u:bj) (l:List cH):AV:= .im 11 .any (l.map fun f=>iS u (f,f.m.stuck u))
noncomputable def A6 (u:bj) (most:Int):AV:=if(eo u most).1=0 then .dH [A9 u (eo u most).2,i64 0] else .dH [.sc (.slice none 0 0),i64 (eo u most).1]
theorem qv (u:bj) (hu:u.Wf) (most:Int) (c0:Pure Tryz.prog 66 [u.av] (fun r=>r=mQ (fb u))):Pure Tryz.prog 34 [u.av,i64 most] (fun r=>r=A6 u most):=by
 unfold A6
 by_cases hr:ct u
 ·rw[l6.2 hr] at c0
  by_cases hm:1≤most∧most≤65536
  ·obtain⟨mo,rfl⟩:∃mo:Nat,most=mo:=⟨most.toNat,by omega⟩
   have:=C9 u hu hr mo (by omega) c0
   rw[iX hr hm,Int.toNat_natCast]
   unfold qu at this
   cases h:fp u mo with
   |none=>rw[h] at this;rw[if_neg (by decide)];exact this
   |some l=>rw[h] at this;rw[if_pos rfl];exact this
  ·rw[iA hr hm,if_neg (by decide)]
   refine aI yZ rfl ?_
   by_cases h1:most<1
   ·refine cN ?_
    first|exact rfl|trivial
   ·refine cN ?_
    first|exact rfl|trivial
 ·rw[jm hr,if_neg (by decide)]
  have hb:=qJ hr
  generalize fb u=ck at *
  obtain⟨x,y,z⟩:=ck
  dsimp only at hb
  subst hb
  refine aI yZ rfl ?_
  refine cN ?_
  first|exact rfl|trivial
end Go.Proofs.YtekfmjjmihomlaaGreat
end
section
/- The document's Shows and Ends. -/
namespace Go.cV
open Go.RowKit
theorem Wk.jy (H:Hp) (nx sz:Nat):Wk (.sc (.slice none 0 0)) H nx (.im sz .any []) H nx:=by
 refine Wk.tell (Nat.le_refl _) (fun b e sz' d es he=> .inl ⟨d,es,he,rfl⟩) (fun w0 c c2 hS hU hc hc2 hw hle hnew hM=>⟨dQ.jy c c2 sz .any,fun b e sz' d es d0 es0 h1 h2=> ?_⟩)
 rw[h1] at h2
 cases h2
 exact dA.cO hle _
end Go.cV
namespace Go.Proofs.YtekfmjjmihomlaaGreat
open Go Go.cV Go.Proofs
set_option linter.unusedSimpArgs false
set_option linter.unusedVariables false
set_option maxRecDepth 8000
theorem ID {u:bj} {l:List cH} {i:Nat} (hi:i<l.length) (d:AV):(l.map fun f=>iS u (f,f.m.stuck u)).getD ((i:Int)).toNat d=iS u (l.getD i default,(l.getD i default).m.stuck u):=by
 rw[Int.toNat_natCast];exact cu (fun f=>iS u (f,f.m.stuck u)) l i d hi
theorem uY {l:List cH} {want:List cM} {k:Nat} (hk:k<l.length) (h:fD l want k=false):fD l want (k+1)=decide ((l.getD k default).m.bk=want):=by rw[oE hk,h,Bool.false_or]
theorem zW {l:List cH} {want:List cM} {k:Nat} (hk:k<l.length) (h:(l.getD k default).m.bk=want):fD l want l.length=true:=by
 unfold fD
 rw[List.take_length,List.any_eq_true]
 exact⟨_,cX default hk,decide_eq_true h⟩
theorem xM (u:bj) (hu:u.Wf) (most:Int) (want:List cM) (cK:Pure Tryz.prog 66 [u.av] (fun r=>r=mQ (fb u))):Pure Tryz.prog 28 [u.av,i64 most,dE want] (fun r=>r= .dH [bl (fD (eo u most).2 want (eo u most).2.length),i64 (eo u most).1]):=by
 have c0:=qv u hu most cK
 unfold A6 at c0
 refine aI F6 rfl ?_
 rcases mP u hu most with⟨h1,h2⟩|⟨l,hr,hm1,hm2,hs,hE,hf,hlm⟩
 ·rw[if_neg h1] at c0
  rw[h2]
  generalize (eo u most).1=e at *
  refine cN ?_
  refine aP (fun i:Nat=>[(8, .sc (.slice none 0 0)),(9,i64 e),(10,i64 i)]) (fun i H n=>i=0) (fun i=>i) 0 cC rfl ?_
  rintro i H n rfl
  refine cN ?_
  first|exact rfl|trivial
 ·rw[hE,if_pos rfl] at c0
  rw[hE]
  dsimp only at c0 ⊢
  have a0:(l.map fun f=>iS u (f,f.m.stuck u)).length=l.length:=by simp
  refine cN ?_
  refine aP (fun i:Nat=>[(2,dE want),(8,A9 u l),(9,i64 0),(10,i64 i)]) (fun i H n=>i≤l.length∧fD l want i=false) (fun i=>l.length - i) 0 cC ⟨Nat.zero_le _,rfl⟩ ?_
  rintro i H n ⟨hi,hsh⟩
  by_cases hil:i<l.length
  ·have e0:=fun d=>ID (u:=u) hil d
   obtain⟨hok,hpl⟩:=hf.ok i hil
   have c1:=rn (l.getD i default).m.bk want (by omega)
   by_cases hp:(l.getD i default).m.bk=want
   ·rw[decide_eq_true hp] at c1
    rw[zW hil hp]
    refine cN ?_
    first|exact rfl|trivial
   ·rw[decide_eq_false hp] at c1
    refine cN ?_
    exact⟨i+1,by omega,cC,by omega,by rw[uY hil hsh];exact decide_eq_false hp⟩
  ·obtain rfl:i=l.length:=by omega
   rw[hsh]
   refine cN ?_
   first|exact rfl|trivial
end Go.Proofs.YtekfmjjmihomlaaGreat
end
section
/- The document's Ends. -/
namespace Go.Proofs.YtekfmjjmihomlaaGreat
open Go Go.cV Go.Proofs
set_option linter.unusedSimpArgs false
set_option linter.unusedVariables false
set_option maxRecDepth 8000
end Go.Proofs.YtekfmjjmihomlaaGreat
end
section
/- The document's Way. -/
namespace Go.Proofs.YtekfmjjmihomlaaGreat
open Go Go.cV Go.Proofs
set_option linter.unusedSimpArgs false
set_option linter.unusedVariables false
set_option maxRecDepth 8000
noncomputable def uU (u:bj) (most:Int) (e:dc):AV:=if(eo u most).1=0 then(match fK u (eo u most).2 e (eo u most).2.length with
 |none=> .dH [.sc (.slice none 0 0),bl false,i64 0]
 |some i=> .dH [cW (gB (eo u most).2 (some i)),bl true,i64 0]) else .dH [.sc (.slice none 0 0),bl false,i64 (eo u most).1]
theorem J1 {H:Hp} {b n:Nat} {d:AV} {O:List Int} (h:bd H b=some (.row 3 1 d (O.map i64))) (hl:(O.map i64).length=n):cV.dR H 6 (.dH [.sl b n,bl true,i64 0])= .dH [cW O,bl true,i64 0]:=by
 show AV.dH (List.map (cV.dR H 5) [.sl b n,bl true,i64 0])=_
 rw[List.map_cons,List.map_cons,List.map_cons,List.map_nil,dG h hl,cc _ ((bu _ _).2 fun _ _=>by simp[bw]),cr _ (show bw 0 (bl true) by simp[bw]),cr _ (show bw 0 (i64 0) by simp[bw])]
set_option maxHeartbeats 4000000 in
theorem DI (u:bj) (hu:u.Wf) (most:Int) (e:dc) (he1:e.bk.length * 16≤140737488355328) (he2:e.mem.length * 8≤140737488355328) (cK:Pure Tryz.prog 66 [u.av] (fun r=>r=mQ (fb u))):Pure Tryz.prog 26 [u.av,i64 most,e.av] (fun r=>r=uU u most e):=by
 have c0:=qv u hu most cK
 unfold A6 at c0
 refine dP ?_ (by unfold uU;split<;>(try split)<;>simp[bw,cP,bu])
 unfold uU
 refine aQ F4 rfl ?_
 rcases mP u hu most with⟨h1,h2⟩|⟨l,hr,hm1,hm2,hs,hE,hf,hlm⟩
 ·rw[if_neg h1] at c0 ⊢
  generalize (eo u most).1=e at *
  refine cN ?_
  refine aP (fun i:Nat=>[(9, .sc (.slice none 0 0)),(10,i64 e),(11,i64 i)]) (fun i H n=>i=0) (fun i=>i) 0 cC rfl ?_
  rintro i H n rfl
  refine cN ?_
  exact⟨cr 6 (by simp[bw,cP])⟩
 ·rw[hE,if_pos rfl] at c0 ⊢
  dsimp only at c0 ⊢
  have a0:(l.map fun f=>iS u (f,f.m.stuck u)).length=l.length:=by simp
  refine cN ?_
  refine aP (fun i:Nat=>[(5, .pt 1 1 0 0),(9,A9 u l),(10,i64 0),(11,i64 i)]) (fun i H n=>i≤l.length∧2≤n∧fK u l e i=none∧∃d,bd H 1=some (.row 40 3 d [e.av])) (fun i=>l.length - i) 0 cC ⟨Nat.zero_le _,cU,rfl,⟨_,bf⟩⟩ ?_
  rintro i H n ⟨hi,hn,hh,⟨d1,r1'⟩⟩
  by_cases hil:i<l.length
  ·have e0:=fun d=>ID (u:=u) hil d
   obtain⟨hok,hpl⟩:=hf.ok i hil
   have hml:=hok.ml
   have hgl:=hr.tv
   have c1:=DA u hr (l.getD i default).m hok (by omega)
   have c2:=zA ((l.getD i default).m.end_ u) e (by show(l.getD i default).m.bk.length<_;omega) (by show(l.getD i default).m.mem.length<_;omega)
   have hsc:=mb u l e i
   rw[hh] at hsc
   dsimp only at hsc
   by_cases hst:(l.getD i default).m.stuck u=true
   ·rw[hst,Bool.true_and] at hsc
    by_cases hc:ep ((l.getD i default).m.end_ u) e=0
    ·rw[decide_eq_true hc,if_pos rfl] at hsc
     rw[hc] at c2
     have hfind:fK u l e l.length=some i:=by
      have key:∀k,i+1≤k→fK u l e k=some i:=by
       intro k hk
       induction k with
       |zero=>omega
       |succ k ih=>
        by_cases ek:k=i
        ·rw[ek];exact hsc
        ·rw[mb,ih (by omega)]
      exact key _ (by omega)
     rw[hfind]
     dsimp only
     have r0:=hst
     refine cN ?_
     show jT _ _ _ [MS.av u (l.getD i default).m] _ _
     refine cN ?_
     refine aU (fun σ:Nat×List Int=>[(9,A9 u l),(12, .sl (n+22) σ.2.length),(13,i64 σ.1)]) (fun σ H n2=>σ.1<l.length∧σ.2.length+σ.1≤i∧n+23≤n2∧σ.2++kz l σ.1=kz l i∧∃d,bd H (n+22)=some (.row 3 1 d (σ.2.map i64))) (fun σ=>σ.1) (i,[]) ⟨_,_,_,Rt.nil 12 3 1 (by omega) rfl,cC,hil,by simp,cU,rfl,⟨_,bf⟩⟩ ?_
     clear r0 c1 c2 e0 r1' hsc hc hst hh hok hpl hml
     rintro⟨q,B⟩ H2 n2 ⟨hq,hB,hn2,hBq,⟨d2,r2'⟩⟩
     dsimp only at hq hB hBq r2' ⊢
     have e0:=fun d=>ID (u:=u) hq d
     have a1:(B.map i64).length=B.length:=by simp
     by_cases h0:0≤(l.getD q default).from_
     ·obtain⟨g1,g2⟩:=hf.pZ hq h0
      have hon:=ur hf hq h0
      refine cN ?_
      refine⟨((l.getD q default).from_.toNat,B++[(l.getD q default).cS]),g1,_,_,_,Rt.refl _ _ _, ?_,by dsimp only;omega,by dsimp only;rw[List.length_append,List.length_cons,List.length_nil];omega,cU,by dsimp only;rw[List.append_assoc,←hBq,hon];rfl,⟨_,by dsimp only;rw[List.map_append];exact bf⟩⟩
      dsimp only
      rw[Int.toNat_of_nonneg h0,List.length_append]
      exact cC
     ·rw[sH h0,List.append_nil] at hBq
      have hBl:B.length≤65536:=by omega
      refine cN ?_
      refine aU (fun σ:Int×List Int=>[(12, .sl (n+22) B.length),(14, .sl (n2+11) σ.2.length),(15,i64 σ.1)]) (fun σ H n3=>σ.1=(B.length:Int) - 1 - (σ.2.length:Int)∧σ.2.length≤B.length∧σ.2=B.reverse.take σ.2.length∧n2+12≤n3∧(∃d,bd H (n+22)=some (.row 3 1 d (B.map i64)))∧∃d,bd H (n2+11)=some (.row 3 1 d (σ.2.map i64))) (fun σ=>(σ.1+1).toNat) ((B.length:Int) - 1,[]) ⟨_,_,_,Rt.nil 14 3 1 (by omega) rfl,cC,by simp,Nat.zero_le _,by simp,cU,⟨_,(bz (by omega)).trans bf⟩,⟨_,bf⟩⟩ ?_
      clear r2' e0 hB
      rintro⟨k,O⟩ H3 n3 ⟨hk,hO,hOt,hn3,⟨d3,r3'⟩,⟨d4,r4'⟩⟩
      dsimp only at hk hO hOt r4' ⊢
      have a2:(O.map i64).length=O.length:=by simp
      by_cases hk0:0≤k
      ·have e0:∀d,(B.map i64).getD k.toNat d=i64 (B.getD k.toNat 0):=fun d=>gW (by omega) d
       have hnx:O++[B.getD k.toNat 0]=B.reverse.take (O.length+1):=by
        rw[List.take_succ_eq_append_getElem (by rw[List.length_reverse];omega),←hOt,List.getElem_reverse]
        congr 2
        rw[List.getD,List.getElem?_eq_getElem (by omega),Option.getD_some]
        congr 1
        omega
       clear hOt
       refine cN ?_
       refine⟨(k - 1,O++[B.getD k.toNat 0]),by dsimp only;omega,_,_,_,Rt.refl _ _ _,by dsimp only;rw[List.length_append];exact cC,by dsimp only;rw[List.length_append,List.length_cons,List.length_nil];omega,by dsimp only;rw[List.length_append,List.length_cons,List.length_nil];omega,by dsimp only;rw[List.length_append,List.length_cons,List.length_nil,Nat.zero_add];exact hnx,cU,⟨_,bf⟩,⟨_,by dsimp only;rw[List.map_append];exact bf⟩⟩
      ·have hOB:O=gB l (some i):=by
        rw[hOt,List.take_of_length_le (by rw[List.length_reverse];omega),hBq];rfl
       clear hOt
       rw[←hOB]
       clear hOB
       refine cN ?_
       refine⟨?_⟩
       exact J1 bf a2
    ·rw[decide_eq_false hc,if_neg (by decide)] at hsc
     have r0:=hst
     have r1:=decide_eq_false hc
     refine cN ?_
     show jT _ _ _ [MS.av u (l.getD i default).m] _ _
     refine cN ?_
     exact⟨i+1,by omega,cC,by omega,cU,hsc,⟨_,bf⟩⟩
   ·have r0:(l.getD i default).m.stuck u=false:=Bool.eq_false_iff.2 hst
    rw[r0,Bool.false_and,if_neg (by decide)] at hsc
    refine cN ?_
    exact⟨i+1,by omega,cC,by omega,cU,hsc,⟨_,bf⟩⟩
  ·obtain rfl:i=l.length:=by omega
   rw[hh]
   refine cN ?_
   exact⟨cr 6 (by simp[bw,cP])⟩
end Go.Proofs.YtekfmjjmihomlaaGreat
end
section
/- The document's small questions of units: the walk. -/
namespace Go.Proofs.YtekfmjjmihomlaaGreat
open Go Go.cV Go.Proofs
set_option linter.unusedSimpArgs false
set_option linter.unusedVariables false
theorem jH.O2 {a b:jH} (h1:a.gX=b.gX) (h2:a.slot=b.slot) (h3:a.word=b.word):a=b:=by
 obtain⟨a1,a2,a3⟩:=a
 obtain⟨b1,b2,b3⟩:=b
 simp only at h1 h2 h3
 subst h1;subst h2;subst h3;rfl
theorem eC (c:Int):Pure Tryz.prog 149 [u8 c] (fun r=>r=bl (e9 c)):=by
 refine aI wL rfl ?_
 repeat' (first|((with_reducible refine aF ?_);conv=>whnf)|refine aG ?_|exact aC|with_reducible refine aD ?_ ?_|(apply aA;(·exact cA))|refine aH ?_|((with_reducible refine aB ?_ ?_)<;>intro hc<;>(try simp only[List.length_map,ne_eq,dC] at hc)<;>try(exfalso;omega)))
 refine dW ?_
 unfold e9
 by_cases h1:48≤c<;>by_cases h2:c≤57<;>simp[h1,h2]
theorem dn (c:Int):Pure Tryz.prog 151 [u8 c] (fun r=>r=bl (gY c)):=by
 refine aI wN rfl ?_
 repeat' (first|((with_reducible refine aF ?_);conv=>whnf)|refine aG ?_|exact aC|with_reducible refine aD ?_ ?_|(apply aA;(·exact cA))|refine aH ?_|((with_reducible refine aB ?_ ?_)<;>intro hc<;>(try simp only[List.length_map,ne_eq,dC] at hc)<;>try(exfalso;omega)))
 refine dW ?_
 unfold gY
 by_cases h1:97≤c<;>by_cases h2:c≤122<;>by_cases h3:65≤c<;>by_cases h4:c≤90<;>by_cases h5:c=95<;>simp[h1,h2,h3,h4,h5]
theorem ff (s:ByteArray):Pure Tryz.prog 150 [st s] (fun r=>r=bl (ko s)):=by
 refine aI wM rfl ?_
 repeat' (first|((with_reducible refine aF ?_);conv=>whnf)|refine aG ?_|exact aC|with_reducible refine aD ?_ ?_|(apply aA;(·exact cA))|refine aH ?_|((with_reducible refine aB ?_ ?_)<;>intro hc<;>(try simp only[List.length_map,ne_eq,dC] at hc)<;>try(exfalso;omega)))
 all_goals refine dW ?_
 all_goals simp_all[ko,zf]
theorem zN (s:ByteArray) (hs:s.size≤140737488351232):Pure Tryz.prog 128 [st s] (fun r=>r=bl (fB s)):=by
 refine aI vy rfl ?_
 by_cases hz:(s.size:Int)<1
 ·have hb:fB s=false:=by unfold fB;rw[decide_eq_false (by omega)];simp
  rw[hb]
  repeat' (first|((with_reducible refine aF ?_);conv=>whnf)|refine aG ?_|exact aC|with_reducible refine aD ?_ ?_|(apply aA;(·exact cA))|((with_reducible refine aO (eC _) ?_ ?_);(·exact bq))|((with_reducible refine aJ (fun _=>eC _) ?_ ?_);(·exact bq))|((with_reducible refine aM (eC _) ?_ ?_);(·exact bq))|((with_reducible refine aN (fun _=>eC _) ?_ ?_);(·exact bq))|((with_reducible refine aO (ff _) ?_ ?_);(·exact bq))|((with_reducible refine aJ (fun _=>ff _) ?_ ?_);(·exact bq))|((with_reducible refine aM (ff _) ?_ ?_);(·exact bq))|((with_reducible refine aN (fun _=>ff _) ?_ ?_);(·exact bq))|((with_reducible refine aO (dn _) ?_ ?_);(·exact bq))|((with_reducible refine aJ (fun _=>dn _) ?_ ?_);(·exact bq))|((with_reducible refine aM (dn _) ?_ ?_);(·exact bq))|((with_reducible refine aN (fun _=>dn _) ?_ ?_);(·exact bq))|(simp only[hz,decide_true])|refine aH ?_|((with_reducible refine aB ?_ ?_)<;>intro hc<;>(try simp only[List.length_map,ne_eq,dC] at hc)<;>try(exfalso;omega)))
 ·repeat' (first|((with_reducible refine aF ?_);conv=>whnf)|refine aG ?_|exact eO|with_reducible refine aD ?_ ?_|((with_reducible refine Ask.mk ?_);first|exact cw|((refine Ask.mk ?_);intro h;exact⟨by omega,by omega⟩)|exact cT)|(apply aA;(·exact cA))|((with_reducible refine aO (eC _) ?_ ?_);(·exact bq))|((with_reducible refine aJ (fun _=>eC _) ?_ ?_);(·exact bq))|((with_reducible refine aM (eC _) ?_ ?_);(·exact bq))|((with_reducible refine aN (fun _=>eC _) ?_ ?_);(·exact bq))|((with_reducible refine aO (ff _) ?_ ?_);(·exact bq))|((with_reducible refine aJ (fun _=>ff _) ?_ ?_);(·exact bq))|((with_reducible refine aM (ff _) ?_ ?_);(·exact bq))|((with_reducible refine aN (fun _=>ff _) ?_ ?_);(·exact bq))|((with_reducible refine aO (dn _) ?_ ?_);(·exact bq))|((with_reducible refine aJ (fun _=>dn _) ?_ ?_);(·exact bq))|((with_reducible refine aM (dn _) ?_ ?_);(·exact bq))|((with_reducible refine aN (fun _=>dn _) ?_ ?_);(·exact bq))|(simp only[hz,decide_false])|refine aH ?_|((with_reducible refine aB ?_ ?_)<;>intro hc<;>(try simp only[List.length_map,ne_eq,dC] at hc)<;>try(exfalso;omega)))
  ·refine dW (Eq.symm ?_)
   unfold fB
   have hp:(decide (1≤s.size)&&decide (s.size≤32)&& !e9 (eR s 0)&& !ko s)=false:=by
    rcases hc with((h|h)|h)|h
    ·exact absurd h (by decide)
    ·simp[show ¬s.size≤32 by omega]
    ·have h:e9 (eR s 0)=true:=h
     simp[h]
    ·simp[h]
   rw[hp,Bool.false_and]
  ·have hp:(decide (1≤s.size)&&decide (s.size≤32)&& !e9 (eR s 0)&& !ko s)=true:=by
    have h1:s.size≤32:=by
     have:¬(32:Int)<s.size:=fun h=>hc.1 (.inl (.inr h))
     omega
    have h2:e9 (eR s 0)=false:=by
     cases hd:e9 (eR s 0) with
     |false=>rfl
     |true=>exact absurd (.inr hd) hc.1
    have h3:ko s=false:=hc.2
    rw[decide_eq_true (by omega:1≤s.size),decide_eq_true h1,h2,h3];rfl
   have hb:∀R,(decide (1≤s.size)&&decide (s.size≤32)&& !e9 (eR s 0)&& !ko s&&R)=R:=fun R=>by rw[hp,Bool.true_and]
   unfold fB
   rw[hb]
   clear hc hp hb
   refine aP (fun i:Nat=>[(0,st s),(3,i64 i)]) (fun i H n=>i≤s.size∧∀j,j<i→(gY (eR s j)||e9 (eR s j))=true) (fun i=>s.size - i) 0 cC ⟨Nat.zero_le _,fun _ h=>by omega⟩ ?_
   rintro i H n ⟨hi,hall⟩
   by_cases his:i<s.size
   ·repeat' (first|((with_reducible refine aF ?_);conv=>whnf)|refine aG ?_|exact eO|with_reducible refine aD ?_ ?_|((with_reducible refine Ask.mk ?_);first|exact cw|((refine Ask.mk ?_);intro h;exact⟨by omega,by omega⟩)|exact cT)|(apply aA;(·exact cA))|((with_reducible refine aO (eC _) ?_ ?_);(·exact bq))|((with_reducible refine aJ (fun _=>eC _) ?_ ?_);(·exact bq))|((with_reducible refine aM (eC _) ?_ ?_);(·exact bq))|((with_reducible refine aN (fun _=>eC _) ?_ ?_);(·exact bq))|((with_reducible refine aO (dn _) ?_ ?_);(·exact bq))|((with_reducible refine aJ (fun _=>dn _) ?_ ?_);(·exact bq))|((with_reducible refine aM (dn _) ?_ ?_);(·exact bq))|((with_reducible refine aN (fun _=>dn _) ?_ ?_);(·exact bq))|refine aH ?_|((with_reducible refine aB ?_ ?_)<;>intro hc<;>(try simp only[List.length_map,ne_eq,dC] at hc)<;>try(exfalso;omega)))
    ·refine dW (Eq.symm ?_)
     rw[Bool.eq_false_iff,ne_eq,List.all_eq_true]
     intro hA
     have h1:=hA i (List.mem_range.2 his)
     have hc:gY (eR s i)=false∧e9 (eR s i)=false:=hc
     rw[hc.1,hc.2] at h1
     cases h1
    ·refine⟨i+1,by omega,cC,by omega,fun j hj=> ?_⟩
     by_cases hji:j=i
     ·have hc:¬gY (eR s i)=false∨e9 (eR s i)=true:=hc
      rw[hji]
      rcases hc with h|h
      ·rw[Bool.not_eq_false] at h
       rw[h,Bool.true_or]
      ·rw[h,Bool.or_true]
     ·exact hall j (by omega)
   ·have:i=s.size:=by omega
    subst this
    repeat' (first|((with_reducible refine aF ?_);conv=>whnf)|refine aG ?_|exact aC|with_reducible refine aD ?_ ?_|(apply aA;(·exact cA))|refine aH ?_|((with_reducible refine aB ?_ ?_)<;>intro hc<;>(try simp only[List.length_map,ne_eq,dC] at hc)<;>try(exfalso;omega)))
    refine dW (Eq.symm ?_)
    rw[List.all_eq_true]
    intro j hj
    exact hall j (List.mem_range.1 hj)
theorem fe (k:Int):Pure Tryz.prog 129 [u8 k] (fun r=>r= .dH [bl (iN k),bl (eS k),bl (lW k),bl (gl k)]):=by
 refine aI vz rfl ?_
 repeat' (first|((with_reducible refine aF ?_);conv=>whnf)|refine aG ?_|exact aC|with_reducible refine aD ?_ ?_|(apply aA;(·exact cA))|refine aH ?_|((with_reducible refine aB ?_ ?_)<;>intro hc<;>(try simp only[List.length_map,ne_eq,dC] at hc)<;>try(exfalso;omega)))
 all_goals first
  |(subst hc;exact rfl)
  |(have h1:iN k=false:=decide_eq_false (by omega)
    have h2:eS k=false:=decide_eq_false (by omega)
    have h3:lW k=false:=decide_eq_false (by omega)
    have h4:gl k=false:=decide_eq_false (by omega)
    rw[h1,h2,h3,h4])
theorem eh (n most:Int) (b:Bool):Pure Tryz.prog 131 [i64 n,bl b,i64 most] (fun r=>r=bl (mh n b most)):=by
 refine aI wB rfl ?_
 cases b with
 |false=>
  repeat' (first|((with_reducible refine aF ?_);conv=>whnf)|refine aG ?_|exact aC|with_reducible refine aD ?_ ?_|(apply aA;(·exact cA))|refine aH ?_|((with_reducible refine aB ?_ ?_)<;>intro hc<;>(try simp only[List.length_map,ne_eq,dC] at hc)<;>try(exfalso;omega)))
  exact rfl
 |true=>
  repeat' (first|((with_reducible refine aF ?_);conv=>whnf)|refine aG ?_|exact aC|with_reducible refine aD ?_ ?_|(apply aA;(·exact cA))|refine aH ?_|((with_reducible refine aB ?_ ?_)<;>intro hc<;>(try simp only[List.length_map,ne_eq,dC] at hc)<;>try(exfalso;omega)))
  refine dW ?_
  unfold mh
  by_cases h1:0≤n<;>by_cases h2:n<most<;>simp[h1,h2]
theorem pC (v:jH) (b:Bool) (bg:Int):Pure Tryz.prog 132 [v.av,bl b,i64 bg] (fun r=>r=bl (mu v b bg)):=by
 refine aI wC rfl ?_
 cases b with
 |false=>
  repeat' (first|((with_reducible refine aF ?_);conv=>whnf)|refine aG ?_|exact eO|with_reducible refine aD ?_ ?_|((with_reducible refine Ask.mk ?_);first|exact cw|exact cT|(intro h;simp_all[jH.cells]<;>fail)|(simp_all[jH.cells]<;>fail))|(apply aA;(·exact cA))|refine aH ?_|((with_reducible refine aB ?_ ?_)<;>intro hc<;>(try simp only[List.length_map,ne_eq,dC] at hc)<;>try(exfalso;omega)))
  refine dW ?_
  unfold mu
  rw[if_neg (by decide),Bool.eq_iff_iff,decide_eq_true_eq]
  constructor
  ·intro h
   simp at h
   exact jH.O2 h.1 h.2.1 h.2.2
  ·intro h
   rw[h];rfl
 |true=>
  repeat' (first|((with_reducible refine aF ?_);conv=>whnf)|refine aG ?_|exact eO|with_reducible refine aD ?_ ?_|((with_reducible refine Ask.mk ?_);first|exact cw|exact cT|(intro h;simp_all[jH.cells]<;>fail)|(simp_all[jH.cells]<;>fail))|(apply aA;(·exact cA))|refine aH ?_|((with_reducible refine aB ?_ ?_)<;>intro hc<;>(try simp only[List.length_map,ne_eq,dC] at hc)<;>try(exfalso;omega)))
  all_goals refine dW ?_
  all_goals unfold mu
  ·rw[if_pos rfl,if_pos hc]
   by_cases h1:0≤v.slot<;>by_cases h2:v.slot<bg<;>by_cases h3:v.word=0<;>simp[h1,h2,h3]
  ·rw[if_pos rfl,if_neg (by rw[hc];decide)]
set_option maxRecDepth 4000 in
set_option maxHeartbeats 4000000 in
theorem zO (u:bj) (g:cB) (n:Node) (hn:n.Wf):Pure Tryz.prog 97 [u.av,g.av,n.av] (fun r=>r=bl (gv u g n)):=by
 have h0:=hn.kind
 have ho:=hn.op
 refine aI HH rfl ?_
 have hva:Pure Tryz.prog 132 [.agg (List.take 3 (List.drop (0+4) n.cells)),bl (lW n.kind),i64 g.bg] (fun r=>r=bl (mu n.a (lW n.kind) g.bg)):=pC n.a _ _
 have hvb:∀b,Pure Tryz.prog 132 [.agg (List.take 3 (List.drop (0+7) n.cells)),bl b,i64 g.bg] (fun r=>r=bl (mu n.b b g.bg)):=fun b=>pC n.b b _
 have hfa:cP 0 [.agg (List.take 3 (List.drop (0+4) n.cells)),bl (lW n.kind),i64 g.bg]:=by simp[cP,bw,Node.cells]
 have hfb:∀b,cP 0 [.agg (List.take 3 (List.drop (0+7) n.cells)),bl b,i64 g.bg]:=fun b=>by simp[cP,bw,Node.cells]
 have hif:∀a b:Bool,(if a=true then b else false)=(a&&b):=fun a b=>by cases a<;>rfl
 by_cases hk:1≤n.kind∧n.kind<10∧0≤n.origin∧n.origin<4096
 ·repeat' (first|((with_reducible refine aF ?_);conv=>whnf)|refine aG ?_|exact eO|with_reducible refine aD ?_ ?_|((with_reducible refine Ask.mk ?_);first|exact cw|exact cT|(intro h;simp_all[bj.cells,cB.cells,Node.cells]<;>fail)|(simp_all[bj.cells,cB.cells,Node.cells]<;>fail))|(apply aA;(·exact cA))|((with_reducible refine aO (fe _) ?_ ?_);(·exact bq))|((with_reducible refine aJ (fun _=>fe _) ?_ ?_);(·exact bq))|((with_reducible refine aM (fe _) ?_ ?_);(·exact bq))|((with_reducible refine aN (fun _=>fe _) ?_ ?_);(·exact bq))|((with_reducible refine aO (eh _ _ _) ?_ ?_);(·exact bq))|((with_reducible refine aJ (fun _=>eh _ _ _) ?_ ?_);(·exact bq))|((with_reducible refine aM (eh _ _ _) ?_ ?_);(·exact bq))|((with_reducible refine aN (fun _=>eh _ _ _) ?_ ?_);(·exact bq))|((with_reducible refine aO (fk _) ?_ ?_);(·exact bq))|((with_reducible refine aJ (fun _=>fk _) ?_ ?_);(·exact bq))|((with_reducible refine aM (fk _) ?_ ?_);(·exact bq))|((with_reducible refine aN (fun _=>fk _) ?_ ?_);(·exact bq))|(refine aJ (fun _=>hva) hfa ?_)|(refine aJ (fun _=>hvb _) (hfb _) ?_)|refine aH ?_|((with_reducible refine aB ?_ ?_)<;>intro hc<;>(try simp only[List.length_map,ne_eq,dC] at hc)<;>try(exfalso;omega)))
  all_goals rename_i h56
  all_goals refine dW (Eq.symm ?_)
  all_goals unfold gv
  all_goals rw[decide_eq_true hk,Bool.true_and]
  ·have hop:(if n.kind=1 then decide (n.op<19) else decide (n.op=0))=false:=by split<;>exact decide_eq_false (by omega)
   rw[hop];simp
  ·have hop:(if n.kind=1 then decide (n.op<19) else decide (n.op=0))=true:=by split<;>exact decide_eq_true (by omega)
   rw[hop,Bool.true_and,if_pos h56]
   simp only[hif,List.length_map]
  ·have hop:(if n.kind=1 then decide (n.op<19) else decide (n.op=0))=false:=by split<;>exact decide_eq_false (by omega)
   rw[hop];simp
  ·have hop:(if n.kind=1 then decide (n.op<19) else decide (n.op=0))=true:=by split<;>exact decide_eq_true (by omega)
   rw[hop,Bool.true_and,if_neg (by omega)]
   simp only[hif,List.length_map]
 ·have hb:gv u g n=false:=by unfold gv;rw[decide_eq_false hk];simp
  rw[hb]
  repeat' (first|((with_reducible refine aF ?_);conv=>whnf)|refine aG ?_|exact eO|with_reducible refine aD ?_ ?_|((with_reducible refine Ask.mk ?_);first|exact cw|exact cT|(intro h;simp_all[bj.cells,cB.cells,Node.cells]<;>fail)|(simp_all[bj.cells,cB.cells,Node.cells]<;>fail))|(apply aA;(·exact cA))|((with_reducible refine aO (fe _) ?_ ?_);(·exact bq))|((with_reducible refine aJ (fun _=>fe _) ?_ ?_);(·exact bq))|((with_reducible refine aM (fe _) ?_ ?_);(·exact bq))|((with_reducible refine aN (fun _=>fe _) ?_ ?_);(·exact bq))|((with_reducible refine aO (eh _ _ _) ?_ ?_);(·exact bq))|((with_reducible refine aJ (fun _=>eh _ _ _) ?_ ?_);(·exact bq))|((with_reducible refine aM (eh _ _ _) ?_ ?_);(·exact bq))|((with_reducible refine aN (fun _=>eh _ _ _) ?_ ?_);(·exact bq))|((with_reducible refine aO (fk _) ?_ ?_);(·exact bq))|((with_reducible refine aJ (fun _=>fk _) ?_ ?_);(·exact bq))|((with_reducible refine aM (fk _) ?_ ?_);(·exact bq))|((with_reducible refine aN (fun _=>fk _) ?_ ?_);(·exact bq))|(refine aJ (fun _=>hva) hfa ?_)|(refine aJ (fun _=>hvb _) (hfb _) ?_)|refine aH ?_|((with_reducible refine aB ?_ ?_)<;>intro hc<;>(try simp only[List.length_map,ne_eq,dC] at hc)<;>try(exfalso;omega)))
  all_goals first|exact rfl|(exfalso;omega)
end Go.Proofs.YtekfmjjmihomlaaGreat
end
