import Derived.Test.YtekfmjjmihomlaaGreatM40
import Derived.Test.YtekfmjjmihomlaaGreatM38
import Derived.Test.YtekfmjjmihomlaaGreatM35
import Derived.Test.YtekfmjjmihomlaaGreatM26
section
/- The document's All. -/
namespace Go.Proofs.YtekfmjjmihomlaaGreat
open Go Go.cZ Go.Proofs
set_option linter.unusedSimpArgs false
set_option linter.unusedVariables false
set_option maxRecDepth 8000
def kx (u:bt) (p:cQ×Bool):List AV:=[bw u.shared,bw u.bx,cR u.bo,cm p.1.m.at_,qR p.1.m.br,cm p.1.m.mem,cm p.1.m.hold,ez p.1.m.bu,i64 p.1.from_,i64 p.1.ch,bl p.2]
abbrev iW (u:bt) (p:cQ×Bool):AV:= .agg (kx u p)
noncomputable def rn (u:bt) (mo:Nat):AV:=match gN u mo with
 |none=> .dV [.sc (.slice none 0 0),i64 3]
 |some l=> .dV [.im 11 .any (l.map fun f=>iW u (f,f.m.stuck u)),i64 0]
theorem F9 {H:Hp} {d:AV} {es:List AV} {n:Nat} (h:bn H 28=some (.row 82 11 d es)) (hf:cT 0 es) (hl:es.length=n):cZ.dX H 6 (.dV [.sl 28 n,i64 0])= .dV [.im 11 .any es,i64 0]:=by
 show AV.dV (List.map (cZ.dX H 5) [.sl 28 n,i64 0])=_
 rw[List.map_cons,List.map_cons,List.map_nil,dF h hl,cc _ hf,cx _ (show cE 0 (i64 0) by simp[cE])]
def fT (u:bt) (i t j:Nat) (m:MS):Bool:=if j<i then m.stuck u else if j=i then(List.range t).all fun s=>decide (m.mQ u s≠0) else true
theorem C7 (u:bt) (i:Nat) (m:MS):fT u i 0 i m=true:=by simp[fT]
theorem flag_on {u:bt} {i t:Nat} {m:MS} (h:m.mQ u t≠0):fT u i (t+1) i m=fT u i t i m:=by
 simp[fT,List.range_succ,h]
theorem flag_off {u:bt} {i t:Nat} {m:MS} (h:m.mQ u t=0):fT u i (t+1) i m=false:=by
 simp[fT,List.range_succ,h]
theorem F6 {u:bt} {i:Nat} {m:MS} (h:eU u m):fT u i u.bo.length i m=m.stuck u:=by
 unfold fT MS.stuck
 rw[if_neg (Nat.lt_irrefl _),if_pos rfl,h.nX]
theorem tO {u:bt} {i t t' j:Nat} {m:MS} (h:j≠i):fT u i t j m=fT u i t' j m:=by simp[fT,h]
theorem C6 {u:bt} {i t j:Nat} {m:MS} (h:j≠i):fT u (i+1) 0 j m=fT u i t j m:=by
 unfold fT
 by_cases h1:j<i
 ·rw[if_pos h1,if_pos (by omega)]
 ·rw[if_neg h1,if_neg h,if_neg (by omega)]
  split<;>simp
structure qZ (u:bt) (i t:Nat) (lb:List (cQ×Bool)) (S:List (List UInt8)):Prop where
 fs:gw u (lb.map Prod.fst)
 JL:vT S
 mem:∀k,k∈S↔k∈gz (lb.map Prod.fst)
 len:S.length=lb.length
 flag:∀j,j<lb.length→(lb.getD j default).2=fT u i t j (lb.getD j default).1.m
theorem qZ.same {u:bt} {i t:Nat} {lb:List (cQ×Bool)} {S:List (List UInt8)} (h:qZ u i t lb S) (hb:(lb.getD i default).1.m.mQ u t≠0):qZ u i (t+1) lb S:=
 ⟨h.fs,h.JL,h.mem,h.len,fun j hj=>by
  rw[h.flag j hj]
  by_cases e:j=i
  ·subst e;exact(flag_on hb).symm
  ·exact tO e⟩
theorem vJ {lb:List (cQ×Bool)} {i:Nat} (b:Bool) (hi:i<lb.length):(lb.set i ((lb.getD i default).1,b)).map Prod.fst=lb.map Prod.fst:=by
 rw[List.map_set]
 apply List.ext_getElem (by simp)
 intro j h1 h2
 rw[List.getElem_set]
 split
 ·rename_i e;subst e;simp[List.getD,hi]
 ·rfl
theorem qZ.off {u:bt} {i t:Nat} {lb:List (cQ×Bool)} {S:List (List UInt8)} (h:qZ u i t lb S) (hi:i<lb.length) (hb:(lb.getD i default).1.m.mQ u t=0):qZ u i (t+1) (lb.set i ((lb.getD i default).1,false)) S:=
 ⟨by rw[vJ _ hi];exact h.fs,h.JL,fun k=>by rw[vJ _ hi];exact h.mem k,by rw[List.length_set];exact h.len,fun j hj=>by
  rw[List.length_set] at hj
  by_cases e:j=i
  ·subst e
   rw[eL hj]
   exact(flag_off hb).symm
  ·rw[getD_set_ne (Ne.symm e),h.flag j hj]
   exact tO e⟩
theorem qZ.add {u:bt} {i t:Nat} {lb:List (cQ×Bool)} {S:List (List UInt8)} (h:qZ u i t lb S) (hi:i<lb.length) {f:cQ} (hf:gw u ((lb++[(f,true)]).map Prod.fst)) (hk:ee f.m∉gz (lb.map Prod.fst)):qZ u i t (lb++[(f,true)]) (eo S (spot S (ee f.m)) (ee f.m)):=
 ⟨hf,zg h.JL fun e=>hk ((h.mem _).1 e),fun k=>by
  have hm:=h.mem k
  unfold eo
  have h1:k∈S↔k∈S.take (spot S (ee f.m))∨k∈S.drop (spot S (ee f.m)):=by
   conv=>lhs;rw[←List.take_append_drop (spot S (ee f.m)) S]
   exact List.mem_append
  rw[h1] at hm
  simp only[List.mem_append,List.mem_cons,gz,List.map_append,List.map_cons,List.map_nil,List.not_mem_nil,or_false] at hm ⊢
  constructor
  ·rintro(e|e|e)
   ·exact .inl (hm.1 (.inl e))
   ·exact .inr e
   ·exact .inl (hm.1 (.inr e))
  ·rintro(e|e)
   ·rcases hm.2 e with e|e
    ·exact .inl e
    ·exact .inr (.inr e)
   ·exact .inr (.inl e),by rw[jI (qT _ _),List.length_append,h.len];rfl,fun j hj=>by
  rw[List.length_append,List.length_cons,List.length_nil] at hj
  by_cases e:j=lb.length
  ·subst e
   rw[nB]
   unfold fT
   rw[if_neg (by omega),if_neg (by omega)]
  ·rw[fF (by omega)]
   exact h.flag j (by omega)⟩
set_option maxHeartbeats 4000000 in
theorem EA (u:bt) (hu:u.Wf) (hr:dC u) (mo:Nat) (hmo:1≤mo∧mo≤65536) (c0:Pure Tryz.prog 66 [u.av] (fun r=>r=mj (0,0,0))):Pure Tryz.prog 34 [u.av,i64 mo] (fun r=>r=rn u mo):=by
 have c1:=EF u hu hr c0
 have hgl:=hr.vO
 have hF:=gw.init u hu hr
 have hm0:=(hF.ok 0 hF.pos).1
 have hm0':(List.getD (jM u) 0 default).m=dA u:=rfl
 rw[hm0'] at hm0
 have c2:=tw u (dA u) (hm0.P0 hr (by simp[dA]))
 have a0:(u.bo.map cA.av).length=u.bo.length:=by simp
 refine dY ?_ (by unfold rn;split<;>simp[cE,cT,cC,kx])
 refine aQ zK rfl ?_
 refine cV ?_
 refine aP (fun σ:Nat×List (cQ×Bool)×List (List UInt8)=>[(1,i64 mo),(2, .pt 0 1 0 0),(11, .sl 28 σ.2.1.length),(12, .sl 31 σ.2.2.length),(13,i64 σ.1)])
  (fun σ H n=>σ.1≤σ.2.1.length∧σ.2.1.length≤mo∧qZ u σ.1 0 σ.2.1 σ.2.2∧pq u mo (mo - σ.1) σ.1 (σ.2.1.map Prod.fst)=gN u mo∧34≤n∧(∃d,bn H 0=some (.row 25 3 d [u.av]))∧(∃d,bn H 28=some (.row 82 11 d (σ.2.1.map (iW u))))∧(∃d,bn H 31=some (.row 9 1 d (σ.2.2.map eC)))) (fun σ=>mo - σ.1) (0,[(⟨dA u,-1,0⟩,true)],[ee (dA u)])
  cI ⟨Nat.zero_le _,by show 1≤mo;omega,⟨hF,by simp[vT],fun k=>by simp[gz],rfl,fun j hj=>by
   have:j=0:=by simpa using hj
   subst this;exact(C7 _ _ _).symm⟩,rfl,c8,⟨_,bq⟩,⟨_,bq⟩,⟨_,bq⟩⟩ ?_
 clear c0 c1 c2 hm0 hm0'
 rintro⟨i,lb,S⟩ H n ⟨hi,hl,hI,hall,hn,⟨d0,r0'⟩,⟨d1,r1'⟩,⟨d2,r2'⟩⟩
 dsimp only at hi hl hI hall r1' r2' ⊢
 by_cases hil:i<lb.length
 ·obtain⟨hmok,hpl⟩:=hI.fs.ok i (by simpa using hil)
  have hgd:∀(lb:List (cQ×Bool)) (j:Nat),j<lb.length→(lb.map Prod.fst).getD j default=(lb.getD j default).1:=fun lb j hj=>by simp[List.getD,hj]
  rw[hgd _ _ hil] at hmok hpl
  have hmk:mo - i=(mo - (i+1))+1:=by omega
  rw[hmk,pq,if_pos (by simpa using hil)] at hall
  generalize hmm:(lb.getD i default).1.m=m at hmok hpl
  refine cV ?_
  refine aP (fun σ:Nat×List (cQ×Bool)×List (List UInt8)=>[(1,i64 mo),(2, .pt 0 1 0 0),(11, .sl 28 σ.2.1.length),(12, .sl 31 σ.2.2.length),(13,i64 i),(14,i64 σ.1)])
   (fun σ H n=>σ.1≤u.bo.length∧i<σ.2.1.length∧σ.2.1.length≤mo∧qZ u i σ.1 σ.2.1 σ.2.2∧(σ.2.1.getD i default).1.m=m∧(match sY u mo i ((List.range u.bo.length).drop σ.1) (σ.2.1.map Prod.fst) with
    |none=>none
    |some l2=>pq u mo (mo - (i+1)) (i+1) l2)=gN u mo∧34≤n∧(∃d,bn H 0=some (.row 25 3 d [u.av]))∧(∃d,bn H 28=some (.row 82 11 d (σ.2.1.map (iW u))))∧(∃d,bn H 31=some (.row 9 1 d (σ.2.2.map eC)))) (fun σ=>u.bo.length - σ.1) (0,lb,S)
   cI ⟨Nat.zero_le _,hil,hl,hI,hmm,hall,c8,⟨_,bq⟩,⟨_,bq⟩,⟨_,bq⟩⟩ ?_
  clear r0' r1' r2' hall hI hl hil hn hmm hi
  rintro⟨t,lb,S⟩ H n ⟨ht,hil,hl,hI,hmm,hall,hn,⟨d0,r0'⟩,⟨d1,r1'⟩,⟨d2,r2'⟩⟩
  dsimp only at ht hil hl hI hmm hall r1' r2' ⊢
  have a1:(lb.map (iW u)).length=lb.length:=by simp
  have a2:(S.map eC).length=S.length:=by simp
  have e0:∀d,(lb.map (iW u)).getD ((i:Int)).toNat d=iW u (lb.getD i default):=fun d=>by rw[Int.toNat_natCast];exact dB (iW u) lb i d hil
  have hmm2:((lb.map Prod.fst).getD i default).m=m:=by rw[hgd _ _ hil,hmm]
  by_cases htl:t<u.bo.length
  ·rw[show(List.range u.bo.length).drop t=t::(List.range u.bo.length).drop (t+1) by rw[List.drop_eq_getElem_cons (by simpa using htl)];simp,sY] at hall
   have hne:m.at_≠[]:=fun e=>by have:=hmok.nX;rw[e] at this;simp at this;omega
   have c3:=zi u hr m hmok hne (by omega)
   by_cases hb:m.mQ u t=0
   ·have c4:=AA u hu hr m hmok (by omega) t htl hb
    have hm2:=vK hu hr hmok htl (lN hmok htl hb).1
    have hp2:=lh u m t
    have htry:sG u mo i t (lb.map Prod.fst)=if ee (m.step u t).1∈gz (lb.map Prod.fst) then some (lb.map Prod.fst) else if(lb.map Prod.fst).length=mo then none else some (lb.map Prod.fst++[⟨(m.step u t).1,i,t⟩]):=by
     unfold sG
     rw[hmm2,if_neg (fun e=>e hb)]
    have hadd:ee (m.step u t).1∉gz (lb.map Prod.fst)→gw u (lb.map Prod.fst++[⟨(m.step u t).1,i,t⟩]):=fun hn=>by
     have:=hI.fs.add hu hr (k:=i) (t:=t) (by simpa using hil) htl (by rw[hmm2];exact hb) (by rw[hmm2];exact hn)
     rw[hmm2] at this
     exact this
    rw[htry] at hall
    have c5:=tw u (m.step u t).1 (hm2.P0 hr (by omega))
    have hoff:=hI.off hil (t:=t) (by rw[hmm];exact hb)
    have hrow:(lb.map (iW u)).set ((i:Int)).toNat (.agg ((kx u (lb.getD i default)).set 10 (bl false)))=(lb.set i ((lb.getD i default).1,false)).map (iW u):=by
     rw[Int.toNat_natCast,List.map_set];rfl
    have hfst:=vJ (lb:=lb) (i:=i) false hil
    have hmm3:((lb.set i ((lb.getD i default).1,false)).getD i default).1.m=m:=by rw[eL hil];exact hmm
    have hSl:=hI.len
    have hsp:=qT S (ee (m.step u t).1)
    generalize m.step u t=ms at *
    obtain⟨m2,act⟩:=ms
    dsimp only at hm2 hp2 hall hadd c4 c5 hsp
    refine cV ?_
    show gQ _ _ [MS.av u (lb.getD i default).1.m] _ _ _
    rw[hmm]
    refine cV ?_
    refine aS (EO S (ee m2) hI.JL (by omega)) ?_ (by simp[cT,cE,cC]) (by simp[fw]) ?_
    ·rw[List.map_cons,List.map_cons,List.map_nil,dF (b:=31) bq a2,cc _ ((cC _ _).2 fun _ _=>by simp[cE]),cx _ (show cE 0 (eC (ee m2)) by simp[cE])]
    by_cases hin:ee m2∈gz (lb.map Prod.fst)
    ·rw[decide_eq_true ((hI.mem _).2 hin)]
     rw[if_pos hin] at hall
     refine cV ?_
     exact⟨(t+1,lb.set i ((lb.getD i default).1,false),S),by dsimp only;omega,cI,by dsimp only;omega,by dsimp only;rw[List.length_set];exact hil,by dsimp only;rw[List.length_set];exact hl,hoff,hmm3,by dsimp only;rw[hfst];exact hall,c8,⟨_,bq⟩,⟨_,by dsimp only;rw[←hrow];exact bq⟩,⟨_,bq⟩⟩
    ·rw[decide_eq_false fun e=>hin ((hI.mem _).1 e)]
     rw[if_neg hin] at hall
     have hll:(lb.map Prod.fst).length=lb.length:=by simp
     have hl2:(((lb.map (iW u)).set ((i:Int)).toNat (.agg ((kx u (lb.getD i default)).set 10 (bl false))))).length=lb.length:=by simp
     by_cases hfull:lb.length=mo
     ·rw[if_pos (by rw[hll];exact hfull)] at hall
      have hall2:none=gN u mo:=hall
      refine cV ?_
      refine⟨?_⟩
      unfold rn
      rw[←hall2]
      exact cx 6 (by simp[cE,cT])
     ·rw[if_neg (by rw[hll];exact hfull)] at hall
      have hnew:=hoff.add (f:=⟨m2,i,t⟩) (by rw[List.length_set];exact hil) (by rw[List.map_append,hfst];exact hadd hin) (by rw[hfst];exact hin)
      have hrow2:(lb.set i ((lb.getD i default).1,false)++[((⟨m2,i,t⟩:cQ),true)]).map (iW u)=(lb.map (iW u)).set ((i:Int)).toNat (.agg ((kx u (lb.getD i default)).set 10 (bl false)))++[iW u (⟨m2,i,t⟩,true)]:=by rw[List.map_append,←hrow];rfl
      refine cV ?_
      refine aO (wQ S (spot S (ee m2)) (ee m2) hsp (by omega) c8 ⟨_,bq⟩) ?_
      rintro r H2 n2 ⟨rfl,⟨d3,r3'⟩,hn2,hk2⟩
      have q0:∃d,bn H2 0=some (.row 25 3 d [u.av]):=⟨_,(hk2 0 c8 (by omega)).trans bq⟩
      have q15:∃d,bn H2 (n+15)=some (.row 80 8 d [m2.av u]):=⟨_,(hk2 (n+15) c8 (by omega)).trans bq⟩
      have q28:∃d,bn H2 28=some (.row 82 11 d ((lb.map (iW u)).set ((i:Int)).toNat (.agg ((kx u (lb.getD i default)).set 10 (bl false))))):=⟨_,(hk2 28 c8 (by omega)).trans bq⟩
      clear hk2
      obtain⟨d5,q0⟩:=q0
      obtain⟨d6,q15⟩:=q15
      obtain⟨d7,q28⟩:=q28
      have e11:(lb.set i ((lb.getD i default).1,false)++[((⟨m2,i,t⟩:cQ),true)]).length=lb.length+1:=by simp
      have e12:(eo S (spot S (ee m2)) (ee m2)).length=S.length+1:=jI hsp
      refine cV ?_
      exact⟨(t+1,lb.set i ((lb.getD i default).1,false)++[((⟨m2,i,t⟩:cQ),true)],eo S (spot S (ee m2)) (ee m2)),by dsimp only;omega,by dsimp only;rw[e11,e12];exact cI,by dsimp only;omega,by dsimp only;rw[e11];omega,by dsimp only;rw[e11];omega,hnew,by dsimp only;rw[fF (by rw[List.length_set];exact hil)];exact hmm3,by dsimp only;rw[List.map_append,hfst];exact hall,c8,⟨_,bq⟩,⟨_,by dsimp only;rw[hrow2];exact bq⟩,⟨_,bq⟩⟩
   ·have c4:=EH u hr m hmok t hb
    have r0:=decide_eq_true hb
    have htry:sG u mo i t (lb.map Prod.fst)=some (lb.map Prod.fst):=by
     unfold sG
     rw[hmm2,if_pos hb]
    rw[htry] at hall
    refine cV ?_
    show gQ _ _ [MS.av u (lb.getD i default).1.m] _ _ _
    rw[hmm]
    refine cV ?_
    exact⟨(t+1,lb,S),by dsimp only;omega,cI,by dsimp only;omega,hil,hl,hI.same (by rw[hmm];exact hb),hmm,hall,c8,⟨_,bq⟩,⟨_,bq⟩,⟨_,bq⟩⟩
  ·have htG:t=u.bo.length:=by omega
   subst htG
   rw[List.drop_of_length_le (by simp),sY] at hall
   refine cV ?_
   refine⟨(i+1,lb,S),by dsimp only;omega,cI,by dsimp only;omega,hl,⟨hI.fs,hI.JL,hI.mem,hI.len,fun j hj=> ?_⟩,hall,c8,⟨_,bq⟩,⟨_,bq⟩,⟨_,bq⟩⟩
   rw[hI.flag j hj]
   by_cases e:j=i
   ·subst e
    rw[hmm,F6 hmok]
    unfold fT
    rw[if_pos (Nat.lt_succ_self _)]
   ·exact(C6 e).symm
 ·have hi2:i=lb.length:=by omega
  have hl2:gN u mo=some (lb.map Prod.fst):=by
   rw[←hall]
   subst hi2
   cases h:mo - lb.length with
   |zero=>rfl
   |succ q=>rw[pq,if_neg (by simp)]
  have hrow:lb.map (iW u)=(lb.map Prod.fst).map fun f=>iW u (f,f.m.stuck u):=by
   rw[List.map_map]
   refine List.map_congr_left fun p hp=> ?_
   obtain⟨j,hj,rfl⟩:=List.mem_iff_getElem.1 hp
   have:=hI.flag j hj
   rw[show lb.getD j default=lb[j] by simp[List.getD,hj]] at this
   show iW u lb[j]=iW u (lb[j].1,lb[j].1.m.stuck u)
   rw[show lb[j].1.m.stuck u=lb[j].2 by rw[this];unfold fT;rw[if_pos (by omega)]]
  refine cV ?_
  refine⟨?_⟩
  unfold rn
  rw[hl2]
  exact(F9 (es:=lb.map (iW u)) bq ((cC _ _).2 fun _ _=>by simp[cE,cT,cC,kx]) (by simp)).trans (by rw[hrow])
end Go.Proofs.YtekfmjjmihomlaaGreat
end
section
/- Ends: in order, each once. -/
namespace Go.Proofs.YtekfmjjmihomlaaGreat
open Go Go.cZ Go.Proofs
set_option linter.unusedSimpArgs false
set_option linter.unusedVariables false
theorem u7 (l:List cj):∀k,∀e∈px l k,∃j,j<k∧e=l.getD j default
 |0,e,h=>by simp[px] at h
 |1,e,h=>by simp only[px,List.mem_cons,List.not_mem_nil,or_false] at h;exact⟨0,by omega,h⟩
 |k+2,e,h=>by
  rw[px] at h
  split at h
  ·obtain⟨j,h1,h2⟩:=u7 l (k+1) e h
   exact⟨j,by omega,h2⟩
  ·rcases List.mem_append.1 h with h|h
   ·obtain⟨j,h1,h2⟩:=u7 l (k+1) e h
    exact⟨j,by omega,h2⟩
   ·simp only[List.mem_cons,List.not_mem_nil,or_false] at h
    exact⟨k+1,by omega,h⟩
theorem qJ (l:List cj):∀k j,j<k→l.getD j default∈px l k
 |0,j,h=>by omega
 |1,j,h=>by
  obtain rfl:j=0:=by omega
  simp[px]
 |k+2,j,h=>by
  rw[px]
  split
  ·rename_i e
   by_cases hj:j=k+1
   ·rw[hj,e];exact qJ l (k+1) k (by omega)
   ·exact qJ l (k+1) j (by omega)
  ·by_cases hj:j=k+1
   ·rw[hj];exact List.mem_append.2 (.inr (by simp))
   ·exact List.mem_append.2 (.inl (qJ l (k+1) j (by omega)))
theorem vB {α:Type} {R:α→α→Prop} {l:List α} (h:l.Pairwise R) (d:α) {i j:Nat} (hi:i<j) (hj:j<l.length):R (l.getD i d) (l.getD j d):=by
 have:=List.pairwise_iff_getElem.1 h i j (by omega) hj hi
 simpa[List.getD,hj,show i<l.length by omega] using this
theorem mn {l:List cj} (h:l.Pairwise fun x y=>tf dz x y=true):∀k,k≤l.length→(px l k).Pairwise fun x y=>dz x y<0
 |0,_=>by simp[px]
 |1,_=>by simp[px]
 |k+2,hk=>by
  rw[px]
  split
  ·exact mn h (k+1) (by omega)
  ·rename_i hne
   refine List.pairwise_append.2 ⟨mn h (k+1) (by omega),by simp,fun a ha b hb=> ?_⟩
   simp only[List.mem_cons,List.not_mem_nil,or_false] at hb
   subst hb
   obtain⟨j,hj,rfl⟩:=u7 l _ a ha
   have h1:=vB h default (i:=j) (j:=k+1) (by omega) (by omega)
   have h2:tf dz (l.getD j default) (l.getD k default)=true:=by
    by_cases e:j=k
    ·rw[e];simp[tf,(gJ.zero _ _).2 rfl]
    ·exact vB h default (by omega) (by omega)
   have h3:=vB h default (i:=k) (j:=k+1) (by omega) (by omega)
   have h4:dz (l.getD j default) (l.getD (k+1) default)≠0:=fun e=>by
    have e1:=(gJ.zero _ _).1 e
    rw[←e1] at h3
    have:=gJ.BE h3 h2
    exact hne (by rw[this,←e1])
   simp only[tf,decide_eq_true_eq] at h1
   omega
theorem tD {u:bt} {l:List cQ} {e:cj}:e∈jy u l↔e∈dj u l l.length:=by
 have hp:=nN dz (dj u l l.length)
 unfold jy
 constructor
 ·intro h
  obtain⟨j,hj,rfl⟩:=u7 _ _ _ h
  exact hp.mem_iff.1 (cW default (by rw[hp.length_eq];exact hj))
 ·intro h
  obtain⟨j,hj,rfl⟩:=List.mem_iff_getElem.1 (hp.mem_iff.2 h)
  have:=qJ (gH dz (dj u l l.length)) (dj u l l.length).length j (by rw[←hp.length_eq];exact hj)
  rwa[show(gH dz (dj u l l.length)).getD j default=(gH dz (dj u l l.length))[j] by simp[List.getD,hj]] at this
theorem u9 (u:bt) (l:List cQ):(jy u l).Pairwise fun x y=>dz x y<0:=by
 unfold jy
 refine mn (gJ.sorted _) _ ?_
 rw[pM]
 exact Nat.le_refl _
theorem C0 (u:bt) (l:List cQ):(jy u l).length≤l.length:=by
 unfold jy
 refine Nat.le_trans (A3 _ _) ?_
 unfold dj
 refine Nat.le_trans (List.length_filterMap_le _ _) ?_
 rw[List.take_length]
 exact Nat.le_refl _
end Go.Proofs.YtekfmjjmihomlaaGreat
end
section
/- Ends put in one by one are the ends in order. -/
namespace Go.Proofs.YtekfmjjmihomlaaGreat
open Go Go.cZ Go.Proofs
set_option linter.unusedSimpArgs false
set_option linter.unusedVariables false
def ej:List cj→cj→List cj
 |[],e=>[e]
 |x::l,e=>if dz x e<0 then x::ej l e else if dz x e=0 then x::l else e::x::l
def kR (l:List cj):Prop:=l.Pairwise fun x y=>dz x y<0
theorem rl {e y:cj}:∀{l:List cj},y∈ej l e↔y=e∨y∈l
 |[]=>by simp[ej]
 |x::l=>by
  rw[ej]
  split
  ·rw[List.mem_cons,rl,List.mem_cons]
   constructor
   ·rintro(h|h|h)
    ·exact .inr (.inl h)
    ·exact .inl h
    ·exact .inr (.inr h)
   ·rintro(h|h|h)
    ·exact .inr (.inl h)
    ·exact .inl h
    ·exact .inr (.inr h)
  ·split
   ·rename_i h0
    have:=(gJ.zero _ _).1 h0
    subst this
    simp
   ·simp
theorem pd {e:cj}:∀{l:List cj},kR l→kR (ej l e)
 |[],_=>by simp[ej,kR]
 |x::l,h=>by
  obtain⟨h1,h2⟩:=List.pairwise_cons.1 h
  rw[ej]
  split
  ·rename_i hx
   refine List.pairwise_cons.2 ⟨fun y hy=> ?_,pd h2⟩
   rcases rl.1 hy with rfl|hy
   ·exact hx
   ·exact h1 y hy
  ·rename_i hx
   split
   ·exact h
   ·rename_i h0
    have hex:dz e x<0:=by have:=gJ.neg x e;omega
    refine List.pairwise_cons.2 ⟨fun y hy=> ?_,h⟩
    rcases List.mem_cons.1 hy with rfl|hy
    ·exact hex
    ·exact gJ.tr _ _ _ hex (h1 y hy)
theorem sF:∀{l m:List cj},kR l→kR m→(∀e,e∈l↔e∈m)→l=m
 |[],[],_,_,_=>rfl
 |[],y::m,_,_,h=>absurd ((h y).2 (by simp)) (by simp)
 |x::l,[],_,_,h=>absurd ((h x).1 (by simp)) (by simp)
 |x::l,y::m,hl,hm,h=>by
  obtain⟨h1,h2⟩:=List.pairwise_cons.1 hl
  obtain⟨h3,h4⟩:=List.pairwise_cons.1 hm
  have irr:∀z:cj,¬dz z z<0:=fun z hz=>by rw[(gJ.zero _ _).2 rfl] at hz;omega
  have e:x=y:=by
   rcases List.mem_cons.1 ((h x).1 (by simp)) with e|hx
   ·exact e
   ·rcases List.mem_cons.1 ((h y).2 (by simp)) with e|hy
    ·exact e.symm
    ·exact absurd (gJ.tr _ _ _ (h3 x hx) (h1 y hy)) (irr y)
  subst e
  refine congrArg (x::·) (sF h2 h4 fun z=> ?_)
  constructor
  ·intro hz
   rcases List.mem_cons.1 ((h z).1 (List.mem_cons_of_mem _ hz)) with e|hz'
   ·exact absurd (h1 z hz) (e▸irr z)
   ·exact hz'
  ·intro hz
   rcases List.mem_cons.1 ((h z).2 (List.mem_cons_of_mem _ hz)) with e|hz'
   ·exact absurd (h3 z hz) (e▸irr z)
   ·exact hz'
theorem NP {l:List cj}:∀{m:List cj},kR m→kR (l.foldl ej m)∧∀e,e∈l.foldl ej m↔e∈m∨e∈l:=by
 induction l with
 |nil=>exact fun h=>⟨h,fun e=>by simp⟩
 |cons x l ih=>
  intro m h
  obtain⟨h1,h2⟩:=ih (pd (e:=x) h)
  refine⟨h1,fun e=> ?_⟩
  rw[List.foldl_cons,h2 e,rl,List.mem_cons]
  constructor
  ·rintro((h|h)|h)
   ·exact .inr (.inl h)
   ·exact .inl h
   ·exact .inr (.inr h)
  ·rintro(h|h|h)
   ·exact .inl (.inr h)
   ·exact .inl (.inl h)
   ·exact .inr h
theorem JF (u:bt) (l:List cQ):(dj u l l.length).foldl ej []=jy u l:=by
 obtain⟨h1,h2⟩:=NP (l:=dj u l l.length) (m:=[]) List.Pairwise.nil
 refine sF h1 (u9 u l) fun e=> ?_
 rw[h2 e,tD]
 simp
def eh (l:List cj) (e:cj):Nat:=(l.takeWhile fun x=>decide (dz x e<0)).length
theorem JT (l:List cj) (e:cj):eh l e≤l.length:=(List.takeWhile_sublist _).length_le
theorem B5 (e:cj):∀l:List cj,ej l e=if eh l e<l.length∧dz (l.getD (eh l e) default) e=0 then l else l.take (eh l e)++e::l.drop (eh l e)
 |[]=>by simp[ej,eh]
 |x::l=>by
  rw[ej]
  have ih:=B5 e l
  split
  ·rename_i hx
   have hs:eh (x::l) e=eh l e+1:=by simp[eh,List.takeWhile_cons,hx]
   rw[hs,ih,show(x::l).getD (eh l e+1) default=l.getD (eh l e) default by simp[List.getD],List.length_cons]
   by_cases h:eh l e<l.length∧dz (l.getD (eh l e) default) e=0
   ·rw[if_pos h,if_pos ⟨by omega,h.2⟩]
   ·rw[if_neg h,if_neg (fun h'=>h ⟨by omega,h'.2⟩)]
    simp
  ·rename_i hx
   have hs:eh (x::l) e=0:=by simp[eh,List.takeWhile_cons,hx]
   rw[hs]
   split
   ·rename_i h0
    rw[if_pos ⟨by simp,by simpa[List.getD] using h0⟩]
   ·rename_i h0
    rw[if_neg (fun h'=>h0 (by simpa[List.getD] using h'.2))]
    simp
end Go.Proofs.YtekfmjjmihomlaaGreat
end
section
/- Put walked. -/
namespace Go.Proofs.YtekfmjjmihomlaaGreat
open Go Go.cZ Go.Proofs
set_option linter.unusedSimpArgs false
set_option linter.unusedVariables false
set_option maxRecDepth 8000
theorem JU {l:List cj} {e:cj}:∀j,j<eh l e→dz (l.getD j default) e<0:=by
 unfold eh
 induction l with
 |nil=>intro j h;simp at h
 |cons x l ih=>
  intro j h
  rw[List.takeWhile_cons] at h
  split at h
  ·rename_i hx
   cases j with
   |zero=>simpa[List.getD] using hx
   |succ j=>
    have:=ih j (by simpa using h)
    simpa[List.getD] using this
  ·simp at h
theorem AK {l:List cj} {e:cj} (h:eh l e<l.length):¬dz (l.getD (eh l e) default) e<0:=by
 unfold eh at *
 induction l with
 |nil=>simp at h
 |cons x l ih=>
  rw[List.takeWhile_cons] at h ⊢
  split at h
  ·rename_i hx
   rw[if_pos hx]
   have:=ih (by simpa using h)
   simpa[List.getD] using this
  ·rename_i hx
   rw[if_neg hx]
   simpa[List.getD] using hx
set_option maxHeartbeats 4000000 in
theorem JG (l:List cj) (e:cj) (hok:∀x∈l,vR x) (hl:l.length≤65536):Pure Tryz.prog 39 [jh l,e.av] (fun r=>r=jh (ej l e)):=by
 have a0:(l.map cj.av).length=l.length:=by simp
 have hsl:=JT l e
 refine dY ?_ (by simp[cE,cC])
 refine aQ HG rfl ?_
 refine cV ?_
 refine aP (fun i:Nat=>[(0,jh l),(3, .pt 0 1 0 0),(5,i64 i)]) (fun i H n=>i≤eh l e∧1≤n∧∃d,bn H 0=some (.row 40 3 d [e.av])) (fun i=>eh l e - i) 0 cI ⟨Nat.zero_le _,c8,⟨_,bq⟩⟩ ?_
 rintro i H n ⟨hi,hn,⟨d0,r0'⟩⟩
 by_cases h1:i<eh l e
 ·have e0:∀d,(l.map cj.av).getD ((i:Int)).toNat d=(l.getD i default).av:=fun d=>by rw[Int.toNat_natCast];exact dB cj.av l i d (by omega)
  obtain⟨q1,q2⟩:=hok _ (cW default (show i<l.length by omega))
  have c0:=nL (l.getD i default) e q1 q2
  have hlt:=JU (l:=l) (e:=e) i h1
  have r0:decide ((i:Int)<(((l.map cj.av).length:Nat):Int))=true:=decide_eq_true (by rw[a0];omega)
  have r1:decide (dz (l.getD i default) e<0)=true:=decide_eq_true hlt
  refine cV ?_
  exact⟨i+1,by omega,cI,by omega,c8,⟨_,bq⟩⟩
 ·obtain rfl:i=eh l e:=by omega
  have hput:=B5 e l
  by_cases h2:eh l e<l.length
  ·have e0:∀d,(l.map cj.av).getD ((eh l e:Nat):Int).toNat d=(l.getD (eh l e) default).av:=fun d=>by rw[Int.toNat_natCast];exact dB cj.av l _ d h2
   obtain⟨q1,q2⟩:=hok _ (cW default h2)
   have c0:=nL (l.getD (eh l e) default) e q1 q2
   have hst:=AK h2
   have r0:decide (((eh l e:Nat):Int)<(((l.map cj.av).length:Nat):Int))=true:=decide_eq_true (by rw[a0];omega)
   generalize eh l e=p at *
   by_cases h3:dz (l.getD p default) e=0
   ·rw[if_pos ⟨h2,h3⟩] at hput
    rw[h3] at c0
    rw[hput]
    refine cV ?_
    exact⟨cx 6 (by simp[cE,cC])⟩
   ·rw[if_neg (fun h=>h3 h.2)] at hput
    rw[hput]
    have r1:decide (dz (l.getD p default) e=0)=false:=decide_eq_false h3
    have r2:List.take ((p:Int).toNat - 0) (List.drop 0 (l.map cj.av))=(l.take p).map cj.av:=by rw[Int.toNat_natCast,Nat.sub_zero,List.drop_zero,List.map_take]
    have a1:((l.take p).map cj.av).length=p:=by rw[List.length_map,List.length_take];omega
    have r3:List.take ((l.map cj.av).length - (p:Int).toNat) (List.drop (p:Int).toNat (l.map cj.av))=(l.drop p).map cj.av:=by rw[Int.toNat_natCast,List.take_of_length_le (by rw[List.length_drop];exact Nat.le_refl _),List.map_drop]
    have a2:((l.drop p).map cj.av).length=l.length - p:=by rw[List.length_map,List.length_drop]
    refine cV ?_
    refine⟨Ask.mk (show(0+((l.take p).map cj.av).length+1+((l.drop p).map cj.av).length) * 56≤140737488355328 by rw[a1,a2];omega),pO ?_⟩
    refine cV ?_
    refine⟨(dF (e:=40) (sz:=3) (es:=(l.take p).map cj.av++[e.av]++(l.drop p).map cj.av) bq ?_).trans ?_⟩
    ·show _=0+_+1+_
     simp only[List.length_append,List.length_cons,List.length_nil]
     omega
    ·rw[cc _ (by rw[show(l.take p).map cj.av++[e.av]++(l.drop p).map cj.av=(l.take p++e::l.drop p).map cj.av by simp];exact(cC _ _).2 fun _ _=>by simp[cE])]
     simp
  ·have hq:eh l e=l.length:=by omega
   rw[if_neg (fun h=>h2 h.1),hq,List.take_length,List.drop_length] at hput
   rw[hput,hq]
   have r0:decide (((l.length:Nat):Int)<(((l.map cj.av).length:Nat):Int))=false:=decide_eq_false (by rw[a0];omega)
   have r2:List.take (((l.length:Nat):Int).toNat - 0) (List.drop 0 (l.map cj.av))=l.map cj.av:=by rw[Int.toNat_natCast,Nat.sub_zero,List.drop_zero,List.take_of_length_le (by simp)]
   have r3:List.take ((l.map cj.av).length - ((l.length:Nat):Int).toNat) (List.drop ((l.length:Nat):Int).toNat (l.map cj.av))=[]:=by rw[Int.toNat_natCast,List.drop_of_length_le (by simp)];simp
   refine cV ?_
   refine⟨Ask.mk (show(0+(l.map cj.av).length+1+0) * 56≤140737488355328 by rw[a0];omega),pO ?_⟩
   refine cV ?_
   refine⟨(dF (e:=40) (sz:=3) (es:=l.map cj.av++[e.av]++[]) bq ?_).trans ?_⟩
   ·show _=0+_+1+_
    simp only[List.length_append,List.length_cons,List.length_nil]
    omega
   ·rw[cc _ (by rw[show l.map cj.av++[e.av]++[]=(l++[e]).map cj.av by simp];exact(cC _ _).2 fun _ _=>by simp[cE])]
    simp
end Go.Proofs.YtekfmjjmihomlaaGreat
end
section
/- The document's All for every unit; Count and Shows. -/
namespace Go.Proofs.YtekfmjjmihomlaaGreat
open Go Go.cZ Go.Proofs
set_option linter.unusedSimpArgs false
set_option linter.unusedVariables false
set_option maxRecDepth 8000
abbrev NX (u:bt) (l:List cQ):AV:= .im 11 .any (l.map fun f=>iW u (f,f.m.stuck u))
noncomputable def B6 (u:bt) (most:Int):AV:=if(gB u most).1=0 then .dV [NX u (gB u most).2,i64 0] else .dV [.sc (.slice none 0 0),i64 (gB u most).1]
theorem rq (u:bt) (hu:u.Wf) (most:Int) (c0:Pure Tryz.prog 66 [u.av] (fun r=>r=mj (fg u))):Pure Tryz.prog 34 [u.av,i64 most] (fun r=>r=B6 u most):=by
 unfold B6
 by_cases hr:dC u
 ·rw[ly.2 hr] at c0
  by_cases hm:1≤most∧most≤65536
  ·obtain⟨mo,rfl⟩:∃mo:Nat,most=mo:=⟨most.toNat,by omega⟩
   have:=EA u hu hr mo (by omega) c0
   rw[j3 hr hm,Int.toNat_natCast]
   unfold rn at this
   cases h:gN u mo with
   |none=>rw[h] at this;rw[if_neg (by decide)];exact this
   |some l=>rw[h] at this;rw[if_pos rfl];exact this
  ·rw[jL hr hm,if_neg (by decide)]
   refine aI zK rfl ?_
   by_cases h1:most<1
   ·refine cV ?_
    first|exact rfl|trivial
   ·refine cV ?_
    first|exact rfl|trivial
 ·rw[lM hr,if_neg (by decide)]
  have hb:=ql hr
  generalize fg u=ck at *
  obtain⟨x,y,z⟩:=ck
  dsimp only at hb
  subst hb
  refine aI zK rfl ?_
  refine cV ?_
  first|exact rfl|trivial
theorem xn (u:bt) (hu:u.Wf) (most:Int) (cK:Pure Tryz.prog 66 [u.av] (fun r=>r=mj (fg u))):Pure Tryz.prog 12 [u.av,i64 most] (fun r=>r= .dV [i64 (gB u most).2.length,i64 (gB u most).1]):=by
 have c0:=rq u hu most cK
 unfold B6 at c0
 refine aI GZ rfl ?_
 rcases mi u hu most with⟨h1,h2⟩|⟨l,hr,hm1,hm2,hs,hE,hf,hlm⟩
 ·rw[if_neg h1] at c0
  rw[h2]
  generalize (gB u most).1=e at *
  refine cV ?_
  first|exact rfl|trivial
 ·rw[hE,if_pos rfl] at c0
  rw[hE]
  dsimp only at c0 ⊢
  have a0:(l.map fun f=>iW u (f,f.m.stuck u)).length=l.length:=by simp
  refine cV ?_
  rw[a0]
end Go.Proofs.YtekfmjjmihomlaaGreat
end
section
/- The document's Shows and Ends. -/
namespace Go.cZ
open Go.RowKit
theorem Wk.kJ (H:Hp) (nx sz:Nat):Wk (.sc (.slice none 0 0)) H nx (.im sz .any []) H nx:=by
 refine Wk.tell (Nat.le_refl _) (fun b e sz' d es he=> .inl ⟨d,es,he,rfl⟩) (fun w0 c c2 hS hU hc hc2 hw hle hnew hM=>⟨dZ.kJ c c2 sz .any,fun b e sz' d es d0 es0 h1 h2=> ?_⟩)
 rw[h1] at h2
 cases h2
 exact dI.cS hle _
end Go.cZ
namespace Go.Proofs.YtekfmjjmihomlaaGreat
open Go Go.cZ Go.Proofs
set_option linter.unusedSimpArgs false
set_option linter.unusedVariables false
set_option maxRecDepth 8000
theorem QZ {u:bt} {l:List cQ} {i:Nat} (hi:i<l.length) (d:AV):(l.map fun f=>iW u (f,f.m.stuck u)).getD ((i:Int)).toNat d=iW u (l.getD i default,(l.getD i default).m.stuck u):=by
 rw[Int.toNat_natCast];exact dB (fun f=>iW u (f,f.m.stuck u)) l i d hi
end Go.Proofs.YtekfmjjmihomlaaGreat
end
section
/- The document's Ends. -/
namespace Go.Proofs.YtekfmjjmihomlaaGreat
open Go Go.cZ Go.Proofs
set_option linter.unusedSimpArgs false
set_option linter.unusedVariables false
set_option maxRecDepth 8000
theorem xi (e:cj):∀l:List cj,(ej l e).length≤l.length+1
 |[]=>by simp[ej]
 |x::l=>by
  rw[ej]
  have:=xi e l
  split
  ·simp only[List.length_cons];omega
  ·split<;>simp
theorem tP:∀(l m:List cj),(l.foldl ej m).length≤m.length+l.length
 |[],m=>Nat.le_refl _
 |x::l,m=>by
  rw[List.foldl_cons,List.length_cons]
  have h1:=tP l (ej m x)
  have h2:=xi x m
  omega
theorem zm (u:bt) (hu:u.Wf) (most:Int) (cK:Pure Tryz.prog 66 [u.av] (fun r=>r=mj (fg u))):Pure Tryz.prog 14 [u.av,i64 most] (fun r=>r=mZ u most):=by
 have c0:=rq u hu most cK
 unfold B6 at c0
 unfold mZ
 refine aI G1 rfl ?_
 rcases mi u hu most with⟨h1,h2⟩|⟨l,hr,hm1,hm2,hs,hE,hf,hlm⟩
 ·rw[if_neg h1] at c0 ⊢
  generalize (gB u most).1=e at *
  refine cV ?_
  refine aP (fun i:Nat=>[(6, .sc (.slice none 0 0)),(7,i64 e),(8, .sc (.slice none 0 0)),(9,i64 i)]) (fun i H n=>i=0) (fun i=>i) 0 cI rfl ?_
  rintro i H n rfl
  refine cV ?_
  first|exact rfl|trivial
 ·rw[hE,if_pos rfl] at c0 ⊢
  dsimp only at c0 ⊢
  have a0:(l.map fun f=>iW u (f,f.m.stuck u)).length=l.length:=by simp
  refine cV ?_
  refine aU (fun i:Nat=>[(6,NX u l),(7,i64 0),(8,jh ((dj u l i).foldl ej [])),(9,i64 i)]) (fun i H n=>i≤l.length) (fun i=>l.length - i) 0 ⟨_,_,_,Rt.slot 8 rfl (Wk.kJ _ _ 3),cI,Nat.zero_le _⟩ ?_
  rintro i H n hi
  by_cases hil:i<l.length
  ·have e0:=fun d=>QZ (u:=u) hil d
   obtain⟨hok,hpl⟩:=hf.ok i hil
   have c1:=EB u hr (l.getD i default).m hok (by omega)
   have hsc:=pU (u:=u) hil
   by_cases hst:(l.getD i default).m.stuck u=true
   ·rw[if_pos hst] at hsc
    have hlen:=tP (dj u l i) []
    have hle:=my u l i
    have c2:=JG ((dj u l i).foldl ej []) ((l.getD i default).m.end_ u) (fun x hx=>by
     rcases((NP (l:=dj u l i) (m:=[]) List.Pairwise.nil).2 x).1 hx with h|h
     ·cases h
     ·exact oq hr hf (by omega) i x h) (by simp only[List.length_nil] at hlen;omega)
    have r0:=hst
    refine cV ?_
    show gQ _ _ [MS.av u (l.getD i default).m] _ _ _
    refine cV ?_
    refine⟨i+1,by omega,_,_,_,Rt.refl _ _ _, ?_,by omega⟩
    rw[hsc,List.foldl_append]
    exact cI
   ·rw[if_neg hst,List.append_nil] at hsc
    have r0:(l.getD i default).m.stuck u=false:=Bool.eq_false_iff.2 hst
    refine cV ?_
    refine⟨i+1,by omega,_,_,_,Rt.refl _ _ _, ?_,by omega⟩
    rw[hsc]
    exact cI
  ·obtain rfl:i=l.length:=by omega
   rw[←JF]
   refine cV ?_
   first|exact rfl|trivial
end Go.Proofs.YtekfmjjmihomlaaGreat
end
section
/- The document's small questions of units: the walk. -/
namespace Go.Proofs.YtekfmjjmihomlaaGreat
open Go Go.cZ Go.Proofs
set_option linter.unusedSimpArgs false
set_option linter.unusedVariables false
theorem iR.QE {a b:iR} (h1:a.fy=b.fy) (h2:a.slot=b.slot) (h3:a.word=b.word):a=b:=by
 obtain⟨a1,a2,a3⟩:=a
 obtain⟨b1,b2,b3⟩:=b
 simp only at h1 h2 h3
 subst h1;subst h2;subst h3;rfl
theorem eH (c:Int):Pure Tryz.prog 149 [u8 c] (fun r=>r=bl (eu c)):=by
 refine aI wz rfl ?_
 repeat' (first|((with_reducible refine aF ?_);conv=>whnf)|refine aG ?_|exact aC|with_reducible refine aD ?_ ?_|(apply aA;(·exact cF))|refine aH ?_|((with_reducible refine aB ?_ ?_)<;>intro hc<;>(try simp only[List.length_map,ne_eq,dE] at hc)<;>try(exfalso;omega)))
 refine db ?_
 unfold eu
 by_cases h1:48≤c<;>by_cases h2:c≤57<;>simp[h1,h2]
theorem dy (c:Int):Pure Tryz.prog 151 [u8 c] (fun r=>r=bl (gm c)):=by
 refine aI xB rfl ?_
 repeat' (first|((with_reducible refine aF ?_);conv=>whnf)|refine aG ?_|exact aC|with_reducible refine aD ?_ ?_|(apply aA;(·exact cF))|refine aH ?_|((with_reducible refine aB ?_ ?_)<;>intro hc<;>(try simp only[List.length_map,ne_eq,dE] at hc)<;>try(exfalso;omega)))
 refine db ?_
 unfold gm
 by_cases h1:97≤c<;>by_cases h2:c≤122<;>by_cases h3:65≤c<;>by_cases h4:c≤90<;>by_cases h5:c=95<;>simp[h1,h2,h3,h4,h5]
theorem fk (s:ByteArray):Pure Tryz.prog 150 [st s] (fun r=>r=bl (lH s)):=by
 refine aI xA rfl ?_
 repeat' (first|((with_reducible refine aF ?_);conv=>whnf)|refine aG ?_|exact aC|with_reducible refine aD ?_ ?_|(apply aA;(·exact cF))|refine aH ?_|((with_reducible refine aB ?_ ?_)<;>intro hc<;>(try simp only[List.length_map,ne_eq,dE] at hc)<;>try(exfalso;omega)))
 all_goals refine db ?_
 all_goals simp_all[lH,AQ]
theorem zw (s:ByteArray) (hs:s.size≤140737488351232):Pure Tryz.prog 128 [st s] (fun r=>r=bl (fI s)):=by
 refine aI wa rfl ?_
 by_cases hz:(s.size:Int)<1
 ·have hb:fI s=false:=by unfold fI;rw[decide_eq_false (by omega)];simp
  rw[hb]
  repeat' (first|((with_reducible refine aF ?_);conv=>whnf)|refine aG ?_|exact aC|with_reducible refine aD ?_ ?_|(apply aA;(·exact cF))|((with_reducible refine aN (eH _) ?_ ?_);(·exact bz))|((with_reducible refine aJ (fun _=>eH _) ?_ ?_);(·exact bz))|((with_reducible refine aL (eH _) ?_ ?_);(·exact bz))|((with_reducible refine aM (fun _=>eH _) ?_ ?_);(·exact bz))|((with_reducible refine aN (fk _) ?_ ?_);(·exact bz))|((with_reducible refine aJ (fun _=>fk _) ?_ ?_);(·exact bz))|((with_reducible refine aL (fk _) ?_ ?_);(·exact bz))|((with_reducible refine aM (fun _=>fk _) ?_ ?_);(·exact bz))|((with_reducible refine aN (dy _) ?_ ?_);(·exact bz))|((with_reducible refine aJ (fun _=>dy _) ?_ ?_);(·exact bz))|((with_reducible refine aL (dy _) ?_ ?_);(·exact bz))|((with_reducible refine aM (fun _=>dy _) ?_ ?_);(·exact bz))|(simp only[hz,decide_true])|refine aH ?_|((with_reducible refine aB ?_ ?_)<;>intro hc<;>(try simp only[List.length_map,ne_eq,dE] at hc)<;>try(exfalso;omega)))
 ·repeat' (first|((with_reducible refine aF ?_);conv=>whnf)|refine aG ?_|exact eK|with_reducible refine aD ?_ ?_|((with_reducible refine Ask.mk ?_);first|exact cz|((refine Ask.mk ?_);intro h;exact⟨by omega,by omega⟩)|exact cU)|(apply aA;(·exact cF))|((with_reducible refine aN (eH _) ?_ ?_);(·exact bz))|((with_reducible refine aJ (fun _=>eH _) ?_ ?_);(·exact bz))|((with_reducible refine aL (eH _) ?_ ?_);(·exact bz))|((with_reducible refine aM (fun _=>eH _) ?_ ?_);(·exact bz))|((with_reducible refine aN (fk _) ?_ ?_);(·exact bz))|((with_reducible refine aJ (fun _=>fk _) ?_ ?_);(·exact bz))|((with_reducible refine aL (fk _) ?_ ?_);(·exact bz))|((with_reducible refine aM (fun _=>fk _) ?_ ?_);(·exact bz))|((with_reducible refine aN (dy _) ?_ ?_);(·exact bz))|((with_reducible refine aJ (fun _=>dy _) ?_ ?_);(·exact bz))|((with_reducible refine aL (dy _) ?_ ?_);(·exact bz))|((with_reducible refine aM (fun _=>dy _) ?_ ?_);(·exact bz))|(simp only[hz,decide_false])|refine aH ?_|((with_reducible refine aB ?_ ?_)<;>intro hc<;>(try simp only[List.length_map,ne_eq,dE] at hc)<;>try(exfalso;omega)))
  ·refine db (Eq.symm ?_)
   unfold fI
   have hp:(decide (1≤s.size)&&decide (s.size≤32)&& !eu (eZ s 0)&& !lH s)=false:=by
    rcases hc with((h|h)|h)|h
    ·exact absurd h (by decide)
    ·simp[show ¬s.size≤32 by omega]
    ·have h:eu (eZ s 0)=true:=h
     simp[h]
    ·simp[h]
   rw[hp,Bool.false_and]
  ·have hp:(decide (1≤s.size)&&decide (s.size≤32)&& !eu (eZ s 0)&& !lH s)=true:=by
    have h1:s.size≤32:=by
     have:¬(32:Int)<s.size:=fun h=>hc.1 (.inl (.inr h))
     omega
    have h2:eu (eZ s 0)=false:=by
     cases hd:eu (eZ s 0) with
     |false=>rfl
     |true=>exact absurd (.inr hd) hc.1
    have h3:lH s=false:=hc.2
    rw[decide_eq_true (by omega:1≤s.size),decide_eq_true h1,h2,h3];rfl
   have hb:∀R,(decide (1≤s.size)&&decide (s.size≤32)&& !eu (eZ s 0)&& !lH s&&R)=R:=fun R=>by rw[hp,Bool.true_and]
   unfold fI
   rw[hb]
   clear hc hp hb
   refine aP (fun i:Nat=>[(0,st s),(3,i64 i)]) (fun i H n=>i≤s.size∧∀j,j<i→(gm (eZ s j)||eu (eZ s j))=true) (fun i=>s.size - i) 0 cI ⟨Nat.zero_le _,fun _ h=>by omega⟩ ?_
   rintro i H n ⟨hi,hall⟩
   by_cases his:i<s.size
   ·repeat' (first|((with_reducible refine aF ?_);conv=>whnf)|refine aG ?_|exact eK|with_reducible refine aD ?_ ?_|((with_reducible refine Ask.mk ?_);first|exact cz|((refine Ask.mk ?_);intro h;exact⟨by omega,by omega⟩)|exact cU)|(apply aA;(·exact cF))|((with_reducible refine aN (eH _) ?_ ?_);(·exact bz))|((with_reducible refine aJ (fun _=>eH _) ?_ ?_);(·exact bz))|((with_reducible refine aL (eH _) ?_ ?_);(·exact bz))|((with_reducible refine aM (fun _=>eH _) ?_ ?_);(·exact bz))|((with_reducible refine aN (dy _) ?_ ?_);(·exact bz))|((with_reducible refine aJ (fun _=>dy _) ?_ ?_);(·exact bz))|((with_reducible refine aL (dy _) ?_ ?_);(·exact bz))|((with_reducible refine aM (fun _=>dy _) ?_ ?_);(·exact bz))|refine aH ?_|((with_reducible refine aB ?_ ?_)<;>intro hc<;>(try simp only[List.length_map,ne_eq,dE] at hc)<;>try(exfalso;omega)))
    ·refine db (Eq.symm ?_)
     rw[Bool.eq_false_iff,ne_eq,List.all_eq_true]
     intro hA
     have h1:=hA i (List.mem_range.2 his)
     have hc:gm (eZ s i)=false∧eu (eZ s i)=false:=hc
     rw[hc.1,hc.2] at h1
     cases h1
    ·refine⟨i+1,by omega,cI,by omega,fun j hj=> ?_⟩
     by_cases hji:j=i
     ·have hc:¬gm (eZ s i)=false∨eu (eZ s i)=true:=hc
      rw[hji]
      rcases hc with h|h
      ·rw[Bool.not_eq_false] at h
       rw[h,Bool.true_or]
      ·rw[h,Bool.or_true]
     ·exact hall j (by omega)
   ·have:i=s.size:=by omega
    subst this
    repeat' (first|((with_reducible refine aF ?_);conv=>whnf)|refine aG ?_|exact aC|with_reducible refine aD ?_ ?_|(apply aA;(·exact cF))|refine aH ?_|((with_reducible refine aB ?_ ?_)<;>intro hc<;>(try simp only[List.length_map,ne_eq,dE] at hc)<;>try(exfalso;omega)))
    refine db (Eq.symm ?_)
    rw[List.all_eq_true]
    intro j hj
    exact hall j (List.mem_range.1 hj)
theorem fj (k:Int):Pure Tryz.prog 129 [u8 k] (fun r=>r= .dV [bl (iP k),bl (e8 k),bl (ln k),bl (gv k)]):=by
 refine aI wc rfl ?_
 repeat' (first|((with_reducible refine aF ?_);conv=>whnf)|refine aG ?_|exact aC|with_reducible refine aD ?_ ?_|(apply aA;(·exact cF))|refine aH ?_|((with_reducible refine aB ?_ ?_)<;>intro hc<;>(try simp only[List.length_map,ne_eq,dE] at hc)<;>try(exfalso;omega)))
 all_goals first
  |(subst hc;exact rfl)
  |(have h1:iP k=false:=decide_eq_false (by omega)
    have h2:e8 k=false:=decide_eq_false (by omega)
    have h3:ln k=false:=decide_eq_false (by omega)
    have h4:gv k=false:=decide_eq_false (by omega)
    rw[h1,h2,h3,h4])
theorem fB (n most:Int) (b:Bool):Pure Tryz.prog 131 [i64 n,bl b,i64 most] (fun r=>r=bl (nK n b most)):=by
 refine aI wg rfl ?_
 cases b with
 |false=>
  repeat' (first|((with_reducible refine aF ?_);conv=>whnf)|refine aG ?_|exact aC|with_reducible refine aD ?_ ?_|(apply aA;(·exact cF))|refine aH ?_|((with_reducible refine aB ?_ ?_)<;>intro hc<;>(try simp only[List.length_map,ne_eq,dE] at hc)<;>try(exfalso;omega)))
  exact rfl
 |true=>
  repeat' (first|((with_reducible refine aF ?_);conv=>whnf)|refine aG ?_|exact aC|with_reducible refine aD ?_ ?_|(apply aA;(·exact cF))|refine aH ?_|((with_reducible refine aB ?_ ?_)<;>intro hc<;>(try simp only[List.length_map,ne_eq,dE] at hc)<;>try(exfalso;omega)))
  refine db ?_
  unfold nK
  by_cases h1:0≤n<;>by_cases h2:n<most<;>simp[h1,h2]
theorem p9 (v:iR) (b:Bool) (br:Int):Pure Tryz.prog 132 [v.av,bl b,i64 br] (fun r=>r=bl (nS v b br)):=by
 refine aI wh rfl ?_
 cases b with
 |false=>
  repeat' (first|((with_reducible refine aF ?_);conv=>whnf)|refine aG ?_|exact eK|with_reducible refine aD ?_ ?_|((with_reducible refine Ask.mk ?_);first|exact cz|exact cU|(intro h;simp_all[iR.cells]<;>fail)|(simp_all[iR.cells]<;>fail))|(apply aA;(·exact cF))|refine aH ?_|((with_reducible refine aB ?_ ?_)<;>intro hc<;>(try simp only[List.length_map,ne_eq,dE] at hc)<;>try(exfalso;omega)))
  refine db ?_
  unfold nS
  rw[if_neg (by decide),Bool.eq_iff_iff,decide_eq_true_eq]
  constructor
  ·intro h
   simp at h
   exact iR.QE h.1 h.2.1 h.2.2
  ·intro h
   rw[h];rfl
 |true=>
  repeat' (first|((with_reducible refine aF ?_);conv=>whnf)|refine aG ?_|exact eK|with_reducible refine aD ?_ ?_|((with_reducible refine Ask.mk ?_);first|exact cz|exact cU|(intro h;simp_all[iR.cells]<;>fail)|(simp_all[iR.cells]<;>fail))|(apply aA;(·exact cF))|refine aH ?_|((with_reducible refine aB ?_ ?_)<;>intro hc<;>(try simp only[List.length_map,ne_eq,dE] at hc)<;>try(exfalso;omega)))
  all_goals refine db ?_
  all_goals unfold nS
  ·rw[if_pos rfl,if_pos hc]
   by_cases h1:0≤v.slot<;>by_cases h2:v.slot<br<;>by_cases h3:v.word=0<;>simp[h1,h2,h3]
  ·rw[if_pos rfl,if_neg (by rw[hc];decide)]
set_option maxRecDepth 4000 in
set_option maxHeartbeats 4000000 in
theorem zx (u:bt) (g:cA) (n:Node) (hn:n.Wf):Pure Tryz.prog 97 [u.av,g.av,n.av] (fun r=>r=bl (hX u g n)):=by
 have h0:=hn.kind
 have ho:=hn.op
 refine aI IV rfl ?_
 have hva:Pure Tryz.prog 132 [.agg (List.take 3 (List.drop (0+4) n.cells)),bl (ln n.kind),i64 g.br] (fun r=>r=bl (nS n.a (ln n.kind) g.br)):=p9 n.a _ _
 have hvb:∀b,Pure Tryz.prog 132 [.agg (List.take 3 (List.drop (0+7) n.cells)),bl b,i64 g.br] (fun r=>r=bl (nS n.b b g.br)):=fun b=>p9 n.b b _
 have hfa:cT 0 [.agg (List.take 3 (List.drop (0+4) n.cells)),bl (ln n.kind),i64 g.br]:=by simp[cT,cE,Node.cells]
 have hfb:∀b,cT 0 [.agg (List.take 3 (List.drop (0+7) n.cells)),bl b,i64 g.br]:=fun b=>by simp[cT,cE,Node.cells]
 have hif:∀a b:Bool,(if a=true then b else false)=(a&&b):=fun a b=>by cases a<;>rfl
 by_cases hk:1≤n.kind∧n.kind<10∧0≤n.origin∧n.origin<4096
 ·repeat' (first|((with_reducible refine aF ?_);conv=>whnf)|refine aG ?_|exact eK|with_reducible refine aD ?_ ?_|((with_reducible refine Ask.mk ?_);first|exact cz|exact cU|(intro h;simp_all[bt.cells,cA.cells,Node.cells]<;>fail)|(simp_all[bt.cells,cA.cells,Node.cells]<;>fail))|(apply aA;(·exact cF))|((with_reducible refine aN (fj _) ?_ ?_);(·exact bz))|((with_reducible refine aJ (fun _=>fj _) ?_ ?_);(·exact bz))|((with_reducible refine aL (fj _) ?_ ?_);(·exact bz))|((with_reducible refine aM (fun _=>fj _) ?_ ?_);(·exact bz))|((with_reducible refine aN (fB _ _ _) ?_ ?_);(·exact bz))|((with_reducible refine aJ (fun _=>fB _ _ _) ?_ ?_);(·exact bz))|((with_reducible refine aL (fB _ _ _) ?_ ?_);(·exact bz))|((with_reducible refine aM (fun _=>fB _ _ _) ?_ ?_);(·exact bz))|((with_reducible refine aN (ft _) ?_ ?_);(·exact bz))|((with_reducible refine aJ (fun _=>ft _) ?_ ?_);(·exact bz))|((with_reducible refine aL (ft _) ?_ ?_);(·exact bz))|((with_reducible refine aM (fun _=>ft _) ?_ ?_);(·exact bz))|(refine aJ (fun _=>hva) hfa ?_)|(refine aJ (fun _=>hvb _) (hfb _) ?_)|refine aH ?_|((with_reducible refine aB ?_ ?_)<;>intro hc<;>(try simp only[List.length_map,ne_eq,dE] at hc)<;>try(exfalso;omega)))
  all_goals rename_i h56
  all_goals refine db (Eq.symm ?_)
  all_goals unfold hX
  all_goals rw[decide_eq_true hk,Bool.true_and]
  ·have hop:(if n.kind=1 then decide (n.op<19) else decide (n.op=0))=false:=by split<;>exact decide_eq_false (by omega)
   rw[hop];simp
  ·have hop:(if n.kind=1 then decide (n.op<19) else decide (n.op=0))=true:=by split<;>exact decide_eq_true (by omega)
   rw[hop,Bool.true_and,if_pos h56]
   simp only[hif,List.length_map]
  ·have hop:(if n.kind=1 then decide (n.op<19) else decide (n.op=0))=false:=by split<;>exact decide_eq_false (by omega)
   rw[hop];simp
  ·have hop:(if n.kind=1 then decide (n.op<19) else decide (n.op=0))=true:=by split<;>exact decide_eq_true (by omega)
   rw[hop,Bool.true_and,if_neg (by omega)]
   simp only[hif,List.length_map]
 ·have hb:hX u g n=false:=by unfold hX;rw[decide_eq_false hk];simp
  rw[hb]
  repeat' (first|((with_reducible refine aF ?_);conv=>whnf)|refine aG ?_|exact eK|with_reducible refine aD ?_ ?_|((with_reducible refine Ask.mk ?_);first|exact cz|exact cU|(intro h;simp_all[bt.cells,cA.cells,Node.cells]<;>fail)|(simp_all[bt.cells,cA.cells,Node.cells]<;>fail))|(apply aA;(·exact cF))|((with_reducible refine aN (fj _) ?_ ?_);(·exact bz))|((with_reducible refine aJ (fun _=>fj _) ?_ ?_);(·exact bz))|((with_reducible refine aL (fj _) ?_ ?_);(·exact bz))|((with_reducible refine aM (fun _=>fj _) ?_ ?_);(·exact bz))|((with_reducible refine aN (fB _ _ _) ?_ ?_);(·exact bz))|((with_reducible refine aJ (fun _=>fB _ _ _) ?_ ?_);(·exact bz))|((with_reducible refine aL (fB _ _ _) ?_ ?_);(·exact bz))|((with_reducible refine aM (fun _=>fB _ _ _) ?_ ?_);(·exact bz))|((with_reducible refine aN (ft _) ?_ ?_);(·exact bz))|((with_reducible refine aJ (fun _=>ft _) ?_ ?_);(·exact bz))|((with_reducible refine aL (ft _) ?_ ?_);(·exact bz))|((with_reducible refine aM (fun _=>ft _) ?_ ?_);(·exact bz))|(refine aJ (fun _=>hva) hfa ?_)|(refine aJ (fun _=>hvb _) (hfb _) ?_)|refine aH ?_|((with_reducible refine aB ?_ ?_)<;>intro hc<;>(try simp only[List.length_map,ne_eq,dE] at hc)<;>try(exfalso;omega)))
  all_goals first|exact rfl|(exfalso;omega)
end Go.Proofs.YtekfmjjmihomlaaGreat
end
