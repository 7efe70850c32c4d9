import Derived.Test.YtmonponfppdgfaaGreatDoorM27
import Derived.Test.YtmonponfppdgfaaGreatDoorM23
import Derived.Test.YtmonponfppdgfaaGreatDoorM26
section
/- Is a unit right? The walk. -/
namespace Go.Proofs.YtmonponfppdgfaaGreatDoor
open Go Go.ch Go.Proofs
set_option linter.unusedSimpArgs false
set_option linter.unusedVariables false
theorem qv {α:Type} {p:α→Bool} {l:List α} (d:α) {i:Nat} (h:fg p (l.drop i) i=fg p l 0) (hi:i<l.length):fg p l 0=if p (l.getD i d)=true then fg p (l.drop (i+1)) (i+1) else some i:=by
 rw[←h,vW p l d hi]
theorem nt {u:bp} {l:List bo} {t:Nat} (h:t<l.length):eR u (l.drop t) t=match lj u (l.getD t default) with
 |some k=>(60,(t:Int),k)
 |none=>eR u (l.drop (t+1)) (t+1):=by
 rw[List.drop_eq_getElem_cons h,eR,gd h];rfl
theorem km {u:bp} (h:eK u=false):gO u=(60,0,0):=by unfold gO;rw[if_neg (by rw[h];decide)]
abbrev xU (r:Int×Int×Int):AV:= .dI [i64 r.1,i64 r.2.1,i64 r.2.2]
set_option maxHeartbeats 4000000 in
theorem nB (u:bp) (hu:u.Wf):Pure Tryz.prog 27 [u.av] (fun r=>r=xU (gO u)):=by
 refine aJ DM rfl ?_
 have hnp:=yB u hu
 cases hnm:eK u with
 |false=>
  rw[hnm] at hnp
  rw[km hnm]
  repeat' (first|((with_reducible refine aE ?_);conv=>whnf)|refine aG ?_|exact cN|with_reducible refine aD ?_ ?_|((with_reducible refine Ask.mk ?_);first|exact bw|exact br|(intro h;simp_all[bp.cells]<;>fail)|(simp_all[bp.cells]<;>fail))|(apply aA;(·exact bm))|refine aK (hnp) ?_|refine aH ?_|((with_reducible refine aB ?_ ?_)<;>intro hc<;>(try simp only[List.length_map,ne_eq,cD] at hc)<;>try(exfalso;omega)))
  exact rfl
 |true=>
  rw[hnm] at hnp
  have hck:gO u=eR u u.bq 0:=by unfold gO;rw[if_pos hnm]
  rw[hck]
  have hgl:u.bq.length≤8:=by
   have:=hnm
   unfold eK at this
   simp only[Bool.and_eq_true,decide_eq_true_eq] at this
   exact this.1.1.2
  repeat' (first|((with_reducible refine aE ?_);conv=>whnf)|refine aG ?_|exact cN|with_reducible refine aD ?_ ?_|((with_reducible refine Ask.mk ?_);first|exact bw|exact br|(intro h;simp_all[bp.cells]<;>fail)|(simp_all[bp.cells]<;>fail))|(apply aA;(·exact bm))|refine aK (hnp) ?_|refine aH ?_|((with_reducible refine aB ?_ ?_)<;>intro hc<;>(try simp only[List.length_map,ne_eq,cD] at hc)<;>try(exfalso;omega)))
  simp only[List.length_map]
  refine aI (fun t:Nat=>[(1, .pt 0 1 0 0),(15,fG u.bq),(16,i64 u.bq.length),(17,i64 t)])
   (fun t H n=>t≤u.bq.length∧1≤n∧(∃d,bj H 0=some (.row 25 3 d [u.av]))∧eR u (u.bq.drop t) t=eR u u.bq 0) (fun t=>u.bq.length - t) 0 bt ⟨Nat.zero_le _,cH,⟨_,bk⟩,rfl⟩ ?_
  rintro t H n ⟨ht,hn,⟨d0,r0⟩,hF⟩
  by_cases htl:t<u.bq.length
  ·have hg:=hu.bq _ (cC default htl)
   rw[nt htl] at hF
   have eg:=fun d=>j3 htl d
   generalize hG:u.bq.getD t default=g at *
   have hl:=hg.len
   unfold lj at hF
   by_cases hb:g.locals<0∨g.locals>64∨g.cf<g.locals∨g.cf>4160∨g.nodes.length<1∨g.nodes.length>4096
   ·rw[if_pos hb] at hF
    rw[←hF]
    repeat' (first|((with_reducible refine aE ?_);conv=>whnf)|refine aG ?_|exact cN|with_reducible refine aD ?_ ?_|((with_reducible refine Ask.mk ?_);first|exact bw|exact br|(intro h;simp_all[bp.cells,bo.cells]<;>fail)|(simp_all[bp.cells,bo.cells]<;>fail))|(apply aA;(·(first|exact eg _|exact bm)))|refine aH ?_|((with_reducible refine aB ?_ ?_)<;>intro hc<;>(try simp only[List.length_map,ne_eq,cD] at hc)<;>try(exfalso;omega)))
    all_goals first|exact rfl|(exfalso;omega)
   ·rw[if_neg hb] at hF
    repeat' (first|((with_reducible refine aE ?_);conv=>whnf)|refine aG ?_|exact cN|with_reducible refine aD ?_ ?_|((with_reducible refine Ask.mk ?_);first|exact bw|exact br|(intro h;simp_all[bp.cells,bo.cells]<;>fail)|(simp_all[bp.cells,bo.cells]<;>fail))|(apply aA;(·(first|exact eg _|exact bm)))|refine aH ?_|((with_reducible refine aB ?_ ?_)<;>intro hc<;>(try simp only[List.length_map,ne_eq,cD] at hc)<;>try(exfalso;omega)))
    simp only[List.length_map]
    clear hnp
    refine aI (fun i:Nat=>[(1, .pt 0 1 0 0),(5,i64 t),(6, .pt (n+4) 1 0 0),(15,fG u.bq),(16,i64 u.bq.length),(17,i64 t),(56,eU g.nodes),(57,i64 g.nodes.length),(58,i64 i)])
     (fun i H2 n2=>i≤g.nodes.length∧n+5≤n2∧(∃d,bj H2 0=some (.row 25 3 d [u.av]))∧(∃d,bj H2 (n+4)=some (.row 40 4 d [g.av]))∧fg (iE u g) (g.nodes.drop i) i=fg (iE u g) g.nodes 0) (fun i=>g.nodes.length - i) 0 bt ⟨Nat.zero_le _,cH,⟨_,bk⟩,⟨_,bk⟩,rfl⟩ ?_
    clear r0
    rintro i H2 n2 ⟨hi,hn2,⟨d02,r0⟩,⟨d4,r4⟩,hfst⟩
    by_cases hil:i<g.nodes.length
    ·have hp:=yX u g (g.nodes.getD i default) (hg.nodes _ (cC default hil))
     have en:=fun d=>dy hil d
     have hfst2:=qv default hfst hil
     cases hnb:iE u g (g.nodes.getD i default) with
     |false=>
      rw[hnb] at hp
      rw[if_neg (by rw[hnb];decide)] at hfst2
      rw[hfst2] at hF
      rw[←hF]
      repeat' (first|((with_reducible refine aE ?_);conv=>whnf)|refine aG ?_|exact cN|with_reducible refine aD ?_ ?_|((with_reducible refine Ask.mk ?_);first|exact bw|exact br|(intro h;simp_all[bp.cells,bo.cells,Node.cells]<;>fail)|(simp_all[bp.cells,bo.cells,Node.cells]<;>fail))|(apply aA;(·(first|exact en _|exact bm)))|refine aK (hp) ?_|refine aH ?_|((with_reducible refine aB ?_ ?_)<;>intro hc<;>(try simp only[List.length_map,ne_eq,cD] at hc)<;>try(exfalso;omega)))
      exact rfl
     |true=>
      rw[hnb] at hp
      rw[if_pos hnb] at hfst2
      repeat' (first|((with_reducible refine aE ?_);conv=>whnf)|refine aG ?_|exact cN|with_reducible refine aD ?_ ?_|((with_reducible refine Ask.mk ?_);first|exact bw|exact br|(intro h;simp_all[bp.cells,bo.cells,Node.cells]<;>fail)|(simp_all[bp.cells,bo.cells,Node.cells]<;>fail))|(apply aA;(·(first|exact en _|exact bm)))|refine aK (hp) ?_|refine aH ?_|((with_reducible refine aB ?_ ?_)<;>intro hc<;>(try simp only[List.length_map,ne_eq,cD] at hc)<;>try(exfalso;omega)))
      exact⟨i+1,by omega,bt,by omega,cH,⟨_,bk⟩,⟨_,bk⟩,hfst2.symm⟩
    ·have:i=g.nodes.length:=by omega
     subst this
     rw[qu _ _ (Nat.le_refl _)] at hfst
     rw[←hfst] at hF
     dsimp only at hF
     have hok:Whole g:=oU (u:=u) (by omega) fun m hm=>mR.1 (ic.1 hfst.symm m hm)
     have hh:=tP g hg hok
     unfold jC at hh
     by_cases hb2:0≤(cr g).2
     ·rw[if_pos hb2] at hF
      rw[←hF]
      repeat' (first|((with_reducible refine aE ?_);conv=>whnf)|refine aG ?_|exact cN|with_reducible refine aD ?_ ?_|((with_reducible refine Ask.mk ?_);first|exact bw|exact br|(intro h;simp_all[bp.cells,bo.cells]<;>fail)|(simp_all[bp.cells,bo.cells]<;>fail))|(apply aA;(·exact bm))|refine aK (hh) ?_|refine aH ?_|((with_reducible refine aB ?_ ?_)<;>intro hc<;>(try simp only[List.length_map,ne_eq,cD] at hc)<;>try(exfalso;omega)))
      exact rfl
     ·rw[if_neg hb2] at hF
      repeat' (first|((with_reducible refine aE ?_);conv=>whnf)|refine aG ?_|exact cN|with_reducible refine aD ?_ ?_|((with_reducible refine Ask.mk ?_);first|exact bw|exact br|(intro h;simp_all[bp.cells,bo.cells]<;>fail)|(simp_all[bp.cells,bo.cells]<;>fail))|(apply aA;(·exact bm))|refine aK (hh) ?_|refine aH ?_|((with_reducible refine aB ?_ ?_)<;>intro hc<;>(try simp only[List.length_map,ne_eq,cD] at hc)<;>try(exfalso;omega)))
      exact⟨t+1,by omega,bt,by omega,by omega,⟨_,bk⟩,hF⟩
  ·have:t=u.bq.length:=by omega
   subst this
   rw[List.drop_eq_nil_of_le (Nat.le_refl _),eR] at hF
   rw[←hF]
   repeat' (first|((with_reducible refine aE ?_);conv=>whnf)|refine aG ?_|exact cN|with_reducible refine aD ?_ ?_|((with_reducible refine Ask.mk ?_);first|exact bw|exact br|(intro h;simp_all[bp.cells]<;>fail)|(simp_all[bp.cells]<;>fail))|(apply aA;(·exact bm))|refine aH ?_|((with_reducible refine aB ?_ ?_)<;>intro hc<;>(try simp only[List.length_map,ne_eq,cD] at hc)<;>try(exfalso;omega)))
   exact rfl
end Go.Proofs.YtmonponfppdgfaaGreatDoor
end
section
/- How variables are shared: the walk. -/
namespace Go.Proofs.YtmonponfppdgfaaGreatDoor
open Go Go.ch Go.Proofs
set_option linter.unusedSimpArgs false
set_option linter.unusedVariables false
theorem pH {g:bo} (h:Whole g):lI g=true:=BL.2 h
theorem CG (L:List (List Int)):cL 0 (L.map dO):=(cJ _ _).2 fun _ _=>by simp[dO,cG,cJ]
theorem zO (g:bo) (hg:g.Wf) (hw:Whole g) (hh:(cr g).2<0):Pure Tryz.prog 117 [g.av] (fun r=>r= .dI [.im 1 .any ((cr g).1.map dO),bl true]):=by
 refine aJ wK rfl ?_
 have h1:=sE g hg
 rw[pH hw] at h1
 have h2:=tP g hg hw
 unfold jC at h2
 have e:decide ((cr g).2<0)=true:=decide_eq_true hh
 repeat' (first|((with_reducible refine aE ?_);conv=>whnf)|refine aG ?_|exact cN|with_reducible refine aD ?_ ?_|((with_reducible refine Ask.mk ?_);first|exact bw|exact br|(intro h;simp_all[bo.cells]<;>fail)|(simp_all[bo.cells]<;>fail))|(apply aA;(·exact bm))|refine aK (h1) ?_|refine aK (h2) ?_|refine aH ?_|((with_reducible refine aB ?_ ?_)<;>intro hc<;>(try simp only[List.length_map,ne_eq,cD] at hc)<;>try(exfalso;omega)))
 rw[e]
 exact xI.eq (by simp only[cG,cL];exact⟨CG _,trivial,trivial⟩) rfl
noncomputable def nI (g:bo):AV:= .agg [fp (cd g (-1)), .im 1 .any (((cr g).1.map hb).map u32)]
theorem HL {l:List Int} {j:Nat} (h:j<l.length):hb (l.take (j+1))=hb (l.take j)|||2^(l.getD j 0).toNat:=by
 rw[List.take_succ_eq_append_getElem h,JS,gd h]
theorem I8 {k:Int} (h0:0≤k) (h1:k<16):IntKind.u32.wrap (1 * 2^(min k.toNat IntKind.u32.bits))=((2^k.toNat:Nat):Int):=by
 have:k.toNat<16:=by omega
 generalize k.toNat=m at *
 have hm:min m IntKind.u32.bits=m:=by show min m 32=m;omega
 rw[hm]
 have:(2:Nat)^m<2^16:=Nat.pow_lt_pow_right (by omega) this
 have e:(1:Int) * 2^m=((2^m:Nat):Int):=by rw[Int.one_mul];simp
 have h2:(2:Nat)^m<4294967296:=by omega
 rw[e]
 exact wrap32 (Int.natCast_nonneg _) (Int.ofNat_lt.2 h2)
def kT (L:List (List Int)) (i x:Nat):List Nat:=(L.take i).map hb++x::List.replicate (L.length - (i+1)) 0
theorem nu {L:List (List Int)} {i:Nat} (h:i<L.length):((L.take i).map hb).length=i:=by simp;omega
theorem tM {L:List (List Int)} {i:Nat} (h:i<L.length) (x:Nat):(kT L i x).length=L.length:=by
 rw[kT,List.length_append,nu h];simp;omega
theorem AB {L:List (List Int)} {i:Nat} (h:i<L.length) (x:Nat) (d:AV):((kT L i x).map u32).getD ((i:Int)).toNat d=u32 x:=by
 rw[Int.toNat_natCast,dJ u32 _ _ _ (by rw[tM h];exact h),kT,List.getD,List.getElem?_append_right (by rw[nu h];exact Nat.le_refl _),nu h,Nat.sub_self];rfl
theorem AD {L:List (List Int)} {i:Nat} (h:i<L.length) (x v:Nat):((kT L i x).map u32).set ((i:Int)).toNat (u32 v)=(kT L i v).map u32:=by
 rw[Int.toNat_natCast,←List.map_set,kT,List.set_append,if_neg (by rw[nu h];omega),nu h,Nat.sub_self];rfl
theorem xi {L:List (List Int)} {i:Nat} (h:i<L.length):(L.take i).map hb++List.replicate (L.length - i) 0=kT L i 0:=by
 rw[kT,show L.length - i=(L.length - (i+1))+1 by omega,List.replicate_succ]
theorem xh {L:List (List Int)} {i:Nat} (h:i<L.length):kT L i (hb (L.getD i []))=(L.take (i+1)).map hb++List.replicate (L.length - (i+1)) 0:=by
 rw[kT,List.take_succ_eq_append_getElem h,gd h,List.map_append,List.append_assoc];rfl
theorem nG {m:Nat} {now:List Int} (hn:now.length≤m):∀(l:List Int) (s s':HS),cm now l s= .inl s'→(∀i,(s.bx.getD i []).length≤m)→∀i,(s'.bx.getD i []).length≤m
 |[],s,s',h,hs=>by rw[cm] at h;cases h;exact hs
 |k::r,s,s',h,hs=>by
  rw[cm] at h
  split at h
  ·refine nG hn r _ s' h fun i=> ?_
   dsimp only
   rw[dE]
   split
   ·exact hn
   ·exact hs i
  ·split at h
   ·exact nG hn r s s' h hs
   ·cases h
theorem vk {n:Node} {l now:List Int} (h:cq n l=some now):now.length≤l.length+1:=by
 unfold cq at h
 split at h
 ·cases h;simp
 ·split at h
  ·split at h
   ·cases h;simp;omega
   ·cases h
  ·split at h
   ·split at h
    ·cases h;omega
    ·cases h
   ·cases h;omega
theorem pX (g:bo):∀(f:Nat) (s:HS) (k:Nat),(∀i,(s.bx.getD i []).length≤k)→∀i,((fA g f s k).1.getD i []).length≤k+f
 |0,s,k,h,i=>by rw[fA];exact h i
 |f+1,s,k,h,i=>by
  rw[fA]
  split
  ·split
   ·simp
   ·rename_i now hn
    have h2:=vk hn
    have h3:=h (s.todo.getD k 0).toNat
    unfold HS.l at h2
    split
    ·rename_i s' ht
     have:=pX g f s' (k+1) (nG (m:=k+1) (by omega) _ _ _ ht fun i=>Nat.le_succ_of_le (h i)) i
     omega
    ·simp
  ·have:=h i;dsimp only;omega
theorem tO (g:bo) (i:Nat):((cr g).1.getD i []).length≤g.nodes.length+1:=by
 have:=pX g (g.nodes.length+1) (oo g) 0 (fun i=>by simp only[oo,List.getD,List.getElem?_replicate];split<;>exact Nat.zero_le _) i
 rw[Nat.zero_add] at this;exact this
set_option maxHeartbeats 4000000 in
theorem wO {u:bp} (g:bo) (hg:g.Wf) (hk:dL u g) (hl16:u.bx.length≤16):cM Tryz.prog 116 [g.av] [] 0 (fun r H n=>∃d,r= .agg [fp (cd g (-1)), .sl 7 (cr g).1.length]∧bj H 7=some (.row 114 1 d (((cr g).1.map hb).map u32))):=by
 have hw:=hk.whole
 have h1:=oN g hg (pH hw) (pg g hg hw (-1) (by unfold jE;omega))
 have h2:=zO g hg hw hk.held
 obtain⟨_,hLl,_,_⟩:=kU hw hk.held
 have hin:=uO hk
 have hlen:=hk.len
 have hgl:=hg.len
 have hlens:=tO g
 generalize hL:(cr g).1=L at *
 refine aL wJ rfl ?_
 repeat' (first|((with_reducible refine aE ?_);conv=>whnf)|refine aG ?_|exact cN|with_reducible refine aD ?_ ?_|((with_reducible refine Ask.mk ?_);first|exact bw|exact br|(intro h;simp_all[bo.cells]<;>fail)|(simp_all[bo.cells]<;>fail))|(apply aA;(·exact bm))|refine aK (h1) ?_|refine aK (h2) ?_|refine aH ?_|((with_reducible refine aB ?_ ?_)<;>intro hc<;>(try simp only[List.length_map,ne_eq,cD] at hc)<;>try(exfalso;omega)))
 have e0:(((L.take 0).map hb++List.replicate (L.length - 0) 0).map u32:List AV)=List.replicate L.length (u32 0):=by simp
 simp only[List.length_map,Int.toNat_natCast]
 refine aI (fun i:Nat=>[(2, .pt 1 1 0 0),(3, .pt 9 1 0 0),(22, .im 1 .any (L.map dO)),(23,i64 L.length),(24,i64 i)])
  (fun i H n=>i≤L.length∧18≤n∧(∃d,bj H 1=some (.row 156 2 d [.agg [.sc (.slice none 0 0), .sc (.slice none 0 0)]]))∧(∃d,bj H 9=some (.row 156 2 d [.agg [fp (cd g (-1)), .sl 7 g.nodes.length]]))∧(∃d,bj H 7=some (.row 114 1 d (((L.take i).map hb++List.replicate (L.length - i) 0).map u32)))) (fun i=>L.length - i) 0 bt ⟨Nat.zero_le _,cH,⟨_,bk⟩, ?_, ?_⟩ ?_
 ·apply Exists.intro
  exact bk
 ·apply Exists.intro
  rw[e0,hLl]
  exact bk
 rintro i H n ⟨hi,hn,⟨d1,r1⟩,⟨d9,r9⟩,⟨d7,r7⟩⟩
 by_cases hil:i<L.length
 ·rw[xi hil] at r7
  have hll:=hlens i
  have e1:=fun d=>iN (l:=L) (i:=(i:Int)) (by rw[Int.toNat_natCast];exact hil) d
  rw[Int.toNat_natCast] at e1
  have hin2:=hin i
  have hnx:=xh hil
  generalize hl:L.getD i []=l at *
  repeat' (first|((with_reducible refine aE ?_);conv=>whnf)|refine aG ?_|exact aC|with_reducible refine aD ?_ ?_|(apply aA;(·(first|exact e1 _|exact bm)))|refine aH ?_|((with_reducible refine aB ?_ ?_)<;>intro hc<;>(try simp only[List.length_map,ne_eq,cD] at hc)<;>try(exfalso;omega)))
  simp only[List.length_map]
  refine aI (fun j:Nat=>[(2, .pt 1 1 0 0),(3, .pt 9 1 0 0),(6,i64 i),(22, .im 1 .any (L.map dO)),(23,i64 L.length),(24,i64 i),(29, .im 1 .any (l.map i64)),(30,i64 l.length),(31,i64 j)])
   (fun j H2 n2=>j≤l.length∧n≤n2∧(∃d,bj H2 1=some (.row 156 2 d [.agg [.sc (.slice none 0 0), .sc (.slice none 0 0)]]))∧(∃d,bj H2 9=some (.row 156 2 d [.agg [fp (cd g (-1)), .sl 7 g.nodes.length]]))∧(∃d,bj H2 7=some (.row 114 1 d ((kT L i (hb (l.take j))).map u32)))) (fun j=>l.length - j) 0 bt ⟨Nat.zero_le _,cH,⟨_,bk⟩,⟨_,bk⟩,⟨_,bk⟩⟩ ?_
  clear r1 r9 r7
  rintro j H2 n2 ⟨hj,hn2,⟨d1,r1⟩,⟨d9,r9⟩,⟨d7,r7⟩⟩
  by_cases hjl:j<l.length
  ·obtain⟨k0,k1⟩:=hin2 _ (cC 0 hjl)
   have e2:=fun d=>eS hjl d
   have e3:=fun d=>AB hil (hb (l.take j)) d
   have hml:((kT L i (hb (l.take j))).map u32).length=g.nodes.length:=by rw[List.length_map,tM hil,hLl]
   have e4:=I8 k0 (by omega:l.getD j 0<16)
   have hlt:∀m,hb (l.take m)<65536:=fun m=>I2 (m:=16) fun k hk=>by have:=hin2 k (List.mem_of_mem_take hk);omega
   have e5:=HL hjl
   have hp:2^(l.getD j 0).toNat<65536:=Nat.pow_lt_pow_right (by omega) (by omega:(l.getD j 0).toNat<16)
   have e6:=J5 (show hb (l.take j)<4294967296 from Nat.lt_trans (hlt j) (by omega)) (show 2^(l.getD j 0).toNat<4294967296 by omega)
   rw[←e5] at e6
   repeat' (first|((with_reducible refine aE ?_);conv=>whnf)|refine aG ?_|exact cN|with_reducible refine aD ?_ ?_|((with_reducible refine Ask.mk ?_);first|exact bw|(exact hml)|exact br)|(apply aA;(·(first|exact e2 _|exact e3 _|exact bm)))|(simp only[e4])|(simp only[e6])|refine aH ?_|((with_reducible refine aB ?_ ?_)<;>intro hc<;>(try simp only[List.length_map,ne_eq,cD] at hc)<;>try(exfalso;omega)))
   exact⟨j+1,by omega,bt,by omega,cH,⟨_,bk⟩,⟨_,bk⟩,⟨_,by rw[←AD hil (hb (l.take j)) (hb (l.take (j+1)))];exact bk⟩⟩
  ·have:j=l.length:=by omega
   subst this
   rw[List.take_length,hnx] at r7
   repeat' (first|((with_reducible refine aE ?_);conv=>whnf)|refine aG ?_|exact aC|with_reducible refine aD ?_ ?_|(apply aA;(·exact bm))|refine aH ?_|((with_reducible refine aB ?_ ?_)<;>intro hc<;>(try simp only[List.length_map,ne_eq,cD] at hc)<;>try(exfalso;omega)))
   exact⟨i+1,by omega,bt,by omega,by omega,⟨_,bk⟩,⟨_,bk⟩,⟨_,bk⟩⟩
 ·have:i=L.length:=by omega
  subst this
  rw[List.take_length,Nat.sub_self,List.replicate_zero,List.append_nil] at r7
  repeat' (first|((with_reducible refine aE ?_);conv=>whnf)|refine aG ?_|exact aC|with_reducible refine aD ?_ ?_|(apply aA;(·exact bm))|refine aH ?_|((with_reducible refine aB ?_ ?_)<;>intro hc<;>(try simp only[List.length_map,ne_eq,cD] at hc)<;>try(exfalso;omega)))
  rw[←hLl]
  exact⟨⟨d7,rfl,bk⟩⟩
theorem wP {u:bp} (g:bo) (hg:g.Wf) (hk:dL u g) (hl16:u.bx.length≤16):Pure Tryz.prog 116 [g.av] (fun r=>r=nI g):=by
 have hfit:cG 0 (nI g):=by unfold nI;simp[cG,cL,fp,cJ]
 refine cT ((wO g hg hk hl16).mono ?_) hfit
 rintro r H n ⟨d,rfl,hb⟩
 have e1:ch.dk H 6 (.agg [fp (cd g (-1)), .sl 7 (cr g).1.length])= .agg [ch.dk H 5 (fp (cd g (-1))),ch.dk H 5 (.sl 7 (cr g).1.length)]:=by
  simp only[dk,List.map_cons,List.map_nil]
 rw[e1,dH hb (by simp),ca _ ((cJ _ _).2 fun _ _=>by simp[cG]),dB 5 (by simp[fp,cG,cJ])]
 rfl
noncomputable def fx (u:bp) (m:Nat):List AV:=(u.bq.take m).map nI
theorem xy {u:bp} {t:Nat} (h:t<u.bq.length):fx u (t+1)=fx u t++[nI (u.gr t)]:=by
 rw[fx,List.take_succ_eq_append_getElem h,fx,List.map_append,show u.gr t=u.bq[t] from gd h _];rfl
theorem ox {u:bp} {t:Nat} (h:t≤u.bq.length):(fx u t).length=t:=by simp[fx];omega
theorem tD (u:bp) (m:Nat):cL 0 (fx u m):=(cJ _ _).2 fun _ _=>by unfold nI;simp[cG,cL,fp,cJ]
set_option maxHeartbeats 4000000 in
theorem qb (u:bp) (hu:u.Wf):Pure Tryz.prog 111 [u.av] (fun r=>r=if lD u=true then .dI [.im 2 .any (fx u u.bq.length),i64 0] else .dI [.sc (.slice none 0 0),i64 60]):=by
 have hck:=nB u hu
 by_cases hr:c8 u
 ·rw[kN.2 hr] at hck
  rw[if_pos (cV.2 hr)]
  have hfew:=hr.CD
  refine cT ?_ (by simp only[cG,cL];exact⟨tD _ _,trivial,trivial⟩)
  refine aL tS rfl ?_
  repeat' (first|((with_reducible refine aE ?_);conv=>whnf)|refine aG ?_|exact cN|with_reducible refine aD ?_ ?_|((with_reducible refine Ask.mk ?_);first|exact bw|exact br|(intro h;simp_all[bp.cells]<;>fail)|(simp_all[bp.cells]<;>fail))|(apply aA;(·exact bm))|refine aK (hck) ?_|refine aH ?_|((with_reducible refine aB ?_ ?_)<;>intro hc<;>(try simp only[List.length_map,ne_eq,cD] at hc)<;>try(exfalso;omega)))
  simp only[List.length_map]
  refine aR (fun t:Nat=>[(7, .sl 18 t),(20,fG u.bq),(21,i64 u.bq.length),(22,i64 t)])
   (fun t H n=>t≤u.bq.length∧19≤n∧(∃d,bj H 18=some (.row 156 2 d (fx u t)))) (fun t=>u.bq.length - t) 0 ⟨_,_,_,Rt.nil 7 156 2 (by omega) rfl,bt,Nat.zero_le _,cH,⟨_,bk⟩⟩ ?_
  rintro t H n ⟨ht,hn,⟨d,r18⟩⟩
  by_cases htl:t<u.bq.length
  ·have hl:=ox (u:=u) ht
   have hg:=hu.bq _ (cC default htl)
   have hlk:=wP (u.gr t) hg (hr.gr htl) hfew.2.1
   have hnx:=xy htl
   have eg:=fun d=>j3 htl d
   repeat' (first|((with_reducible refine aE ?_);conv=>whnf)|refine aG ?_|exact cN|with_reducible refine aD ?_ ?_|((with_reducible refine Ask.mk ?_);first|exact bw|(exact hl)|exact br|(intro h;simp_all[bo.cells]<;>fail)|(simp_all[bo.cells]<;>fail))|(apply aA;(·(first|exact eg _|exact bm)))|refine aK (hlk) ?_|refine aH ?_|((with_reducible refine aB ?_ ?_)<;>intro hc<;>(try simp only[List.length_map,ne_eq,cD] at hc)<;>try(exfalso;omega)))
   exact⟨t+1,by omega,_,_,_,Rt.refl _ _ _,bt,by omega,cH,⟨_,by rw[hnx];exact bk⟩⟩
  ·have:t=u.bq.length:=by omega
   subst this
   repeat' (first|((with_reducible refine aE ?_);conv=>whnf)|refine aG ?_|exact aC|with_reducible refine aD ?_ ?_|(apply aA;(·exact bm))|refine aH ?_|((with_reducible refine aB ?_ ?_)<;>intro hc<;>(try simp only[List.length_map,ne_eq,cD] at hc)<;>try(exfalso;omega)))
   refine⟨?_⟩
   have e1:∀H,ch.dk H 6 (.dI [.sl 18 u.bq.length,i64 0])= .dI [ch.dk H 5 (.sl 18 u.bq.length),i64 0]:=fun H=>by
    simp only[dk,List.map_cons,List.map_nil]
   refine(e1 _).trans ?_
   rw[dH bk (ox (Nat.le_refl _)),ca _ (tD _ _)]
 ·have h1:=kj hr
  rw[if_neg (mt cV.1 hr)]
  generalize gO u=r at *
  obtain⟨a,b,c⟩:=r
  dsimp only at h1 hck
  subst h1
  unfold xU at hck
  refine aJ tS rfl ?_
  repeat' (first|((with_reducible refine aE ?_);conv=>whnf)|refine aG ?_|exact cN|with_reducible refine aD ?_ ?_|((with_reducible refine Ask.mk ?_);first|exact bw|exact br|(intro h;simp_all[bp.cells]<;>fail)|(simp_all[bp.cells]<;>fail))|(apply aA;(·exact bm))|refine aK (hck) ?_|refine aH ?_|((with_reducible refine aB ?_ ?_)<;>intro hc<;>(try simp only[List.length_map,ne_eq,cD] at hc)<;>try(exfalso;omega)))
  exact rfl
end Go.Proofs.YtmonponfppdgfaaGreatDoor
end
section
/- How variables are used: the walk. -/
namespace Go.Proofs.YtmonponfppdgfaaGreatDoor
open Go Go.ch Go.Proofs
set_option linter.unusedSimpArgs false
set_option linter.unusedVariables false
abbrev oT (p:Nat×Nat):AV:= .agg [u32 p.1,u32 p.2]
abbrev nK (E:uk):List AV:=lX (fun n:Int=>Value.int .i64 n) oT E
theorem LB (E:uk) (t:Int):pz false (.int .i64 t) (nK E) (oT (0,0))=some (oT ((c9 E t).getD (0,0)),(c9 E t).isSome):=(uT nH oT t E (oT (0,0))).trans (by cases c9 E t<;>rfl)
theorem IG (E:uk) (t:Int) (v:Nat×Nat):sP false (.int .i64 t) (nK E) (oT v)=some (nK (gE E t v)):=uU nH oT t v E
theorem J9 {t:Nat} (h1:t<8):IntKind.u32.wrap (1 * 2^(min ((t:Int)).toNat IntKind.u32.bits))=((2^t:Nat):Int):=by
 have:=I8 (k:=(t:Int)) (by omega) (by omega)
 rw[this,Int.toNat_natCast]
def xM (E:uk):Prop:=∀v p,c9 E v=some p→p.1<256∧p.2<65536
set_option maxHeartbeats 4000000 in
theorem yi (E:uk) (hE:xM E) (x:Acc) (i:Nat) (ht:x.1<8) (hk:∀k∈x.2.2,0≤k∧k<16) (b m:Nat) (H:Hp) (nx:Nat) (e em:TypeId) (d dm:AV) (hrb:bj H b=some (.row e 1 d [.mp m])) (hm:bj H m=some (.row em 0 dm (mapA (nK E)))) (hbn:b<nx) (hmn:m<nx) (hbm:b≠m):
 cM Tryz.prog 113 [.agg [i64 x.1,i64 i],x.2.1.av,u32 (hb x.2.2), .pt b 1 0 0] H nx (fun r H' n=>r= .dI []∧nx≤n∧(∃d,bj H' m=some (.row em 0 d (mapA (nK (lH E x)))))∧∀y,y<nx→y≠m→bj H' y=bj H y):=by
 obtain⟨t,nd,l⟩:=x
 dsimp only at ht hk ⊢
 refine aL wH rfl ?_
 have htp:=uc nd
 cases hto:uh nd with
 |false=>
  rw[hto] at htp
  repeat' (first|((with_reducible refine aE ?_);conv=>whnf)|refine aG ?_|exact cN|with_reducible refine aD ?_ ?_|((with_reducible refine Ask.mk ?_);first|exact bw|exact br|(intro h;simp_all[Node.cells]<;>fail)|(simp_all[Node.cells]<;>fail))|(apply aA;(·exact bm))|refine aK (htp) ?_|refine aH ?_|((with_reducible refine aB ?_ ?_)<;>intro hc<;>(try simp only[List.length_map,ne_eq,cD] at hc)<;>try(exfalso;omega)))
  refine⟨⟨rfl,cH,⟨dm, ?_⟩,fun y hy hym=>bu⟩⟩
  unfold lH
  rw[if_neg (by dsimp only;rw[hto];decide)]
  exact bk
 |true=>
  rw[hto] at htp
  have hst:lH E (t,nd,l)=gE E nd.cP (mI ((c9 E nd.cP).getD (0,65535)) t l):=by unfold lH;rw[if_pos hto]
  rw[hst]
  have hl:Go.Proofs.YtmonponfppdgfaaGreatDoor.hb l<65536:=I2 (m:=16) fun k hkk=>by have:=hk k hkk;omega
  have e4:=J9 ht
  have hp2:2^t<256:=Nat.pow_lt_pow_right (by omega) (by omega:t<8)
  have eg:=LB E nd.cP
  cases hlk:c9 E nd.cP with
  |none=>
   rw[hlk] at eg
   have e6:=J5 (a:=0) (b:=2^t) (by omega) (by omega)
   have e7:=yu (a:=65535) (b:=Go.Proofs.YtmonponfppdgfaaGreatDoor.hb l) (by omega) (by omega)
   repeat' (first|((with_reducible refine aE ?_);conv=>whnf)|refine aG ?_|exact cN|with_reducible refine aD ?_ ?_|((with_reducible refine Ask.mk ?_);first|exact bw|exact br|(intro h;simp_all[Node.cells]<;>fail)|(simp_all[Node.cells]<;>fail))|(apply aA;(·exact bm))|refine aK (htp) ?_|(simp only[e4])|(simp only[e6])|(simp only[e7])|(apply aF (g:=none);(·exact fun _=>eg))|(apply aF (g:=none);(·exact fun _=>IG _ _ _))|refine aH ?_|((with_reducible refine aB ?_ ?_)<;>intro hc<;>(try simp only[List.length_map,ne_eq,cD] at hc)<;>try(exfalso;omega)))
   refine aF (a:=nK (gE E nd.cP (mI (0,65535) t l))) (fun _=>(congrArg (sP false _ (nK E)) (?_:_=oT (mI (0,65535) t l))).trans (IG _ _ _)) ?_
   ·show AV.agg [AV.sc (.int .u32 (IntKind.u32.wrap (BitVec.ofInt IntKind.u32.bits ((0:Nat):Int)|||BitVec.ofInt IntKind.u32.bits ((2^t:Nat):Int)).toNat)),AV.sc (.int .u32 (IntKind.u32.wrap (BitVec.ofInt IntKind.u32.bits ((65535:Nat):Int)&&& BitVec.ofInt IntKind.u32.bits ((Go.Proofs.YtmonponfppdgfaaGreatDoor.hb l:Nat):Int)).toNat))]=_
    rw[e6,e7]
    rfl
   ·repeat' (first|((with_reducible refine aE ?_);conv=>whnf)|refine aG ?_|exact aC|with_reducible refine aD ?_ ?_|(apply aA;(·exact bm))|refine aH ?_|((with_reducible refine aB ?_ ?_)<;>intro hc<;>(try simp only[List.length_map,ne_eq,cD] at hc)<;>try(exfalso;omega)))
    exact⟨⟨rfl,cH,⟨_,bk⟩,fun y hy hym=>bu⟩⟩
  |some p=>
   rw[hlk] at eg
   have hp:=hE _ _ hlk
   have e6:=J5 (a:=p.1) (b:=2^t) (by omega) (by omega)
   have e7:=yu (a:=p.2) (b:=Go.Proofs.YtmonponfppdgfaaGreatDoor.hb l) (by omega) (by omega)
   repeat' (first|((with_reducible refine aE ?_);conv=>whnf)|refine aG ?_|exact cN|with_reducible refine aD ?_ ?_|((with_reducible refine Ask.mk ?_);first|exact bw|exact br|(intro h;simp_all[Node.cells]<;>fail)|(simp_all[Node.cells]<;>fail))|(apply aA;(·exact bm))|refine aK (htp) ?_|(simp only[e4])|(simp only[e6])|(simp only[e7])|(apply aF (g:=none);(·exact fun _=>eg))|(apply aF (g:=none);(·exact fun _=>IG _ _ _))|refine aH ?_|((with_reducible refine aB ?_ ?_)<;>intro hc<;>(try simp only[List.length_map,ne_eq,cD] at hc)<;>try(exfalso;omega)))
   refine aF (a:=nK (gE E nd.cP (mI p t l))) (fun _=>(congrArg (sP false _ (nK E)) (?_:_=oT (mI p t l))).trans (IG _ _ _)) ?_
   ·show AV.agg [AV.sc (.int .u32 (IntKind.u32.wrap (BitVec.ofInt IntKind.u32.bits ((p.1:Nat):Int)|||BitVec.ofInt IntKind.u32.bits ((2^t:Nat):Int)).toNat)),AV.sc (.int .u32 (IntKind.u32.wrap (BitVec.ofInt IntKind.u32.bits ((p.2:Nat):Int)&&& BitVec.ofInt IntKind.u32.bits ((Go.Proofs.YtmonponfppdgfaaGreatDoor.hb l:Nat):Int)).toNat))]=_
    rw[e6,e7]
    rfl
   ·repeat' (first|((with_reducible refine aE ?_);conv=>whnf)|refine aG ?_|exact aC|with_reducible refine aD ?_ ?_|(apply aA;(·exact bm))|refine aH ?_|((with_reducible refine aB ?_ ?_)<;>intro hc<;>(try simp only[List.length_map,ne_eq,cD] at hc)<;>try(exfalso;omega)))
    exact⟨⟨rfl,cH,⟨_,bk⟩,fun y hy hym=>bu⟩⟩
theorem rl {l:List Acc} (h:∀x∈l,x.1<8):xM (ir l):=by
 intro v p hp
 rw[sC] at hp
 split at hp
 ·cases hp
 ·cases hp
  refine BX fun x hx=> ?_
  unfold ew at hx
  rw[List.mem_map] at hx
  obtain⟨y,hy,rfl⟩:=hx
  exact h y (List.mem_filter.1 hy).1
theorem yp (t:Nat) (g:bo) (m:Nat):∀x∈mw t g m,x.1=t:=by
 intro x hx
 unfold mw at hx
 rw[List.mem_filterMap] at hx
 obtain⟨i,hi,hx⟩:=hx
 unfold sJ at hx
 split at hx
 ·cases hx;rfl
 ·cases hx
theorem yq (u:bp) (m:Nat):∀x∈gq u m,x.1<m:=by
 intro x hx
 unfold gq at hx
 rw[List.mem_flatMap] at hx
 obtain⟨t,ht,hx⟩:=hx
 rw[yp _ _ _ x hx];exact List.mem_range.1 ht
theorem l7 {l:List Bool} {k:Nat} (d:AV) (h:k<l.length):(l.map bl).getD ((k:Int)).toNat d=bl (gl l (k:Int)):=jl (k:=(k:Int)) d (by rw[Int.toNat_natCast];exact h)
theorem JT {L:List (List Int)} {i:Nat} (d:AV) (h:i<L.length):((L.map Go.Proofs.YtmonponfppdgfaaGreatDoor.hb).map u32).getD ((i:Int)).toNat d=u32 (Go.Proofs.YtmonponfppdgfaaGreatDoor.hb (L.getD i [])):=by
 rw[Int.toNat_natCast,dJ u32 _ _ _ (by simpa using h)]
 congr 1
 simp[List.getD,h]
theorem FN {u:bp} {t:Nat} (d:AV) (h:t<u.bq.length):(fx u u.bq.length).getD ((t:Int)).toNat d= .agg [.im 1 .any ((cd (u.gr t) (-1)).map bl), .im 1 .any (((cr (u.gr t)).1.map Go.Proofs.YtmonponfppdgfaaGreatDoor.hb).map u32)]:=by
 rw[Int.toNat_natCast,fx,List.take_length,dJ nI _ _ _ h];rfl
set_option maxHeartbeats 8000000 in
theorem zi (u:bp) (hu:u.Wf) (hr:c8 u) (b m:Nat) (H:Hp) (nx:Nat) (e em:TypeId) (d dm:AV) (hrb:bj H b=some (.row e 1 d [.mp m])) (hm:bj H m=some (.row em 0 dm (mapA (nK [])))) (hbn:b<nx) (hmn:m<nx) (hbm:b≠m):
 cM Tryz.prog 112 [u.av, .im 2 .any (fx u u.bq.length), .fn (.func 113) [] [.pt b 1 0 0]] H nx (fun r H' n=>r= .dI []∧nx≤n∧(∃d,bj H' m=some (.row em 0 d (mapA (nK (ir (gq u u.bq.length))))))∧∀y,y<nx→y≠m→bj H' y=bj H y):=by
 have hfew:=hr.CD
 have hll:=ox (u:=u) (Nat.le_refl _)
 refine aL wG rfl ?_
 repeat' (first|((with_reducible refine aE ?_);conv=>whnf)|refine aG ?_|exact cN|with_reducible refine aD ?_ ?_|((with_reducible refine Ask.mk ?_);first|exact bw|exact br|(intro h;simp_all[bp.cells]<;>fail)|(simp_all[bp.cells]<;>fail))|(apply aA;(·exact bm))|refine aH ?_|((with_reducible refine aB ?_ ?_)<;>intro hc<;>(try simp only[List.length_map,ne_eq,cD] at hc)<;>try(exfalso;omega)))
 simp only[List.length_map]
 refine aI (fun t:Nat=>[(1, .im 2 .any (fx u u.bq.length)),(2, .fn (.func 113) [] [.pt b 1 0 0]),(11,fG u.bq),(12,i64 u.bq.length),(13,i64 t)])
  (fun t H' n=>t≤u.bq.length∧nx+5≤n∧(∃d,bj H' m=some (.row em 0 d (mapA (nK (ir (gq u t))))))∧∀y,y<nx→y≠m→bj H' y=bj H y) (fun t=>u.bq.length - t) 0 bt ⟨Nat.zero_le _,cH,⟨_,bk⟩,fun y hy hym=>bu⟩ ?_
 rintro t H1 n ⟨ht,hn,⟨d1,r1⟩,hk1⟩
 by_cases htl:t<u.bq.length
 ·have hg:=hu.bq _ (cC default htl)
  have eg:=fun d=>j3 htl d
  have hgo:=hr.gr htl
  have hglen:=hgo.len
  have el:=fun d=>FN (u:=u) d htl
  repeat' (first|((with_reducible refine aE ?_);conv=>whnf)|refine aG ?_|exact cN|with_reducible refine aD ?_ ?_|((with_reducible refine Ask.mk ?_);first|exact bw|exact br|(intro h;simp_all[bo.cells]<;>fail)|(simp_all[bo.cells]<;>fail))|(apply aA;(·(first|exact eg _|exact bm)))|refine aH ?_|((with_reducible refine aB ?_ ?_)<;>intro hc<;>(try simp only[List.length_map,ne_eq,cD] at hc)<;>try(exfalso;omega)))
  simp only[List.length_map]
  refine aI (fun i:Nat=>[(1, .im 2 .any (fx u u.bq.length)),(2, .fn (.func 113) [] [.pt b 1 0 0]),(6,i64 t),(11,fG u.bq),(12,i64 u.bq.length),(13,i64 t),(19,eU (u.gr t).nodes),(20,i64 (u.gr t).nodes.length),(21,i64 i)])
   (fun i H' n'=>i≤(u.gr t).nodes.length∧n≤n'∧(∃d,bj H' m=some (.row em 0 d (mapA (nK (ir (gq u t++mw t (u.gr t) i))))))∧∀y,y<nx→y≠m→bj H' y=bj H y) (fun i=>(u.gr t).nodes.length - i) 0 bt ⟨Nat.zero_le _,cH,⟨_,by rw[show gq u t++mw t (u.gr t) 0=gq u t by simp[mw]];exact bk⟩,fun y hy hym=>Eq.trans bu (hk1 y hy hym)⟩ ?_
  clear r1 hk1
  rintro i H2 n2 ⟨hi,hn2,⟨d2,r2⟩,hk2⟩
  by_cases hil:i<(u.gr t).nodes.length
  ·have en:=fun d=>dy hil d
   have er:=fun d=>l7 (l:=cd (u.gr t) (-1)) (k:=i) d (by rw[dP];exact hil)
   have hLl:=(kU hgo.whole hgo.held).2.1
   have eh:=fun d=>JT (L:=(cr (u.gr t)).1) (i:=i) d (by rw[hLl];exact hil)
   have hrl:((cd (u.gr t) (-1)).map bl).length=(u.gr t).nodes.length:=by rw[List.length_map,dP]
   have hhl:(((cr (u.gr t)).1.map Go.Proofs.YtmonponfppdgfaaGreatDoor.hb).map u32).length=(u.gr t).nodes.length:=by rw[List.length_map,List.length_map,hLl]
   have hac:=sa t (u.gr t) i
   have hb2:bj H2 b=some (.row e 1 d [.mp m]):=(hk2 b hbn hbm).trans hrb
   cases hrc:gl (cd (u.gr t) (-1)) (i:Int) with
   |false=>
    rw[show sJ t (u.gr t) i=none by unfold sJ;rw[if_neg (by rw[hrc];decide)]] at hac
    rw[hrc] at er
    repeat' (first|((with_reducible refine aE ?_);conv=>whnf)|refine aG ?_|exact cN|with_reducible refine aD ?_ ?_|((with_reducible refine Ask.mk ?_);first|exact bw|(exact hll)|(exact hrl)|exact br|(intro h;simp_all[Node.cells]<;>fail)|(simp_all[Node.cells]<;>fail))|(apply aA;(·(first|exact en _|exact el _|exact er _|exact bm)))|refine aH ?_|((with_reducible refine aB ?_ ?_)<;>intro hc<;>(try simp only[List.length_map,ne_eq,cD] at hc)<;>try(exfalso;omega)))
    refine⟨i+1,by omega,bt,by omega,by omega,⟨_,by rw[hac,Option.toList_none,List.append_nil];exact bk⟩,fun y hy hym=>Eq.trans bu (hk2 y hy hym)⟩
   |true=>
    rw[show sJ t (u.gr t) i=some (t,(u.gr t).nd i,(cr (u.gr t)).1.getD i []) by unfold sJ;rw[if_pos hrc]] at hac
    rw[hrc] at er
    repeat' (first|((with_reducible refine aE ?_);conv=>whnf)|refine aG ?_|exact cN|with_reducible refine aD ?_ ?_|((with_reducible refine Ask.mk ?_);first|exact bw|(exact hll)|(exact hrl)|(exact hhl)|exact br|(intro h;simp_all[Node.cells]<;>fail)|(simp_all[Node.cells]<;>fail))|(apply aA;(·(first|exact en _|exact el _|exact er _|exact eh _|exact bm)))|refine aH ?_|((with_reducible refine aB ?_ ?_)<;>intro hc<;>(try simp only[List.length_map,ne_eq,cD] at hc)<;>try(exfalso;omega)))
    refine aN (yi (ir (gq u t++mw t (u.gr t) i)) (rl fun x hx=> ?_) (t,(u.gr t).nd i,(cr (u.gr t)).1.getD i []) i (by dsimp only;omega) (fun k hk=> ?_) b m _ _ e em d d2 ?_ ?_ ?_ ?_ hbm) ?_
    ·rcases List.mem_append.1 hx with hx|hx
     ·have:=yq u t x hx;omega
     ·rw[yp _ _ _ x hx];omega
    ·have:=uO hgo i k hk;omega
    ·exact bk
    ·exact bk
    ·exact cH
    ·exact cH
    rintro _ H3 n3 ⟨rfl,hn3,⟨d3,r3⟩,hk3⟩
    have hn23:n2≤n3:=Nat.le_trans cH hn3
    have hk4:∀y,y<nx→y≠m→bj H3 y=bj H y:=fun y hy hym=>(hk3 y (Nat.lt_of_lt_of_le (show y<n2 by omega) cH) hym).trans (Eq.trans bu (hk2 y hy hym))
    rw[←tk,List.append_assoc] at r3
    rw[Option.toList_some] at hac
    rw[←hac] at r3
    clear hk3
    repeat' (first|((with_reducible refine aE ?_);conv=>whnf)|refine aG ?_|exact aC|with_reducible refine aD ?_ ?_|(apply aA;(·exact bm))|refine aH ?_|((with_reducible refine aB ?_ ?_)<;>intro hc<;>(try simp only[List.length_map,ne_eq,cD] at hc)<;>try(exfalso;omega)))
    exact⟨i+1,by omega,bt,by omega,by omega,⟨_,bk⟩,fun y hy hym=>Eq.trans bu (hk4 y hy hym)⟩
  ·have:i=(u.gr t).nodes.length:=by omega
   subst this
   repeat' (first|((with_reducible refine aE ?_);conv=>whnf)|refine aG ?_|exact aC|with_reducible refine aD ?_ ?_|(apply aA;(·exact bm))|refine aH ?_|((with_reducible refine aB ?_ ?_)<;>intro hc<;>(try simp only[List.length_map,ne_eq,cD] at hc)<;>try(exfalso;omega)))
   exact⟨t+1,by omega,bt,by omega,by omega,⟨_,by rw[se];exact bk⟩,fun y hy hym=>Eq.trans bu (hk2 y hy hym)⟩
 ·have:t=u.bq.length:=by omega
  subst this
  repeat' (first|((with_reducible refine aE ?_);conv=>whnf)|refine aG ?_|exact aC|with_reducible refine aD ?_ ?_|(apply aA;(·exact bm))|refine aH ?_|((with_reducible refine aB ?_ ?_)<;>intro hc<;>(try simp only[List.length_map,ne_eq,cD] at hc)<;>try(exfalso;omega)))
  exact⟨⟨rfl,cH,⟨_,bk⟩,fun y hy hym=>Eq.trans bu (hk1 y hy hym)⟩⟩
set_option maxHeartbeats 4000000 in
theorem BK (u:bp) (hu:u.Wf) (hr:c8 u) (H:Hp) (nx:Nat):cM Tryz.prog 99 [u.av] H nx (fun r H' n=>∃m d em,r= .dI [.mp m,i64 0]∧nx≤m∧m<n∧bj H' m=some (.row em 0 d (mapA (nK (ir (gq u u.bq.length)))))∧∀y,y<nx→bj H' y=bj H y):=by
 have hak:=qb u hu
 rw[if_pos (cV.2 hr)] at hak
 refine aL AS rfl ?_
 repeat' (first|((with_reducible refine aE ?_);conv=>whnf)|refine aG ?_|exact cN|with_reducible refine aD ?_ ?_|((with_reducible refine Ask.mk ?_);first|exact bw|exact br|(intro h;simp_all[bp.cells]<;>fail)|(simp_all[bp.cells]<;>fail))|(apply aA;(·exact bm))|refine aK (hak) ?_|refine aH ?_|((with_reducible refine aB ?_ ?_)<;>intro hc<;>(try simp only[List.length_map,ne_eq,cD] at hc)<;>try(exfalso;omega)))
 refine aN (zi u hu hr (nx+12) (nx+11) _ _ 138 3 (.sc (.map none)) .any ?_ ?_ ?_ ?_ (by omega)) ?_
 ·exact bk
 ·exact bk
 ·exact cH
 ·exact cH
 rintro _ H3 n3 ⟨rfl,hn3,⟨d3,r3⟩,hk3⟩
 have r12:bj H3 (nx+12)=some (.row 138 1 (.sc (.map none)) [.mp (nx+11)]):=(hk3 (nx+12) cH (by omega)).trans bk
 have hn11:nx+12<n3:=Nat.lt_of_lt_of_le cH hn3
 have hk4:∀y,y<nx→bj H3 y=bj H y:=fun y hy=>(hk3 y (Nat.lt_of_lt_of_le hy cH) (by omega)).trans bu
 clear hk3
 repeat' (first|((with_reducible refine aE ?_);conv=>whnf)|refine aG ?_|exact aC|with_reducible refine aD ?_ ?_|(apply aA;(·exact bm))|refine aH ?_|((with_reducible refine aB ?_ ?_)<;>intro hc<;>(try simp only[List.length_map,ne_eq,cD] at hc)<;>try(exfalso;omega)))
 exact⟨⟨nx+11,d3,_,rfl,cH,cH,bk,fun y hy=>Eq.trans bu (hk4 y hy)⟩⟩
theorem GX (u:bp) (hu:u.Wf) (hr:¬c8 u):Pure Tryz.prog 99 [u.av] (fun r=>r= .dI [.sc (.map none),i64 60]):=by
 have hak:=qb u hu
 rw[if_neg (mt cV.1 hr)] at hak
 refine aJ AS rfl ?_
 repeat' (first|((with_reducible refine aE ?_);conv=>whnf)|refine aG ?_|exact cN|with_reducible refine aD ?_ ?_|((with_reducible refine Ask.mk ?_);first|exact bw|exact br|(intro h;simp_all[bp.cells]<;>fail)|(simp_all[bp.cells]<;>fail))|(apply aA;(·exact bm))|refine aK (hak) ?_|refine aH ?_|((with_reducible refine aB ?_ ?_)<;>intro hc<;>(try simp only[List.length_map,ne_eq,cD] at hc)<;>try(exfalso;omega)))
 exact rfl
noncomputable def ff (u:bp) (m:Nat):List cB:=(List.range m).map fun(v:Nat)=>l8 u.bx.length (ew (gq u u.bq.length) v)
theorem nc (u:bp) (m:Nat):(ff u (m+1)).map cB.av=(ff u m).map cB.av++[(l8 u.bx.length (ew (gq u u.bq.length) m)).av]:=by
 rw[ff,List.range_succ,List.map_append,List.map_append];rfl
theorem gY (l:List cB):cL 0 (l.map cB.av):=(cJ _ _).2 fun _ _=>by simp[cG,cL,cB.cells]
noncomputable def gJ (u:bp):AV:= .im 3 .any ((cu u).map cB.av)
set_option maxHeartbeats 4000000 in
theorem BI (u:bp) (hu:u.Wf):Pure Tryz.prog 71 [u.av, .fn (.func 72) [] []] (fun r=>r=if lD u=true then .dI [gJ u,i64 0] else .dI [.sc (.slice none 0 0),i64 60]):=by
 by_cases hr:c8 u
 ·rw[if_pos (cV.2 hr)]
  have hfew:=hr.CD
  refine cT ?_ (by simp only[cG,cL,gJ];exact⟨gY _,trivial,trivial⟩)
  refine aL AR rfl ?_
  repeat' (first|((with_reducible refine aE ?_);conv=>whnf)|refine aG ?_|exact cN|with_reducible refine aD ?_ ?_|((with_reducible refine Ask.mk ?_);first|exact bw|exact br|(intro h;simp_all[bp.cells]<;>fail)|(simp_all[bp.cells]<;>fail))|(apply aA;(·exact bm))|refine aH ?_|((with_reducible refine aB ?_ ?_)<;>intro hc<;>(try simp only[List.length_map,ne_eq,cD] at hc)<;>try(exfalso;omega)))
  refine aN (BK u hu hr _ _) ?_
  rintro _ H1 n1 ⟨m,d1,em,rfl,hm1,hm2,r1,hk1⟩
  have r0:bj H1 0=some (.row 25 3 .any [u.av]):=(hk1 0 cH).trans bk
  have hm0:4≤m:=hm1
  clear hk1
  repeat' (first|((with_reducible refine aE ?_);conv=>whnf)|refine aG ?_|exact cN|with_reducible refine aD ?_ ?_|((with_reducible refine Ask.mk ?_);first|exact bw|exact br|(intro h;simp_all[bp.cells]<;>fail)|(simp_all[bp.cells]<;>fail))|(apply aA;(·exact bm))|refine aH ?_|((with_reducible refine aB ?_ ?_)<;>intro hc<;>(try simp only[List.length_map,ne_eq,cD] at hc)<;>try(exfalso;omega)))
  simp only[List.length_map]
  have hcl:∀v,(ff u v).length=v:=fun v=>by simp[ff]
  refine aR (fun v:Nat=>[(1, .fn (.func 72) [] []),(6, .mp m),(8, .sl (n1+12) v),(20,i64 u.shared.length),(21,i64 v)])
   (fun v H n=>v≤u.shared.length∧n1+13≤n∧(∃d,bj H m=some (.row em 0 d (mapA (nK (ir (gq u u.bq.length))))))∧(∃d,bj H (n1+12)=some (.row 80 3 d ((ff u v).map cB.av)))) (fun v=>u.shared.length - v) 0 ⟨_,_,_,Rt.nil 8 80 3 (by omega) rfl,bt,Nat.zero_le _,cH,⟨_,bk⟩,⟨_,bk⟩⟩ ?_
  clear r1 r0
  rintro v H2 n2 ⟨hv,hn2,⟨d2,r2⟩,⟨d3,r3⟩⟩
  by_cases hvl:v<u.shared.length
  ·have eg:=LB (ir (gq u u.bq.length)) (v:Int)
   have hce:=B4 hr (v:Int)
   have hsm:xM (ir (gq u u.bq.length)):=rl fun x hx=>by have:=yq u _ x hx;omega
   have hml:((ff u v).map cB.av).length=v:=by rw[List.length_map,hcl]
   have hnx:=nc u v
   have hlt:((c9 (ir (gq u u.bq.length)) (v:Int)).getD (0,0)).1<256∧((c9 (ir (gq u u.bq.length)) (v:Int)).getD (0,0)).2<65536:=by
    cases h:c9 (ir (gq u u.bq.length)) (v:Int) with
    |none=>exact⟨by decide,by decide⟩
    |some p=>exact hsm _ _ h
   have hcp:=xV _ hlt.1 hlt.2
   rw[hce] at hcp
   repeat' (first|((with_reducible refine aE ?_);conv=>whnf)|refine aG ?_|exact cN|with_reducible refine aD ?_ ?_|((with_reducible refine Ask.mk ?_);first|exact bw|(exact hml)|exact br)|(apply aA;(·exact bm))|refine aK (hcp) ?_|(apply aF (g:=none);(·exact fun _=>eg))|refine aH ?_|((with_reducible refine aB ?_ ?_)<;>intro hc<;>(try simp only[List.length_map,ne_eq,cD] at hc)<;>try(exfalso;omega)))
   exact⟨v+1,by omega,_,_,_,Rt.refl _ _ _,bt,by omega,cH,⟨_,bk⟩,⟨_,by rw[hnx];exact bk⟩⟩
  ·have:v=u.shared.length:=by omega
   subst this
   repeat' (first|((with_reducible refine aE ?_);conv=>whnf)|refine aG ?_|exact aC|with_reducible refine aD ?_ ?_|(apply aA;(·exact bm))|refine aH ?_|((with_reducible refine aB ?_ ?_)<;>intro hc<;>(try simp only[List.length_map,ne_eq,cD] at hc)<;>try(exfalso;omega)))
   refine⟨?_⟩
   have e1:∀H,ch.dk H 6 (.dI [.sl (n1+12) u.shared.length,i64 0])= .dI [ch.dk H 5 (.sl (n1+12) u.shared.length),i64 0]:=fun H=>by
    simp only[dk,List.map_cons,List.map_nil]
   refine(e1 _).trans ?_
   rw[dH bk (by rw[List.length_map,hcl]),ca _ (gY _)]
   rfl
 ·rw[if_neg (mt cV.1 hr)]
  have hub:=GX u hu hr
  refine aJ AR rfl ?_
  repeat' (first|((with_reducible refine aE ?_);conv=>whnf)|refine aG ?_|exact cN|with_reducible refine aD ?_ ?_|((with_reducible refine Ask.mk ?_);first|exact bw|exact br|(intro h;simp_all[bp.cells]<;>fail)|(simp_all[bp.cells]<;>fail))|(apply aA;(·exact bm))|refine aK (hub) ?_|refine aH ?_|((with_reducible refine aB ?_ ?_)<;>intro hc<;>(try simp only[List.length_map,ne_eq,cD] at hc)<;>try(exfalso;omega)))
  exact rfl
theorem kn (u:bp) (hu:u.Wf):Pure Tryz.prog 41 [u.av] (fun r=>r=if lD u=true then .dI [gJ u,i64 0] else .dI [.sc (.slice none 0 0),i64 60]):=by
 have h:=BI u hu
 refine aJ D0 rfl ?_
 by_cases hr:c8 u
 ·rw[if_pos (cV.2 hr)] at h ⊢
  unfold gJ at h ⊢
  repeat' (first|((with_reducible refine aE ?_);conv=>whnf)|refine aG ?_|exact cN|with_reducible refine aD ?_ ?_|((with_reducible refine Ask.mk ?_);first|exact bw|exact br|(intro h;simp_all[bp.cells]<;>fail)|(simp_all[bp.cells]<;>fail))|(apply aA;(·exact bm))|refine aK (h) ?_|refine aH ?_|((with_reducible refine aB ?_ ?_)<;>intro hc<;>(try simp only[List.length_map,ne_eq,cD] at hc)<;>try(exfalso;omega)))
  exact xI.eq (by simp only[cG,cL];exact⟨gY _,trivial,trivial⟩) rfl
 ·rw[if_neg (mt cV.1 hr)] at h ⊢
  repeat' (first|((with_reducible refine aE ?_);conv=>whnf)|refine aG ?_|exact cN|with_reducible refine aD ?_ ?_|((with_reducible refine Ask.mk ?_);first|exact bw|exact br|(intro h;simp_all[bp.cells]<;>fail)|(simp_all[bp.cells]<;>fail))|(apply aA;(·exact bm))|refine aK (h) ?_|refine aH ?_|((with_reducible refine aB ?_ ?_)<;>intro hc<;>(try simp only[List.length_map,ne_eq,cD] at hc)<;>try(exfalso;omega)))
  exact rfl
end Go.Proofs.YtmonponfppdgfaaGreatDoor
end
section
/- What kinds of nodes do: the walk. -/
namespace Go.Proofs.YtmonponfppdgfaaGreatDoor
open Go Go.ch Go.Proofs
set_option linter.unusedSimpArgs false
set_option linter.unusedVariables false
def xx (n:Node):Bool:=decide (n.kind=2∨n.kind=4)
def tW (n:Node):AV:= .agg [bl (lS n.kind),bl (decide (n.kind=1)&&du n.op),bl (rh n),bl (xx n)]
set_option maxRecDepth 100000 in
theorem lu (n:Node) (ho:0≤n.op) (h:1≤n.kind∧n.kind<10) (hop:(n.kind=1→n.op<19)∧(n.kind≠1→n.op=0)):Pure Tryz.prog 66 [n.av] (fun r=>r=tW n):=by
 obtain⟨h0,h1⟩:=h
 obtain⟨kind,op,slot,cP,a,b,next,jT,origin⟩:=n
 simp only at h0 h1 ho hop
 by_cases hk1:kind=1
 ·subst hk1
  have h19:=hop.1 rfl
  have hk:op=0∨op=1∨op=2∨op=3∨op=4∨op=5∨op=6∨op=7∨op=8∨op=9∨op=10∨op=11∨op=12∨op=13∨op=14∨op=15∨op=16∨op=17∨op=18:=by omega
  rcases hk with rfl|rfl|rfl|rfl|rfl|rfl|rfl|rfl|rfl|rfl|rfl|rfl|rfl|rfl|rfl|rfl|rfl|rfl|rfl
  all_goals exact pC (by simp[cG,cL,tW]) (by kernel_rfl)
 ·have hk:kind=2∨kind=3∨kind=4∨kind=5∨kind=6∨kind=7∨kind=8∨kind=9:=by omega
  have h2:=hop.2 hk1
  subst h2
  rcases hk with rfl|rfl|rfl|rfl|rfl|rfl|rfl|rfl
  all_goals exact pC (by simp[cG,cL,tW]) (by kernel_rfl)
theorem vJ (n:Node) (ho:0≤n.op) (h:1≤n.kind∧n.kind<10) (hop:(n.kind=1→n.op<19)∧(n.kind≠1→n.op=0)) (s:Nat):Pure Tryz.prog 64 [n.av,i64 s] (fun r=>r=bl (eE n s)):=by
 have hm:=lu n ho h hop
 unfold tW at hm
 refine aJ EM rfl ?_
 repeat' (first|((with_reducible refine aE ?_);conv=>whnf)|refine aG ?_|exact cN|with_reducible refine aD ?_ ?_|((with_reducible refine Ask.mk ?_);first|exact bw|(intro h1 h2;rw[h1,h2];rfl)|exact br|(intro h;simp_all[Node.cells]<;>fail)|(simp_all[Node.cells]<;>fail))|(apply aA;(·exact bm))|refine aK (hm) ?_|refine aH ?_|((with_reducible refine aB ?_ ?_)<;>intro hc<;>(try simp only[List.length_map,ne_eq,cD] at hc)<;>try(exfalso;omega)))
 refine cg ?_
 unfold eE
 rw[show decide (n.kind=1∨n.kind=3∨n.kind=4∨n.kind=7∨n.kind=8)=lS n.kind from rfl]
 cases lS n.kind<;>cases n.a.dr<;>cases(decide (n.kind=1)&&du n.op)<;>cases n.b.dr<;>simp
theorem xw (n:Node) (ho:0≤n.op) (h:1≤n.kind∧n.kind<10) (hop:(n.kind=1→n.op<19)∧(n.kind≠1→n.op=0)) (s:Nat):Pure Tryz.prog 65 [n.av,i64 s] (fun r=>r=bl (fN n s)):=by
 have hm:=lu n ho h hop
 unfold tW at hm
 refine aJ EN rfl ?_
 repeat' (first|((with_reducible refine aE ?_);conv=>whnf)|refine aG ?_|exact cN|with_reducible refine aD ?_ ?_|((with_reducible refine Ask.mk ?_);first|exact bw|(intro h1 h2;rw[h1,h2];rfl)|exact br|(intro h;simp_all[Node.cells]<;>fail)|(simp_all[Node.cells]<;>fail))|(apply aA;(·exact bm))|refine aK (hm) ?_|refine aH ?_|((with_reducible refine aB ?_ ?_)<;>intro hc<;>(try simp only[List.length_map,ne_eq,cD] at hc)<;>try(exfalso;omega)))
 refine cg ?_
 unfold fN
 cases rh n<;>simp
noncomputable def bz (g:bo) (t:Nat) (cls:List cB):List AV:=[st g.name,i64 g.locals,i64 g.cf,eU g.nodes,i64 t, .im 3 .any (cls.map cB.av), .im 1 .any ((cd g (-1)).map bl)]
noncomputable abbrev eH (g:bo) (t:Nat) (cls:List cB):AV:= .ip 7 .any [.agg (bz g t cls)] 0 0
theorem vH {l:List cB} {v:Int} (h:v.toNat<l.length) (d:AV):(l.map cB.av).getD v.toNat d=(l.getD v.toNat default).av:=dJ cB.av l _ d h
theorem rX (g:bo) (t:Nat) (cls:List cB) (v:Nat) (hv:v<cls.length):Pure Tryz.prog 44 [eH g t cls,i64 v] (fun r=>r=bl (nQ cls t v)):=by
 have ec:=fun d=>vH (l:=cls) (v:=(v:Int)) (by rw[Int.toNat_natCast];exact hv) d
 refine aJ D3 rfl ?_
 repeat' (first|((with_reducible refine aE ?_);conv=>whnf)|refine aG ?_|exact cN|with_reducible refine aD ?_ ?_|((with_reducible refine Ask.mk ?_);first|exact bw|exact br|(intro h;simp_all[bz,cB.cells]<;>fail)|(simp_all[bz,cB.cells]<;>fail))|(apply aA;(·(first|exact ec _|exact bm)))|refine aH ?_|((with_reducible refine aB ?_ ?_)<;>intro hc<;>(try simp only[List.length_map,ne_eq,cD] at hc)<;>try(exfalso;omega)))
 rw[Int.toNat_natCast]
 refine cg ?_
 unfold nQ
 cases decide ((cls.getD v default).kind=1)<;>simp
end Go.Proofs.YtmonponfppdgfaaGreatDoor
end
