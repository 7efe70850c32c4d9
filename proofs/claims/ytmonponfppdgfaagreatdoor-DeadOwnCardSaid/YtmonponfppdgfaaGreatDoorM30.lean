import Derived.Test.YtmonponfppdgfaaGreatDoorM28
import Derived.Test.YtmonponfppdgfaaGreatDoorM29
namespace Go.Proofs.YtmonponfppdgfaaGreatDoor
open Go Go.dD Go.Proofs
set_option linter.unusedSimpArgs false
set_option linter.unusedVariables false
theorem pg {g:br} (h:Whole g):l5 g=true:=DS.2 h
theorem EK (L:List (List Int)):cL 0 (L.map dV):=(cK _ _).2 fun _ _=>by simp[dV,cJ,cK]
theorem A9 (g:br) (hg:g.Wf) (hw:Whole g) (hh:(cx g).2<0):Pure Tryz.prog 117 [g.av] (fun r=>r= .dK [.im 1 .any ((cx g).1.map dV),bl true]):=by
 refine aG xM rfl ?_
 have h1:=sq g hg
 rw[pg hw] at h1
 have h2:=uQ g hg hw
 unfold jW at h2
 have e:decide ((cx g).2<0)=true:=decide_eq_true hh
 repeat' (first|refine aQ ?_|exact cP|with_reducible refine aB ?_ ?_|((with_reducible refine Ask.mk ?_);first|exact bx|exact bt|(intro h;simp_all[br.cells]<;>fail)|(simp_all[br.cells]<;>fail))|(apply aA;(·exact bp))|refine aK (h1) ?_|refine aK (h2) ?_|refine aH ?_|((with_reducible refine aE ?_ ?_)<;>intro hc<;>try(exfalso;omega)))
 rw[e]
 exact vg.eq (by simp only[cJ,cL];exact⟨EK _,trivial,trivial⟩) rfl
noncomputable def nk (g:br):AV:= .agg [fE (cj g (-1)), .im 1 .any (((cx g).1.map hb).map u32)]
theorem J9 {l:List Int} {j:Nat} (h:j<l.length):hb (l.take (j+1))=hb (l.take j)|||2^(l.getD j 0).toNat:=by
 rw[List.take_succ_eq_append_getElem h,MF,gd h]
theorem LO {k:Int} (h0:0<=k) (h1:k<16):IntKind.u32.wrap (1 * 2^(min k.toNat IntKind.u32.bits))=((2^k.toNat:Nat):Int):=by
 have:k.toNat<16:=by omega
 generalize k.toNat=m at *
 have hm:min m IntKind.u32.bits=m:=by show min m 32=m;omega
 rw[hm]
 have:(2:Nat)^m<2^16:=Nat.pow_lt_pow_right (by omega) this
 have e:(1:Int) * 2^m=((2^m:Nat):Int):=by rw[Int.one_mul];simp
 have h2:(2:Nat)^m<4294967296:=by omega
 rw[e]
 exact wrap32 (Int.natCast_nonneg _) (Int.ofNat_lt.2 h2)
def kn (L:List (List Int)) (i x:Nat):List Nat:=(L.take i).map hb++x::List.replicate (L.length - (i+1)) 0
theorem oX {L:List (List Int)} {i:Nat} (h:i<L.length):((L.take i).map hb).length=i:=by simp;omega
theorem uN {L:List (List Int)} {i:Nat} (h:i<L.length) (x:Nat):(kn L i x).length=L.length:=by
 rw[kn,List.length_append,oX h];simp;omega
theorem CD {L:List (List Int)} {i:Nat} (h:i<L.length) (x:Nat) (d:AV):((kn L i x).map u32).getD ((i:Int)).toNat d=u32 x:=by
 rw[Int.toNat_natCast,dG u32 _ _ _ (by rw[uN h];exact h),kn,List.getD,List.getElem?_append_right (by rw[oX h];exact Nat.le_refl _),oX h,Nat.sub_self];rfl
theorem CE {L:List (List Int)} {i:Nat} (h:i<L.length) (x v:Nat):((kn L i x).map u32).set ((i:Int)).toNat (u32 v)=(kn L i v).map u32:=by
 rw[Int.toNat_natCast,<-List.map_set,kn,List.set_append,if_neg (by rw[oX h];omega),oX h,Nat.sub_self];rfl
theorem yo {L:List (List Int)} {i:Nat} (h:i<L.length):(L.take i).map hb++List.replicate (L.length - i) 0=kn L i 0:=by
 rw[kn,show L.length - i=(L.length - (i+1))+1 by omega,List.replicate_succ]
theorem yn {L:List (List Int)} {i:Nat} (h:i<L.length):kn L i (hb (L.getD i []))=(L.take (i+1)).map hb++List.replicate (L.length - (i+1)) 0:=by
 rw[kn,List.take_succ_eq_append_getElem h,gd h,List.map_append,List.append_assoc];rfl
theorem ni {m:Nat} {now:List Int} (hn:now.length<=m):∀(l:List Int) (s s':HS),cp now l s= .inl s'->(∀i,(s.bz.getD i []).length<=m)->∀i,(s'.bz.getD i []).length<=m
 |[],s,s',h,hs=>by rw[cp] at h;cases h;exact hs
 |k::r,s,s',h,hs=>by
  rw[cp] at h
  split at h
  ·refine ni hn r _ s' h fun i=> ?_
   dsimp only
   rw[cw]
   split
   ·exact hn
   ·exact hs i
  ·split at h
   ·exact ni hn r s s' h hs
   ·cases h
theorem wc {n:Node} {l now:List Int} (h:ct n l=some now):now.length<=l.length+1:=by
 unfold ct at h
 split at h
 ·cases h;simp
 ·split at h
  ·split at h
   ·cases h;simp;omega
   ·cases h
  ·split at h
   ·split at h
    ·cases h;omega
    ·cases h
   ·cases h;omega
theorem qE (g:br):∀(f:Nat) (s:HS) (k:Nat),(∀i,(s.bz.getD i []).length<=k)->∀i,((fI g f s k).1.getD i []).length<=k+f
 |0,s,k,h,i=>by rw[fI];exact h i
 |f+1,s,k,h,i=>by
  rw[fI]
  split
  ·split
   ·simp
   ·rename_i now hn
    have h2:=wc hn
    have h3:=h (s.todo.getD k 0).toNat
    unfold HS.l at h2
    split
    ·rename_i s' ht
     have:=qE g f s' (k+1) (ni (m:=k+1) (by omega) _ _ _ ht fun i=>Nat.le_succ_of_le (h i)) i
     omega
    ·simp
  ·have:=h i;dsimp only;omega
theorem uP (g:br) (i:Nat):((cx g).1.getD i []).length<=g.nodes.length+1:=by
 have:=qE g (g.nodes.length+1) (pB g) 0 (fun i=>by simp only[pB,List.getD,List.getElem?_replicate];split<;>exact Nat.zero_le _) i
 rw[Nat.zero_add] at this;exact this
set_option maxHeartbeats 4000000 in
theorem xS {u:bq} (g:br) (hg:g.Wf) (hk:dR u g) (hl16:u.bz.length<=16):cM Tryz.prog 116 [g.av] [] 0 (fun r H n=>∃d,r= .agg [fE (cj g (-1)), .sl 7 (cx g).1.length]/\bk H 7=some (.row 114 1 d (((cx g).1.map hb).map u32))):=by
 have hw:=hk.whole
 have h1:=om g hg (pg hw) (qR g hg hw (-1) (by unfold jE;omega))
 have h2:=A9 g hg hw hk.held
 obtain⟨_,hLl,_,_⟩:=ko hw hk.held
 have hin:=vI hk
 have hlen:=hk.len
 have hgl:=hg.len
 have hlens:=uP g
 generalize hL:(cx g).1=L at *
 refine aI xL rfl ?_
 repeat' (first|refine aQ ?_|exact cP|with_reducible refine aB ?_ ?_|((with_reducible refine Ask.mk ?_);first|exact bx|exact bt|(intro h;simp_all[br.cells]<;>fail)|(simp_all[br.cells]<;>fail))|(apply aA;(·exact bp))|refine aK (h1) ?_|refine aK (h2) ?_|refine aH ?_|((with_reducible refine aE ?_ ?_)<;>intro hc<;>try(exfalso;omega)))
 have e0:(((L.take 0).map hb++List.replicate (L.length - 0) 0).map u32:List AV)=List.replicate L.length (u32 0):=by simp
 simp only[List.length_map,Int.toNat_natCast]
 refine aF (fun i:Nat=>[(2, .pt 1 1 0 0),(3, .pt 9 1 0 0),(22, .im 1 .any (L.map dV)),(23,i64 L.length),(24,i64 i)])
  (fun i H n=>i<=L.length/\18<=n/\(∃d,bk H 1=some (.row 156 2 d [.agg [.sc (.slice none 0 0), .sc (.slice none 0 0)]]))/\(∃d,bk H 9=some (.row 156 2 d [.agg [fE (cj g (-1)), .sl 7 g.nodes.length]]))/\(∃d,bk H 7=some (.row 114 1 d (((L.take i).map hb++List.replicate (L.length - i) 0).map u32)))) (fun i=>L.length - i) 0 bu ⟨Nat.zero_le _,cI,⟨_,bm⟩, ?_, ?_⟩ ?_
 ·apply Exists.intro
  exact bm
 ·apply Exists.intro
  rw[e0,hLl]
  exact bm
 rintro i H n ⟨hi,hn,⟨d1,r1⟩,⟨d9,r9⟩,⟨d7,r7⟩⟩
 by_cases hil:i<L.length
 ·rw[yo hil] at r7
  have hll:=hlens i
  have e1:=fun d=>iy (l:=L) (i:=(i:Int)) (by rw[Int.toNat_natCast];exact hil) d
  rw[Int.toNat_natCast] at e1
  have hin2:=hin i
  have hnx:=yn hil
  generalize hl:L.getD i []=l at *
  repeat' (first|refine aQ ?_|exact aC|with_reducible refine aB ?_ ?_|(apply aA;(·(first|exact e1 _|exact bp)))|refine aH ?_|((with_reducible refine aE ?_ ?_)<;>intro hc<;>try(exfalso;omega)))
  simp only[List.length_map]
  refine aF (fun j:Nat=>[(2, .pt 1 1 0 0),(3, .pt 9 1 0 0),(6,i64 i),(22, .im 1 .any (L.map dV)),(23,i64 L.length),(24,i64 i),(29, .im 1 .any (l.map i64)),(30,i64 l.length),(31,i64 j)])
   (fun j H2 n2=>j<=l.length/\n<=n2/\(∃d,bk H2 1=some (.row 156 2 d [.agg [.sc (.slice none 0 0), .sc (.slice none 0 0)]]))/\(∃d,bk H2 9=some (.row 156 2 d [.agg [fE (cj g (-1)), .sl 7 g.nodes.length]]))/\(∃d,bk H2 7=some (.row 114 1 d ((kn L i (hb (l.take j))).map u32)))) (fun j=>l.length - j) 0 bu ⟨Nat.zero_le _,cI,⟨_,bm⟩,⟨_,bm⟩,⟨_,bm⟩⟩ ?_
  clear r1 r9 r7
  rintro j H2 n2 ⟨hj,hn2,⟨d1,r1⟩,⟨d9,r9⟩,⟨d7,r7⟩⟩
  by_cases hjl:j<l.length
  ·obtain⟨k0,k1⟩:=hin2 _ (cE 0 hjl)
   have e2:=fun d=>e9 hjl d
   have e3:=fun d=>CD hil (hb (l.take j)) d
   have hml:((kn L i (hb (l.take j))).map u32).length=g.nodes.length:=by rw[List.length_map,uN hil,hLl]
   have e4:=LO k0 (by omega:l.getD j 0<16)
   have hlt:∀m,hb (l.take m)<65536:=fun m=>LG (m:=16) fun k hk=>by have:=hin2 k (List.mem_of_mem_take hk);omega
   have e5:=J9 hjl
   have hp:2^(l.getD j 0).toNat<65536:=Nat.pow_lt_pow_right (by omega) (by omega:(l.getD j 0).toNat<16)
   have e6:=MU (show hb (l.take j)<4294967296 from Nat.lt_trans (hlt j) (by omega)) (show 2^(l.getD j 0).toNat<4294967296 by omega)
   rw[<-e5] at e6
   repeat' (first|refine aQ ?_|exact cP|with_reducible refine aB ?_ ?_|((with_reducible refine Ask.mk ?_);first|exact bx|(exact hml)|exact bt)|(apply aA;(·(first|exact e2 _|exact e3 _|exact bp)))|(simp only[e4])|(simp only[e6])|refine aH ?_|((with_reducible refine aE ?_ ?_)<;>intro hc<;>try(exfalso;omega)))
   exact⟨j+1,by omega,bu,by omega,cI,⟨_,bm⟩,⟨_,bm⟩,⟨_,by rw[<-CE hil (hb (l.take j)) (hb (l.take (j+1)))];exact bm⟩⟩
  ·have:j=l.length:=by omega
   subst this
   rw[List.take_length,hnx] at r7
   repeat' (first|refine aQ ?_|exact aC|with_reducible refine aB ?_ ?_|(apply aA;(·exact bp))|refine aH ?_|((with_reducible refine aE ?_ ?_)<;>intro hc<;>try(exfalso;omega)))
   exact⟨i+1,by omega,bu,by omega,by omega,⟨_,bm⟩,⟨_,bm⟩,⟨_,bm⟩⟩
 ·have:i=L.length:=by omega
  subst this
  rw[List.take_length,Nat.sub_self,List.replicate_zero,List.append_nil] at r7
  repeat' (first|refine aQ ?_|exact aC|with_reducible refine aB ?_ ?_|(apply aA;(·exact bp))|refine aH ?_|((with_reducible refine aE ?_ ?_)<;>intro hc<;>try(exfalso;omega)))
  rw[<-hLl]
  exact⟨⟨d7,rfl,bm⟩⟩
theorem xT {u:bq} (g:br) (hg:g.Wf) (hk:dR u g) (hl16:u.bz.length<=16):Pure Tryz.prog 116 [g.av] (fun r=>r=nk g):=by
 have hfit:cJ 0 (nk g):=by unfold nk;simp[cJ,cL,fE,cK]
 refine cV ((xS g hg hk hl16).mono ?_) hfit
 rintro r H n ⟨d,rfl,hb⟩
 have e1:dD.de H 6 (.agg [fE (cj g (-1)), .sl 7 (cx g).1.length])= .agg [dD.de H 5 (fE (cj g (-1))),dD.de H 5 (.sl 7 (cx g).1.length)]:=by
  simp only[de,List.map_cons,List.map_nil]
 rw[e1,dM hb (by simp),cf _ ((cK _ _).2 fun _ _=>by simp[cJ]),dB 5 (by simp[fE,cJ,cK])]
 rfl
noncomputable def gM (u:bq) (m:Nat):List AV:=(u.bo.take m).map nk
theorem zH {u:bq} {t:Nat} (h:t<u.bo.length):gM u (t+1)=gM u t++[nk (u.gr t)]:=by
 rw[gM,List.take_succ_eq_append_getElem h,gM,List.map_append,show u.gr t=u.bo[t] from gd h _];rfl
theorem pZ {u:bq} {t:Nat} (h:t<=u.bo.length):(gM u t).length=t:=by simp[gM];omega
theorem uC (u:bq) (m:Nat):cL 0 (gM u m):=(cK _ _).2 fun _ _=>by unfold nk;simp[cJ,cL,fE,cK]
set_option maxHeartbeats 4000000 in
theorem rH (u:bq) (hu:u.Wf):Pure Tryz.prog 111 [u.av] (fun r=>r=if k8 u=true then .dK [.im 2 .any (gM u u.bo.length),i64 0] else .dK [.sc (.slice none 0 0),i64 60]):=by
 have hck:=lJ u hu
 by_cases hr:cX u
 ·rw[iu.2 hr] at hck
  rw[if_pos (cR.2 hr)]
  have hfew:=hr.wI
  refine cV ?_ (by simp only[cJ,cL];exact⟨uC _ _,trivial,trivial⟩)
  refine aI uT rfl ?_
  repeat' (first|refine aQ ?_|exact cP|with_reducible refine aB ?_ ?_|((with_reducible refine Ask.mk ?_);first|exact bx|exact bt|(intro h;simp_all[bq.cells]<;>fail)|(simp_all[bq.cells]<;>fail))|(apply aA;(·exact bp))|refine aK (hck) ?_|refine aH ?_|((with_reducible refine aE ?_ ?_)<;>intro hc<;>try(exfalso;omega)))
  simp only[List.length_map]
  refine aP (fun t:Nat=>[(7, .sl 18 t),(20,fR u.bo),(21,i64 u.bo.length),(22,i64 t)])
   (fun t H n=>t<=u.bo.length/\19<=n/\(∃d,bk H 18=some (.row 156 2 d (gM u t)))) (fun t=>u.bo.length - t) 0 ⟨_,_,_,Rt.nil 7 156 2 (by omega) rfl,bu,Nat.zero_le _,cI,⟨_,bm⟩⟩ ?_
  rintro t H n ⟨ht,hn,⟨d,r18⟩⟩
  by_cases htl:t<u.bo.length
  ·have hl:=pZ (u:=u) ht
   have hg:=hu.bo _ (cE default htl)
   have hlk:=xT (u.gr t) hg (hr.gr htl) hfew.2.1
   have hnx:=zH htl
   have eg:=fun d=>j3 htl d
   repeat' (first|refine aQ ?_|exact cP|with_reducible refine aB ?_ ?_|((with_reducible refine Ask.mk ?_);first|exact bx|(exact hl)|exact bt|(intro h;simp_all[br.cells]<;>fail)|(simp_all[br.cells]<;>fail))|(apply aA;(·(first|exact eg _|exact bp)))|refine aK (hlk) ?_|refine aH ?_|((with_reducible refine aE ?_ ?_)<;>intro hc<;>try(exfalso;omega)))
   exact⟨t+1,by omega,_,_,_,Rt.refl _ _ _,bu,by omega,cI,⟨_,by rw[hnx];exact bm⟩⟩
  ·have:t=u.bo.length:=by omega
   subst this
   repeat' (first|refine aQ ?_|exact aC|with_reducible refine aB ?_ ?_|(apply aA;(·exact bp))|refine aH ?_|((with_reducible refine aE ?_ ?_)<;>intro hc<;>try(exfalso;omega)))
   refine⟨?_⟩
   have e1:∀H,dD.de H 6 (.dK [.sl 18 u.bo.length,i64 0])= .dK [dD.de H 5 (.sl 18 u.bo.length),i64 0]:=fun H=>by
    simp only[de,List.map_cons,List.map_nil]
   refine(e1 _).trans ?_
   rw[dM bm (pZ (Nat.le_refl _)),cf _ (uC _ _)]
 ·have h1:=jl hr
  rw[if_neg (mt cR.1 hr)]
  generalize gT u=r at *
  obtain⟨a,b,c⟩:=r
  dsimp only at h1 hck
  subst h1
  unfold y3 at hck
  refine aG uT rfl ?_
  repeat' (first|refine aQ ?_|exact cP|with_reducible refine aB ?_ ?_|((with_reducible refine Ask.mk ?_);first|exact bx|exact bt|(intro h;simp_all[bq.cells]<;>fail)|(simp_all[bq.cells]<;>fail))|(apply aA;(·exact bp))|refine aK (hck) ?_|refine aH ?_|((with_reducible refine aE ?_ ?_)<;>intro hc<;>try(exfalso;omega)))
  exact rfl
abbrev oy (p:Nat×Nat):AV:= .agg [u32 p.1,u32 p.2]
abbrev nn (E:vi):List AV:=lu (fun n:Int=>Value.int .i64 n) oy E
theorem N5 (E:vi) (t:Int):q6 false (.int .i64 t) (nn E) (oy (0,0))=some (oy ((cd E t).getD (0,0)),(cd E t).isSome):=(vN nj oy t E (oy (0,0))).trans (by cases cd E t<;>rfl)
theorem KR (E:vi) (t:Int) (v:Nat×Nat):tG false (.int .i64 t) (nn E) (oy v)=some (nn (gW E t v)):=vO nj oy t v E
theorem MY {t:Nat} (h1:t<8):IntKind.u32.wrap (1 * 2^(min ((t:Int)).toNat IntKind.u32.bits))=((2^t:Nat):Int):=by
 have:=LO (k:=(t:Int)) (by omega) (by omega)
 rw[this,Int.toNat_natCast]
def yR (E:vi):Prop:=∀v p,cd E v=some p->p.1<256/\p.2<65536
set_option maxHeartbeats 4000000 in
theorem AF (E:vi) (hE:yR E) (x:Acc) (i:Nat) (ht:x.1<8) (hk:∀k∈x.2.2,0<=k/\k<16) (b m:Nat) (H:Hp) (nx:Nat) (e em:TypeId) (d dm:AV) (hrb:bk H b=some (.row e 1 d [.mp m])) (hm:bk H m=some (.row em 0 dm (mapA (nn E)))) (hbn:b<nx) (hmn:m<nx) (hbm:b≠m):
 cM Tryz.prog 113 [.agg [i64 x.1,i64 i],x.2.1.av,u32 (hb x.2.2), .pt b 1 0 0] H nx (fun r H' n=>r= .dK []/\nx<=n/\(∃d,bk H' m=some (.row em 0 d (mapA (nn (l4 E x)))))/\∀y,y<nx->y≠m->bk H' y=bk H y):=by
 obtain⟨t,nd,l⟩:=x
 dsimp only at ht hk ⊢
 refine aI xJ rfl ?_
 have htp:=va nd
 cases hto:vd nd with
 |false=>
  rw[hto] at htp
  repeat' (first|refine aQ ?_|exact cP|with_reducible refine aB ?_ ?_|((with_reducible refine Ask.mk ?_);first|exact bx|exact bt|(intro h;simp_all[Node.cells]<;>fail)|(simp_all[Node.cells]<;>fail))|(apply aA;(·exact bp))|refine aK (htp) ?_|refine aH ?_|((with_reducible refine aE ?_ ?_)<;>intro hc<;>try(exfalso;omega)))
  refine⟨⟨rfl,cI,⟨dm, ?_⟩,fun y hy hym=>bw⟩⟩
  unfold l4
  rw[if_neg (by dsimp only;rw[hto];decide)]
  exact bm
 |true=>
  rw[hto] at htp
  have hst:l4 E (t,nd,l)=gW E nd.cT (mf ((cd E nd.cT).getD (0,65535)) t l):=by unfold l4;rw[if_pos hto]
  rw[hst]
  have hl:Go.Proofs.YtmonponfppdgfaaGreatDoor.hb l<65536:=LG (m:=16) fun k hkk=>by have:=hk k hkk;omega
  have e4:=MY ht
  have hp2:2^t<256:=Nat.pow_lt_pow_right (by omega) (by omega:t<8)
  have eg:=N5 E nd.cT
  cases hlk:cd E nd.cT with
  |none=>
   rw[hlk] at eg
   have e6:=MU (a:=0) (b:=2^t) (by omega) (by omega)
   have e7:=AP (a:=65535) (b:=Go.Proofs.YtmonponfppdgfaaGreatDoor.hb l) (by omega) (by omega)
   repeat' (first|refine aQ ?_|exact cP|with_reducible refine aB ?_ ?_|((with_reducible refine Ask.mk ?_);first|exact bx|exact bt|(intro h;simp_all[Node.cells]<;>fail)|(simp_all[Node.cells]<;>fail))|(apply aA;(·exact bp))|refine aK (htp) ?_|(simp only[e4])|(simp only[e6])|(simp only[e7])|(apply aD (g:=none);(·exact fun _=>eg))|(apply aD (g:=none);(·exact fun _=>KR _ _ _))|refine aH ?_|((with_reducible refine aE ?_ ?_)<;>intro hc<;>try(exfalso;omega)))
   refine aD (a:=nn (gW E nd.cT (mf (0,65535) t l))) (fun _=>(congrArg (tG false _ (nn E)) (?_:_=oy (mf (0,65535) t l))).trans (KR _ _ _)) ?_
   ·show AV.agg [AV.sc (.int .u32 (IntKind.u32.wrap (BitVec.ofInt IntKind.u32.bits ((0:Nat):Int)|||BitVec.ofInt IntKind.u32.bits ((2^t:Nat):Int)).toNat)),AV.sc (.int .u32 (IntKind.u32.wrap (BitVec.ofInt IntKind.u32.bits ((65535:Nat):Int)&&& BitVec.ofInt IntKind.u32.bits ((Go.Proofs.YtmonponfppdgfaaGreatDoor.hb l:Nat):Int)).toNat))]=_
    rw[e6,e7]
    rfl
   ·repeat' (first|refine aQ ?_|exact aC|with_reducible refine aB ?_ ?_|(apply aA;(·exact bp))|refine aH ?_|((with_reducible refine aE ?_ ?_)<;>intro hc<;>try(exfalso;omega)))
    exact⟨⟨rfl,cI,⟨_,bm⟩,fun y hy hym=>bw⟩⟩
  |some p=>
   rw[hlk] at eg
   have hp:=hE _ _ hlk
   have e6:=MU (a:=p.1) (b:=2^t) (by omega) (by omega)
   have e7:=AP (a:=p.2) (b:=Go.Proofs.YtmonponfppdgfaaGreatDoor.hb l) (by omega) (by omega)
   repeat' (first|refine aQ ?_|exact cP|with_reducible refine aB ?_ ?_|((with_reducible refine Ask.mk ?_);first|exact bx|exact bt|(intro h;simp_all[Node.cells]<;>fail)|(simp_all[Node.cells]<;>fail))|(apply aA;(·exact bp))|refine aK (htp) ?_|(simp only[e4])|(simp only[e6])|(simp only[e7])|(apply aD (g:=none);(·exact fun _=>eg))|(apply aD (g:=none);(·exact fun _=>KR _ _ _))|refine aH ?_|((with_reducible refine aE ?_ ?_)<;>intro hc<;>try(exfalso;omega)))
   refine aD (a:=nn (gW E nd.cT (mf p t l))) (fun _=>(congrArg (tG false _ (nn E)) (?_:_=oy (mf p t l))).trans (KR _ _ _)) ?_
   ·show AV.agg [AV.sc (.int .u32 (IntKind.u32.wrap (BitVec.ofInt IntKind.u32.bits ((p.1:Nat):Int)|||BitVec.ofInt IntKind.u32.bits ((2^t:Nat):Int)).toNat)),AV.sc (.int .u32 (IntKind.u32.wrap (BitVec.ofInt IntKind.u32.bits ((p.2:Nat):Int)&&& BitVec.ofInt IntKind.u32.bits ((Go.Proofs.YtmonponfppdgfaaGreatDoor.hb l:Nat):Int)).toNat))]=_
    rw[e6,e7]
    rfl
   ·repeat' (first|refine aQ ?_|exact aC|with_reducible refine aB ?_ ?_|(apply aA;(·exact bp))|refine aH ?_|((with_reducible refine aE ?_ ?_)<;>intro hc<;>try(exfalso;omega)))
    exact⟨⟨rfl,cI,⟨_,bm⟩,fun y hy hym=>bw⟩⟩
theorem s9 {l:List Acc} (h:∀x∈l,x.1<8):yR (jP l):=by
 intro v p hp
 rw[sm] at hp
 split at hp
 ·cases hp
 ·cases hp
  refine D3 fun x hx=> ?_
  unfold fH at hx
  rw[List.mem_map] at hx
  obtain⟨y,hy,rfl⟩:=hx
  exact h y (List.mem_filter.1 hy).1
theorem AM (t:Nat) (g:br) (m:Nat):∀x∈n0 t g m,x.1=t:=by
 intro x hx
 unfold n0 at hx
 rw[List.mem_filterMap] at hx
 obtain⟨i,hi,hx⟩:=hx
 unfold sy at hx
 split at hx
 ·cases hx;rfl
 ·cases hx
theorem AN (u:bq) (m:Nat):∀x∈iJ u m,x.1<m:=by
 intro x hx
 unfold iJ at hx
 rw[List.mem_flatMap] at hx
 obtain⟨t,ht,hx⟩:=hx
 rw[AM _ _ _ x hx];exact List.mem_range.1 ht
theorem mG {l:List Bool} {k:Nat} (d:AV) (h:k<l.length):(l.map bl).getD ((k:Int)).toNat d=bl (iF l (k:Int)):=kF (k:=(k:Int)) d (by rw[Int.toNat_natCast];exact h)
theorem MG {L:List (List Int)} {i:Nat} (d:AV) (h:i<L.length):((L.map Go.Proofs.YtmonponfppdgfaaGreatDoor.hb).map u32).getD ((i:Int)).toNat d=u32 (Go.Proofs.YtmonponfppdgfaaGreatDoor.hb (L.getD i [])):=by
 rw[Int.toNat_natCast,dG u32 _ _ _ (by simpa using h)]
 congr 1
 simp[List.getD,h]
theorem IB {u:bq} {t:Nat} (d:AV) (h:t<u.bo.length):(gM u u.bo.length).getD ((t:Int)).toNat d= .agg [.im 1 .any ((cj (u.gr t) (-1)).map bl), .im 1 .any (((cx (u.gr t)).1.map Go.Proofs.YtmonponfppdgfaaGreatDoor.hb).map u32)]:=by
 rw[Int.toNat_natCast,gM,List.take_length,dG nk _ _ _ h];rfl
set_option maxHeartbeats 8000000 in
theorem BU (u:bq) (hu:u.Wf) (hr:cX u) (b m:Nat) (H:Hp) (nx:Nat) (e em:TypeId) (d dm:AV) (hrb:bk H b=some (.row e 1 d [.mp m])) (hm:bk H m=some (.row em 0 dm (mapA (nn [])))) (hbn:b<nx) (hmn:m<nx) (hbm:b≠m):
 cM Tryz.prog 112 [u.av, .im 2 .any (gM u u.bo.length), .fn (.func 113) [] [.pt b 1 0 0]] H nx (fun r H' n=>r= .dK []/\nx<=n/\(∃d,bk H' m=some (.row em 0 d (mapA (nn (jP (iJ u u.bo.length))))))/\∀y,y<nx->y≠m->bk H' y=bk H y):=by
 have hfew:=hr.wI
 have hll:=pZ (u:=u) (Nat.le_refl _)
 refine aI xI rfl ?_
 repeat' (first|refine aQ ?_|exact cP|with_reducible refine aB ?_ ?_|((with_reducible refine Ask.mk ?_);first|exact bx|exact bt|(intro h;simp_all[bq.cells]<;>fail)|(simp_all[bq.cells]<;>fail))|(apply aA;(·exact bp))|refine aH ?_|((with_reducible refine aE ?_ ?_)<;>intro hc<;>try(exfalso;omega)))
 simp only[List.length_map]
 refine aF (fun t:Nat=>[(1, .im 2 .any (gM u u.bo.length)),(2, .fn (.func 113) [] [.pt b 1 0 0]),(11,fR u.bo),(12,i64 u.bo.length),(13,i64 t)])
  (fun t H' n=>t<=u.bo.length/\nx+5<=n/\(∃d,bk H' m=some (.row em 0 d (mapA (nn (jP (iJ u t))))))/\∀y,y<nx->y≠m->bk H' y=bk H y) (fun t=>u.bo.length - t) 0 bu ⟨Nat.zero_le _,cI,⟨_,bm⟩,fun y hy hym=>bw⟩ ?_
 rintro t H1 n ⟨ht,hn,⟨d1,r1⟩,hk1⟩
 by_cases htl:t<u.bo.length
 ·have hg:=hu.bo _ (cE default htl)
  have eg:=fun d=>j3 htl d
  have hgo:=hr.gr htl
  have hglen:=hgo.len
  have el:=fun d=>IB (u:=u) d htl
  repeat' (first|refine aQ ?_|exact cP|with_reducible refine aB ?_ ?_|((with_reducible refine Ask.mk ?_);first|exact bx|exact bt|(intro h;simp_all[br.cells]<;>fail)|(simp_all[br.cells]<;>fail))|(apply aA;(·(first|exact eg _|exact bp)))|refine aH ?_|((with_reducible refine aE ?_ ?_)<;>intro hc<;>try(exfalso;omega)))
  simp only[List.length_map]
  refine aF (fun i:Nat=>[(1, .im 2 .any (gM u u.bo.length)),(2, .fn (.func 113) [] [.pt b 1 0 0]),(6,i64 t),(11,fR u.bo),(12,i64 u.bo.length),(13,i64 t),(19,ee (u.gr t).nodes),(20,i64 (u.gr t).nodes.length),(21,i64 i)])
   (fun i H' n'=>i<=(u.gr t).nodes.length/\n<=n'/\(∃d,bk H' m=some (.row em 0 d (mapA (nn (jP (iJ u t++n0 t (u.gr t) i))))))/\∀y,y<nx->y≠m->bk H' y=bk H y) (fun i=>(u.gr t).nodes.length - i) 0 bu ⟨Nat.zero_le _,cI,⟨_,by rw[show iJ u t++n0 t (u.gr t) 0=iJ u t by simp[n0]];exact bm⟩,fun y hy hym=>Eq.trans bw (hk1 y hy hym)⟩ ?_
  clear r1 hk1
  rintro i H2 n2 ⟨hi,hn2,⟨d2,r2⟩,hk2⟩
  by_cases hil:i<(u.gr t).nodes.length
  ·have en:=fun d=>eH hil d
   have er:=fun d=>mG (l:=cj (u.gr t) (-1)) (k:=i) d (by rw[dW];exact hil)
   have hLl:=(ko hgo.whole hgo.held).2.1
   have eh:=fun d=>MG (L:=(cx (u.gr t)).1) (i:=i) d (by rw[hLl];exact hil)
   have hrl:((cj (u.gr t) (-1)).map bl).length=(u.gr t).nodes.length:=by rw[List.length_map,dW]
   have hhl:(((cx (u.gr t)).1.map Go.Proofs.YtmonponfppdgfaaGreatDoor.hb).map u32).length=(u.gr t).nodes.length:=by rw[List.length_map,List.length_map,hLl]
   have hac:=tW t (u.gr t) i
   have hb2:bk H2 b=some (.row e 1 d [.mp m]):=(hk2 b hbn hbm).trans hrb
   cases hrc:iF (cj (u.gr t) (-1)) (i:Int) with
   |false=>
    rw[show sy t (u.gr t) i=none by unfold sy;rw[if_neg (by rw[hrc];decide)]] at hac
    rw[hrc] at er
    repeat' (first|refine aQ ?_|exact cP|with_reducible refine aB ?_ ?_|((with_reducible refine Ask.mk ?_);first|exact bx|(exact hll)|(exact hrl)|exact bt|(intro h;simp_all[Node.cells]<;>fail)|(simp_all[Node.cells]<;>fail))|(apply aA;(·(first|exact en _|exact el _|exact er _|exact bp)))|refine aH ?_|((with_reducible refine aE ?_ ?_)<;>intro hc<;>try(exfalso;omega)))
    refine⟨i+1,by omega,bu,by omega,by omega,⟨_,by rw[hac,Option.toList_none,List.append_nil];exact bm⟩,fun y hy hym=>Eq.trans bw (hk2 y hy hym)⟩
   |true=>
    rw[show sy t (u.gr t) i=some (t,(u.gr t).nd i,(cx (u.gr t)).1.getD i []) by unfold sy;rw[if_pos hrc]] at hac
    rw[hrc] at er
    repeat' (first|refine aQ ?_|exact cP|with_reducible refine aB ?_ ?_|((with_reducible refine Ask.mk ?_);first|exact bx|(exact hll)|(exact hrl)|(exact hhl)|exact bt|(intro h;simp_all[Node.cells]<;>fail)|(simp_all[Node.cells]<;>fail))|(apply aA;(·(first|exact en _|exact el _|exact er _|exact eh _|exact bp)))|refine aH ?_|((with_reducible refine aE ?_ ?_)<;>intro hc<;>try(exfalso;omega)))
    refine aJ (AF (jP (iJ u t++n0 t (u.gr t) i)) (s9 fun x hx=> ?_) (t,(u.gr t).nd i,(cx (u.gr t)).1.getD i []) i (by dsimp only;omega) (fun k hk=> ?_) b m _ _ e em d d2 ?_ ?_ ?_ ?_ hbm) ?_
    ·rcases List.mem_append.1 hx with hx|hx
     ·have:=AN u t x hx;omega
     ·rw[AM _ _ _ x hx];omega
    ·have:=vI hgo i k hk;omega
    ·exact bm
    ·exact bm
    ·exact cI
    ·exact cI
    rintro _ H3 n3 ⟨rfl,hn3,⟨d3,r3⟩,hk3⟩
    have hn23:n2<=n3:=Nat.le_trans cI hn3
    have hk4:∀y,y<nx->y≠m->bk H3 y=bk H y:=fun y hy hym=>(hk3 y (Nat.lt_of_lt_of_le (show y<n2 by omega) cI) hym).trans (Eq.trans bw (hk2 y hy hym))
    rw[<-ud,List.append_assoc] at r3
    rw[Option.toList_some] at hac
    rw[<-hac] at r3
    clear hk3
    repeat' (first|refine aQ ?_|exact aC|with_reducible refine aB ?_ ?_|(apply aA;(·exact bp))|refine aH ?_|((with_reducible refine aE ?_ ?_)<;>intro hc<;>try(exfalso;omega)))
    exact⟨i+1,by omega,bu,by omega,by omega,⟨_,bm⟩,fun y hy hym=>Eq.trans bw (hk4 y hy hym)⟩
  ·have:i=(u.gr t).nodes.length:=by omega
   subst this
   repeat' (first|refine aQ ?_|exact aC|with_reducible refine aB ?_ ?_|(apply aA;(·exact bp))|refine aH ?_|((with_reducible refine aE ?_ ?_)<;>intro hc<;>try(exfalso;omega)))
   exact⟨t+1,by omega,bu,by omega,by omega,⟨_,by rw[tY];exact bm⟩,fun y hy hym=>Eq.trans bw (hk2 y hy hym)⟩
 ·have:t=u.bo.length:=by omega
  subst this
  repeat' (first|refine aQ ?_|exact aC|with_reducible refine aB ?_ ?_|(apply aA;(·exact bp))|refine aH ?_|((with_reducible refine aE ?_ ?_)<;>intro hc<;>try(exfalso;omega)))
  exact⟨⟨rfl,cI,⟨_,bm⟩,fun y hy hym=>Eq.trans bw (hk1 y hy hym)⟩⟩
set_option maxHeartbeats 4000000 in
theorem DR (u:bq) (hu:u.Wf) (hr:cX u) (H:Hp) (nx:Nat):cM Tryz.prog 99 [u.av] H nx (fun r H' n=>∃m d em,r= .dK [.mp m,i64 0]/\nx<=m/\m<n/\bk H' m=some (.row em 0 d (mapA (nn (jP (iJ u u.bo.length)))))/\∀y,y<nx->bk H' y=bk H y):=by
 have hak:=rH u hu
 rw[if_pos (cR.2 hr)] at hak
 refine aI CW rfl ?_
 repeat' (first|refine aQ ?_|exact cP|with_reducible refine aB ?_ ?_|((with_reducible refine Ask.mk ?_);first|exact bx|exact bt|(intro h;simp_all[bq.cells]<;>fail)|(simp_all[bq.cells]<;>fail))|(apply aA;(·exact bp))|refine aK (hak) ?_|refine aH ?_|((with_reducible refine aE ?_ ?_)<;>intro hc<;>try(exfalso;omega)))
 refine aJ (BU u hu hr (nx+12) (nx+11) _ _ 138 3 (.sc (.map none)) .any ?_ ?_ ?_ ?_ (by omega)) ?_
 ·exact bm
 ·exact bm
 ·exact cI
 ·exact cI
 rintro _ H3 n3 ⟨rfl,hn3,⟨d3,r3⟩,hk3⟩
 have r12:bk H3 (nx+12)=some (.row 138 1 (.sc (.map none)) [.mp (nx+11)]):=(hk3 (nx+12) cI (by omega)).trans bm
 have hn11:nx+12<n3:=Nat.lt_of_lt_of_le cI hn3
 have hk4:∀y,y<nx->bk H3 y=bk H y:=fun y hy=>(hk3 y (Nat.lt_of_lt_of_le hy cI) (by omega)).trans bw
 clear hk3
 repeat' (first|refine aQ ?_|exact aC|with_reducible refine aB ?_ ?_|(apply aA;(·exact bp))|refine aH ?_|((with_reducible refine aE ?_ ?_)<;>intro hc<;>try(exfalso;omega)))
 exact⟨⟨nx+11,d3,_,rfl,cI,cI,bm,fun y hy=>Eq.trans bw (hk4 y hy)⟩⟩
theorem JJ (u:bq) (hu:u.Wf) (hr:¬cX u):Pure Tryz.prog 99 [u.av] (fun r=>r= .dK [.sc (.map none),i64 60]):=by
 have hak:=rH u hu
 rw[if_neg (mt cR.1 hr)] at hak
 refine aG CW rfl ?_
 repeat' (first|refine aQ ?_|exact cP|with_reducible refine aB ?_ ?_|((with_reducible refine Ask.mk ?_);first|exact bx|exact bt|(intro h;simp_all[bq.cells]<;>fail)|(simp_all[bq.cells]<;>fail))|(apply aA;(·exact bp))|refine aK (hak) ?_|refine aH ?_|((with_reducible refine aE ?_ ?_)<;>intro hc<;>try(exfalso;omega)))
 exact rfl
noncomputable def fy (u:bq) (m:Nat):List cF:=(List.range m).map fun(v:Nat)=>mH u.bz.length (fH (iJ u u.bo.length) v)
theorem oN (u:bq) (m:Nat):(fy u (m+1)).map cF.av=(fy u m).map cF.av++[(mH u.bz.length (fH (iJ u u.bo.length) m)).av]:=by
 rw[fy,List.range_succ,List.map_append,List.map_append];rfl
theorem iB (l:List cF):cL 0 (l.map cF.av):=(cK _ _).2 fun _ _=>by simp[cJ,cL,cF.cells]
noncomputable def gk (u:bq):AV:= .im 3 .any ((ck u).map cF.av)
set_option maxHeartbeats 4000000 in
theorem DP (u:bq) (hu:u.Wf):Pure Tryz.prog 71 [u.av, .fn (.func 72) [] []] (fun r=>r=if k8 u=true then .dK [gk u,i64 0] else .dK [.sc (.slice none 0 0),i64 60]):=by
 by_cases hr:cX u
 ·rw[if_pos (cR.2 hr)]
  have hfew:=hr.wI
  refine cV ?_ (by simp only[cJ,cL,gk];exact⟨iB _,trivial,trivial⟩)
  refine aI CU rfl ?_
  repeat' (first|refine aQ ?_|exact cP|with_reducible refine aB ?_ ?_|((with_reducible refine Ask.mk ?_);first|exact bx|exact bt|(intro h;simp_all[bq.cells]<;>fail)|(simp_all[bq.cells]<;>fail))|(apply aA;(·exact bp))|refine aH ?_|((with_reducible refine aE ?_ ?_)<;>intro hc<;>try(exfalso;omega)))
  refine aJ (DR u hu hr _ _) ?_
  rintro _ H1 n1 ⟨m,d1,em,rfl,hm1,hm2,r1,hk1⟩
  have r0:bk H1 0=some (.row 25 3 .any [u.av]):=(hk1 0 cI).trans bm
  have hm0:4<=m:=hm1
  clear hk1
  repeat' (first|refine aQ ?_|exact cP|with_reducible refine aB ?_ ?_|((with_reducible refine Ask.mk ?_);first|exact bx|exact bt|(intro h;simp_all[bq.cells]<;>fail)|(simp_all[bq.cells]<;>fail))|(apply aA;(·exact bp))|refine aH ?_|((with_reducible refine aE ?_ ?_)<;>intro hc<;>try(exfalso;omega)))
  simp only[List.length_map]
  have hcl:∀v,(fy u v).length=v:=fun v=>by simp[fy]
  refine aP (fun v:Nat=>[(1, .fn (.func 72) [] []),(6, .mp m),(8, .sl (n1+12) v),(20,i64 u.shared.length),(21,i64 v)])
   (fun v H n=>v<=u.shared.length/\n1+13<=n/\(∃d,bk H m=some (.row em 0 d (mapA (nn (jP (iJ u u.bo.length))))))/\(∃d,bk H (n1+12)=some (.row 80 3 d ((fy u v).map cF.av)))) (fun v=>u.shared.length - v) 0 ⟨_,_,_,Rt.nil 8 80 3 (by omega) rfl,bu,Nat.zero_le _,cI,⟨_,bm⟩,⟨_,bm⟩⟩ ?_
  clear r1 r0
  rintro v H2 n2 ⟨hv,hn2,⟨d2,r2⟩,⟨d3,r3⟩⟩
  by_cases hvl:v<u.shared.length
  ·have eg:=N5 (jP (iJ u u.bo.length)) (v:Int)
   have hce:=EA hr (v:Int)
   have hsm:yR (jP (iJ u u.bo.length)):=s9 fun x hx=>by have:=AN u _ x hx;omega
   have hml:((fy u v).map cF.av).length=v:=by rw[List.length_map,hcl]
   have hnx:=oN u v
   have hlt:((cd (jP (iJ u u.bo.length)) (v:Int)).getD (0,0)).1<256/\((cd (jP (iJ u u.bo.length)) (v:Int)).getD (0,0)).2<65536:=by
    cases h:cd (jP (iJ u u.bo.length)) (v:Int) with
    |none=>exact⟨by decide,by decide⟩
    |some p=>exact hsm _ _ h
   have hcp:=y4 _ hlt.1 hlt.2
   rw[hce] at hcp
   repeat' (first|refine aQ ?_|exact cP|with_reducible refine aB ?_ ?_|((with_reducible refine Ask.mk ?_);first|exact bx|(exact hml)|exact bt)|(apply aA;(·exact bp))|refine aK (hcp) ?_|(apply aD (g:=none);(·exact fun _=>eg))|refine aH ?_|((with_reducible refine aE ?_ ?_)<;>intro hc<;>try(exfalso;omega)))
   exact⟨v+1,by omega,_,_,_,Rt.refl _ _ _,bu,by omega,cI,⟨_,bm⟩,⟨_,by rw[hnx];exact bm⟩⟩
  ·have:v=u.shared.length:=by omega
   subst this
   repeat' (first|refine aQ ?_|exact aC|with_reducible refine aB ?_ ?_|(apply aA;(·exact bp))|refine aH ?_|((with_reducible refine aE ?_ ?_)<;>intro hc<;>try(exfalso;omega)))
   refine⟨?_⟩
   have e1:∀H,dD.de H 6 (.dK [.sl (n1+12) u.shared.length,i64 0])= .dK [dD.de H 5 (.sl (n1+12) u.shared.length),i64 0]:=fun H=>by
    simp only[de,List.map_cons,List.map_nil]
   refine(e1 _).trans ?_
   rw[dM bm (by rw[List.length_map,hcl]),cf _ (iB _)]
   rfl
 ·rw[if_neg (mt cR.1 hr)]
  have hub:=JJ u hu hr
  refine aG CU rfl ?_
  repeat' (first|refine aQ ?_|exact cP|with_reducible refine aB ?_ ?_|((with_reducible refine Ask.mk ?_);first|exact bx|exact bt|(intro h;simp_all[bq.cells]<;>fail)|(simp_all[bq.cells]<;>fail))|(apply aA;(·exact bp))|refine aK (hub) ?_|refine aH ?_|((with_reducible refine aE ?_ ?_)<;>intro hc<;>try(exfalso;omega)))
  exact rfl
theorem lK (u:bq) (hu:u.Wf):Pure Tryz.prog 41 [u.av] (fun r=>r=if k8 u=true then .dK [gk u,i64 0] else .dK [.sc (.slice none 0 0),i64 60]):=by
 have h:=DP u hu
 refine aG GF rfl ?_
 by_cases hr:cX u
 ·rw[if_pos (cR.2 hr)] at h ⊢
  unfold gk at h ⊢
  repeat' (first|refine aQ ?_|exact cP|with_reducible refine aB ?_ ?_|((with_reducible refine Ask.mk ?_);first|exact bx|exact bt|(intro h;simp_all[bq.cells]<;>fail)|(simp_all[bq.cells]<;>fail))|(apply aA;(·exact bp))|refine aK (h) ?_|refine aH ?_|((with_reducible refine aE ?_ ?_)<;>intro hc<;>try(exfalso;omega)))
  exact vg.eq (by simp only[cJ,cL];exact⟨iB _,trivial,trivial⟩) rfl
 ·rw[if_neg (mt cR.1 hr)] at h ⊢
  repeat' (first|refine aQ ?_|exact cP|with_reducible refine aB ?_ ?_|((with_reducible refine Ask.mk ?_);first|exact bx|exact bt|(intro h;simp_all[bq.cells]<;>fail)|(simp_all[bq.cells]<;>fail))|(apply aA;(·exact bp))|refine aK (h) ?_|refine aH ?_|((with_reducible refine aE ?_ ?_)<;>intro hc<;>try(exfalso;omega)))
  exact rfl
def zG (n:Node):Bool:=decide (n.kind=2\/n.kind=4)
def uX (n:Node):AV:= .agg [bl (lj n.kind),bl (decide (n.kind=1)&&eB n.op),bl (sY n),bl (zG n)]
set_option maxRecDepth 100000 in
theorem mU (n:Node) (ho:0<=n.op) (h:1<=n.kind/\n.kind<10) (hop:(n.kind=1->n.op<19)/\(n.kind≠1->n.op=0)):Pure Tryz.prog 66 [n.av] (fun r=>r=uX n):=by
 obtain⟨h0,h1⟩:=h
 obtain⟨kind,op,slot,cT,a,b,next,jc,origin⟩:=n
 simp only at h0 h1 ho hop
 by_cases hk1:kind=1
 ·subst hk1
  have h19:=hop.1 rfl
  have hk:op=0\/op=1\/op=2\/op=3\/op=4\/op=5\/op=6\/op=7\/op=8\/op=9\/op=10\/op=11\/op=12\/op=13\/op=14\/op=15\/op=16\/op=17\/op=18:=by omega
  rcases hk with rfl|rfl|rfl|rfl|rfl|rfl|rfl|rfl|rfl|rfl|rfl|rfl|rfl|rfl|rfl|rfl|rfl|rfl|rfl
  all_goals exact u7 (by simp[cJ,cL,uX]) (by kernel_rfl)
 ·have hk:kind=2\/kind=3\/kind=4\/kind=5\/kind=6\/kind=7\/kind=8\/kind=9:=by omega
  have h2:=hop.2 hk1
  subst h2
  rcases hk with rfl|rfl|rfl|rfl|rfl|rfl|rfl|rfl
  all_goals exact u7 (by simp[cJ,cL,uX]) (by kernel_rfl)
theorem wE (n:Node) (ho:0<=n.op) (h:1<=n.kind/\n.kind<10) (hop:(n.kind=1->n.op<19)/\(n.kind≠1->n.op=0)) (s:Nat):Pure Tryz.prog 64 [n.av,i64 s] (fun r=>r=bl (eM n s)):=by
 have hm:=mU n ho h hop
 unfold uX at hm
 refine aG G3 rfl ?_
 repeat' (first|refine aQ ?_|exact cP|with_reducible refine aB ?_ ?_|((with_reducible refine Ask.mk ?_);first|exact bx|(intro h1 h2;rw[h1,h2];rfl)|exact bt|(intro h;simp_all[Node.cells]<;>fail)|(simp_all[Node.cells]<;>fail))|(apply aA;(·exact bp))|refine aK (hm) ?_|refine aH ?_|((with_reducible refine aE ?_ ?_)<;>intro hc<;>try(exfalso;omega)))
 refine cn ?_
 unfold eM
 rw[show decide (n.kind=1\/n.kind=3\/n.kind=4\/n.kind=7\/n.kind=8)=lj n.kind from rfl]
 cases lj n.kind<;>cases n.a.eA<;>cases(decide (n.kind=1)&&eB n.op)<;>cases n.b.eA<;>simp
theorem zF (n:Node) (ho:0<=n.op) (h:1<=n.kind/\n.kind<10) (hop:(n.kind=1->n.op<19)/\(n.kind≠1->n.op=0)) (s:Nat):Pure Tryz.prog 65 [n.av,i64 s] (fun r=>r=bl (fN n s)):=by
 have hm:=mU n ho h hop
 unfold uX at hm
 refine aG G4 rfl ?_
 repeat' (first|refine aQ ?_|exact cP|with_reducible refine aB ?_ ?_|((with_reducible refine Ask.mk ?_);first|exact bx|(intro h1 h2;rw[h1,h2];rfl)|exact bt|(intro h;simp_all[Node.cells]<;>fail)|(simp_all[Node.cells]<;>fail))|(apply aA;(·exact bp))|refine aK (hm) ?_|refine aH ?_|((with_reducible refine aE ?_ ?_)<;>intro hc<;>try(exfalso;omega)))
 refine cn ?_
 unfold fN
 cases sY n<;>simp
noncomputable def cB (g:br) (t:Nat) (cls:List cF):List AV:=[st g.name,i64 g.locals,i64 g.cZ,ee g.nodes,i64 t, .im 3 .any (cls.map cF.av), .im 1 .any ((cj g (-1)).map bl)]
noncomputable abbrev eG (g:br) (t:Nat) (cls:List cF):AV:= .ip 7 .any [.agg (cB g t cls)] 0 0
theorem wB {l:List cF} {v:Int} (h:v.toNat<l.length) (d:AV):(l.map cF.av).getD v.toNat d=(l.getD v.toNat default).av:=dG cF.av l _ d h
theorem sP (g:br) (t:Nat) (cls:List cF) (v:Nat) (hv:v<cls.length):Pure Tryz.prog 44 [eG g t cls,i64 v] (fun r=>r=bl (ny cls t v)):=by
 have ec:=fun d=>wB (l:=cls) (v:=(v:Int)) (by rw[Int.toNat_natCast];exact hv) d
 refine aG GI rfl ?_
 repeat' (first|refine aQ ?_|exact cP|with_reducible refine aB ?_ ?_|((with_reducible refine Ask.mk ?_);first|exact bx|exact bt|(intro h;simp_all[cB,cF.cells]<;>fail)|(simp_all[cB,cF.cells]<;>fail))|(apply aA;(·(first|exact ec _|exact bp)))|refine aH ?_|((with_reducible refine aE ?_ ?_)<;>intro hc<;>try(exfalso;omega)))
 rw[Int.toNat_natCast]
 refine cn ?_
 unfold ny
 cases decide ((cls.getD v default).kind=1)<;>simp
theorem MJ {T:gx} {i:Int} (h:i.toNat<T.length) (d:AV):(T.map fE).getD i.toNat d= .im 1 .any ((T.getD i.toNat []).map bl):=dG fE T _ d h
theorem gS {l:List Bool} {k:Nat} (h:k<l.length) (d:AV):(l.map bl).getD ((k:Int)).toNat d=bl (l.getD k false):=by
 rw[Int.toNat_natCast];exact dG bl l k d h
theorem j4 {T:gx} {m n:Nat} (hT:Shape T m n) (to:Int) (h0:0<=to) (h1:to.toNat<m) (k:Nat) (hk:k<n) (b1 b2:Nat) (H:Hp) (nx:Nat) (e1 e2:TypeId) (d1 d2:AV) (hb1:bk H b1=some (.row e1 1 d1 [.im 1 .any (T.map fE)])) (hb2:bk H b2=some (.row e2 1 d2 [i64 k])) (hn1:b1<nx) (hn2:b2<nx):
 kW Tryz.prog 77 [i64 to, .pt b1 1 0 0, .pt b2 1 0 0] H nx (bl (dj T to.toNat k)):=by
 have eT:=fun d=>MJ (T:=T) (i:=to) (by rw[hT.len];exact h1) d
 have ek:=fun d=>gS (l:=T.getD to.toNat []) (k:=k) (by rw[hT.row _ h1];exact hk) d
 have hl1:(T.map fE).length=m:=by rw[List.length_map,hT.len]
 have hl2:((T.getD to.toNat []).map bl).length=n:=by rw[List.length_map,hT.row _ h1]
 refine aT HE rfl ?_
 repeat' (first|refine aQ ?_|exact cP|with_reducible refine aB ?_ ?_|((with_reducible refine Ask.mk ?_);first|exact bx|(exact hl1)|(exact hl2)|exact bt)|(apply aA;(·(first|exact eT _|exact ek _|exact bp)))|refine aH ?_|((with_reducible refine aE ?_ ?_)<;>intro hc<;>try(exfalso;omega)))
 exact qY.look rfl kE
def jm (p:Int->Bool):List Int->Nat->Int
 |[],_=>-1
 |x::r,i=>if p x=true then(i:Int) else jm p r (i+1)
theorem wT (p:Int->Bool) (l:List Int) {i:Nat} (h:i<l.length):jm p (l.drop i) i=if p (l.getD i 0)=true then(i:Int) else jm p (l.drop (i+1)) (i+1):=by
 rw[List.drop_eq_getElem_cons h,jm,gd h]
theorem ra (p:Int->Bool):∀(l:List Int) (i:Nat),decide (0<=jm p l i)=l.any p
 |[],i=>by simp[jm]
 |x::r,i=>by
  rw[jm]
  by_cases h:p x=true
  ·rw[if_pos h];simp[h]
  ·rw[if_neg h,ra p r];simp[h]
theorem ry {T:gx} {m n:Nat} (hT:Shape T m n) (l:List Int) (hl2:l.length<=2) (hl:∀to∈l,0<=to/\to.toNat<m) (k:Nat) (hk:k<n) (b1 b2:Nat) (H:Hp) (nx:Nat) (e1 e2:TypeId) (d1 d2:AV) (hb1:bk H b1=some (.row e1 1 d1 [.im 1 .any (T.map fE)])) (hb2:bk H b2=some (.row e2 1 d2 [i64 k])) (hn1:b1<nx) (hn2:b2<nx):
 kW Tryz.prog 101 [.im 1 .any (l.map i64), .fn (.func 77) [] [.pt b1 1 0 0, .pt b2 1 0 0]] H nx (i64 (jm (fun j=>dj T j.toNat k) l 0)):=by
 refine aT wy rfl ?_
 repeat' (first|refine aQ ?_|exact aC|with_reducible refine aB ?_ ?_|(apply aA;(·exact bp))|refine aH ?_|((with_reducible refine aE ?_ ?_)<;>intro hc<;>try(exfalso;omega)))
 simp only[List.length_map]
 refine aF (fun i:Nat=>[(0, .im 1 .any (l.map i64)),(1, .fn (.func 77) [] [.pt b1 1 0 0, .pt b2 1 0 0]),(7,i64 l.length),(8,i64 i)])
  (fun i H' n'=>i<=l.length/\nx<=n'/\(∀y,y<nx->bk H' y=bk H y)/\jm (fun j=>dj T j.toNat k) (l.drop i) i=jm (fun j=>dj T j.toNat k) l 0) (fun i=>l.length - i) 0 bu ⟨Nat.zero_le _,cI,fun y hy=>bw,rfl⟩ ?_
 rintro i H1 n1 ⟨hi,hn,hk1,hf⟩
 by_cases hil:i<l.length
 ·obtain⟨t0,t1⟩:=hl _ (cE 0 hil)
  have e:=fun d=>e9 hil d
  rw[wT _ _ hil] at hf
  have g1:=(hk1 b1 hn1).trans hb1
  have g2:=(hk1 b2 hn2).trans hb2
  cases ht:dj T (l.getD i 0).toNat k with
  |true=>
   rw[if_pos ht] at hf
   repeat' (first|refine aQ ?_|exact aC|with_reducible refine aB ?_ ?_|(apply aA;(·(first|exact e _|exact bp)))|((refine aS ((ht▸j4 hT (l.getD i 0) t0 t1 k hk b1 b2 _ _ e1 e2 d1 d2 (by exact bm) (by exact bm) cI cI)) ?_ ?_);(·exact True.intro))|((refine aR (fun _=>(ht▸j4 hT (l.getD i 0) t0 t1 k hk b1 b2 _ _ e1 e2 d1 d2 (by exact bm) (by exact bm) cI cI)) ?_ ?_);(·exact True.intro))|refine aH ?_|((with_reducible refine aE ?_ ?_)<;>intro hc<;>try(exfalso;omega)))
   exact qY.look (by rw[<-hf]) (fun y hy=>Eq.trans bw (hk1 y hy))
  |false=>
   rw[if_neg (by rw[ht];decide)] at hf
   repeat' (first|refine aQ ?_|exact aC|with_reducible refine aB ?_ ?_|(apply aA;(·(first|exact e _|exact bp)))|((refine aS ((ht▸j4 hT (l.getD i 0) t0 t1 k hk b1 b2 _ _ e1 e2 d1 d2 (by exact bm) (by exact bm) cI cI)) ?_ ?_);(·exact True.intro))|((refine aR (fun _=>(ht▸j4 hT (l.getD i 0) t0 t1 k hk b1 b2 _ _ e1 e2 d1 d2 (by exact bm) (by exact bm) cI cI)) ?_ ?_);(·exact True.intro))|refine aH ?_|((with_reducible refine aE ?_ ?_)<;>intro hc<;>try(exfalso;omega)))
   exact⟨i+1,by omega,bu,by omega,by omega,fun y hy=>Eq.trans bw (hk1 y hy),hf⟩
 ·have:i=l.length:=by omega
  subst this
  rw[List.drop_eq_nil_of_le (Nat.le_refl _),jm] at hf
  repeat' (first|refine aQ ?_|exact aC|with_reducible refine aB ?_ ?_|(apply aA;(·exact bp))|refine aH ?_|((with_reducible refine aE ?_ ?_)<;>intro hc<;>try(exfalso;omega)))
  exact qY.look (by rw[<-hf]) (fun y hy=>Eq.trans bw (hk1 y hy))
theorem nL {T:gx} {m n:Nat} (hT:Shape T m n) (l:List Int) (hl2:l.length<=2) (hl:∀to∈l,0<=to/\to.toNat<m) (k:Nat) (hk:k<n) (b1 b2:Nat) (H:Hp) (nx:Nat) (e1 e2:TypeId) (d1 d2:AV) (hb1:bk H b1=some (.row e1 1 d1 [.im 1 .any (T.map fE)])) (hb2:bk H b2=some (.row e2 1 d2 [i64 k])) (hn1:b1<nx) (hn2:b2<nx):
 kW Tryz.prog 75 [.im 1 .any (l.map i64), .fn (.func 77) [] [.pt b1 1 0 0, .pt b2 1 0 0]] H nx (bl (l.any fun j=>dj T j.toNat k)):=by
 refine aT HC rfl ?_
 repeat' (first|refine aQ ?_|exact aC|with_reducible refine aB ?_ ?_|(apply aA;(·exact bp))|((refine aS (ry hT l hl2 hl k hk b1 b2 _ _ e1 e2 d1 d2 (by exact bm) (by exact bm) cI cI) ?_ ?_);(·exact True.intro))|((refine aR (fun _=>ry hT l hl2 hl k hk b1 b2 _ _ e1 e2 d1 d2 (by exact bm) (by exact bm) cI cI) ?_ ?_);(·exact True.intro))|refine aH ?_|((with_reducible refine aE ?_ ?_)<;>intro hc<;>try(exfalso;omega)))
 refine qY.look ?_ kE
 exact cn (ra _ _ _)
theorem pq {T:gx} {m n:Nat} (hT:Shape T m n) (nd:Node) (hl:∀to∈nd.dQ,0<=to/\to.toNat<m) (k:Nat) (hk:k<n):Pure Tryz.prog 43 [.im 1 .any (T.map fE),nd.av,i64 k] (fun r=>r=bl (kX T nd k)):=by
 have hf:=tB nd
 unfold dV at hf
 refine aG GH rfl ?_
 repeat' (first|refine aQ ?_|exact cP|with_reducible refine aB ?_ ?_|((with_reducible refine Ask.mk ?_);first|exact bx|exact bt|(intro h;simp_all[Node.cells]<;>fail)|(simp_all[Node.cells]<;>fail))|(apply aA;(·exact bp))|refine aK (hf) ?_|((refine aS (nL hT nd.fold (mJ nd) (fun to h=>hl to (iP.1 h)) k hk _ _ _ _ _ _ _ _ (by exact bm) (by exact bm) cI cI) ?_ ?_);(·exact True.intro))|((refine aR (fun _=>nL hT nd.fold (mJ nd) (fun to h=>hl to (iP.1 h)) k hk _ _ _ _ _ _ _ _ (by exact bm) (by exact bm) cI cI) ?_ ?_);(·exact True.intro))|refine aH ?_|((with_reducible refine aE ?_ ?_)<;>intro hc<;>try(exfalso;omega)))
 exact cn (vr _ _)
end Go.Proofs.YtmonponfppdgfaaGreatDoor
