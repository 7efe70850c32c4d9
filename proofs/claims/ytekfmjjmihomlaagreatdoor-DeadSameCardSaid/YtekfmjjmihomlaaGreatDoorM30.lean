import Derived.Test.YtekfmjjmihomlaaGreatDoorM28
import Derived.Test.YtekfmjjmihomlaaGreatDoorM29
namespace Go.Proofs.YtekfmjjmihomlaaGreatDoor
open Go Go.cw Go.Proofs
set_option linter.unusedSimpArgs false
set_option linter.unusedVariables false
theorem rO {g:bu} (h:Whole g):mH g=true:=KQ.2 h
theorem MB (L:List (List Int)):cT 0 (L.map gy):=(cI _ _).2 fun _ _=>by simp[gy,cF,cI]
theorem HE (g:bu) (hg:g.Wf) (hw:Whole g) (hh:(eP g).2<0):Pure Tryz.prog 157 [g.av] (fun r=>r= .df [.im 1 .any ((eP g).1.map gy),bl true]):=by
 refine aD A3 rfl ?_
 have h1:=vF g hg
 rw[rO hw] at h1
 have h2:=wV g hg hw
 unfold qo at h2
 have e:decide ((eP g).2<0)=true:=decide_eq_true hh
 repeat' (first|refine aQ ?_|exact dR|with_reducible refine aB ?_ ?_|((with_reducible refine Ask.mk ?_);first|exact cW|exact cJ|(intro h;simp_all[bu.cells]<;>fail)|(simp_all[bu.cells]<;>fail))|(apply aA;(·exact bz))|refine aK (h1) ?_|refine aK (h2) ?_|refine aH ?_|((with_reducible refine aE ?_ ?_)<;>intro hc<;>try(exfalso;omega)))
 rw[e]
 exact FQ.eq (by simp only[cF,cT];exact⟨MB _,trivial,trivial⟩) rfl
noncomputable def ox (g:bu):AV:= .agg [ju (dW g (-1)), .im 1 .any (((eP g).1.map hb).map u32)]
theorem R8 {l:List Int} {j:Nat} (h:j<l.length):hb (l.take (j+1))=hb (l.take j)|||2^(l.getD j 0).toNat:=by
 rw[List.take_succ_eq_append_getElem h,VO,gd h]
theorem UO {k:Int} (h0:0<=k) (h1:k<16):IntKind.u32.wrap (1 * 2^(min k.toNat IntKind.u32.bits))=((2^k.toNat:Nat):Int):=by
 have:k.toNat<16:=by omega
 generalize k.toNat=m at *
 have hm:min m IntKind.u32.bits=m:=by show min m 32=m;omega
 rw[hm]
 have:(2:Nat)^m<2^16:=Nat.pow_lt_pow_right (by omega) this
 have e:(1:Int) * 2^m=((2^m:Nat):Int):=by rw[Int.one_mul];simp
 have h2:(2:Nat)^m<4294967296:=by omega
 rw[e]
 exact wrap32 (Int.natCast_nonneg _) (Int.ofNat_lt.2 h2)
def lG (L:List (List Int)) (i x:Nat):List Nat:=(L.take i).map hb++x::List.replicate (L.length - (i+1)) 0
theorem pk {L:List (List Int)} {i:Nat} (h:i<L.length):((L.take i).map hb).length=i:=by simp;omega
theorem wU {L:List (List Int)} {i:Nat} (h:i<L.length) (x:Nat):(lG L i x).length=L.length:=by
 rw[lG,List.length_append,pk h];simp;omega
theorem I2 {L:List (List Int)} {i:Nat} (h:i<L.length) (x:Nat) (d:AV):((lG L i x).map u32).getD ((i:Int)).toNat d=u32 x:=by
 rw[Int.toNat_natCast,dN u32 _ _ _ (by rw[wU h];exact h),lG,List.getD,List.getElem?_append_right (by rw[pk h];exact Nat.le_refl _),pk h,Nat.sub_self];rfl
theorem I3 {L:List (List Int)} {i:Nat} (h:i<L.length) (x v:Nat):((lG L i x).map u32).set ((i:Int)).toNat (u32 v)=(lG L i v).map u32:=by
 rw[Int.toNat_natCast,<-List.map_set,lG,List.set_append,if_neg (by rw[pk h];omega),pk h,Nat.sub_self];rfl
theorem DS {L:List (List Int)} {i:Nat} (h:i<L.length):(L.take i).map hb++List.replicate (L.length - i) 0=lG L i 0:=by
 rw[lG,show L.length - i=(L.length - (i+1))+1 by omega,List.replicate_succ]
theorem DR {L:List (List Int)} {i:Nat} (h:i<L.length):lG L i (hb (L.getD i []))=(L.take (i+1)).map hb++List.replicate (L.length - (i+1)) 0:=by
 rw[lG,List.take_succ_eq_append_getElem h,gd h,List.map_append,List.append_assoc];rfl
theorem oo {m:Nat} {now:List Int} (hn:now.length<=m):∀(l:List Int) (s s':HS),dV now l s= .inl s'->(∀i,(s.cE.getD i []).length<=m)->∀i,(s'.cE.getD i []).length<=m
 |[],s,s',h,hs=>by rw[dV] at h;cases h;exact hs
 |k::r,s,s',h,hs=>by
  rw[dV] at h
  split at h
  ·refine oo hn r _ s' h fun i=> ?_
   dsimp only
   rw[ct]
   split
   ·exact hn
   ·exact hs i
  ·split at h
   ·exact oo hn r s s' h hs
   ·cases h
theorem zZ {n:Node} {l now:List Int} (h:eK n l=some now):now.length<=l.length+1:=by
 unfold eK at h
 split at h
 ·cases h;simp
 ·split at h
  ·split at h
   ·cases h;simp;omega
   ·cases h
  ·split at h
   ·split at h
    ·cases h;omega
    ·cases h
   ·cases h;omega
theorem rl (g:bu):∀(f:Nat) (s:HS) (k:Nat),(∀i,(s.cE.getD i []).length<=k)->∀i,((fX g f s k).1.getD i []).length<=k+f
 |0,s,k,h,i=>by rw[fX];exact h i
 |f+1,s,k,h,i=>by
  rw[fX]
  split
  ·split
   ·simp
   ·rename_i now hn
    have h2:=zZ hn
    have h3:=h (s.todo.getD k 0).toNat
    unfold HS.l at h2
    split
    ·rename_i s' ht
     have:=rl g f s' (k+1) (oo (m:=k+1) (by omega) _ _ _ ht fun i=>Nat.le_succ_of_le (h i)) i
     omega
    ·simp
  ·have:=h i;dsimp only;omega
theorem I4 (g:bu) (i:Nat):((eP g).1.getD i []).length<=g.nodes.length+1:=by
 have:=rl g (g.nodes.length+1) (kg g) 0 (fun i=>by simp only[kg,List.getD,List.getElem?_replicate];split<;>exact Nat.zero_le _) i
 rw[Nat.zero_add] at this;exact this
set_option maxHeartbeats 4000000 in
theorem A9 {u:bq} (g:bu) (hg:g.Wf) (hk:eJ u g) (hl16:u.cE.length<=16):cQ Tryz.prog 138 [g.av] [] 0 (fun r H n=>∃d,r= .agg [ju (dW g (-1)), .sl 7 (eP g).1.length]/\bo H 7=some (.row 173 1 d (((eP g).1.map hb).map u32))):=by
 have hw:=hk.whole
 have h1:=qN g hg (rO hw) (sD g hg hw (-1) (by unfold eW;omega))
 have h2:=HE g hg hw hk.held
 obtain⟨_,hLl,_,_⟩:=lI hw hk.held
 have hin:=xl hk
 have hlen:=hk.len
 have hgl:=hg.len
 have hlens:=I4 g
 generalize hL:(eP g).1=L at *
 refine aJ AJ rfl ?_
 repeat' (first|refine aQ ?_|exact dR|with_reducible refine aB ?_ ?_|((with_reducible refine Ask.mk ?_);first|exact cW|exact cJ|(intro h;simp_all[bu.cells]<;>fail)|(simp_all[bu.cells]<;>fail))|(apply aA;(·exact bz))|refine aK (h1) ?_|refine aK (h2) ?_|refine aH ?_|((with_reducible refine aE ?_ ?_)<;>intro hc<;>try(exfalso;omega)))
 have e0:(((L.take 0).map hb++List.replicate (L.length - 0) 0).map u32:List AV)=List.replicate L.length (u32 0):=by simp
 simp only[List.length_map,Int.toNat_natCast]
 refine aI (fun i:Nat=>[(2, .pt 1 1 0 0),(3, .pt 9 1 0 0),(22, .im 1 .any (L.map gy)),(23,i64 L.length),(24,i64 i)])
  (fun i H n=>i<=L.length/\18<=n/\(∃d,bo H 1=some (.row 235 2 d [.agg [.sc (.slice none 0 0), .sc (.slice none 0 0)]]))/\(∃d,bo H 9=some (.row 235 2 d [.agg [ju (dW g (-1)), .sl 7 g.nodes.length]]))/\(∃d,bo H 7=some (.row 173 1 d (((L.take i).map hb++List.replicate (L.length - i) 0).map u32)))) (fun i=>L.length - i) 0 cG ⟨Nat.zero_le _,cU,⟨_,bt⟩, ?_, ?_⟩ ?_
 ·apply Exists.intro
  exact bt
 ·apply Exists.intro
  rw[e0,hLl]
  exact bt
 rintro i H n ⟨hi,hn,⟨d1,r1⟩,⟨d9,r9⟩,⟨d7,r7⟩⟩
 by_cases hil:i<L.length
 ·rw[DS hil] at r7
  have hll:=hlens i
  have e1:=fun d=>qt (l:=L) (i:=(i:Int)) (by rw[Int.toNat_natCast];exact hil) d
  rw[Int.toNat_natCast] at e1
  have hin2:=hin i
  have hnx:=DR hil
  generalize hl:L.getD i []=l at *
  repeat' (first|refine aQ ?_|exact aC|with_reducible refine aB ?_ ?_|(apply aA;(·(first|exact e1 _|exact bz)))|refine aH ?_|((with_reducible refine aE ?_ ?_)<;>intro hc<;>try(exfalso;omega)))
  simp only[List.length_map]
  refine aI (fun j:Nat=>[(2, .pt 1 1 0 0),(3, .pt 9 1 0 0),(6,i64 i),(22, .im 1 .any (L.map gy)),(23,i64 L.length),(24,i64 i),(29, .im 1 .any (l.map i64)),(30,i64 l.length),(31,i64 j)])
   (fun j H2 n2=>j<=l.length/\n<=n2/\(∃d,bo H2 1=some (.row 235 2 d [.agg [.sc (.slice none 0 0), .sc (.slice none 0 0)]]))/\(∃d,bo H2 9=some (.row 235 2 d [.agg [ju (dW g (-1)), .sl 7 g.nodes.length]]))/\(∃d,bo H2 7=some (.row 173 1 d ((lG L i (hb (l.take j))).map u32)))) (fun j=>l.length - j) 0 cG ⟨Nat.zero_le _,cU,⟨_,bt⟩,⟨_,bt⟩,⟨_,bt⟩⟩ ?_
  clear r1 r9 r7
  rintro j H2 n2 ⟨hj,hn2,⟨d1,r1⟩,⟨d9,r9⟩,⟨d7,r7⟩⟩
  by_cases hjl:j<l.length
  ·obtain⟨k0,k1⟩:=hin2 _ (cR 0 hjl)
   have e2:=fun d=>kY hjl d
   have e3:=fun d=>I2 hil (hb (l.take j)) d
   have hml:((lG L i (hb (l.take j))).map u32).length=g.nodes.length:=by rw[List.length_map,wU hil,hLl]
   have e4:=UO k0 (by omega:l.getD j 0<16)
   have hlt:∀m,hb (l.take m)<65536:=fun m=>UG (m:=16) fun k hk=>by have:=hin2 k (List.mem_of_mem_take hk);omega
   have e5:=R8 hjl
   have hp:2^(l.getD j 0).toNat<65536:=Nat.pow_lt_pow_right (by omega) (by omega:(l.getD j 0).toNat<16)
   have e6:=V4 (show hb (l.take j)<4294967296 from Nat.lt_trans (hlt j) (by omega)) (show 2^(l.getD j 0).toNat<4294967296 by omega)
   rw[<-e5] at e6
   repeat' (first|refine aQ ?_|exact dR|with_reducible refine aB ?_ ?_|((with_reducible refine Ask.mk ?_);first|exact cW|(exact hml)|exact cJ)|(apply aA;(·(first|exact e2 _|exact e3 _|exact bz)))|(simp only[e4])|(simp only[e6])|refine aH ?_|((with_reducible refine aE ?_ ?_)<;>intro hc<;>try(exfalso;omega)))
   exact⟨j+1,by omega,cG,by omega,cU,⟨_,bt⟩,⟨_,bt⟩,⟨_,by rw[<-I3 hil (hb (l.take j)) (hb (l.take (j+1)))];exact bt⟩⟩
  ·have:j=l.length:=by omega
   subst this
   rw[List.take_length,hnx] at r7
   repeat' (first|refine aQ ?_|exact aC|with_reducible refine aB ?_ ?_|(apply aA;(·exact bz))|refine aH ?_|((with_reducible refine aE ?_ ?_)<;>intro hc<;>try(exfalso;omega)))
   exact⟨i+1,by omega,cG,by omega,by omega,⟨_,bt⟩,⟨_,bt⟩,⟨_,bt⟩⟩
 ·have:i=L.length:=by omega
  subst this
  rw[List.take_length,Nat.sub_self,List.replicate_zero,List.append_nil] at r7
  repeat' (first|refine aQ ?_|exact aC|with_reducible refine aB ?_ ?_|(apply aA;(·exact bz))|refine aH ?_|((with_reducible refine aE ?_ ?_)<;>intro hc<;>try(exfalso;omega)))
  rw[<-hLl]
  exact⟨⟨d7,rfl,bt⟩⟩
theorem BA {u:bq} (g:bu) (hg:g.Wf) (hk:eJ u g) (hl16:u.cE.length<=16):Pure Tryz.prog 138 [g.av] (fun r=>r=ox g):=by
 have hfit:cF 0 (ox g):=by unfold ox;simp[cF,cT,ju,cI]
 refine dO ((A9 g hg hk hl16).mono ?_) hfit
 rintro r H n ⟨d,rfl,hb⟩
 have e1:cw.dj H 6 (.agg [ju (dW g (-1)), .sl 7 (eP g).1.length])= .agg [cw.dj H 5 (ju (dW g (-1))),cw.dj H 5 (.sl 7 (eP g).1.length)]:=by
  simp only[dj,List.map_cons,List.map_nil]
 rw[e1,dv hb (by simp),cu _ ((cI _ _).2 fun _ _=>by simp[cF]),dG 5 (by simp[ju,cF,cI])]
 rfl
noncomputable def gD (u:bq) (m:Nat):List AV:=(u.br.take m).map ox
theorem D9 {u:bq} {t:Nat} (h:t<u.br.length):gD u (t+1)=gD u t++[ox (u.gr t)]:=by
 rw[gD,List.take_succ_eq_append_getElem h,gD,List.map_append,show u.gr t=u.br[t] from gd h _];rfl
theorem qw {u:bq} {t:Nat} (h:t<=u.br.length):(gD u t).length=t:=by simp[gD];omega
theorem wI (u:bq) (m:Nat):cT 0 (gD u m):=(cI _ _).2 fun _ _=>by unfold ox;simp[cF,cT,ju,cI]
set_option maxHeartbeats 4000000 in
theorem tJ (u:bq) (hu:u.Wf):Pure Tryz.prog 132 [u.av] (fun r=>r=if nI u=true then .df [.im 2 .any (gD u u.br.length),i64 0] else .df [.sc (.slice none 0 0),i64 60]):=by
 have hck:=jg u hu
 by_cases hr:cN u
 ·rw[nX.2 hr] at hck
  rw[if_pos (dB.2 hr)]
  have hfew:=hr.yu
  refine dO ?_ (by simp only[cF,cT];exact⟨wI _ _,trivial,trivial⟩)
  refine aJ w7 rfl ?_
  repeat' (first|refine aQ ?_|exact dR|with_reducible refine aB ?_ ?_|((with_reducible refine Ask.mk ?_);first|exact cW|exact cJ|(intro h;simp_all[bq.cells]<;>fail)|(simp_all[bq.cells]<;>fail))|(apply aA;(·exact bz))|refine aK (hck) ?_|refine aH ?_|((with_reducible refine aE ?_ ?_)<;>intro hc<;>try(exfalso;omega)))
  simp only[List.length_map]
  refine aT (fun t:Nat=>[(7, .sl 18 t),(20,dS u.br),(21,i64 u.br.length),(22,i64 t)])
   (fun t H n=>t<=u.br.length/\19<=n/\(∃d,bo H 18=some (.row 235 2 d (gD u t)))) (fun t=>u.br.length - t) 0 ⟨_,_,_,Rt.nil 7 235 2 (by omega) rfl,cG,Nat.zero_le _,cU,⟨_,bt⟩⟩ ?_
  rintro t H n ⟨ht,hn,⟨d,r18⟩⟩
  by_cases htl:t<u.br.length
  ·have hl:=qw (u:=u) ht
   have hg:=hu.br _ (cR default htl)
   have hlk:=BA (u.gr t) hg (hr.gr htl) hfew.2.1
   have hnx:=D9 htl
   have eg:=fun d=>pj htl d
   repeat' (first|refine aQ ?_|exact dR|with_reducible refine aB ?_ ?_|((with_reducible refine Ask.mk ?_);first|exact cW|(exact hl)|exact cJ|(intro h;simp_all[bu.cells]<;>fail)|(simp_all[bu.cells]<;>fail))|(apply aA;(·(first|exact eg _|exact bz)))|refine aK (hlk) ?_|refine aH ?_|((with_reducible refine aE ?_ ?_)<;>intro hc<;>try(exfalso;omega)))
   exact⟨t+1,by omega,_,_,_,Rt.refl _ _ _,cG,by omega,cU,⟨_,by rw[hnx];exact bt⟩⟩
  ·have:t=u.br.length:=by omega
   subst this
   repeat' (first|refine aQ ?_|exact aC|with_reducible refine aB ?_ ?_|(apply aA;(·exact bz))|refine aH ?_|((with_reducible refine aE ?_ ?_)<;>intro hc<;>try(exfalso;omega)))
   refine⟨?_⟩
   have e1:∀H,cw.dj H 6 (.df [.sl 18 u.br.length,i64 0])= .df [cw.dj H 5 (.sl 18 u.br.length),i64 0]:=fun H=>by
    simp only[dj,List.map_cons,List.map_nil]
   refine(e1 _).trans ?_
   rw[dv bt (qw (Nat.le_refl _)),cu _ (wI _ _)]
 ·have h1:=o6 hr
  rw[if_neg (mt dB.1 hr)]
  generalize jP u=r at *
  obtain⟨a,b,c⟩:=r
  dsimp only at h1 hck
  subst h1
  unfold LL at hck
  refine aD w7 rfl ?_
  repeat' (first|refine aQ ?_|exact dR|with_reducible refine aB ?_ ?_|((with_reducible refine Ask.mk ?_);first|exact cW|exact cJ|(intro h;simp_all[bq.cells]<;>fail)|(simp_all[bq.cells]<;>fail))|(apply aA;(·exact bz))|refine aK (hck) ?_|refine aH ?_|((with_reducible refine aE ?_ ?_)<;>intro hc<;>try(exfalso;omega)))
  exact rfl
abbrev qV (p:Nat×Nat):AV:= .agg [u32 p.1,u32 p.2]
abbrev oy (E:yY):List AV:=lu (fun n:Int=>Value.int .i64 n) qV E
theorem XP (E:yY) (t:Int):qB false (.int .i64 t) (oy E) (qV (0,0))=some (qV ((cm E t).getD (0,0)),(cm E t).isSome):=(uU oq qV t E (qV (0,0))).trans (by cases cm E t<;>rfl)
theorem S8 (E:yY) (t:Int) (v:Nat×Nat):sO false (.int .i64 t) (oy E) (qV v)=some (oy (gA E t v)):=uV oq qV t v E
theorem V9 {t:Nat} (h1:t<8):IntKind.u32.wrap (1 * 2^(min ((t:Int)).toNat IntKind.u32.bits))=((2^t:Nat):Int):=by
 have:=UO (k:=(t:Int)) (by omega) (by omega)
 rw[this,Int.toNat_natCast]
def CP (E:yY):Prop:=∀v p,cm E v=some p->p.1<256/\p.2<65536
set_option maxHeartbeats 4000000 in
theorem FK (E:yY) (hE:CP E) (x:Acc) (i:Nat) (ht:x.1<8) (hk:∀k∈x.2.2,0<=k/\k<16) (b m:Nat) (H:Hp) (nx:Nat) (e em:TypeId) (d dm:AV) (hrb:bo H b=some (.row e 1 d [.mp m])) (hm:bo H m=some (.row em 0 dm (mapA (oy E)))) (hbn:b<nx) (hmn:m<nx) (hbm:b≠m):
 cQ Tryz.prog 134 [.agg [i64 x.1,i64 i],x.2.1.av,u32 (hb x.2.2), .pt b 1 0 0] H nx (fun r H' n=>r= .df []/\nx<=n/\(∃d,bo H' m=some (.row em 0 d (mapA (oy (mG E x)))))/\∀y,y<nx->y≠m->bo H' y=bo H y):=by
 obtain⟨t,nd,l⟩:=x
 dsimp only at ht hk ⊢
 refine aJ AG rfl ?_
 have htp:=yN nd
 cases hto:HB nd with
 |false=>
  rw[hto] at htp
  repeat' (first|refine aQ ?_|exact dR|with_reducible refine aB ?_ ?_|((with_reducible refine Ask.mk ?_);first|exact cW|exact cJ|(intro h;simp_all[Node.cells]<;>fail)|(simp_all[Node.cells]<;>fail))|(apply aA;(·exact bz))|refine aK (htp) ?_|refine aH ?_|((with_reducible refine aE ?_ ?_)<;>intro hc<;>try(exfalso;omega)))
  refine⟨⟨rfl,cU,⟨dm, ?_⟩,fun y hy hym=>bx⟩⟩
  unfold mG
  rw[if_neg (by dsimp only;rw[hto];decide)]
  exact bt
 |true=>
  rw[hto] at htp
  have hst:mG E (t,nd,l)=gA E nd.cB (nQ ((cm E nd.cB).getD (0,65535)) t l):=by unfold mG;rw[if_pos hto]
  rw[hst]
  have hl:Go.Proofs.YtekfmjjmihomlaaGreatDoor.hb l<65536:=UG (m:=16) fun k hkk=>by have:=hk k hkk;omega
  have e4:=V9 ht
  have hp2:2^t<256:=Nat.pow_lt_pow_right (by omega) (by omega:t<8)
  have eg:=XP E nd.cB
  cases hlk:cm E nd.cB with
  |none=>
   rw[hlk] at eg
   have e6:=V4 (a:=0) (b:=2^t) (by omega) (by omega)
   have e7:=FY (a:=65535) (b:=Go.Proofs.YtekfmjjmihomlaaGreatDoor.hb l) (by omega) (by omega)
   repeat' (first|refine aQ ?_|exact dR|with_reducible refine aB ?_ ?_|((with_reducible refine Ask.mk ?_);first|exact cW|exact cJ|(intro h;simp_all[Node.cells]<;>fail)|(simp_all[Node.cells]<;>fail))|(apply aA;(·exact bz))|refine aK (htp) ?_|(simp only[e4])|(simp only[e6])|(simp only[e7])|(apply aF (g:=none);(·exact fun _=>eg))|(apply aF (g:=none);(·exact fun _=>S8 _ _ _))|refine aH ?_|((with_reducible refine aE ?_ ?_)<;>intro hc<;>try(exfalso;omega)))
   refine aF (a:=oy (gA E nd.cB (nQ (0,65535) t l))) (fun _=>(congrArg (sO false _ (oy E)) (?_:_=qV (nQ (0,65535) t l))).trans (S8 _ _ _)) ?_
   ·show AV.agg [AV.sc (.int .u32 (IntKind.u32.wrap (BitVec.ofInt IntKind.u32.bits ((0:Nat):Int)|||BitVec.ofInt IntKind.u32.bits ((2^t:Nat):Int)).toNat)),AV.sc (.int .u32 (IntKind.u32.wrap (BitVec.ofInt IntKind.u32.bits ((65535:Nat):Int)&&& BitVec.ofInt IntKind.u32.bits ((Go.Proofs.YtekfmjjmihomlaaGreatDoor.hb l:Nat):Int)).toNat))]=_
    rw[e6,e7]
    rfl
   ·repeat' (first|refine aQ ?_|exact aC|with_reducible refine aB ?_ ?_|(apply aA;(·exact bz))|refine aH ?_|((with_reducible refine aE ?_ ?_)<;>intro hc<;>try(exfalso;omega)))
    exact⟨⟨rfl,cU,⟨_,bt⟩,fun y hy hym=>bx⟩⟩
  |some p=>
   rw[hlk] at eg
   have hp:=hE _ _ hlk
   have e6:=V4 (a:=p.1) (b:=2^t) (by omega) (by omega)
   have e7:=FY (a:=p.2) (b:=Go.Proofs.YtekfmjjmihomlaaGreatDoor.hb l) (by omega) (by omega)
   repeat' (first|refine aQ ?_|exact dR|with_reducible refine aB ?_ ?_|((with_reducible refine Ask.mk ?_);first|exact cW|exact cJ|(intro h;simp_all[Node.cells]<;>fail)|(simp_all[Node.cells]<;>fail))|(apply aA;(·exact bz))|refine aK (htp) ?_|(simp only[e4])|(simp only[e6])|(simp only[e7])|(apply aF (g:=none);(·exact fun _=>eg))|(apply aF (g:=none);(·exact fun _=>S8 _ _ _))|refine aH ?_|((with_reducible refine aE ?_ ?_)<;>intro hc<;>try(exfalso;omega)))
   refine aF (a:=oy (gA E nd.cB (nQ p t l))) (fun _=>(congrArg (sO false _ (oy E)) (?_:_=qV (nQ p t l))).trans (S8 _ _ _)) ?_
   ·show AV.agg [AV.sc (.int .u32 (IntKind.u32.wrap (BitVec.ofInt IntKind.u32.bits ((p.1:Nat):Int)|||BitVec.ofInt IntKind.u32.bits ((2^t:Nat):Int)).toNat)),AV.sc (.int .u32 (IntKind.u32.wrap (BitVec.ofInt IntKind.u32.bits ((p.2:Nat):Int)&&& BitVec.ofInt IntKind.u32.bits ((Go.Proofs.YtekfmjjmihomlaaGreatDoor.hb l:Nat):Int)).toNat))]=_
    rw[e6,e7]
    rfl
   ·repeat' (first|refine aQ ?_|exact aC|with_reducible refine aB ?_ ?_|(apply aA;(·exact bz))|refine aH ?_|((with_reducible refine aE ?_ ?_)<;>intro hc<;>try(exfalso;omega)))
    exact⟨⟨rfl,cU,⟨_,bt⟩,fun y hy hym=>bx⟩⟩
theorem uj {l:List Acc} (h:∀x∈l,x.1<8):CP (jM l):=by
 intro v p hp
 rw[vB] at hp
 split at hp
 ·cases hp
 ·cases hp
  refine K4 fun x hx=> ?_
  unfold gP at hx
  rw[List.mem_map] at hx
  obtain⟨y,hy,rfl⟩:=hx
  exact h y (List.mem_filter.1 hy).1
theorem FU (t:Nat) (g:bu) (m:Nat):∀x∈oY t g m,x.1=t:=by
 intro x hx
 unfold oY at hx
 rw[List.mem_filterMap] at hx
 obtain⟨i,hi,hx⟩:=hx
 unfold sx at hx
 split at hx
 ·cases hx;rfl
 ·cases hx
theorem FV (u:bq) (m:Nat):∀x∈gu u m,x.1<m:=by
 intro x hx
 unfold gu at hx
 rw[List.mem_flatMap] at hx
 obtain⟨t,ht,hx⟩:=hx
 rw[FU _ _ _ x hx];exact List.mem_range.1 ht
theorem tM {l:List Bool} {k:Nat} (d:AV) (h:k<l.length):(l.map bl).getD ((k:Int)).toNat d=bl (ji l (k:Int)):=F1 (k:=(k:Int)) d (by rw[Int.toNat_natCast];exact h)
theorem VP {L:List (List Int)} {i:Nat} (d:AV) (h:i<L.length):((L.map Go.Proofs.YtekfmjjmihomlaaGreatDoor.hb).map u32).getD ((i:Int)).toNat d=u32 (Go.Proofs.YtekfmjjmihomlaaGreatDoor.hb (L.getD i [])):=by
 rw[Int.toNat_natCast,dN u32 _ _ _ (by simpa using h)]
 congr 1
 simp[List.getD,h]
theorem O9 {u:bq} {t:Nat} (d:AV) (h:t<u.br.length):(gD u u.br.length).getD ((t:Int)).toNat d= .agg [.im 1 .any ((dW (u.gr t) (-1)).map bl), .im 1 .any (((eP (u.gr t)).1.map Go.Proofs.YtekfmjjmihomlaaGreatDoor.hb).map u32)]:=by
 rw[Int.toNat_natCast,gD,List.take_length,dN ox _ _ _ h];rfl
set_option maxHeartbeats 8000000 in
theorem IE (u:bq) (hu:u.Wf) (hr:cN u) (b m:Nat) (H:Hp) (nx:Nat) (e em:TypeId) (d dm:AV) (hrb:bo H b=some (.row e 1 d [.mp m])) (hm:bo H m=some (.row em 0 dm (mapA (oy [])))) (hbn:b<nx) (hmn:m<nx) (hbm:b≠m):
 cQ Tryz.prog 133 [u.av, .im 2 .any (gD u u.br.length), .fn (.func 134) [] [.pt b 1 0 0]] H nx (fun r H' n=>r= .df []/\nx<=n/\(∃d,bo H' m=some (.row em 0 d (mapA (oy (jM (gu u u.br.length))))))/\∀y,y<nx->y≠m->bo H' y=bo H y):=by
 have hfew:=hr.yu
 have hll:=qw (u:=u) (Nat.le_refl _)
 refine aJ AF rfl ?_
 repeat' (first|refine aQ ?_|exact dR|with_reducible refine aB ?_ ?_|((with_reducible refine Ask.mk ?_);first|exact cW|exact cJ|(intro h;simp_all[bq.cells]<;>fail)|(simp_all[bq.cells]<;>fail))|(apply aA;(·exact bz))|refine aH ?_|((with_reducible refine aE ?_ ?_)<;>intro hc<;>try(exfalso;omega)))
 simp only[List.length_map]
 refine aI (fun t:Nat=>[(1, .im 2 .any (gD u u.br.length)),(2, .fn (.func 134) [] [.pt b 1 0 0]),(11,dS u.br),(12,i64 u.br.length),(13,i64 t)])
  (fun t H' n=>t<=u.br.length/\nx+5<=n/\(∃d,bo H' m=some (.row em 0 d (mapA (oy (jM (gu u t))))))/\∀y,y<nx->y≠m->bo H' y=bo H y) (fun t=>u.br.length - t) 0 cG ⟨Nat.zero_le _,cU,⟨_,bt⟩,fun y hy hym=>bx⟩ ?_
 rintro t H1 n ⟨ht,hn,⟨d1,r1⟩,hk1⟩
 by_cases htl:t<u.br.length
 ·have hg:=hu.br _ (cR default htl)
  have eg:=fun d=>pj htl d
  have hgo:=hr.gr htl
  have hglen:=hgo.len
  have el:=fun d=>O9 (u:=u) d htl
  repeat' (first|refine aQ ?_|exact dR|with_reducible refine aB ?_ ?_|((with_reducible refine Ask.mk ?_);first|exact cW|exact cJ|(intro h;simp_all[bu.cells]<;>fail)|(simp_all[bu.cells]<;>fail))|(apply aA;(·(first|exact eg _|exact bz)))|refine aH ?_|((with_reducible refine aE ?_ ?_)<;>intro hc<;>try(exfalso;omega)))
  simp only[List.length_map]
  refine aI (fun i:Nat=>[(1, .im 2 .any (gD u u.br.length)),(2, .fn (.func 134) [] [.pt b 1 0 0]),(6,i64 t),(11,dS u.br),(12,i64 u.br.length),(13,i64 t),(19,gE (u.gr t).nodes),(20,i64 (u.gr t).nodes.length),(21,i64 i)])
   (fun i H' n'=>i<=(u.gr t).nodes.length/\n<=n'/\(∃d,bo H' m=some (.row em 0 d (mapA (oy (jM (gu u t++oY t (u.gr t) i))))))/\∀y,y<nx->y≠m->bo H' y=bo H y) (fun i=>(u.gr t).nodes.length - i) 0 cG ⟨Nat.zero_le _,cU,⟨_,by rw[show gu u t++oY t (u.gr t) 0=gu u t by simp[oY]];exact bt⟩,fun y hy hym=>Eq.trans bx (hk1 y hy hym)⟩ ?_
  clear r1 hk1
  rintro i H2 n2 ⟨hi,hn2,⟨d2,r2⟩,hk2⟩
  by_cases hil:i<(u.gr t).nodes.length
  ·have en:=fun d=>gh hil d
   have er:=fun d=>tM (l:=dW (u.gr t) (-1)) (k:=i) d (by rw[fy];exact hil)
   have hLl:=(lI hgo.whole hgo.held).2.1
   have eh:=fun d=>VP (L:=(eP (u.gr t)).1) (i:=i) d (by rw[hLl];exact hil)
   have hrl:((dW (u.gr t) (-1)).map bl).length=(u.gr t).nodes.length:=by rw[List.length_map,fy]
   have hhl:(((eP (u.gr t)).1.map Go.Proofs.YtekfmjjmihomlaaGreatDoor.hb).map u32).length=(u.gr t).nodes.length:=by rw[List.length_map,List.length_map,hLl]
   have hac:=HQ t (u.gr t) i
   have hb2:bo H2 b=some (.row e 1 d [.mp m]):=(hk2 b hbn hbm).trans hrb
   cases hrc:ji (dW (u.gr t) (-1)) (i:Int) with
   |false=>
    rw[show sx t (u.gr t) i=none by unfold sx;rw[if_neg (by rw[hrc];decide)]] at hac
    rw[hrc] at er
    repeat' (first|refine aQ ?_|exact dR|with_reducible refine aB ?_ ?_|((with_reducible refine Ask.mk ?_);first|exact cW|(exact hll)|(exact hrl)|exact cJ|(intro h;simp_all[Node.cells]<;>fail)|(simp_all[Node.cells]<;>fail))|(apply aA;(·(first|exact en _|exact el _|exact er _|exact bz)))|refine aH ?_|((with_reducible refine aE ?_ ?_)<;>intro hc<;>try(exfalso;omega)))
    refine⟨i+1,by omega,cG,by omega,by omega,⟨_,by rw[hac,Option.toList_none,List.append_nil];exact bt⟩,fun y hy hym=>Eq.trans bx (hk2 y hy hym)⟩
   |true=>
    rw[show sx t (u.gr t) i=some (t,(u.gr t).nd i,(eP (u.gr t)).1.getD i []) by unfold sx;rw[if_pos hrc]] at hac
    rw[hrc] at er
    repeat' (first|refine aQ ?_|exact dR|with_reducible refine aB ?_ ?_|((with_reducible refine Ask.mk ?_);first|exact cW|(exact hll)|(exact hrl)|(exact hhl)|exact cJ|(intro h;simp_all[Node.cells]<;>fail)|(simp_all[Node.cells]<;>fail))|(apply aA;(·(first|exact en _|exact el _|exact er _|exact eh _|exact bz)))|refine aH ?_|((with_reducible refine aE ?_ ?_)<;>intro hc<;>try(exfalso;omega)))
    refine aG (FK (jM (gu u t++oY t (u.gr t) i)) (uj fun x hx=> ?_) (t,(u.gr t).nd i,(eP (u.gr t)).1.getD i []) i (by dsimp only;omega) (fun k hk=> ?_) b m _ _ e em d d2 ?_ ?_ ?_ ?_ hbm) ?_
    ·rcases List.mem_append.1 hx with hx|hx
     ·have:=FV u t x hx;omega
     ·rw[FU _ _ _ x hx];omega
    ·have:=xl hgo i k hk;omega
    ·exact bt
    ·exact bt
    ·exact cU
    ·exact cU
    rintro _ H3 n3 ⟨rfl,hn3,⟨d3,r3⟩,hk3⟩
    have hn23:n2<=n3:=Nat.le_trans cU hn3
    have hk4:∀y,y<nx->y≠m->bo H3 y=bo H y:=fun y hy hym=>(hk3 y (Nat.lt_of_lt_of_le (show y<n2 by omega) cU) hym).trans (Eq.trans bx (hk2 y hy hym))
    rw[<-xB,List.append_assoc] at r3
    rw[Option.toList_some] at hac
    rw[<-hac] at r3
    clear hk3
    repeat' (first|refine aQ ?_|exact aC|with_reducible refine aB ?_ ?_|(apply aA;(·exact bz))|refine aH ?_|((with_reducible refine aE ?_ ?_)<;>intro hc<;>try(exfalso;omega)))
    exact⟨i+1,by omega,cG,by omega,by omega,⟨_,bt⟩,fun y hy hym=>Eq.trans bx (hk4 y hy hym)⟩
  ·have:i=(u.gr t).nodes.length:=by omega
   subst this
   repeat' (first|refine aQ ?_|exact aC|with_reducible refine aB ?_ ?_|(apply aA;(·exact bz))|refine aH ?_|((with_reducible refine aE ?_ ?_)<;>intro hc<;>try(exfalso;omega)))
   exact⟨t+1,by omega,cG,by omega,by omega,⟨_,by rw[HR];exact bt⟩,fun y hy hym=>Eq.trans bx (hk2 y hy hym)⟩
 ·have:t=u.br.length:=by omega
  subst this
  repeat' (first|refine aQ ?_|exact aC|with_reducible refine aB ?_ ?_|(apply aA;(·exact bz))|refine aH ?_|((with_reducible refine aE ?_ ?_)<;>intro hc<;>try(exfalso;omega)))
  exact⟨⟨rfl,cU,⟨_,bt⟩,fun y hy hym=>Eq.trans bx (hk1 y hy hym)⟩⟩
set_option maxHeartbeats 4000000 in
theorem KN (u:bq) (hu:u.Wf) (hr:cN u) (H:Hp) (nx:Nat):cQ Tryz.prog 119 [u.av] H nx (fun r H' n=>∃m d em,r= .df [.mp m,i64 0]/\nx<=m/\m<n/\bo H' m=some (.row em 0 d (mapA (oy (jM (gu u u.br.length)))))/\∀y,y<nx->bo H' y=bo H y):=by
 have hak:=tJ u hu
 rw[if_pos (dB.2 hr)] at hak
 refine aJ w5 rfl ?_
 repeat' (first|refine aQ ?_|exact dR|with_reducible refine aB ?_ ?_|((with_reducible refine Ask.mk ?_);first|exact cW|exact cJ|(intro h;simp_all[bq.cells]<;>fail)|(simp_all[bq.cells]<;>fail))|(apply aA;(·exact bz))|refine aK (hak) ?_|refine aH ?_|((with_reducible refine aE ?_ ?_)<;>intro hc<;>try(exfalso;omega)))
 refine aG (IE u hu hr (nx+12) (nx+11) _ _ 200 3 (.sc (.map none)) .any ?_ ?_ ?_ ?_ (by omega)) ?_
 ·exact bt
 ·exact bt
 ·exact cU
 ·exact cU
 rintro _ H3 n3 ⟨rfl,hn3,⟨d3,r3⟩,hk3⟩
 have r12:bo H3 (nx+12)=some (.row 200 1 (.sc (.map none)) [.mp (nx+11)]):=(hk3 (nx+12) cU (by omega)).trans bt
 have hn11:nx+12<n3:=Nat.lt_of_lt_of_le cU hn3
 have hk4:∀y,y<nx->bo H3 y=bo H y:=fun y hy=>(hk3 y (Nat.lt_of_lt_of_le hy cU) (by omega)).trans bx
 clear hk3
 repeat' (first|refine aQ ?_|exact aC|with_reducible refine aB ?_ ?_|(apply aA;(·exact bz))|refine aH ?_|((with_reducible refine aE ?_ ?_)<;>intro hc<;>try(exfalso;omega)))
 exact⟨⟨nx+11,d3,_,rfl,cU,cU,bt,fun y hy=>Eq.trans bx (hk4 y hy)⟩⟩
theorem QX (u:bq) (hu:u.Wf) (hr:¬cN u):Pure Tryz.prog 119 [u.av] (fun r=>r= .df [.sc (.map none),i64 60]):=by
 have hak:=tJ u hu
 rw[if_neg (mt dB.1 hr)] at hak
 refine aD w5 rfl ?_
 repeat' (first|refine aQ ?_|exact dR|with_reducible refine aB ?_ ?_|((with_reducible refine Ask.mk ?_);first|exact cW|exact cJ|(intro h;simp_all[bq.cells]<;>fail)|(simp_all[bq.cells]<;>fail))|(apply aA;(·exact bz))|refine aK (hak) ?_|refine aH ?_|((with_reducible refine aE ?_ ?_)<;>intro hc<;>try(exfalso;omega)))
 exact rfl
noncomputable def l5 (u:bq) (m:Nat):List cY:=(List.range m).map fun(v:Nat)=>gv u.cE.length (gP (gu u u.br.length) v)
theorem xY (u:bq) (m:Nat):(l5 u (m+1)).map cY.av=(l5 u m).map cY.av++[(gv u.cE.length (gP (gu u u.br.length) m)).av]:=by
 rw[l5,List.range_succ,List.map_append,List.map_append];rfl
theorem kC (l:List cY):cT 0 (l.map cY.av):=(cI _ _).2 fun _ _=>by simp[cF,cT,cY.cells]
noncomputable def j9 (u:bq):AV:= .im 3 .any ((cP u).map cY.av)
set_option maxHeartbeats 4000000 in
theorem KK (u:bq) (hu:u.Wf):Pure Tryz.prog 85 [u.av, .fn (.func 86) [] []] (fun r=>r=if nI u=true then .df [j9 u,i64 0] else .df [.sc (.slice none 0 0),i64 60]):=by
 by_cases hr:cN u
 ·rw[if_pos (dB.2 hr)]
  have hfew:=hr.yu
  refine dO ?_ (by simp only[cF,cT,j9];exact⟨kC _,trivial,trivial⟩)
  refine aJ JK rfl ?_
  repeat' (first|refine aQ ?_|exact dR|with_reducible refine aB ?_ ?_|((with_reducible refine Ask.mk ?_);first|exact cW|exact cJ|(intro h;simp_all[bq.cells]<;>fail)|(simp_all[bq.cells]<;>fail))|(apply aA;(·exact bz))|refine aH ?_|((with_reducible refine aE ?_ ?_)<;>intro hc<;>try(exfalso;omega)))
  refine aG (KN u hu hr _ _) ?_
  rintro _ H1 n1 ⟨m,d1,em,rfl,hm1,hm2,r1,hk1⟩
  have r0:bo H1 0=some (.row 25 3 .any [u.av]):=(hk1 0 cU).trans bt
  have hm0:4<=m:=hm1
  clear hk1
  repeat' (first|refine aQ ?_|exact dR|with_reducible refine aB ?_ ?_|((with_reducible refine Ask.mk ?_);first|exact cW|exact cJ|(intro h;simp_all[bq.cells]<;>fail)|(simp_all[bq.cells]<;>fail))|(apply aA;(·exact bz))|refine aH ?_|((with_reducible refine aE ?_ ?_)<;>intro hc<;>try(exfalso;omega)))
  simp only[List.length_map]
  have hcl:∀v,(l5 u v).length=v:=fun v=>by simp[l5]
  refine aT (fun v:Nat=>[(1, .fn (.func 86) [] []),(6, .mp m),(8, .sl (n1+12) v),(20,i64 u.shared.length),(21,i64 v)])
   (fun v H n=>v<=u.shared.length/\n1+13<=n/\(∃d,bo H m=some (.row em 0 d (mapA (oy (jM (gu u u.br.length))))))/\(∃d,bo H (n1+12)=some (.row 118 3 d ((l5 u v).map cY.av)))) (fun v=>u.shared.length - v) 0 ⟨_,_,_,Rt.nil 8 118 3 (by omega) rfl,cG,Nat.zero_le _,cU,⟨_,bt⟩,⟨_,bt⟩⟩ ?_
  clear r1 r0
  rintro v H2 n2 ⟨hv,hn2,⟨d2,r2⟩,⟨d3,r3⟩⟩
  by_cases hvl:v<u.shared.length
  ·have eg:=XP (jM (gu u u.br.length)) (v:Int)
   have hce:=LN hr (v:Int)
   have hsm:CP (jM (gu u u.br.length)):=uj fun x hx=>by have:=FV u _ x hx;omega
   have hml:((l5 u v).map cY.av).length=v:=by rw[List.length_map,hcl]
   have hnx:=xY u v
   have hlt:((cm (jM (gu u u.br.length)) (v:Int)).getD (0,0)).1<256/\((cm (jM (gu u u.br.length)) (v:Int)).getD (0,0)).2<65536:=by
    cases h:cm (jM (gu u u.br.length)) (v:Int) with
    |none=>exact⟨by decide,by decide⟩
    |some p=>exact hsm _ _ h
   have hcp:=CZ _ hlt.1 hlt.2
   rw[hce] at hcp
   repeat' (first|refine aQ ?_|exact dR|with_reducible refine aB ?_ ?_|((with_reducible refine Ask.mk ?_);first|exact cW|(exact hml)|exact cJ)|(apply aA;(·exact bz))|refine aK (hcp) ?_|(apply aF (g:=none);(·exact fun _=>eg))|refine aH ?_|((with_reducible refine aE ?_ ?_)<;>intro hc<;>try(exfalso;omega)))
   exact⟨v+1,by omega,_,_,_,Rt.refl _ _ _,cG,by omega,cU,⟨_,bt⟩,⟨_,by rw[hnx];exact bt⟩⟩
  ·have:v=u.shared.length:=by omega
   subst this
   repeat' (first|refine aQ ?_|exact aC|with_reducible refine aB ?_ ?_|(apply aA;(·exact bz))|refine aH ?_|((with_reducible refine aE ?_ ?_)<;>intro hc<;>try(exfalso;omega)))
   refine⟨?_⟩
   have e1:∀H,cw.dj H 6 (.df [.sl (n1+12) u.shared.length,i64 0])= .df [cw.dj H 5 (.sl (n1+12) u.shared.length),i64 0]:=fun H=>by
    simp only[dj,List.map_cons,List.map_nil]
   refine(e1 _).trans ?_
   rw[dv bt (by rw[List.length_map,hcl]),cu _ (kC _)]
   rfl
 ·rw[if_neg (mt dB.1 hr)]
  have hub:=QX u hu hr
  refine aD JK rfl ?_
  repeat' (first|refine aQ ?_|exact dR|with_reducible refine aB ?_ ?_|((with_reducible refine Ask.mk ?_);first|exact cW|exact cJ|(intro h;simp_all[bq.cells]<;>fail)|(simp_all[bq.cells]<;>fail))|(apply aA;(·exact bz))|refine aK (hub) ?_|refine aH ?_|((with_reducible refine aE ?_ ?_)<;>intro hc<;>try(exfalso;omega)))
  exact rfl
theorem l6 (u:bq) (hu:u.Wf):Pure Tryz.prog 49 [u.av] (fun r=>r=if nI u=true then .df [j9 u,i64 0] else .df [.sc (.slice none 0 0),i64 60]):=by
 have h:=KK u hu
 refine aD OB rfl ?_
 by_cases hr:cN u
 ·rw[if_pos (dB.2 hr)] at h ⊢
  unfold j9 at h ⊢
  repeat' (first|refine aQ ?_|exact dR|with_reducible refine aB ?_ ?_|((with_reducible refine Ask.mk ?_);first|exact cW|exact cJ|(intro h;simp_all[bq.cells]<;>fail)|(simp_all[bq.cells]<;>fail))|(apply aA;(·exact bz))|refine aK (h) ?_|refine aH ?_|((with_reducible refine aE ?_ ?_)<;>intro hc<;>try(exfalso;omega)))
  exact FQ.eq (by simp only[cF,cT];exact⟨kC _,trivial,trivial⟩) rfl
 ·rw[if_neg (mt dB.1 hr)] at h ⊢
  repeat' (first|refine aQ ?_|exact dR|with_reducible refine aB ?_ ?_|((with_reducible refine Ask.mk ?_);first|exact cW|exact cJ|(intro h;simp_all[bq.cells]<;>fail)|(simp_all[bq.cells]<;>fail))|(apply aA;(·exact bz))|refine aK (h) ?_|refine aH ?_|((with_reducible refine aE ?_ ?_)<;>intro hc<;>try(exfalso;omega)))
  exact rfl
def D7 (n:Node):Bool:=decide (n.kind=2\/n.kind=4)
def wc (n:Node):AV:= .agg [bl (oT n.kind),bl (decide (n.kind=1)&&dY n.op),bl (kO n),bl (D7 n)]
set_option maxRecDepth 100000 in
theorem nA (n:Node) (ho:0<=n.op) (h:1<=n.kind/\n.kind<10) (hop:(n.kind=1->n.op<19)/\(n.kind≠1->n.op=0)):Pure Tryz.prog 58 [n.av] (fun r=>r=wc n):=by
 obtain⟨h0,h1⟩:=h
 obtain⟨kind,op,slot,cB,a,b,next,iu,origin⟩:=n
 simp only at h0 h1 ho hop
 by_cases hk1:kind=1
 ·subst hk1
  have h19:=hop.1 rfl
  have hk:op=0\/op=1\/op=2\/op=3\/op=4\/op=5\/op=6\/op=7\/op=8\/op=9\/op=10\/op=11\/op=12\/op=13\/op=14\/op=15\/op=16\/op=17\/op=18:=by omega
  rcases hk with rfl|rfl|rfl|rfl|rfl|rfl|rfl|rfl|rfl|rfl|rfl|rfl|rfl|rfl|rfl|rfl|rfl|rfl|rfl
  all_goals exact wq (by simp[cF,cT,wc]) (by kernel_rfl)
 ·have hk:kind=2\/kind=3\/kind=4\/kind=5\/kind=6\/kind=7\/kind=8\/kind=9:=by omega
  have h2:=hop.2 hk1
  subst h2
  rcases hk with rfl|rfl|rfl|rfl|rfl|rfl|rfl|rfl
  all_goals exact wq (by simp[cF,cT,wc]) (by kernel_rfl)
theorem yn (n:Node) (ho:0<=n.op) (h:1<=n.kind/\n.kind<10) (hop:(n.kind=1->n.op<19)/\(n.kind≠1->n.op=0)) (s:Nat):Pure Tryz.prog 56 [n.av,i64 s] (fun r=>r=bl (hP n s)):=by
 have hm:=nA n ho h hop
 unfold wc at hm
 refine aD OH rfl ?_
 repeat' (first|refine aQ ?_|exact dR|with_reducible refine aB ?_ ?_|((with_reducible refine Ask.mk ?_);first|exact cW|(intro h1 h2;rw[h1,h2];rfl)|exact cJ|(intro h;simp_all[Node.cells]<;>fail)|(simp_all[Node.cells]<;>fail))|(apply aA;(·exact bz))|refine aK (hm) ?_|refine aH ?_|((with_reducible refine aE ?_ ?_)<;>intro hc<;>try(exfalso;omega)))
 refine dZ ?_
 unfold hP
 rw[show decide (n.kind=1\/n.kind=3\/n.kind=4\/n.kind=7\/n.kind=8)=oT n.kind from rfl]
 cases oT n.kind<;>cases n.a.ee<;>cases(decide (n.kind=1)&&dY n.op)<;>cases n.b.ee<;>simp
theorem D6 (n:Node) (ho:0<=n.op) (h:1<=n.kind/\n.kind<10) (hop:(n.kind=1->n.op<19)/\(n.kind≠1->n.op=0)) (s:Nat):Pure Tryz.prog 57 [n.av,i64 s] (fun r=>r=bl (kZ n s)):=by
 have hm:=nA n ho h hop
 unfold wc at hm
 refine aD OI rfl ?_
 repeat' (first|refine aQ ?_|exact dR|with_reducible refine aB ?_ ?_|((with_reducible refine Ask.mk ?_);first|exact cW|(intro h1 h2;rw[h1,h2];rfl)|exact cJ|(intro h;simp_all[Node.cells]<;>fail)|(simp_all[Node.cells]<;>fail))|(apply aA;(·exact bz))|refine aK (hm) ?_|refine aH ?_|((with_reducible refine aE ?_ ?_)<;>intro hc<;>try(exfalso;omega)))
 refine dZ ?_
 unfold kZ
 cases kO n<;>simp
noncomputable def cD (g:bu) (t:Nat) (cls:List cY):List AV:=[st g.name,i64 g.locals,i64 g.bw,gE g.nodes,i64 t, .im 3 .any (cls.map cY.av), .im 1 .any ((dW g (-1)).map bl)]
noncomputable abbrev ej (g:bu) (t:Nat) (cls:List cY):AV:= .ip 7 .any [.agg (cD g t cls)] 0 0
theorem LM {l:List cY} {v:Int} (h:v.toNat<l.length) (d:AV):(l.map cY.av).getD v.toNat d=(l.getD v.toNat default).av:=dN cY.av l _ d h
theorem ua (g:bu) (t:Nat) (cls:List cY) (v:Nat) (hv:v<cls.length):Pure Tryz.prog 53 [ej g t cls,i64 v] (fun r=>r=bl (jr cls t v)):=by
 have ec:=fun d=>LM (l:=cls) (v:=(v:Int)) (by rw[Int.toNat_natCast];exact hv) d
 refine aD OF rfl ?_
 repeat' (first|refine aQ ?_|exact dR|with_reducible refine aB ?_ ?_|((with_reducible refine Ask.mk ?_);first|exact cW|exact cJ|(intro h;simp_all[cD,cY.cells]<;>fail)|(simp_all[cD,cY.cells]<;>fail))|(apply aA;(·(first|exact ec _|exact bz)))|refine aH ?_|((with_reducible refine aE ?_ ?_)<;>intro hc<;>try(exfalso;omega)))
 rw[Int.toNat_natCast]
 refine dZ ?_
 unfold jr
 cases decide ((cls.getD v default).kind=1)<;>simp
theorem VS {T:jw} {i:Int} (h:i.toNat<T.length) (d:AV):(T.map ju).getD i.toNat d= .im 1 .any ((T.getD i.toNat []).map bl):=dN ju T _ d h
theorem oI {l:List Bool} {k:Nat} (h:k<l.length) (d:AV):(l.map bl).getD ((k:Int)).toNat d=bl (l.getD k false):=by
 rw[Int.toNat_natCast];exact dN bl l k d h
theorem jX {T:jw} {m n:Nat} (hT:Shape T m n) (to:Int) (h0:0<=to) (h1:to.toNat<m) (k:Nat) (hk:k<n) (b1 b2:Nat) (H:Hp) (nx:Nat) (e1 e2:TypeId) (d1 d2:AV) (hb1:bo H b1=some (.row e1 1 d1 [.im 1 .any (T.map ju)])) (hb2:bo H b2=some (.row e2 1 d2 [i64 k])) (hn1:b1<nx) (hn2:b2<nx):
 kU Tryz.prog 93 [i64 to, .pt b1 1 0 0, .pt b2 1 0 0] H nx (bl (fg T to.toNat k)):=by
 have eT:=fun d=>VS (T:=T) (i:=to) (by rw[hT.len];exact h1) d
 have ek:=fun d=>oI (l:=T.getD to.toNat []) (k:=k) (by rw[hT.row _ h1];exact hk) d
 have hl1:(T.map ju).length=m:=by rw[List.length_map,hT.len]
 have hl2:((T.getD to.toNat []).map bl).length=n:=by rw[List.length_map,hT.row _ h1]
 refine aV O1 rfl ?_
 repeat' (first|refine aQ ?_|exact dR|with_reducible refine aB ?_ ?_|((with_reducible refine Ask.mk ?_);first|exact cW|(exact hl1)|(exact hl2)|exact cJ)|(apply aA;(·(first|exact eT _|exact ek _|exact bz)))|refine aH ?_|((with_reducible refine aE ?_ ?_)<;>intro hc<;>try(exfalso;omega)))
 exact sK.look rfl kB
def jj (p:Int->Bool):List Int->Nat->Int
 |[],_=>-1
 |x::r,i=>if p x=true then(i:Int) else jj p r (i+1)
theorem zH (p:Int->Bool) (l:List Int) {i:Nat} (h:i<l.length):jj p (l.drop i) i=if p (l.getD i 0)=true then(i:Int) else jj p (l.drop (i+1)) (i+1):=by
 rw[List.drop_eq_getElem_cons h,jj,gd h]
theorem tv (p:Int->Bool):∀(l:List Int) (i:Nat),decide (0<=jj p l i)=l.any p
 |[],i=>by simp[jj]
 |x::r,i=>by
  rw[jj]
  by_cases h:p x=true
  ·rw[if_pos h];simp[h]
  ·rw[if_neg h,tv p r];simp[h]
theorem uH {T:jw} {m n:Nat} (hT:Shape T m n) (l:List Int) (hl2:l.length<=2) (hl:∀to∈l,0<=to/\to.toNat<m) (k:Nat) (hk:k<n) (b1 b2:Nat) (H:Hp) (nx:Nat) (e1 e2:TypeId) (d1 d2:AV) (hb1:bo H b1=some (.row e1 1 d1 [.im 1 .any (T.map ju)])) (hb2:bo H b2=some (.row e2 1 d2 [i64 k])) (hn1:b1<nx) (hn2:b2<nx):
 kU Tryz.prog 121 [.im 1 .any (l.map i64), .fn (.func 93) [] [.pt b1 1 0 0, .pt b2 1 0 0]] H nx (i64 (jj (fun j=>fg T j.toNat k) l 0)):=by
 refine aV zu rfl ?_
 repeat' (first|refine aQ ?_|exact aC|with_reducible refine aB ?_ ?_|(apply aA;(·exact bz))|refine aH ?_|((with_reducible refine aE ?_ ?_)<;>intro hc<;>try(exfalso;omega)))
 simp only[List.length_map]
 refine aI (fun i:Nat=>[(0, .im 1 .any (l.map i64)),(1, .fn (.func 93) [] [.pt b1 1 0 0, .pt b2 1 0 0]),(7,i64 l.length),(8,i64 i)])
  (fun i H' n'=>i<=l.length/\nx<=n'/\(∀y,y<nx->bo H' y=bo H y)/\jj (fun j=>fg T j.toNat k) (l.drop i) i=jj (fun j=>fg T j.toNat k) l 0) (fun i=>l.length - i) 0 cG ⟨Nat.zero_le _,cU,fun y hy=>bx,rfl⟩ ?_
 rintro i H1 n1 ⟨hi,hn,hk1,hf⟩
 by_cases hil:i<l.length
 ·obtain⟨t0,t1⟩:=hl _ (cR 0 hil)
  have e:=fun d=>kY hil d
  rw[zH _ _ hil] at hf
  have g1:=(hk1 b1 hn1).trans hb1
  have g2:=(hk1 b2 hn2).trans hb2
  cases ht:fg T (l.getD i 0).toNat k with
  |true=>
   rw[if_pos ht] at hf
   repeat' (first|refine aQ ?_|exact aC|with_reducible refine aB ?_ ?_|(apply aA;(·(first|exact e _|exact bz)))|((refine aS ((ht▸jX hT (l.getD i 0) t0 t1 k hk b1 b2 _ _ e1 e2 d1 d2 (by exact bt) (by exact bt) cU cU)) ?_ ?_);(·exact True.intro))|((refine aR (fun _=>(ht▸jX hT (l.getD i 0) t0 t1 k hk b1 b2 _ _ e1 e2 d1 d2 (by exact bt) (by exact bt) cU cU)) ?_ ?_);(·exact True.intro))|refine aH ?_|((with_reducible refine aE ?_ ?_)<;>intro hc<;>try(exfalso;omega)))
   exact sK.look (by rw[<-hf]) (fun y hy=>Eq.trans bx (hk1 y hy))
  |false=>
   rw[if_neg (by rw[ht];decide)] at hf
   repeat' (first|refine aQ ?_|exact aC|with_reducible refine aB ?_ ?_|(apply aA;(·(first|exact e _|exact bz)))|((refine aS ((ht▸jX hT (l.getD i 0) t0 t1 k hk b1 b2 _ _ e1 e2 d1 d2 (by exact bt) (by exact bt) cU cU)) ?_ ?_);(·exact True.intro))|((refine aR (fun _=>(ht▸jX hT (l.getD i 0) t0 t1 k hk b1 b2 _ _ e1 e2 d1 d2 (by exact bt) (by exact bt) cU cU)) ?_ ?_);(·exact True.intro))|refine aH ?_|((with_reducible refine aE ?_ ?_)<;>intro hc<;>try(exfalso;omega)))
   exact⟨i+1,by omega,cG,by omega,by omega,fun y hy=>Eq.trans bx (hk1 y hy),hf⟩
 ·have:i=l.length:=by omega
  subst this
  rw[List.drop_eq_nil_of_le (Nat.le_refl _),jj] at hf
  repeat' (first|refine aQ ?_|exact aC|with_reducible refine aB ?_ ?_|(apply aA;(·exact bz))|refine aH ?_|((with_reducible refine aE ?_ ?_)<;>intro hc<;>try(exfalso;omega)))
  exact sK.look (by rw[<-hf]) (fun y hy=>Eq.trans bx (hk1 y hy))
theorem oK {T:jw} {m n:Nat} (hT:Shape T m n) (l:List Int) (hl2:l.length<=2) (hl:∀to∈l,0<=to/\to.toNat<m) (k:Nat) (hk:k<n) (b1 b2:Nat) (H:Hp) (nx:Nat) (e1 e2:TypeId) (d1 d2:AV) (hb1:bo H b1=some (.row e1 1 d1 [.im 1 .any (T.map ju)])) (hb2:bo H b2=some (.row e2 1 d2 [i64 k])) (hn1:b1<nx) (hn2:b2<nx):
 kU Tryz.prog 91 [.im 1 .any (l.map i64), .fn (.func 93) [] [.pt b1 1 0 0, .pt b2 1 0 0]] H nx (bl (l.any fun j=>fg T j.toNat k)):=by
 refine aV OZ rfl ?_
 repeat' (first|refine aQ ?_|exact aC|with_reducible refine aB ?_ ?_|(apply aA;(·exact bz))|((refine aS (uH hT l hl2 hl k hk b1 b2 _ _ e1 e2 d1 d2 (by exact bt) (by exact bt) cU cU) ?_ ?_);(·exact True.intro))|((refine aR (fun _=>uH hT l hl2 hl k hk b1 b2 _ _ e1 e2 d1 d2 (by exact bt) (by exact bt) cU cU) ?_ ?_);(·exact True.intro))|refine aH ?_|((with_reducible refine aE ?_ ?_)<;>intro hc<;>try(exfalso;omega)))
 refine sK.look ?_ kB
 exact dZ (tv _ _ _)
theorem rX {T:jw} {m n:Nat} (hT:Shape T m n) (nd:Node) (hl:∀to∈nd.iA,0<=to/\to.toNat<m) (k:Nat) (hk:k<n):Pure Tryz.prog 52 [.im 1 .any (T.map ju),nd.av,i64 k] (fun r=>r=bl (mb T nd k)):=by
 have hf:=vR nd
 unfold gy at hf
 refine aD OE rfl ?_
 repeat' (first|refine aQ ?_|exact dR|with_reducible refine aB ?_ ?_|((with_reducible refine Ask.mk ?_);first|exact cW|exact cJ|(intro h;simp_all[Node.cells]<;>fail)|(simp_all[Node.cells]<;>fail))|(apply aA;(·exact bz))|refine aK (hf) ?_|((refine aS (oK hT nd.fold (mh nd) (fun to h=>hl to (iQ.1 h)) k hk _ _ _ _ _ _ _ _ (by exact bt) (by exact bt) cU cU) ?_ ?_);(·exact True.intro))|((refine aR (fun _=>oK hT nd.fold (mh nd) (fun to h=>hl to (iQ.1 h)) k hk _ _ _ _ _ _ _ _ (by exact bt) (by exact bt) cU cU) ?_ ?_);(·exact True.intro))|refine aH ?_|((with_reducible refine aE ?_ ?_)<;>intro hc<;>try(exfalso;omega)))
 exact dZ (yb _ _)
end Go.Proofs.YtekfmjjmihomlaaGreatDoor
