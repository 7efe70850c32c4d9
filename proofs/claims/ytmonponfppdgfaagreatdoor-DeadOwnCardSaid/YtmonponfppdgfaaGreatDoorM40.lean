import Derived.Test.YtmonponfppdgfaaGreatDoorM39
import Derived.Test.YtmonponfppdgfaaGreatDoorM29
import Derived.Test.YtmonponfppdgfaaGreatDoorM31
import Derived.Test.YtmonponfppdgfaaGreatDoorM30
namespace Go.Proofs.YtmonponfppdgfaaGreatDoor
open Go Go.dD Go.Proofs
set_option linter.unusedSimpArgs false
set_option linter.unusedVariables false
theorem sU (g:br) (hg:g.Wf) (hw:Whole g):Pure Tryz.prog 57 [g.av] (fun r=>r=jW (cx g)):=by
 have h:=zh g hg hw
 have fL:∀L:List (List Int),cL 0 (L.map dV):=fun L=>(cK _ _).2 fun _ _=>by simp[dV,cJ,cK]
 have fh:∀r,cJ 0 (jW r):=fun r=>by simp only[jW,cJ,cL];exact⟨fL _,trivial,trivial⟩
 by_cases hc:(cx g).1=[]
 ·refine mw (u:= .dK [.sc (.slice none 0 0),i64 (cx g).2]) (pure_or (h.mono ?_) (by simp[cJ,cL]) (fh _)) (fh _) fun c=> ?_
  ·rintro r H n (⟨a,rfl,e⟩|⟨b,d,L,rfl,e,hb⟩)
   ·left;rw[e];exact dB _ (by simp[cJ,cL])
   ·right
    rw[e]
    have e1:dD.de H 6 (.dK [.sl b L.length,i64 (-1)])= .dK [dD.de H 5 (.sl b L.length),i64 (-1)]:=by
     simp only[de,List.map_cons,List.map_nil]
    rw[e1,dM hb (by simp),cf _ (fL L)]
    rfl
  ·unfold jW
   rw[hc]
   intro v hv
   rw[VR] at hv ⊢
   obtain⟨vs,rfl,hv⟩:=hv
   refine⟨vs,rfl, ?_⟩
   rw[c9] at hv ⊢
   obtain⟨v1,vs1,e1,h1,h2⟩:=hv
   exact⟨v1,vs1,e1,dD.dk.mV c c 1 .any _ h1,h2⟩
 ·refine cV (h.mono ?_) (fh _)
  rintro r H n (⟨a,rfl,e⟩|⟨b,d,L,rfl,e,hb⟩)
  ·rw[e] at hc;exact absurd rfl hc
  ·rw[e]
   have e1:dD.de H 6 (.dK [.sl b L.length,i64 (-1)])= .dK [dD.de H 5 (.sl b L.length),i64 (-1)]:=by
    simp only[de,List.map_cons,List.map_nil]
   rw[e1,dM hb (by simp),cf _ (fL L)]
   rfl
theorem vP (acc:List ByteArray) (l:List Decl) (w:Bool):sM acc l w=(eP acc (l.map Decl.name)&&(w||l.all fun d=>decide (d.word=0))):=by
 induction l generalizing acc with
 |nil=>simp[sM,eP]
 |cons d r ih=>
  rw[sM,List.map_cons,eP,ih,List.all_cons]
  cases fg d.name<;>cases w<;>cases gv acc d.name<;>cases decide (d.word=0)<;>cases eP (acc++[d.name]) (r.map Decl.name)<;>simp
theorem rC (acc a b:List ByteArray):eP acc (a++b)=(eP acc a&&eP (acc++a) b):=by
 induction a generalizing acc with
 |nil=>simp[eP]
 |cons s r ih=>
  rw[List.cons_append,eP,eP,ih,List.append_assoc,List.singleton_append]
  split<;>simp
def j9 (u:bq):List Decl:=u.bo.map fun g=>⟨g.name,0,0⟩
theorem DN (u:bq):(j9 u).map Decl.name=u.bo.map br.name:=by simp[j9,List.map_map,Function.comp_def]
theorem jw (u:bq):(j9 u).length=u.bo.length:=by simp[j9]
theorem DO {u:bq} {t:Nat} (h:t<u.bo.length):(j9 u).take (t+1)=(j9 u).take t++[⟨(u.gr t).name,0,0⟩]:=by
 rw[List.take_succ_eq_append_getElem (by rw[jw];exact h)]
 simp[j9,bq.gr,List.getD,h]
theorem MR (u:bq) (h1:u.shared.length<=64) (h2:u.bz.length<=16) (h3:u.bo.length<=8) {L1 L2:List ByteArray}
 (e1:L1=if sM [] u.shared true=true then[]++u.shared.map Decl.name else[])
 (e2:L2=if sM L1 u.bz false=true then L1++u.bz.map Decl.name else[]):
 (sM [] u.shared true&&sM L1 u.bz false&&sM L2 (j9 u) false)=eV u:=by
 unfold eV
 rw[decide_eq_true h1,decide_eq_true h2,decide_eq_true h3,cY,rC,rC]
 have ht:(j9 u).all (fun d=>decide (d.word=0))=true:=by simp[j9]
 rw[vP L2,ht,DN,Bool.or_true,Bool.and_true]
 rw[vP []] at e1 ⊢
 rw[vP L1] at e2 ⊢
 simp only[Bool.true_or,Bool.and_true,List.nil_append,Bool.true_and,Bool.false_or] at e1 e2 ⊢
 cases ha:eP [] (u.shared.map Decl.name) with
 |false=>simp
 |true=>
  rw[ha,if_pos rfl] at e1
  subst e1
  cases hb:eP (u.shared.map Decl.name) (u.bz.map Decl.name) with
  |false=>simp
  |true=>
   rw[hb] at e2
   cases hc:u.bz.all (fun d=>decide (d.word=0)) with
   |false=>simp
   |true=>
    rw[hc,if_pos (by rfl)] at e2
    subst e2
    simp
theorem Wk.K3 {a a2:AV} {l:List AV} {H H2:Hp} {nx nx2:Nat} (h:Wk a H nx a2 H2 nx2):Wk (.dK (a::l)) H nx (.dK (a2::l)) H2 nx2:=by
 intro w0 ρ U w M0 hU hS
 obtain⟨ρ2,U2,k1,k2,k3,k4⟩:=h w0 ρ U w M0 hU hS
 refine⟨ρ2,U2,k1,k2,k3,fun v hv=> ?_⟩
 rw[VR] at hv ⊢
 obtain⟨vs,rfl,hv⟩:=hv
 refine⟨vs,rfl, ?_⟩
 rw[c9] at hv ⊢
 obtain⟨v1,vs1,e1,h1,h2⟩:=hv
 exact⟨v1,vs1,e1,k4 _ h1,c9.cH k3 h2⟩
theorem vW (l:List Decl) (hl:l.length<=64) (hw:∀d∈l,d.Wf) (a0:List ByteArray) (ha:a0.length<=1000) (w:Bool) (nv0:AV) (H0:Hp) (nx:Nat) (ht0:AK nv0 a0 H0 nx):cM Tryz.prog 55 [dN l,nv0,bl w] H0 nx (fun r H n=>∃b d L,r= .dK [.sl b L.length,bl (sM a0 l w)]/\b<n/\bk H b=some (.row 9 1 d (strs L))/\L=(if sM a0 l w=true then a0++l.map Decl.name else[])/\nx<=n/\∀y,y<nx->iY nv0 y->bk H y=bk H0 y/\y≠b):=by
 refine(xn l hl hw a0 ha w nv0 H0 nx ht0).wk ?_
 rintro r H n ⟨h1,h2,h3,h4⟩
 have hnil:∀bb:Bool,∀L:List ByteArray,L=[]->∃r2 H2 n2,Wk (.dK [.sc (.slice none 0 0),bl bb]) H n r2 H2 n2/\∃b d,r2= .dK [.sl b L.length,bl bb]/\b<n2/\bk H2 b=some (.row 9 1 d (strs L))/\nx<=n2/\∀y,y<nx->iY nv0 y->bk H2 y=bk H0 y/\y≠b:=by
  rintro bb L rfl
  refine⟨_,_,_,Wk.K3 (Wk.nil 9 1 .any (by omega)),n, .any,rfl,Nat.lt_succ_self _,ch _ _ _,Nat.le_succ_of_le h1,fun y a b=> ?_⟩
  have hne:y≠n:=by omega
  exact⟨(cQ hne).trans (h2 y a b),hne⟩
 cases hk:sM a0 l w with
 |true=>
  obtain⟨nv,rfl,ht,hy⟩:=h3 hk
  rcases ht with⟨rfl,hL⟩|⟨b,d,rfl,hbn,hb⟩
  ·obtain⟨r2,H2,n2,k1,b,d,k2,k3,k4,k5,k6⟩:=hnil true _ hL
   exact⟨r2,H2,n2,k1,b,d,_,k2,k3,k4,by rw[if_pos rfl],k5,k6⟩
  ·exact⟨_,_,_,Wk.refl _ _ _,b,d,_,rfl,hbn,hb,by rw[if_pos rfl],h1,fun y a c=>⟨h2 y a c,vt (hy y a c)⟩⟩
 |false=>
  rw[h4 hk]
  obtain⟨r2,H2,n2,k1,b,d,k2,k3,k4,k5,k6⟩:=hnil false [] rfl
  exact⟨r2,H2,n2,k1,b,d,_,k2,k3,k4,by rw[if_neg (by decide)],k5,k6⟩
set_option maxRecDepth 8000 in
set_option maxHeartbeats 8000000 in
theorem kQ (u:bq) (hu:u.Wf):Pure Tryz.prog 30 [u.av] (fun r=>r=y3 (gT u)):=by
 refine aG F3 rfl ?_
 have hgl9:=hu.gp
 have hsl9:=hu.gJ
 have hll9:=hu.gz
 by_cases hsz:u.shared.length<=64/\u.bz.length<=16/\u.bo.length<=8
 ·obtain⟨hs1,hs2,hs3⟩:=hsz
  have hgm:(u.bo.map br.av).length=u.bo.length:=by simp
  repeat' (first|refine aQ ?_|exact cP|with_reducible refine aB ?_ ?_|((with_reducible refine Ask.mk ?_);first|exact bx|exact bt|(intro h;simp_all[bq.cells]<;>fail)|(simp_all[bq.cells]<;>fail))|(apply aA;(·exact bp))|refine aH ?_|((with_reducible refine aE ?_ ?_)<;>intro hc<;>try(exfalso;omega)))
  all_goals first|(exfalso;omega)|skip
  refine aP (fun σ:Nat×AV=>[(1, .pt 0 1 0 0),(5,σ.2),(6,i64 σ.1)])
   (fun σ H n=>23<=n/\(∃d,bk H 0=some (.row 25 3 d [u.av]))/\((σ.1<u.bo.length/\σ.2= .sl 22 σ.1/\∃d,bk H 22=some (.row 48 3 d (((j9 u).take σ.1).map Decl.av)))\/(σ.1=u.bo.length/\σ.2=dN (j9 u)))) (fun σ=>u.bo.length - σ.1) (0,if u.bo.length=0 then dN (j9 u) else .sl 22 0) ?_ ?_
  ·by_cases h0:u.bo.length=0
   ·have hz:j9 u=[]:=List.length_eq_zero_iff.1 (by rw[jw];exact h0)
    rw[if_pos h0,hz]
    exact⟨_,_,_,(Rt.nil 5 48 3 (by omega) rfl).trans (Rt.uR 5 22 0 (e:=48) (sz:=3) (d:= .any) (es:=[]) rfl bm rfl),bu,cI,⟨_,bm⟩, .inr ⟨h0.symm,rfl⟩⟩
   ·rw[if_neg h0]
    exact⟨_,_,_,Rt.nil 5 48 3 (by omega) rfl,bu,cI,⟨_,bm⟩, .inl ⟨by dsimp only;omega,rfl,_,by simp only[List.take_zero,List.map_nil];exact bm⟩⟩
  clear hc
  rintro⟨t,av⟩ H n ⟨hn,⟨d0,r0⟩,hst⟩
  dsimp only at hst ⊢
  rcases hst with⟨htl,rfl,d5,r5⟩|⟨ht,rfl⟩
  ·have eg:=fun d=>j3 (l:=u.bo) htl d
   rw[show u.bo.getD t default=u.gr t from rfl] at eg
   have hnx:=DO htl
   have htm:(((j9 u).take t).map Decl.av).length=t:=by rw[List.length_map,List.length_take,jw];omega
   have hap:(((j9 u).take t).map Decl.av)++[(⟨(u.gr t).name,0,0⟩:Decl).av]=(((j9 u).take (t+1)).map Decl.av):=by rw[hnx];simp
   have hal:(((j9 u).take (t+1)).map Decl.av).length=t+1:=by rw[List.length_map,List.length_take,jw];omega
   have hap2:=hap
   unfold Decl.av Decl.cells at hap2
   repeat' (first|refine aQ ?_|exact cP|with_reducible refine aB ?_ ?_|((with_reducible refine Ask.mk ?_);first|exact bx|(exact hgm)|(exact htm)|exact bt|(intro h;simp_all[bq.cells,br.cells]<;>fail)|(simp_all[bq.cells,br.cells]<;>fail))|(apply aA;(·(first|exact eg _|exact bp)))|refine aH ?_|((with_reducible refine aE ?_ ?_)<;>intro hc<;>try(exfalso;omega)))
   by_cases hlast:t+1=u.bo.length
   ·have hz:(j9 u).take (t+1)=j9 u:=List.take_of_length_le (by rw[jw];omega)
    rw[hz] at hap
    exact⟨(t+1,dN (j9 u)),by dsimp only;omega,_,_,_,Rt.uR 5 22 (t+1) (e:=48) (sz:=3) (es:=(j9 u).map Decl.av) rfl (by rw[<-hap];exact bm) (by rw[List.length_map,jw];omega),bu,cI,⟨_,bm⟩, .inr ⟨hlast,rfl⟩⟩
   ·exact⟨(t+1, .sl 22 (t+1)),by dsimp only;omega,_,_,_,Rt.refl _ _ _,bu,cI,⟨_,bm⟩, .inl ⟨by dsimp only;omega,rfl,_,by dsimp only;rw[<-hap];exact bm⟩⟩
  ·subst ht
   repeat' (first|refine aQ ?_|exact cP|with_reducible refine aB ?_ ?_|((with_reducible refine Ask.mk ?_);first|exact bx|(exact hgm)|exact bt|(intro h;simp_all[bq.cells]<;>fail)|(simp_all[bq.cells]<;>fail))|(apply aA;(·exact bp))|refine aH ?_|((with_reducible refine aE ?_ ?_)<;>intro hc<;>try(exfalso;omega)))
   refine aJ (vW u.shared hs1 hu.shared [] (by simp) true _ _ _ (.inl ⟨rfl,rfl⟩)) ?_
   rintro _ H1 n1 ⟨b1,d1,L1,rfl,hb1,hr1,hL1,hn1,hy1⟩
   obtain⟨k1,a1⟩:=hy1 0 (by first|omega|exact cI) (fun b' n' e=>by cases e)
   have r1:∃d,bk H1 0=some (.row 25 3 d [u.av]):=⟨_,k1.trans bm⟩
   have hnn1:23<=n1:=Nat.le_trans (by first|omega|exact cI) hn1
   have hl1:L1.length<=64:=by rw[hL1];split<;>simp<;>omega
   clear k1 hy1 r0 hn1
   obtain⟨d1',r1⟩:=r1
   generalize hok1:sM [] u.shared true=o1 at *
   repeat' (first|refine aQ ?_|exact cP|with_reducible refine aB ?_ ?_|((with_reducible refine Ask.mk ?_);first|exact bx|exact bt|(intro h;simp_all[bq.cells]<;>fail)|(simp_all[bq.cells]<;>fail))|(apply aA;(·exact bp))|refine aH ?_|((with_reducible refine aE ?_ ?_)<;>intro hc<;>try(exfalso;omega)))
   refine aJ (vW u.bz (by omega) hu.bz L1 (by omega) false _ _ _ (.inr ⟨b1,_,rfl,Nat.lt_of_lt_of_le hb1 cI,bm⟩)) ?_
   rintro _ H2 n2 ⟨b2,d2,L2,rfl,hb2,hr2,hL2,hn2,hy2⟩
   obtain⟨k2,a2⟩:=hy2 0 (by first|omega|exact cI) (fun b' n' e=>by cases e;exact a1)
   have r2:∃d,bk H2 0=some (.row 25 3 d [u.av]):=⟨_,k2.trans bm⟩
   have hnn2:23<=n2:=Nat.le_trans (by first|omega|exact cI) hn2
   have hl2:L2.length<=128:=by rw[hL2];split<;>simp<;>omega
   clear k2 hy2 r1 hr1 hn2
   obtain⟨d2',r2⟩:=r2
   generalize hok2:sM L1 u.bz false=o2 at *
   repeat' (first|refine aQ ?_|exact cP|with_reducible refine aB ?_ ?_|((with_reducible refine Ask.mk ?_);first|exact bx|exact bt|(intro h;simp_all[bq.cells]<;>fail)|(simp_all[bq.cells]<;>fail))|(apply aA;(·exact bp))|refine aH ?_|((with_reducible refine aE ?_ ?_)<;>intro hc<;>try(exfalso;omega)))
   refine aJ (vW (j9 u) (by rw[jw];omega) (fun d hd=> ?_) L2 (by omega) false _ _ _ (.inr ⟨b2,_,rfl,Nat.lt_of_lt_of_le hb2 cI,bm⟩)) ?_
   ·obtain⟨g,hg,rfl⟩:=List.mem_map.1 hd
    have hz:jE 0:=by unfold jE;omega
    exact⟨(hu.bo g hg).name,hz,hz⟩
   rintro _ H3 n3 ⟨b3,d3,L3,rfl,hb3,hr3,hL3,hn3,hy3⟩
   obtain⟨k3,a3⟩:=hy3 0 (by first|omega|exact cI) (fun b' n' e=>by cases e;exact a2)
   have r3:∃d,bk H3 0=some (.row 25 3 d [u.av]):=⟨_,k3.trans bm⟩
   have hnn3:23<=n3:=Nat.le_trans (by first|omega|exact cI) hn3
   clear k3 hy3 r2 hr2 hr3 hn3
   obtain⟨d3',r3⟩:=r3
   generalize hok3:sM L2 (j9 u) false=o3 at *
   have hnm:(o1&&o2&&o3)=eV u:=by
    rw[<-MR u hs1 hs2 hs3 (L1:=L1) (L2:=L2) (by rw[hok1];exact hL1) (by rw[hok2];exact hL2),hok1,hok2,hok3]
   clear hL1 hL2 hL3 hok1 hok2 hok3
   cases hnb:eV u with
   |false=>
    rw[lI hnb]
    rw[hnb] at hnm
    repeat' (first|refine aQ ?_|exact cP|with_reducible refine aB ?_ ?_|((with_reducible refine Ask.mk ?_);first|exact bx|exact bt|(intro h;simp_all[bq.cells]<;>fail)|(simp_all[bq.cells]<;>fail))|(apply aA;(·exact bp))|refine aH ?_|((with_reducible refine aE ?_ ?_)<;>intro hc<;>try(exfalso;omega)))
    ·exact rfl
    ·exfalso
     obtain⟨hc1,hc2⟩:=hc
     subst hc2
     cases o1<;>cases o2<;>simp_all
   |true=>
    rw[hnb] at hnm
    have e1:o1=true:=by cases o1;cases hnm;rfl
    have e2:o2=true:=by cases o2;cases o1<;>cases hnm;rfl
    have e3:o3=true:=by cases o3;cases o1<;>cases o2<;>cases hnm;rfl
    subst e1;subst e2;subst e3
    have hck:gT u=e8 u u.bo 0:=by unfold gT;rw[if_pos hnb]
    rw[hck]
    repeat' (first|refine aQ ?_|exact cP|with_reducible refine aB ?_ ?_|((with_reducible refine Ask.mk ?_);first|exact bx|exact bt|(intro h;simp_all[bq.cells]<;>fail)|(simp_all[bq.cells]<;>fail))|(apply aA;(·exact bp))|refine aH ?_|((with_reducible refine aE ?_ ?_)<;>intro hc<;>try(exfalso;omega)))
    refine aF (fun t:Nat=>[(1, .pt 0 1 0 0),(12,i64 t)])
     (fun t H n=>t<=u.bo.length/\1<=n/\(∃d,bk H 0=some (.row 25 3 d [u.av]))/\e8 u (u.bo.drop t) t=e8 u u.bo 0) (fun t=>u.bo.length - t) 0 bu ⟨Nat.zero_le _,cI,⟨_,bm⟩,rfl⟩ ?_
    clear r3
    rintro t H n ⟨ht,hn,⟨d0,r0⟩,hF⟩
    by_cases htl:t<u.bo.length
    ·have hg:=hu.bo _ (cE default htl)
     rw[oW htl] at hF
     have eg:=fun d=>j3 htl d
     generalize hG:u.bo.getD t default=g at *
     have hl:=hg.len
     have hnm':(g.nodes.map Node.av).length=g.nodes.length:=by simp
     unfold mN at hF
     by_cases hb:g.locals<0\/g.locals>64\/g.cZ<g.locals\/g.cZ>4160\/g.nodes.length<1\/g.nodes.length>4096
     ·rw[if_pos hb] at hF
      rw[<-hF]
      repeat' (first|refine aQ ?_|exact cP|with_reducible refine aB ?_ ?_|((with_reducible refine Ask.mk ?_);first|exact bx|(exact hgm)|(exact hnm')|exact bt|(intro h;simp_all[bq.cells,br.cells]<;>fail)|(simp_all[bq.cells,br.cells]<;>fail))|(apply aA;(·(first|exact eg _|exact bp)))|refine aH ?_|((with_reducible refine aE ?_ ?_)<;>intro hc<;>try(exfalso;omega)))
      all_goals first|exact rfl|(exfalso;omega)
     ·rw[if_neg hb] at hF
      repeat' (first|refine aQ ?_|exact cP|with_reducible refine aB ?_ ?_|((with_reducible refine Ask.mk ?_);first|exact bx|(exact hgm)|(exact hnm')|exact bt|(intro h;simp_all[bq.cells,br.cells]<;>fail)|(simp_all[bq.cells,br.cells]<;>fail))|(apply aA;(·(first|exact eg _|exact bp)))|refine aH ?_|((with_reducible refine aE ?_ ?_)<;>intro hc<;>try(exfalso;omega)))
      all_goals first|(exfalso;omega)|skip
      refine aF (fun i:Nat=>[(1, .pt 0 1 0 0),(12,i64 t),(13, .pt (n+10) 1 0 0),(14,i64 i)])
       (fun i H2 n2=>i<=g.nodes.length/\n+11<=n2/\(∃d,bk H2 0=some (.row 25 3 d [u.av]))/\(∃d,bk H2 (n+10)=some (.row 40 4 d [g.av]))/\gB (iW u g) (g.nodes.drop i) i=gB (iW u g) g.nodes 0) (fun i=>g.nodes.length - i) 0 bu ⟨Nat.zero_le _,cI,⟨_,bm⟩,⟨_,bm⟩,rfl⟩ ?_
      clear r0
      rintro i H2 n2 ⟨hi,hn2,⟨d02,r0⟩,⟨d4,r4⟩,hfst⟩
      by_cases hil:i<g.nodes.length
      ·have hp:=zo u g (g.nodes.getD i default) (hg.nodes _ (cE default hil))
       have en:=fun d=>eH hil d
       have hfst2:=rZ default hfst hil
       cases hnb:iW u g (g.nodes.getD i default) with
       |false=>
        rw[hnb] at hp
        rw[if_neg (by rw[hnb];decide)] at hfst2
        rw[hfst2] at hF
        rw[<-hF]
        repeat' (first|refine aQ ?_|exact cP|with_reducible refine aB ?_ ?_|((with_reducible refine Ask.mk ?_);first|exact bx|(exact hnm')|exact bt|(intro h;simp_all[bq.cells,br.cells,Node.cells]<;>fail)|(simp_all[bq.cells,br.cells,Node.cells]<;>fail))|(apply aA;(·(first|exact en _|exact bp)))|refine aK (hp) ?_|refine aH ?_|((with_reducible refine aE ?_ ?_)<;>intro hc<;>try(exfalso;omega)))
        exact rfl
       |true=>
        rw[hnb] at hp
        rw[if_pos hnb] at hfst2
        repeat' (first|refine aQ ?_|exact cP|with_reducible refine aB ?_ ?_|((with_reducible refine Ask.mk ?_);first|exact bx|(exact hnm')|exact bt|(intro h;simp_all[bq.cells,br.cells,Node.cells]<;>fail)|(simp_all[bq.cells,br.cells,Node.cells]<;>fail))|(apply aA;(·(first|exact en _|exact bp)))|refine aK (hp) ?_|refine aH ?_|((with_reducible refine aE ?_ ?_)<;>intro hc<;>try(exfalso;omega)))
        exact⟨i+1,by omega,bu,by omega,cI,⟨_,bm⟩,⟨_,bm⟩,hfst2.symm⟩
      ·have:i=g.nodes.length:=by omega
       subst this
       rw[rY _ _ (Nat.le_refl _)] at hfst
       rw[<-hfst] at hF
       dsimp only at hF
       have hok:Whole g:=oz (u:=u) (by omega) fun m hm=>mr.1 (jK.1 hfst.symm m hm)
       have hh:=sU g hg hok
       unfold jW at hh
       by_cases hb2:0<=(cx g).2
       ·rw[if_pos hb2] at hF
        rw[<-hF]
        repeat' (first|refine aQ ?_|exact cP|with_reducible refine aB ?_ ?_|((with_reducible refine Ask.mk ?_);first|exact bx|(exact hnm')|exact bt|(intro h;simp_all[bq.cells,br.cells]<;>fail)|(simp_all[bq.cells,br.cells]<;>fail))|(apply aA;(·exact bp))|refine aK (hh) ?_|refine aH ?_|((with_reducible refine aE ?_ ?_)<;>intro hc<;>try(exfalso;omega)))
        exact rfl
       ·rw[if_neg hb2] at hF
        repeat' (first|refine aQ ?_|exact cP|with_reducible refine aB ?_ ?_|((with_reducible refine Ask.mk ?_);first|exact bx|(exact hnm')|exact bt|(intro h;simp_all[bq.cells,br.cells]<;>fail)|(simp_all[bq.cells,br.cells]<;>fail))|(apply aA;(·exact bp))|refine aK (hh) ?_|refine aH ?_|((with_reducible refine aE ?_ ?_)<;>intro hc<;>try(exfalso;omega)))
        exact⟨t+1,by omega,bu,by omega,by omega,⟨_,bm⟩,hF⟩
    ·have:t=u.bo.length:=by omega
     subst this
     rw[List.drop_eq_nil_of_le (Nat.le_refl _),e8] at hF
     rw[<-hF]
     repeat' (first|refine aQ ?_|exact cP|with_reducible refine aB ?_ ?_|((with_reducible refine Ask.mk ?_);first|exact bx|(exact hgm)|exact bt|(intro h;simp_all[bq.cells]<;>fail)|(simp_all[bq.cells]<;>fail))|(apply aA;(·exact bp))|refine aH ?_|((with_reducible refine aE ?_ ?_)<;>intro hc<;>try(exfalso;omega)))
     exact rfl
 ·have hb:eV u=false:=by
   unfold eV
   by_cases e1:u.shared.length<=64
   ·by_cases e2:u.bz.length<=16
    ·have e3:¬u.bo.length<=8:=fun e=>hsz ⟨e1,e2,e⟩
     simp[e3]
    ·simp[e2]
   ·simp[e1]
  rw[lI hb]
  repeat' (first|refine aQ ?_|exact cP|with_reducible refine aB ?_ ?_|((with_reducible refine Ask.mk ?_);first|exact bx|exact bt|(intro h;simp_all[bq.cells]<;>fail)|(simp_all[bq.cells]<;>fail))|(apply aA;(·exact bp))|refine aH ?_|((with_reducible refine aE ?_ ?_)<;>intro hc<;>try(exfalso;omega)))
  all_goals first|exact rfl|(exfalso;omega)
set_option maxRecDepth 4000 in
set_option maxHeartbeats 4000000 in
theorem qQ (g:br) (hg:g.Wf) (hw:Whole g):Pure Tryz.prog 82 [g.av] (fun r=>r=bl true):=by
 have hl:=hg.len
 have hl0:=hw.1
 have hl1:=hw.2.1
 refine aG HK rfl ?_
 repeat' (first|refine aQ ?_|exact cP|with_reducible refine aB ?_ ?_|((with_reducible refine Ask.mk ?_);first|exact bx|exact bt|(intro h;simp_all[br.cells]<;>fail)|(simp_all[br.cells]<;>fail))|(apply aA;(·exact bp))|refine aH ?_|((with_reducible refine aE ?_ ?_)<;>intro hc<;>try(exfalso;omega)))
 refine aF (fun i:Nat=>[(1, .pt 0 1 0 0),(3,i64 i)])
  (fun i H n=>i<=g.nodes.length/\1<=n/\∃d,bk H 0=some (.row 40 4 d [g.av])) (fun i=>g.nodes.length - i) 0 bu ⟨Nat.zero_le _,cI,⟨_,bm⟩⟩ ?_
 rintro i H n ⟨hi,hn,⟨d0,r0⟩⟩
 by_cases hil:i<g.nodes.length
 ·have en:=fun d=>eH (l:=g.nodes) hil d
  obtain⟨k1,k2,k3⟩:=hw.2.2 i hil
  have k1:1<=(g.nodes.getD i default).kind:=k1
  have k2:(g.nodes.getD i default).kind<10:=k2
  have hf:=gI (g.nd i)
  have hfl:=ml (g.nd i)
  unfold dV at hf
  repeat' (first|refine aQ ?_|exact cP|with_reducible refine aB ?_ ?_|((with_reducible refine Ask.mk ?_);first|exact bx|exact bt|(intro h;simp_all[br.cells,Node.cells]<;>fail)|(simp_all[br.cells,Node.cells]<;>fail))|(apply aA;(·(first|exact en _|exact bp)))|refine aK (hf) ?_|refine aH ?_|((with_reducible refine aE ?_ ?_)<;>intro hc<;>try(exfalso;omega)))
  clear hf
  refine aF (fun j:Nat=>[(1, .pt 0 1 0 0),(3,i64 i),(5, .im 1 .any ((g.nd i).dQ.map i64)),(6,i64 j)])
   (fun j H2 n2=>j<=(g.nd i).dQ.length/\n<=n2/\∃d,bk H2 0=some (.row 40 4 d [g.av])) (fun j=>(g.nd i).dQ.length - j) 0 bu ⟨Nat.zero_le _,cI,⟨_,bm⟩⟩ ?_
  rintro j H2 n2 ⟨hj,hn2,⟨d02,r02⟩⟩
  by_cases hjl:j<(g.nd i).dQ.length
  ·have ej:=fun d=>e9 (l:=(g.nd i).dQ) hjl d
   have hk:=k3 _ (cE (0:Int) hjl)
   generalize (g.nd i).dQ.getD j 0=y at *
   repeat' (first|refine aQ ?_|exact cP|with_reducible refine aB ?_ ?_|((with_reducible refine Ask.mk ?_);first|exact bx|exact bt|(intro h;simp_all[br.cells]<;>fail)|(simp_all[br.cells]<;>fail))|(apply aA;(·(first|exact ej _|exact bp)))|refine aH ?_|((with_reducible refine aE ?_ ?_)<;>intro hc<;>try(exfalso;omega)))
   exact⟨j+1,by omega,bu,by omega,cI,⟨_,bm⟩⟩
  ·have:j=(g.nd i).dQ.length:=by omega
   subst this
   repeat' (first|refine aQ ?_|exact cP|with_reducible refine aB ?_ ?_|((with_reducible refine Ask.mk ?_);first|exact bx|exact bt|(intro h;simp_all[br.cells]<;>fail)|(simp_all[br.cells]<;>fail))|(apply aA;(·exact bp))|refine aH ?_|((with_reducible refine aE ?_ ?_)<;>intro hc<;>try(exfalso;omega)))
   exact⟨i+1,by omega,bu,by omega,cI,⟨_,bm⟩⟩
 ·have:i=g.nodes.length:=by omega
  subst this
  repeat' (first|refine aQ ?_|exact cP|with_reducible refine aB ?_ ?_|((with_reducible refine Ask.mk ?_);first|exact bx|exact bt|(intro h;simp_all[br.cells]<;>fail)|(simp_all[br.cells]<;>fail))|(apply aA;(·exact bp))|refine aH ?_|((with_reducible refine aE ?_ ?_)<;>intro hc<;>try(exfalso;omega)))
  exact rfl
set_option maxRecDepth 4000 in
set_option maxHeartbeats 4000000 in
theorem tM (g:br) (hg:g.Wf) (hw:Whole g):Pure Tryz.prog 83 [g.av,i64 (-1)] (fun r=>r=fE (cj g (-1))):=by
 have hl:=hg.len
 have hl0:=hw.1
 have hl1:=hw.2.1
 have hrep:∀d,(List.replicate (((List.map Node.av g.nodes).length:Nat):Int).toNat (gw false [Value.bool false])).getD (Int.toNat 0) d=bl false:=fun d=>by
  rw[Int.toNat_natCast,show Int.toNat 0=0 from rfl,List.length_map,List.getD,List.getElem?_replicate,if_pos (by omega)];rfl
 refine cV ?_ (by simp[fE,cJ,cK])
 refine aI HL rfl ?_
 repeat' (first|refine aQ ?_|exact cP|with_reducible refine aB ?_ ?_|((with_reducible refine Ask.mk ?_);first|exact bx|exact bt|(intro h;simp_all[br.cells]<;>fail)|(simp_all[br.cells]<;>fail))|(apply aA;(·(first|exact hrep _|exact bp)))|refine aH ?_|((with_reducible refine aE ?_ ?_)<;>intro hc<;>try(exfalso;omega)))
 simp only[List.length_map,Int.toNat_natCast]
 have hst:(List.replicate g.nodes.length (gw false [Value.bool false])).set (Int.toNat 0) (AV.sc (Value.bool true))=((List.replicate g.nodes.length false).set 0 true).map bl:=by
  rw[List.map_set,List.map_replicate];rfl
 refine aF (fun σ:Nat×List Bool×List Int=>[(1,i64 (-1)),(2, .pt 0 1 0 0),(5, .sl 5 g.nodes.length),(6, .sl 10 σ.2.2.length),(7,i64 σ.1)])
  (fun σ H n=>11<=n/\σ.1<=σ.2.2.length/\kB g (-1) σ.2.1 (σ.2.2.drop σ.1)/\σ.2.2.length+σ.2.1.count false=g.nodes.length/\(∃d,bk H 0=some (.row 40 4 d [g.av]))/\(∃d,bk H 5=some (.row 4 1 d (σ.2.1.map bl)))/\∃d,bk H 10=some (.row 3 1 d (σ.2.2.map i64)))
  (fun σ=>g.nodes.length - σ.1) (0,(List.replicate g.nodes.length false).set 0 true,[0]) bu ⟨cI,Nat.zero_le _,kB.start hw, ?_,⟨_,bm⟩,⟨_,by rw[<-hst];exact bm⟩,⟨_,bm⟩⟩ ?_
 ·have:=count_set (l:=List.replicate g.nodes.length false) (i:=0) (by simp;omega) (by simp[List.getD,List.getElem?_replicate];split<;>rfl)
  simp only[List.count_replicate_self] at this
  simp only[List.length_cons,List.length_nil]
  omega
 rintro⟨k,out,todo⟩ H n ⟨hn,hk,hgo,hcnt,⟨d0,r0⟩,⟨d5,r5⟩,⟨d10,r10⟩⟩
 dsimp only at hk hgo hcnt r5 r10 ⊢
 have hol:=hgo.len
 have hml:(todo.map i64).length=todo.length:=by simp
 have holm:(out.map bl).length=g.nodes.length:=by simp[hol]
 by_cases hkl:k<todo.length
 ·have hdr:todo.drop k=[]++todo.getD k 0::todo.drop (k+1):=by rw[List.drop_eq_getElem_cons hkl,gd hkl];rfl
  obtain⟨x0,x1,x2⟩:=hgo.inr (todo.getD k 0) (by rw[hdr];simp)
  rw[hol] at x1
  have et:=fun d=>e9 (l:=todo) hkl d
  generalize hx:todo.getD k 0=x at *
  have en:=fun d=>eH (l:=g.nodes) x1 d
  have hf:=gI (g.nd x.toNat)
  have hfl:=ml (g.nd x.toNat)
  unfold dV at hf
  repeat' (first|refine aQ ?_|exact cP|with_reducible refine aB ?_ ?_|((with_reducible refine Ask.mk ?_);first|exact bx|(exact hml)|exact bt|(intro h;simp_all[br.cells,Node.cells]<;>fail)|(simp_all[br.cells,Node.cells]<;>fail))|(apply aA;(·(first|exact et _|exact en _|exact bp)))|refine aK (hf) ?_|refine aH ?_|((with_reducible refine aE ?_ ?_)<;>intro hc<;>try(exfalso;omega)))
  clear hf
  refine aF (fun q:(List Bool×List Int)×Nat=>[(1,i64 (-1)),(2, .pt 0 1 0 0),(5, .sl 5 g.nodes.length),(6, .sl 10 q.1.2.length),(7,i64 k),(8, .im 1 .any ((g.nd x.toNat).dQ.map i64)),(9,i64 q.2)])
   (fun q H2 n2=>11<=n2/\q.2<=(g.nd x.toNat).dQ.length/\q.1.1.length=g.nodes.length/\q.1.2.length+q.1.1.count false=g.nodes.length/\j8 ((g.nd x.toNat).dQ.drop q.2) q.1=j8 (g.nd x.toNat).dQ (out,todo)/\(∃d,bk H2 0=some (.row 40 4 d [g.av]))/\(∃d,bk H2 5=some (.row 4 1 d (q.1.1.map bl)))/\∃d,bk H2 10=some (.row 3 1 d (q.1.2.map i64)))
   (fun q=>(g.nd x.toNat).dQ.length - q.2) ((out,todo),0) bu ⟨cI,Nat.zero_le _,hol,hcnt,rfl,⟨_,bm⟩,⟨_,bm⟩,⟨_,bm⟩⟩ ?_
  clear r0 r5 r10
  rintro⟨⟨o2,t2⟩,j⟩ H2 n2 ⟨hn2,hj,ho2,hc2,hsp,⟨d0,r0⟩,⟨d5,r5⟩,⟨d10,r10⟩⟩
  dsimp only at hj ho2 hc2 hsp r5 r10 ⊢
  have hol2:(o2.map bl).length=g.nodes.length:=by simp[ho2]
  have htl2:(t2.map i64).length=t2.length:=by simp
  by_cases hjl:j<(g.nd x.toNat).dQ.length
  ·obtain⟨y0,y1⟩:=(hw.2.2 x.toNat x1).2.2 _ (cE 0 hjl)
   have ej:=fun d=>e9 (l:=(g.nd x.toNat).dQ) hjl d
   have ek:=fun d=>kF (l:=o2) (k:=(g.nd x.toNat).dQ.getD j 0) d (by rw[ho2];exact y1)
   rw[ua _ _ hjl] at hsp
   generalize (g.nd x.toNat).dQ.getD j 0=y at *
   cases hfd:iF o2 y with
   |true=>
    rw[if_neg (by rw[hfd];decide)] at hsp
    rw[hfd] at ek
    repeat' (first|refine aQ ?_|exact cP|with_reducible refine aB ?_ ?_|((with_reducible refine Ask.mk ?_);first|exact bx|(exact hol2)|exact bt)|(apply aA;(·(first|exact ej _|exact ek _|exact bp)))|refine aH ?_|((with_reducible refine aE ?_ ?_)<;>intro hc<;>try(exfalso;omega)))
    exact⟨((o2,t2),j+1),by dsimp only;omega,bu,cI,by dsimp only;omega,ho2,hc2,hsp,⟨_,bm⟩,⟨_,bm⟩,⟨_,bm⟩⟩
   |false=>
    rw[if_pos hfd] at hsp
    rw[hfd] at ek
    have hct:=count_set (l:=o2) (i:=y.toNat) (by rw[ho2];exact y1) hfd
    repeat' (first|refine aQ ?_|exact cP|with_reducible refine aB ?_ ?_|((with_reducible refine Ask.mk ?_);first|exact bx|(exact hol2)|exact bt)|(apply aA;(·(first|exact ej _|exact ek _|exact bp)))|refine aH ?_|((with_reducible refine aE ?_ ?_)<;>intro hc<;>try(exfalso;omega)))
    refine⟨((o2.set y.toNat true,t2++[y]),j+1),by dsimp only;omega,bu,cI,by dsimp only;omega,by simp[ho2], ?_,hsp,⟨_,bm⟩,⟨_,by rw[<-iK];exact bm⟩,⟨_,by rw[<-fi];exact bm⟩⟩
    simp only[List.length_append,List.length_cons,List.length_nil]
    omega
  ·have:j=(g.nd x.toNat).dQ.length:=by omega
   subst this
   rw[List.drop_eq_nil_of_le (Nat.le_refl _),j8] at hsp
   have sp:=jN (g.nd x.toNat).dQ (out,todo) (fun k hk=>by have:=(hw.2.2 x.toNat x1).2.2 k hk;rw[<-hol] at this;exact this)
   rw[<-hsp] at sp
   obtain⟨t',e1,_,_,e4⟩:=sp.more
   dsimp only at e1 e4
   have hon:=hgo.on hw (a:=[]) hdr (by omega) hsp.symm e1
   dsimp only at hon
   have hdr2:t2.drop (k+1)=[]++todo.drop (k+1)++t':=by rw[e1,List.drop_append_of_le_length (by omega)];rfl
   rw[<-hdr2] at hon
   have hlt:t2.length=todo.length+t'.length:=by rw[e1,List.length_append]
   repeat' (first|refine aQ ?_|exact aC|with_reducible refine aB ?_ ?_|(apply aA;(·exact bp))|refine aH ?_|((with_reducible refine aE ?_ ?_)<;>intro hc<;>try(exfalso;omega)))
   exact⟨(k+1,o2,t2),by dsimp only;omega,bu,cI,by dsimp only;omega,hon,hc2,⟨_,bm⟩,⟨_,bm⟩,⟨_,bm⟩⟩
 ·have:k=todo.length:=by omega
  subst this
  rw[List.drop_eq_nil_of_le (Nat.le_refl _)] at hgo
  have hfin:=hgo.fin hw
  subst hfin
  repeat' (first|refine aQ ?_|exact aC|with_reducible refine aB ?_ ?_|(apply aA;(·exact bp))|refine aH ?_|((with_reducible refine aE ?_ ?_)<;>intro hc<;>try(exfalso;omega)))
  refine⟨(dM bm holm).trans ?_⟩
  rw[cf _ (jd _ _)];rfl
theorem k9 (g:br) (hg:g.Wf) (hw:Whole g):Pure Tryz.prog 48 [g.av] (fun r=>r=fE (cj g (-1))):=by
 have h1:=qQ g hg hw
 have h2:=tM g hg hw
 refine aG GM rfl ?_
 repeat' (first|refine aQ ?_|exact cP|with_reducible refine aB ?_ ?_|((with_reducible refine Ask.mk ?_);first|exact bx|exact bt|(intro h;simp_all[br.cells]<;>fail)|(simp_all[br.cells]<;>fail))|(apply aA;(·exact bp))|refine aK (h1) ?_|refine aK (h2) ?_|refine aH ?_|((with_reducible refine aE ?_ ?_)<;>intro hc<;>try(exfalso;omega)))
 exact vg.eq (by simp[fE,cJ,cK]) rfl
set_option maxRecDepth 4000 in
theorem DE (l:List Int) (hl:l.length<=5000) (n:Int):Pure Tryz.prog 81 [dV l,i64 n] (fun r=>r=bl (decide (n∈l))):=by
 refine aG HJ rfl ?_
 have hm:(l.map i64).length=l.length:=by simp
 unfold dV
 repeat' (first|refine aQ ?_|exact aC|with_reducible refine aB ?_ ?_|(apply aA;(·exact bp))|refine aH ?_|((with_reducible refine aE ?_ ?_)<;>intro hc<;>try(exfalso;omega)))
 refine aF (fun i:Nat=>[(0,dV l),(1,i64 n),(5,i64 i)])
  (fun i H m=>i<=l.length/\∀j,j<i->l.getD j 0≠n) (fun i=>l.length - i) 0 bu ⟨Nat.zero_le _,fun j hj=>by omega⟩ ?_
 rintro i H m ⟨hi,hall⟩
 unfold dV
 by_cases hil:i<l.length
 ·have ei:=fun d=>e9 hil d
  repeat' (first|refine aQ ?_|exact cP|with_reducible refine aB ?_ ?_|((with_reducible refine Ask.mk ?_);first|exact bx|(exact hm)|exact bt)|(apply aA;(·(first|exact ei _|exact bp)))|refine aH ?_|((with_reducible refine aE ?_ ?_)<;>intro hc<;>try(exfalso;omega)))
  ·refine cn (Eq.symm (decide_eq_true ?_))
   rw[<-hc];exact cE 0 hil
  ·refine⟨i+1,by omega,bu,by omega,fun j hj=> ?_⟩
   by_cases e:j=i
   ·subst e;exact hc
   ·exact hall j (by omega)
 ·have:i=l.length:=by omega
  subst this
  repeat' (first|refine aQ ?_|exact cP|with_reducible refine aB ?_ ?_|((with_reducible refine Ask.mk ?_);first|exact bx|(exact hm)|exact bt)|(apply aA;(·exact bp))|refine aH ?_|((with_reducible refine aE ?_ ?_)<;>intro hc<;>try(exfalso;omega)))
  refine cn (Eq.symm (decide_eq_false fun h=> ?_))
  obtain⟨j,hj,e⟩:=List.getElem_of_mem h
  exact hall j hj (by simpa[List.getD,hj] using e)
def la (out:List Int) (x:Int):Nat:=(out.takeWhile fun y=>decide (y<x)).length
theorem wj {out:List Int} {x:Int} {p:Nat} (h1:p<=out.length) (h2:∀j,j<p->out.getD j 0<x) (h3:p=out.length\/¬out.getD p 0<x):la out x=p:=by
 unfold la
 induction out generalizing p with
 |nil=>simp at h1;simp[h1]
 |cons a r ih=>
  rw[List.takeWhile_cons]
  cases p with
  |zero=>
   rcases h3 with h3|h3
   ·simp at h3
   ·have:¬a<x:=by simpa[List.getD] using h3
    simp[this]
  |succ q=>
   have ha:a<x:=by simpa[List.getD] using h2 0 (by omega)
   rw[if_pos (by simpa using ha),List.length_cons]
   rw[ih (p:=q) (by simpa using h1) (fun j hj=>by simpa[List.getD] using h2 (j+1) (by omega)) (by
    rcases h3 with h3|h3
    ·left;simpa using h3
    ·right;simpa[List.getD] using h3)]
theorem FK (out:List Int) (x:Int):la out x<=out.length:=by
 unfold la
 exact(List.takeWhile_prefix _).length_le
def nE (out:List Int) (x:Int):List Int:=if la out x<out.length/\out.getD (la out x) 0=x then out else out.take (la out x)++[x]++out.drop (la out x)
theorem FM (out:List Int) (x z:Int):z∈nE out x↔z∈out\/z=x:=by
 unfold nE
 by_cases h:la out x<out.length/\out.getD (la out x) 0=x
 ·rw[if_pos h]
  refine⟨.inl,fun e=>e.elim id fun e=> ?_⟩
  rw[e,<-h.2];exact cE 0 h.1
 ·rw[if_neg h]
  have hz:z∈out↔z∈out.take (la out x)\/z∈out.drop (la out x):=by
   rw[<-List.mem_append,List.take_append_drop]
  rw[hz]
  simp only[List.mem_append,List.mem_cons,List.not_mem_nil,or_false]
  constructor
  ·rintro((a|a)|a)
   ·exact .inl (.inl a)
   ·exact .inr a
   ·exact .inl (.inr a)
  ·rintro((a|a)|a)
   ·exact .inl (.inl a)
   ·exact .inr a
   ·exact .inl (.inr a)
theorem FL (out:List Int) (x:Int):(nE out x).length<=out.length+1:=by
 unfold nE
 have:=FK out x
 split
 ·omega
 ·simp;omega
def iI (l:List Int):List Int:=l.foldl nE []
theorem I0 (l:List Int) (x:Int):iI (l++[x])=nE (iI l) x:=by simp[iI]
theorem DF {l:List Int} {i:Nat} (h:i<l.length):iI (l.take (i+1))=nE (iI (l.take i)) (l.getD i 0):=by
 rw[List.take_succ_eq_append_getElem h,I0];simp[List.getD,h]
theorem BY (l:List Int):∀(o:List Int) (z:Int),z∈l.foldl nE o↔z∈o\/z∈l:=by
 induction l with
 |nil=>simp
 |cons a r ih=>
  intro o z
  rw[List.foldl_cons,ih,FM]
  simp only[List.mem_cons]
  constructor
  ·rintro((a|a)|a)
   ·exact .inl a
   ·exact .inr (.inl a)
   ·exact .inr (.inr a)
  ·rintro(a|a|a)
   ·exact .inl (.inl a)
   ·exact .inl (.inr a)
   ·exact .inr a
theorem I1 (l:List Int) (z:Int):z∈iI l↔z∈l:=by
 unfold iI;rw[BY];simp
theorem BX (l:List Int):∀(o:List Int),(l.foldl nE o).length<=o.length+l.length:=by
 induction l with
 |nil=>simp
 |cons a r ih=>
  intro o
  rw[List.foldl_cons]
  have:=ih (nE o a)
  have:=FL o a
  simp;omega
theorem xl (l:List Int):(iI l).length<=l.length:=by
 have:=BX l []
 simpa[iI] using this
theorem lY {e:TypeId} {s:Nat} {d:AV} {es es2:List AV} (h:es=es2):some (eO.row e s d es)=some (eO.row e s d es2):=by rw[h]
set_option maxRecDepth 4000 in
set_option maxHeartbeats 4000000 in
theorem xm (l:List Int) (hl:l.length<=5000):Pure Tryz.prog 103 [dV l] (fun r=>r=dV (iI l)):=by
 have hm:(l.map i64).length=l.length:=by simp
 refine cV ?_ (by simp[dV,cJ,cK])
 refine aI xA rfl ?_
 unfold dV
 repeat' (first|refine aQ ?_|exact aC|with_reducible refine aB ?_ ?_|(apply aA;(·exact bp))|refine aH ?_|((with_reducible refine aE ?_ ?_)<;>intro hc<;>try(exfalso;omega)))
 refine aP (fun σ:Nat×Nat×Nat=>[(0,dV l),(3, .sl σ.2.1 σ.2.2),(4,i64 σ.1)])
  (fun σ H n=>σ.1<=l.length/\σ.2.1<n/\σ.2.2=(iI (l.take σ.1)).length/\∃d,bk H σ.2.1=some (.row 3 1 d ((iI (l.take σ.1)).map i64))) (fun σ=>l.length - σ.1) (0,3,0) ⟨_,_,_,Rt.nil 3 3 1 (by omega) rfl,bu,Nat.zero_le _,cI,rfl,⟨_,bm⟩⟩ ?_
 rintro⟨i,b,bn⟩ H n ⟨hi,hb,hbn,d,r⟩
 dsimp only at hi hb hbn r ⊢
 subst hbn
 unfold dV
 by_cases hil:i<l.length
 ·have ei:=fun d=>e9 hil d
  have hnx:=DF hil
  have hol:=xl (l.take i)
  rw[List.length_take] at hol
  generalize hx:l.getD i 0=x at *
  generalize iI (l.take i)=out at *
  have hom:(out.map i64).length=out.length:=by simp
  repeat' (first|refine aQ ?_|exact cP|with_reducible refine aB ?_ ?_|((with_reducible refine Ask.mk ?_);first|exact bx|(exact hm)|(exact hom)|exact bt)|(apply aA;(·(first|exact ei _|exact bp)))|refine aH ?_|((with_reducible refine aE ?_ ?_)<;>intro hc<;>try(exfalso;omega)))
  refine aF (fun p:Nat=>[(0,dV l),(3, .sl b out.length),(4,i64 i),(5,i64 p)])
   (fun p H n2=>n<=n2/\p<=out.length/\(∀j,j<p->out.getD j 0<x)/\∃d,bk H b=some (.row 3 1 d (out.map i64))) (fun p=>out.length - p) 0 bu ⟨cI,Nat.zero_le _,fun j hj=>by omega,_,bm⟩ ?_
  clear r
  rintro p H2 n2 ⟨hn2,hp,hlt,d,r⟩
  unfold dV
  by_cases hpl:p<out.length
  ·have ep:=fun d=>e9 hpl d
   by_cases hlx:out.getD p 0<x
   ·repeat' (first|refine aQ ?_|exact cP|with_reducible refine aB ?_ ?_|((with_reducible refine Ask.mk ?_);first|exact bx|(exact hm)|(exact hom)|exact bt)|(apply aA;(·(first|exact ei _|exact ep _|exact bp)))|refine aH ?_|((with_reducible refine aE ?_ ?_)<;>intro hc<;>try(exfalso;omega)))
    exact⟨p+1,by omega,bu,cI,by omega,fun j hj=>by
     by_cases e:j=p
     ·rw[e];exact hlx
     ·exact hlt j (by omega),_,bm⟩
   ·have hat:=wj hp hlt (.inr hlx)
    by_cases hex:out.getD p 0=x
    ·have hin:nE out x=out:=by unfold nE;rw[hat,if_pos ⟨hpl,hex⟩]
     repeat' (first|refine aQ ?_|exact cP|with_reducible refine aB ?_ ?_|((with_reducible refine Ask.mk ?_);first|exact bx|(exact hm)|(exact hom)|exact bt)|(apply aA;(·(first|exact ei _|exact ep _|exact bp)))|refine aH ?_|((with_reducible refine aE ?_ ?_)<;>intro hc<;>try(exfalso;omega)))
     exact⟨(i+1,b,out.length),by dsimp only;omega,_,_,_,Rt.refl _ _ _,bu,by dsimp only;omega,cI,by dsimp only;rw[hnx,hin],⟨_,by dsimp only;rw[hnx,hin];exact bm⟩⟩
    ·have hin:nE out x=out.take p++[x]++out.drop p:=by unfold nE;rw[hat,if_neg (fun h=>hex h.2)]
     have htk:List.take ((p:Int).toNat - 0) (List.drop 0 (List.map i64 out))=List.map i64 (out.take p):=by simp[List.map_take]
     have hdr:List.take (out.length - (p:Int).toNat) (List.drop (p:Int).toNat (List.map i64 out))=List.map i64 (out.drop p):=by rw[Int.toNat_natCast,<-List.map_drop,List.take_of_length_le (by simp)]
     repeat' (first|refine aQ ?_|exact cP|with_reducible refine aB ?_ ?_|((with_reducible refine Ask.mk ?_);first|exact bx|(exact hm)|(exact hom)|(simp[jB]<;>omega)|exact bt)|(apply aA;(·(first|exact ei _|exact ep _|exact bp)))|((with_reducible apply aW);(·exact v7 (es:=List.map i64 out) bm hom sx sx LZ))|refine aH ?_|((with_reducible refine aE ?_ ?_)<;>intro hc<;>try(exfalso;omega)))
     all_goals refine⟨(i+1,_,_),by dsimp only;omega,_,_,_,Rt.refl _ _ _,bu,by dsimp only;omega,cI, ?_,⟨_,Eq.trans (b:=some (.row 3 1 _ _)) bm (lY ?_)⟩⟩
     all_goals dsimp only
     all_goals rw[hnx,hin]
     ·simp;omega
     ·rw[htk,hdr,List.map_append,List.map_append];rfl
  ·have:p=out.length:=by omega
   subst this
   have hat:=wj (Nat.le_refl _) hlt (.inl rfl)
   have hin:nE out x=out++[x]:=by unfold nE;rw[hat,if_neg (fun h=>Nat.lt_irrefl _ h.1)];simp
   have htk:List.take ((out.length:Int).toNat - 0) (List.drop 0 (List.map i64 out))=List.map i64 out:=by rw[Int.toNat_natCast,Nat.sub_zero,List.drop_zero,List.take_of_length_le (by simp)]
   have hdr:List.take (out.length - (out.length:Int).toNat) (List.drop (out.length:Int).toNat (List.map i64 out))=[]:=by simp
   have hll:decide ((out.length:Int)<(out.length:Int))=false:=by simp
   repeat' (first|refine aQ ?_|exact cP|with_reducible refine aB ?_ ?_|((with_reducible refine Ask.mk ?_);first|exact bx|(exact hm)|(exact hom)|(simp[jB]<;>omega)|exact bt)|(apply aA;(·(first|exact ei _|exact bp)))|(simp only[hll])|((with_reducible apply aW);(·exact v7 (es:=List.map i64 out) bm hom sx sx LZ))|refine aH ?_|((with_reducible refine aE ?_ ?_)<;>intro hc<;>try(exfalso;omega)))
   all_goals refine⟨(i+1,_,_),by dsimp only;omega,_,_,_,Rt.refl _ _ _,bu,by dsimp only;omega,cI, ?_,⟨_,Eq.trans (b:=some (.row 3 1 _ _)) bm (lY ?_)⟩⟩
   all_goals dsimp only
   all_goals rw[hnx,hin]
   ·simp
   ·rw[htk,hdr,List.map_append,List.append_nil];rfl
 ·have:i=l.length:=by omega
  subst this
  rw[List.take_length] at r ⊢
  repeat' (first|refine aQ ?_|exact cP|with_reducible refine aB ?_ ?_|((with_reducible refine Ask.mk ?_);first|exact bx|(exact hm)|exact bt)|(apply aA;(·exact bp))|refine aH ?_|((with_reducible refine aE ?_ ?_)<;>intro hc<;>try(exfalso;omega)))
  exact⟨(dM bm (by simp)).trans (by rw[cf _ (oP _ _)])⟩
end Go.Proofs.YtmonponfppdgfaaGreatDoor
