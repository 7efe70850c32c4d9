import Derived.Test.YtekfmjjmihomlaaGreatM42
import Derived.Test.YtekfmjjmihomlaaGreatM26
import Derived.Test.YtekfmjjmihomlaaGreatM40
import Derived.Test.YtekfmjjmihomlaaGreatM32
import Derived.Test.YtekfmjjmihomlaaGreatM41
import Derived.Test.YtekfmjjmihomlaaGreatM38
section
/- Is a unit right? The document's walk. -/
namespace Go.Proofs.YtekfmjjmihomlaaGreat
open Go Go.cZ Go.Proofs
set_option linter.unusedSimpArgs false
set_option linter.unusedVariables false
theorem zt (g:cA) (hg:g.Wf) (hw:Whole g):Pure Tryz.prog 98 [g.av] (fun r=>r=jk (gl g)):=by
 have h:=zr g hg hw
 have fL:∀L:List (List Int),cT 0 (L.map fc):=fun L=>(cC _ _).2 fun _ _=>by simp[fc,cE,cC]
 have fh:∀r,cE 0 (jk r):=fun r=>by simp only[jk,cE,cT];exact⟨fL _,trivial,trivial⟩
 by_cases hc:(gl g).1=[]
 ·refine qQ (u:= .dV [.sc (.slice none 0 0),i64 (gl g).2]) (pure_or (h.mono ?_) (by simp[cE,cT]) (fh _)) (fh _) fun c=> ?_
  ·rintro r H n (⟨a,rfl,e⟩|⟨b,d,L,rfl,e,hb⟩)
   ·left;rw[e];exact cx _ (by simp[cE,cT])
   ·right
    rw[e]
    have e1:cZ.dX H 6 (.dV [.sl b L.length,i64 (-1)])= .dV [cZ.dX H 5 (.sl b L.length),i64 (-1)]:=by
     simp only[dX,List.map_cons,List.map_nil]
    rw[e1,dF hb (by simp),cc _ (fL L)]
    rfl
  ·unfold jk
   rw[hc]
   intro v hv
   rw[VR] at hv ⊢
   obtain⟨vs,rfl,hv⟩:=hv
   refine⟨vs,rfl, ?_⟩
   rw[cd] at hv ⊢
   obtain⟨v1,vs1,e1,h1,h2⟩:=hv
   exact⟨v1,vs1,e1,cZ.dZ.kJ c c 1 .any _ h1,h2⟩
 ·refine dY (h.mono ?_) (fh _)
  rintro r H n (⟨a,rfl,e⟩|⟨b,d,L,rfl,e,hb⟩)
  ·rw[e] at hc;exact absurd rfl hc
  ·rw[e]
   have e1:cZ.dX H 6 (.dV [.sl b L.length,i64 (-1)])= .dV [cZ.dX H 5 (.sl b L.length),i64 (-1)]:=by
    simp only[dX,List.map_cons,List.map_nil]
   rw[e1,dF hb (by simp),cc _ (fL L)]
   rfl
theorem uu (acc:List ByteArray) (l:List Decl) (w:Bool):rf acc l w=(eO acc (l.map Decl.name)&&(w||l.all fun d=>decide (d.word=0))):=by
 induction l generalizing acc with
 |nil=>simp[rf,eO]
 |cons d r ih=>
  rw[rf,List.map_cons,eO,ih,List.all_cons]
  cases fI d.name<;>cases w<;>cases fV acc d.name<;>cases decide (d.word=0)<;>cases eO (acc++[d.name]) (r.map Decl.name)<;>simp
theorem q9 (acc a b:List ByteArray):eO acc (a++b)=(eO acc a&&eO (acc++a) b):=by
 induction a generalizing acc with
 |nil=>simp[eO]
 |cons s r ih=>
  rw[List.cons_append,eO,eO,ih,List.append_assoc,List.singleton_append]
  split<;>simp
def iy (u:bt):List Decl:=u.bo.map fun g=>⟨g.name,0,0⟩
theorem EW (u:bt):(iy u).map Decl.name=u.bo.map cA.name:=by simp[iy,List.map_map,Function.comp_def]
theorem jW (u:bt):(iy u).length=u.bo.length:=by simp[iy]
theorem EX {u:bt} {t:Nat} (h:t<u.bo.length):(iy u).take (t+1)=(iy u).take t++[⟨(u.gr t).name,0,0⟩]:=by
 rw[List.take_succ_eq_append_getElem (by rw[jW];exact h)]
 simp[iy,bt.gr,List.getD,h]
theorem O0 (u:bt) (h1:u.shared.length≤64) (h2:u.bx.length≤16) (h3:u.bo.length≤8) {L1 L2:List ByteArray}
 (e1:L1=if rf [] u.shared true=true then[]++u.shared.map Decl.name else[])
 (e2:L2=if rf L1 u.bx false=true then L1++u.bx.map Decl.name else[]):
 (rf [] u.shared true&&rf L1 u.bx false&&rf L2 (iy u) false)=eY u:=by
 unfold eY
 rw[decide_eq_true h1,decide_eq_true h2,decide_eq_true h3,cp,q9,q9]
 have ht:(iy u).all (fun d=>decide (d.word=0))=true:=by simp[iy]
 rw[uu L2,ht,EW,Bool.or_true,Bool.and_true]
 rw[uu []] at e1 ⊢
 rw[uu L1] at e2 ⊢
 simp only[Bool.true_or,Bool.and_true,List.nil_append,Bool.true_and,Bool.false_or] at e1 e2 ⊢
 cases ha:eO [] (u.shared.map Decl.name) with
 |false=>simp
 |true=>
  rw[ha,if_pos rfl] at e1
  subst e1
  cases hb:eO (u.shared.map Decl.name) (u.bx.map Decl.name) with
  |false=>simp
  |true=>
   rw[hb] at e2
   cases hc:u.bx.all (fun d=>decide (d.word=0)) with
   |false=>simp
   |true=>
    rw[hc,if_pos (by rfl)] at e2
    subst e2
    simp
theorem Wk.M6 {a a2:AV} {l:List AV} {H H2:Hp} {nx nx2:Nat} (h:Wk a H nx a2 H2 nx2):Wk (.dV (a::l)) H nx (.dV (a2::l)) H2 nx2:=by
 intro w0 ρ U w M0 hU hS
 obtain⟨ρ2,U2,k1,k2,k3,k4⟩:=h w0 ρ U w M0 hU hS
 refine⟨ρ2,U2,k1,k2,k3,fun v hv=> ?_⟩
 rw[VR] at hv ⊢
 obtain⟨vs,rfl,hv⟩:=hv
 refine⟨vs,rfl, ?_⟩
 rw[cd] at hv ⊢
 obtain⟨v1,vs1,e1,h1,h2⟩:=hv
 exact⟨v1,vs1,e1,k4 _ h1,cd.cS k3 h2⟩
theorem vF (l:List Decl) (hl:l.length≤64) (hw:∀d∈l,d.Wf) (a0:List ByteArray) (ha:a0.length≤1000) (w:Bool) (nv0:AV) (H0:Hp) (nx:Nat) (ht0:AU nv0 a0 H0 nx):cP Tryz.prog 96 [bw l,nv0,bl w] H0 nx (fun r H n=>∃b d L,r= .dV [.sl b L.length,bl (rf a0 l w)]∧b<n∧bn H b=some (.row 9 1 d (strs L))∧L=(if rf a0 l w=true then a0++l.map Decl.name else[])∧nx≤n∧∀y,y<nx→iC nv0 y→bn H y=bn H0 y∧y≠b):=by
 refine(xr l hl hw a0 ha w nv0 H0 nx ht0).wk ?_
 rintro r H n ⟨h1,h2,h3,h4⟩
 have hnil:∀bb:Bool,∀L:List ByteArray,L=[]→∃r2 H2 n2,Wk (.dV [.sc (.slice none 0 0),bl bb]) H n r2 H2 n2∧∃b d,r2= .dV [.sl b L.length,bl bb]∧b<n2∧bn H2 b=some (.row 9 1 d (strs L))∧nx≤n2∧∀y,y<nx→iC nv0 y→bn H2 y=bn H0 y∧y≠b:=by
  rintro bb L rfl
  refine⟨_,_,_,Wk.M6 (Wk.nil 9 1 .any (by omega)),n, .any,rfl,Nat.lt_succ_self _,cO _ _ _,Nat.le_succ_of_le h1,fun y a b=> ?_⟩
  have hne:y≠n:=by omega
  exact⟨(cG hne).trans (h2 y a b),hne⟩
 cases hk:rf a0 l w with
 |true=>
  obtain⟨nv,rfl,ht,hy⟩:=h3 hk
  rcases ht with⟨rfl,hL⟩|⟨b,d,rfl,hbn,hb⟩
  ·obtain⟨r2,H2,n2,k1,b,d,k2,k3,k4,k5,k6⟩:=hnil true _ hL
   exact⟨r2,H2,n2,k1,b,d,_,k2,k3,k4,by rw[if_pos rfl],k5,k6⟩
  ·exact⟨_,_,_,Wk.refl _ _ _,b,d,_,rfl,hbn,hb,by rw[if_pos rfl],h1,fun y a c=>⟨h2 y a c,vd (hy y a c)⟩⟩
 |false=>
  rw[h4 hk]
  obtain⟨r2,H2,n2,k1,b,d,k2,k3,k4,k5,k6⟩:=hnil false [] rfl
  exact⟨r2,H2,n2,k1,b,d,_,k2,k3,k4,by rw[if_neg (by decide)],k5,k6⟩
set_option maxRecDepth 8000 in
set_option maxHeartbeats 8000000 in
theorem xm (u:bt) (hu:u.Wf):Pure Tryz.prog 66 [u.av] (fun r=>r=mj (fg u)):=by
 refine aI H7 rfl ?_
 have hgl9:=hu.kE
 have hsl9:=hu.jJ
 have hll9:=hu.kH
 by_cases hsz:u.shared.length≤64∧u.bx.length≤16∧u.bo.length≤8
 ·obtain⟨hs1,hs2,hs3⟩:=hsz
  have hgm:(u.bo.map cA.av).length=u.bo.length:=by simp
  repeat' (first|((with_reducible refine aF ?_);conv=>whnf)|refine aG ?_|exact eK|with_reducible refine aD ?_ ?_|((with_reducible refine Ask.mk ?_);first|exact cz|exact cU|(intro h;simp_all[bt.cells]<;>fail)|(simp_all[bt.cells]<;>fail))|(apply aA;(·exact cF))|refine aH ?_|((with_reducible refine aB ?_ ?_)<;>intro hc<;>(try simp only[List.length_map,ne_eq,dE] at hc)<;>try(exfalso;omega)))
  all_goals first|(exfalso;omega)|skip
  refine aU (fun σ:Nat×AV=>[(1, .pt 0 1 0 0),(5,σ.2),(6,i64 σ.1)])
   (fun σ H n=>23≤n∧(∃d,bn H 0=some (.row 25 3 d [u.av]))∧((σ.1<u.bo.length∧σ.2= .sl 22 σ.1∧∃d,bn H 22=some (.row 103 3 d (((iy u).take σ.1).map Decl.av)))∨(σ.1=u.bo.length∧σ.2=bw (iy u)))) (fun σ=>u.bo.length - σ.1) (0,if u.bo.length=0 then bw (iy u) else .sl 22 0) ?_ ?_
  ·by_cases h0:u.bo.length=0
   ·have hz:iy u=[]:=List.length_eq_zero_iff.1 (by rw[jW];exact h0)
    rw[if_pos h0,hz]
    exact⟨_,_,_,(Rt.nil 5 103 3 (by omega) rfl).trans (Rt.tc 5 22 0 (e:=103) (sz:=3) (d:= .any) (es:=[]) rfl bq rfl),cI,c8,⟨_,bq⟩, .inr ⟨h0.symm,rfl⟩⟩
   ·rw[if_neg h0]
    exact⟨_,_,_,Rt.nil 5 103 3 (by omega) rfl,cI,c8,⟨_,bq⟩, .inl ⟨by dsimp only;omega,rfl,_,by simp only[List.take_zero,List.map_nil];exact bq⟩⟩
  clear hc
  rintro⟨t,av⟩ H n ⟨hn,⟨d0,r0⟩,hst⟩
  dsimp only at hst ⊢
  rcases hst with⟨htl,rfl,d5,r5⟩|⟨ht,rfl⟩
  ·have eg:=fun d=>lV (l:=u.bo) htl d
   rw[show u.bo.getD t default=u.gr t from rfl] at eg
   have hnx:=EX htl
   have htm:(((iy u).take t).map Decl.av).length=t:=by rw[List.length_map,List.length_take,jW];omega
   have hap:(((iy u).take t).map Decl.av)++[(⟨(u.gr t).name,0,0⟩:Decl).av]=(((iy u).take (t+1)).map Decl.av):=by rw[hnx];simp
   have hal:(((iy u).take (t+1)).map Decl.av).length=t+1:=by rw[List.length_map,List.length_take,jW];omega
   have hap2:=hap
   unfold Decl.av Decl.cells at hap2
   repeat' (first|((with_reducible refine aF ?_);conv=>whnf)|refine aG ?_|exact eK|with_reducible refine aD ?_ ?_|((with_reducible refine Ask.mk ?_);first|exact cz|(exact hgm)|(exact htm)|exact cU|(intro h;simp_all[bt.cells,cA.cells]<;>fail)|(simp_all[bt.cells,cA.cells]<;>fail))|(apply aA;(·(first|exact eg _|exact cF)))|refine aH ?_|((with_reducible refine aB ?_ ?_)<;>intro hc<;>(try simp only[List.length_map,ne_eq,dE] at hc)<;>try(exfalso;omega)))
   by_cases hlast:t+1=u.bo.length
   ·have hz:(iy u).take (t+1)=iy u:=List.take_of_length_le (by rw[jW];omega)
    rw[hz] at hap
    exact⟨(t+1,bw (iy u)),by dsimp only;omega,_,_,_,Rt.tc 5 22 (t+1) (e:=103) (sz:=3) (es:=(iy u).map Decl.av) rfl (by rw[←hap];exact bq) (by rw[List.length_map,jW];omega),cI,c8,⟨_,bq⟩, .inr ⟨hlast,rfl⟩⟩
   ·exact⟨(t+1, .sl 22 (t+1)),by dsimp only;omega,_,_,_,Rt.refl _ _ _,cI,c8,⟨_,bq⟩, .inl ⟨by dsimp only;omega,rfl,_,by dsimp only;rw[←hap];exact bq⟩⟩
  ·subst ht
   repeat' (first|((with_reducible refine aF ?_);conv=>whnf)|refine aG ?_|exact eK|with_reducible refine aD ?_ ?_|((with_reducible refine Ask.mk ?_);first|exact cz|(exact hgm)|exact cU|(intro h;simp_all[bt.cells]<;>fail)|(simp_all[bt.cells]<;>fail))|(apply aA;(·exact cF))|refine aH ?_|((with_reducible refine aB ?_ ?_)<;>intro hc<;>(try simp only[List.length_map,ne_eq,dE] at hc)<;>try(exfalso;omega)))
   refine aO (vF u.shared hs1 hu.shared [] (by simp) true _ _ _ (.inl ⟨rfl,rfl⟩)) ?_
   rintro _ H1 n1 ⟨b1,d1,L1,rfl,hb1,hr1,hL1,hn1,hy1⟩
   obtain⟨k1,a1⟩:=hy1 0 (by first|omega|exact c8) (fun b' n' e=>by cases e)
   have r1:∃d,bn H1 0=some (.row 25 3 d [u.av]):=⟨_,k1.trans bq⟩
   have hnn1:23≤n1:=Nat.le_trans (by first|omega|exact c8) hn1
   have hl1:L1.length≤64:=by rw[hL1];split<;>simp<;>omega
   clear k1 hy1 r0 hn1
   obtain⟨d1',r1⟩:=r1
   generalize hok1:rf [] u.shared true=o1 at *
   repeat' (first|((with_reducible refine aF ?_);conv=>whnf)|refine aG ?_|exact eK|with_reducible refine aD ?_ ?_|((with_reducible refine Ask.mk ?_);first|exact cz|exact cU|(intro h;simp_all[bt.cells]<;>fail)|(simp_all[bt.cells]<;>fail))|(apply aA;(·exact cF))|refine aH ?_|((with_reducible refine aB ?_ ?_)<;>intro hc<;>(try simp only[List.length_map,ne_eq,dE] at hc)<;>try(exfalso;omega)))
   refine aO (vF u.bx (by omega) hu.bx L1 (by omega) false _ _ _ (.inr ⟨b1,_,rfl,Nat.lt_of_lt_of_le hb1 c8,bq⟩)) ?_
   rintro _ H2 n2 ⟨b2,d2,L2,rfl,hb2,hr2,hL2,hn2,hy2⟩
   obtain⟨k2,a2⟩:=hy2 0 (by first|omega|exact c8) (fun b' n' e=>by cases e;exact a1)
   have r2:∃d,bn H2 0=some (.row 25 3 d [u.av]):=⟨_,k2.trans bq⟩
   have hnn2:23≤n2:=Nat.le_trans (by first|omega|exact c8) hn2
   have hl2:L2.length≤128:=by rw[hL2];split<;>simp<;>omega
   clear k2 hy2 r1 hr1 hn2
   obtain⟨d2',r2⟩:=r2
   generalize hok2:rf L1 u.bx false=o2 at *
   repeat' (first|((with_reducible refine aF ?_);conv=>whnf)|refine aG ?_|exact eK|with_reducible refine aD ?_ ?_|((with_reducible refine Ask.mk ?_);first|exact cz|exact cU|(intro h;simp_all[bt.cells]<;>fail)|(simp_all[bt.cells]<;>fail))|(apply aA;(·exact cF))|refine aH ?_|((with_reducible refine aB ?_ ?_)<;>intro hc<;>(try simp only[List.length_map,ne_eq,dE] at hc)<;>try(exfalso;omega)))
   refine aO (vF (iy u) (by rw[jW];omega) (fun d hd=> ?_) L2 (by omega) false _ _ _ (.inr ⟨b2,_,rfl,Nat.lt_of_lt_of_le hb2 c8,bq⟩)) ?_
   ·obtain⟨g,hg,rfl⟩:=List.mem_map.1 hd
    have hz:eM 0:=by unfold eM;omega
    exact⟨(hu.bo g hg).name,hz,hz⟩
   rintro _ H3 n3 ⟨b3,d3,L3,rfl,hb3,hr3,hL3,hn3,hy3⟩
   obtain⟨k3,a3⟩:=hy3 0 (by first|omega|exact c8) (fun b' n' e=>by cases e;exact a2)
   have r3:∃d,bn H3 0=some (.row 25 3 d [u.av]):=⟨_,k3.trans bq⟩
   have hnn3:23≤n3:=Nat.le_trans (by first|omega|exact c8) hn3
   clear k3 hy3 r2 hr2 hr3 hn3
   obtain⟨d3',r3⟩:=r3
   generalize hok3:rf L2 (iy u) false=o3 at *
   have hnm:(o1&&o2&&o3)=eY u:=by
    rw[←O0 u hs1 hs2 hs3 (L1:=L1) (L2:=L2) (by rw[hok1];exact hL1) (by rw[hok2];exact hL2),hok1,hok2,hok3]
   clear hL1 hL2 hL3 hok1 hok2 hok3
   cases hnb:eY u with
   |false=>
    rw[kU hnb]
    rw[hnb] at hnm
    repeat' (first|((with_reducible refine aF ?_);conv=>whnf)|refine aG ?_|exact eK|with_reducible refine aD ?_ ?_|((with_reducible refine Ask.mk ?_);first|exact cz|exact cU|(intro h;simp_all[bt.cells]<;>fail)|(simp_all[bt.cells]<;>fail))|(apply aA;(·exact cF))|refine aH ?_|((with_reducible refine aB ?_ ?_)<;>intro hc<;>(try simp only[List.length_map,ne_eq,dE] at hc)<;>try(exfalso;omega)))
    ·exact rfl
    ·exfalso
     obtain⟨hc1,hc2⟩:=hc
     subst hc2
     cases o1<;>cases o2<;>simp_all
   |true=>
    rw[hnb] at hnm
    have e1:o1=true:=by cases o1;cases hnm;rfl
    have e2:o2=true:=by cases o2;cases o1<;>cases hnm;rfl
    have e3:o3=true:=by cases o3;cases o1<;>cases o2<;>cases hnm;rfl
    subst e1;subst e2;subst e3
    have hck:fg u=eW u u.bo 0:=by unfold fg;rw[if_pos hnb]
    rw[hck]
    repeat' (first|((with_reducible refine aF ?_);conv=>whnf)|refine aG ?_|exact eK|with_reducible refine aD ?_ ?_|((with_reducible refine Ask.mk ?_);first|exact cz|exact cU|(intro h;simp_all[bt.cells]<;>fail)|(simp_all[bt.cells]<;>fail))|(apply aA;(·exact cF))|refine aH ?_|((with_reducible refine aB ?_ ?_)<;>intro hc<;>(try simp only[List.length_map,ne_eq,dE] at hc)<;>try(exfalso;omega)))
    refine aP (fun t:Nat=>[(1, .pt 0 1 0 0),(12,i64 t)])
     (fun t H n=>t≤u.bo.length∧1≤n∧(∃d,bn H 0=some (.row 25 3 d [u.av]))∧eW u (u.bo.drop t) t=eW u u.bo 0) (fun t=>u.bo.length - t) 0 cI ⟨Nat.zero_le _,c8,⟨_,bq⟩,rfl⟩ ?_
    clear r3
    rintro t H n ⟨ht,hn,⟨d0,r0⟩,hF⟩
    by_cases htl:t<u.bo.length
    ·have hg:=hu.bo _ (cW default htl)
     rw[oD htl] at hF
     have eg:=fun d=>lV htl d
     generalize hG:u.bo.getD t default=g at *
     have hl:=hg.len
     have hnm':(g.nodes.map Node.av).length=g.nodes.length:=by simp
     unfold lW at hF
     by_cases hb:g.locals<0∨g.locals>64∨g.br<g.locals∨g.br>4160∨g.nodes.length<1∨g.nodes.length>4096
     ·rw[if_pos hb] at hF
      rw[←hF]
      repeat' (first|((with_reducible refine aF ?_);conv=>whnf)|refine aG ?_|exact eK|with_reducible refine aD ?_ ?_|((with_reducible refine Ask.mk ?_);first|exact cz|(exact hgm)|(exact hnm')|exact cU|(intro h;simp_all[bt.cells,cA.cells]<;>fail)|(simp_all[bt.cells,cA.cells]<;>fail))|(apply aA;(·(first|exact eg _|exact cF)))|refine aH ?_|((with_reducible refine aB ?_ ?_)<;>intro hc<;>(try simp only[List.length_map,ne_eq,dE] at hc)<;>try(exfalso;omega)))
      all_goals first|exact rfl|(exfalso;omega)
     ·rw[if_neg hb] at hF
      repeat' (first|((with_reducible refine aF ?_);conv=>whnf)|refine aG ?_|exact eK|with_reducible refine aD ?_ ?_|((with_reducible refine Ask.mk ?_);first|exact cz|(exact hgm)|(exact hnm')|exact cU|(intro h;simp_all[bt.cells,cA.cells]<;>fail)|(simp_all[bt.cells,cA.cells]<;>fail))|(apply aA;(·(first|exact eg _|exact cF)))|refine aH ?_|((with_reducible refine aB ?_ ?_)<;>intro hc<;>(try simp only[List.length_map,ne_eq,dE] at hc)<;>try(exfalso;omega)))
      all_goals first|(exfalso;omega)|skip
      refine aP (fun i:Nat=>[(1, .pt 0 1 0 0),(12,i64 t),(13, .pt (n+10) 1 0 0),(14,i64 i)])
       (fun i H2 n2=>i≤g.nodes.length∧n+11≤n2∧(∃d,bn H2 0=some (.row 25 3 d [u.av]))∧(∃d,bn H2 (n+10)=some (.row 64 4 d [g.av]))∧fU (hX u g) (g.nodes.drop i) i=fU (hX u g) g.nodes 0) (fun i=>g.nodes.length - i) 0 cI ⟨Nat.zero_le _,c8,⟨_,bq⟩,⟨_,bq⟩,rfl⟩ ?_
      clear r0
      rintro i H2 n2 ⟨hi,hn2,⟨d02,r0⟩,⟨d4,r4⟩,hfst⟩
      by_cases hil:i<g.nodes.length
      ·have hp:=zx u g (g.nodes.getD i default) (hg.nodes _ (cW default hil))
       have en:=fun d=>gG hil d
       have hfst2:=qz default hfst hil
       cases hnb:hX u g (g.nodes.getD i default) with
       |false=>
        rw[hnb] at hp
        rw[if_neg (by rw[hnb];decide)] at hfst2
        rw[hfst2] at hF
        rw[←hF]
        repeat' (first|((with_reducible refine aF ?_);conv=>whnf)|refine aG ?_|exact eK|with_reducible refine aD ?_ ?_|((with_reducible refine Ask.mk ?_);first|exact cz|(exact hnm')|exact cU|(intro h;simp_all[bt.cells,cA.cells,Node.cells]<;>fail)|(simp_all[bt.cells,cA.cells,Node.cells]<;>fail))|(apply aA;(·(first|exact en _|exact cF)))|refine aK (hp) ?_|refine aH ?_|((with_reducible refine aB ?_ ?_)<;>intro hc<;>(try simp only[List.length_map,ne_eq,dE] at hc)<;>try(exfalso;omega)))
        exact rfl
       |true=>
        rw[hnb] at hp
        rw[if_pos hnb] at hfst2
        repeat' (first|((with_reducible refine aF ?_);conv=>whnf)|refine aG ?_|exact eK|with_reducible refine aD ?_ ?_|((with_reducible refine Ask.mk ?_);first|exact cz|(exact hnm')|exact cU|(intro h;simp_all[bt.cells,cA.cells,Node.cells]<;>fail)|(simp_all[bt.cells,cA.cells,Node.cells]<;>fail))|(apply aA;(·(first|exact en _|exact cF)))|refine aK (hp) ?_|refine aH ?_|((with_reducible refine aB ?_ ?_)<;>intro hc<;>(try simp only[List.length_map,ne_eq,dE] at hc)<;>try(exfalso;omega)))
        exact⟨i+1,by omega,cI,by omega,c8,⟨_,bq⟩,⟨_,bq⟩,hfst2.symm⟩
      ·have:i=g.nodes.length:=by omega
       subst this
       rw[qy _ _ (Nat.le_refl _)] at hfst
       rw[←hfst] at hF
       dsimp only at hF
       have hok:Whole g:=sJ (u:=u) (by omega) fun m hm=>mH.1 (iN.1 hfst.symm m hm)
       have hh:=zt g hg hok
       unfold jk at hh
       by_cases hb2:0≤(gl g).2
       ·rw[if_pos hb2] at hF
        rw[←hF]
        repeat' (first|((with_reducible refine aF ?_);conv=>whnf)|refine aG ?_|exact eK|with_reducible refine aD ?_ ?_|((with_reducible refine Ask.mk ?_);first|exact cz|(exact hnm')|exact cU|(intro h;simp_all[bt.cells,cA.cells]<;>fail)|(simp_all[bt.cells,cA.cells]<;>fail))|(apply aA;(·exact cF))|refine aK (hh) ?_|refine aH ?_|((with_reducible refine aB ?_ ?_)<;>intro hc<;>(try simp only[List.length_map,ne_eq,dE] at hc)<;>try(exfalso;omega)))
        exact rfl
       ·rw[if_neg hb2] at hF
        repeat' (first|((with_reducible refine aF ?_);conv=>whnf)|refine aG ?_|exact eK|with_reducible refine aD ?_ ?_|((with_reducible refine Ask.mk ?_);first|exact cz|(exact hnm')|exact cU|(intro h;simp_all[bt.cells,cA.cells]<;>fail)|(simp_all[bt.cells,cA.cells]<;>fail))|(apply aA;(·exact cF))|refine aK (hh) ?_|refine aH ?_|((with_reducible refine aB ?_ ?_)<;>intro hc<;>(try simp only[List.length_map,ne_eq,dE] at hc)<;>try(exfalso;omega)))
        exact⟨t+1,by omega,cI,by omega,by omega,⟨_,bq⟩,hF⟩
    ·have:t=u.bo.length:=by omega
     subst this
     rw[List.drop_eq_nil_of_le (Nat.le_refl _),eW] at hF
     rw[←hF]
     repeat' (first|((with_reducible refine aF ?_);conv=>whnf)|refine aG ?_|exact eK|with_reducible refine aD ?_ ?_|((with_reducible refine Ask.mk ?_);first|exact cz|(exact hgm)|exact cU|(intro h;simp_all[bt.cells]<;>fail)|(simp_all[bt.cells]<;>fail))|(apply aA;(·exact cF))|refine aH ?_|((with_reducible refine aB ?_ ?_)<;>intro hc<;>(try simp only[List.length_map,ne_eq,dE] at hc)<;>try(exfalso;omega)))
     exact rfl
 ·have hb:eY u=false:=by
   unfold eY
   by_cases e1:u.shared.length≤64
   ·by_cases e2:u.bx.length≤16
    ·have e3:¬u.bo.length≤8:=fun e=>hsz ⟨e1,e2,e⟩
     simp[e3]
    ·simp[e2]
   ·simp[e1]
  rw[kU hb]
  repeat' (first|((with_reducible refine aF ?_);conv=>whnf)|refine aG ?_|exact eK|with_reducible refine aD ?_ ?_|((with_reducible refine Ask.mk ?_);first|exact cz|exact cU|(intro h;simp_all[bt.cells]<;>fail)|(simp_all[bt.cells]<;>fail))|(apply aA;(·exact cF))|refine aH ?_|((with_reducible refine aB ?_ ?_)<;>intro hc<;>(try simp only[List.length_map,ne_eq,dE] at hc)<;>try(exfalso;omega)))
  all_goals first|exact rfl|(exfalso;omega)
end Go.Proofs.YtekfmjjmihomlaaGreat
end
section
/- What is reached, by the document: the walk. -/
namespace Go.Proofs.YtekfmjjmihomlaaGreat
open Go Go.cZ Go.Proofs
set_option linter.unusedSimpArgs false
set_option linter.unusedVariables false
end Go.Proofs.YtekfmjjmihomlaaGreat
end
section
/- Small ones out of Dead's texts. -/
namespace Go.Proofs.YtekfmjjmihomlaaGreat
open Go Go.cZ Go.Proofs
set_option linter.unusedSimpArgs false
set_option linter.unusedVariables false
theorem Decl.C1 {a b:Decl} (h1:a.name=b.name) (h2:a.word=b.word) (h3:a.at_=b.at_):a=b:=by
 obtain⟨a1,a2,a3⟩:=a
 obtain⟨b1,b2,b3⟩:=b
 simp only at h1 h2 h3
 subst h1;subst h2;subst h3;rfl
theorem iR.C1 {a b:iR} (h1:a.fy=b.fy) (h2:a.slot=b.slot) (h3:a.word=b.word):a=b:=by
 obtain⟨a1,a2,a3⟩:=a
 obtain⟨b1,b2,b3⟩:=b
 simp only at h1 h2 h3
 subst h1;subst h2;subst h3;rfl
theorem FX {l:List Decl} {i:Nat} (h:i<l.length) (d:AV):(l.map Decl.av).getD ((i:Int)).toNat d=(l.getD i default).av:=by rw[Int.toNat_natCast];exact dB Decl.av l i d h
theorem uo {α:Type} {l m:List α} (d:α) (hlm:l.length=m.length) (h:∀j,j<l.length→l.getD j d=m.getD j d):l=m:=by
 refine List.ext_getElem hlm fun j h1 h2=> ?_
 have:=h j h1
 simpa[List.getD,h1,h2] using this
theorem Node.R4 {a b:Node} (h1:a.kind=b.kind) (h2:a.op=b.op) (h3:a.slot=b.slot) (h4:a.cH=b.cH) (h5:a.a=b.a) (h6:a.b=b.b) (h7:a.next=b.next) (h8:a.nq=b.nq) (h9:a.origin=b.origin):a=b:=by
 obtain⟨a1,a2,a3,a4,a5,a6,a7,a8,a9⟩:=a
 obtain⟨b1,b2,b3,b4,b5,b6,b7,b8,b9⟩:=b
 simp only at h1 h2 h3 h4 h5 h6 h7 h8 h9
 subst h1;subst h2;subst h3;subst h4;subst h5;subst h6;subst h7;subst h8;subst h9;rfl
theorem cA.R3 {a b:cA} (h1:a.name=b.name) (h2:a.locals=b.locals) (h3:a.br=b.br) (h4:a.nodes=b.nodes):a=b:=by
 obtain⟨a1,a2,a3,a4⟩:=a
 obtain⟨b1,b2,b3,b4⟩:=b
 simp only at h1 h2 h3 h4
 subst h1;subst h2;subst h3;subst h4;rfl
theorem ox (l:List Decl):cT 0 (l.map Decl.av):=(cC _ _).2 fun _ _=>by simp[cE,cT,Decl.cells]
theorem oz (l:List Node):cT 0 (l.map Node.av):=(cC _ _).2 fun _ _=>by simp[cE,cT,Node.cells]
theorem yr (l:List cA):cT 0 (l.map cA.av):=(cC _ _).2 fun _ _=>by simp[cE,cT,cA.cells,oz]
theorem bt.C1 {a b:bt} (h1:a.shared=b.shared) (h2:a.bx=b.bx) (h3:a.bo=b.bo):a=b:=by
 obtain⟨a1,a2,a3⟩:=a
 obtain⟨b1,b2,b3⟩:=b
 simp only at h1 h2 h3
 subst h1;subst h2;subst h3;rfl
theorem pX (g:cA):cE 0 g.av:=by simp[cE,cT,cA.cells,oz]
theorem yu (u:bt):cE 0 u.av:=by simp[cE,cT,bt.cells,ox,yr]
end Go.Proofs.YtekfmjjmihomlaaGreat
end
section
/- Units in rows, and copies of units: the walk. -/
namespace Go.Proofs.YtekfmjjmihomlaaGreat
open Go Go.cZ Go.Proofs
set_option linter.unusedSimpArgs false
set_option linter.unusedVariables false
abbrev tT (x:Nat) (g:cA):AV:= .agg [st g.name,i64 g.locals,i64 g.br, .sl x g.nodes.length]
def kZ (ids:List Nat) (gs:List cA):List AV:=List.zipWith tT ids gs
abbrev J4 (sh lk gr:Nat) (u:bt):AV:= .agg [.sl sh u.shared.length, .sl lk u.bx.length, .sl gr u.bo.length]
theorem nu {ids:List Nat} {gs:List cA} (h:ids.length=gs.length):(kZ ids gs).length=gs.length:=by simp[kZ,h]
theorem wE {ids:List Nat} {gs:List cA} (h:ids.length=gs.length) {t:Nat} (ht:t<gs.length) (d:AV):(kZ ids gs).getD t d=tT (ids.getD t 0) (gs.getD t default):=by
 have h1:t<(kZ ids gs).length:=by rw[nu h];exact ht
 rw[gd h1,gd (by omega),gd ht]
 simp[kZ]
theorem GA {ids:List Nat} {gs:List cA} (h:ids.length=gs.length) (x:Nat) (g:cA):kZ (ids++[x]) (gs++[g])=kZ ids gs++[tT x g]:=by
 unfold kZ
 rw[List.zipWith_append h];rfl
structure ND (sh lk gr:Nat) (ids:List Nat) (u:bt) (H:Hp):Prop where
 nodup:(sh::lk::gr::ids).Nodup
 len:ids.length=u.bo.length
 sh:∃d,bn H sh=some (.row 103 3 d (u.shared.map Decl.av))
 lk:∃d,bn H lk=some (.row 103 3 d (u.bx.map Decl.av))
 gr:∃d,bn H gr=some (.row 64 4 d (kZ ids u.bo))
 SB:∀t,t<u.bo.length→∃d,bn H (ids.getD t 0)=some (.row 109 13 d ((u.gr t).nodes.map Node.av))
theorem ND.cS {sh lk gr:Nat} {ids:List Nat} {u:bt} {H H':Hp} (h:ND sh lk gr ids u H) (hk:∀x∈sh::lk::gr::ids,bn H' x=bn H x):ND sh lk gr ids u H':=by
 refine⟨h.nodup,h.len, ?_, ?_, ?_,fun t ht=> ?_⟩
 ·rw[hk sh (by simp)];exact h.sh
 ·rw[hk lk (by simp)];exact h.lk
 ·rw[hk gr (by simp)];exact h.gr
 ·rw[hk _ (List.mem_cons_of_mem _ (List.mem_cons_of_mem _ (List.mem_cons_of_mem _ (dN (by rw[h.len];exact ht)))))];exact h.SB t ht
theorem ND.dX {sh lk gr:Nat} {ids:List Nat} {u:bt} {H:Hp} (h:ND sh lk gr ids u H) (k:Nat):cZ.dX H (k+4) (J4 sh lk gr u)=u.av:=by
 obtain⟨d1,h1⟩:=h.sh
 obtain⟨d2,h2⟩:=h.lk
 obtain⟨d3,h3⟩:=h.gr
 rw[j4]
 simp only[List.map_cons,List.map_nil]
 rw[dF h1 (by simp),dF h2 (by simp),dF h3 (nu h.len),cc _ (ox _),cc _ (ox _)]
 have:(kZ ids u.bo).map (cZ.dX H (k+2))=u.bo.map cA.av:=by
  apply List.ext_getElem (by simp[kZ,h.len])
  intro t q1 q2
  have ht:t<u.bo.length:=by simpa using q2
  obtain⟨d,hd⟩:=h.SB t ht
  have e1:(kZ ids u.bo)[t]'(by simpa using q1)=tT (ids.getD t 0) (u.gr t):=by rw[←wE h.len ht .any,gd]
  rw[List.getElem_map,e1,List.getElem_map,j4]
  simp only[List.map_cons,List.map_nil]
  rw[cx _ (by simp[cE]),cx _ (by simp[cE]),cx _ (by simp[cE]),dF hd (by simp),cc _ (oz _)]
  have:u.gr t=u.bo[t]:=by simp[bt.gr,List.getD,ht]
  rw[this];rfl
 rw[this];rfl
set_option maxRecDepth 4000 in
theorem yf (g:cA) (hg:g.Wf) (h96:g.nodes.length * 96≤140737488351232):cP Tryz.prog 31 [g.av] [] 0 (fun r H n=>∃b d,r= .agg ([st g.name,i64 g.locals,i64 g.br]++[.sl b (g.nodes.map Node.av).length])∧bn H b=some (.row 109 13 d (g.nodes.map Node.av))):=by
 have hl:=hg.len
 refine aQ HC rfl ?_
 repeat' (first|((with_reducible refine aF ?_);conv=>whnf)|refine aG ?_|exact eK|with_reducible refine aD ?_ ?_|((with_reducible refine Ask.mk ?_);first|exact cz|(refine iT (m:=g.nodes.length) (by simp) ?_;omega)|(simp only[List.length_map];omega)|exact cU|(intro h;simp_all[cA.cells]<;>fail)|(simp_all[cA.cells]<;>fail))|(apply aA;(·exact cF))|refine aH ?_|((with_reducible refine aB ?_ ?_)<;>intro hc<;>(try simp only[List.length_map,ne_eq,dE] at hc)<;>try(exfalso;omega)))
 exact⟨⟨2,_,by simp[cA.cells],bq⟩⟩
set_option maxRecDepth 4000 in
set_option maxHeartbeats 4000000 in
theorem AO (u:bt) (hu:u.Wf) (h96:∀g∈u.bo,g.nodes.length * 96≤140737488351232) (H0:Hp) (nx:Nat):cP Tryz.prog 10 [u.av] H0 nx (fun r H n=>∃sh lk gr ids,r=J4 sh lk gr u∧ND sh lk gr ids u H∧(∀x∈sh::lk::gr::ids,nx≤x∧x<n)∧nx≤n∧∀y,y<nx→bn H y=bn H0 y):=by
 have hs:=hu.jJ
 have hk:=hu.kH
 have hgl:=hu.kE
 refine aQ GX rfl ?_
 repeat' (first|((with_reducible refine aF ?_);conv=>whnf)|refine aG ?_|exact eK|with_reducible refine aD ?_ ?_|((with_reducible refine Ask.mk ?_);first|exact cz|(refine iT rfl ?_;simp only[List.length_map];omega)|exact cU|(intro h;simp_all[bt.cells]<;>fail)|(simp_all[bt.cells]<;>fail))|(apply aA;(·exact cF))|refine aH ?_|((with_reducible refine aB ?_ ?_)<;>intro hc<;>(try simp only[List.length_map,ne_eq,dE] at hc)<;>try(exfalso;omega)))
 have z1:0+(u.shared.map Decl.av).length=u.shared.length:=by simp
 have z2:0+(u.bx.map Decl.av).length=u.bx.length:=by simp
 try rw[z1]
 try rw[z2]
 refine aU (fun σ:Nat×List Nat=>[(1, .pt nx 1 0 0),(2, .pt (nx+1) 1 0 0),(3, .pt (nx+11) 1 0 0),(4,i64 σ.1)])
  (fun σ H n=>σ.1≤u.bo.length∧nx+15≤n∧σ.2.length=σ.1∧σ.2.Nodup∧(∀x∈σ.2,nx+15≤x∧x<n)∧(∃d,bn H nx=some (.row 25 3 d [u.av]))∧(∃d,bn H (nx+1)=some (.row 25 3 d [fZ true [.slice none 0 0, .slice none 0 0, .slice none 0 0]]))∧(∃d,bn H (nx+11)=some (.row 25 3 d [.agg [.sl (nx+2) u.shared.length, .sl (nx+6) u.bx.length, .sl (nx+14) σ.1]]))∧(∃d,bn H (nx+2)=some (.row 103 3 d (u.shared.map Decl.av)))∧(∃d,bn H (nx+6)=some (.row 103 3 d (u.bx.map Decl.av)))∧(∃d,bn H (nx+14)=some (.row 64 4 d (kZ σ.2 (u.bo.take σ.1))))∧(∀t,t<σ.1→∃d,bn H (σ.2.getD t 0)=some (.row 109 13 d ((u.gr t).nodes.map Node.av)))∧∀y,y<nx→bn H y=bn H0 y) (fun σ=>u.bo.length - σ.1) (0,[])
  ⟨_,_,_,Rt.wk (Wk.fX (b:=nx+11) (e:=64) (sz:=4) (by simp only[List.length_cons,List.length_nil];omega) (by omega) (te:=25) (tz:=3) (cs:=[.sl (nx+2) u.shared.length, .sl (nx+6) u.bx.length, .sc (.slice none 0 0)]) (j:=2) bq (by show 2<3;omega) rfl),cI,Nat.zero_le _,c8,rfl,List.nodup_nil,fun x hx=>by simp at hx,⟨_,bq⟩,⟨_,bq⟩,⟨_,bq⟩,⟨_,bq⟩,⟨_,bq⟩,⟨_,bq⟩,fun t ht=>absurd ht (Nat.not_lt_zero _),fun y hy=>cB⟩ ?_
 rintro⟨t,ids⟩ H n ⟨ht,hn,hil,hnd,hin,⟨d0,r0⟩,⟨d1,r1⟩,⟨d11,r11⟩,⟨d2,r2⟩,⟨d6,r6⟩,⟨d14,r14⟩,hnds,hkp⟩
 dsimp only at ht hil hnd hin r11 r14 hnds ⊢
 have htk:(u.bo.take t).length=t:=by rw[List.length_take];omega
 have hgl:(kZ ids (u.bo.take t)).length=t:=by rw[nu (by rw[hil,htk]),htk]
 by_cases htl:t<u.bo.length
 ·have eg:=fun d=>lV (l:=u.bo) htl d
  have hgm:=cW (default:cA) htl
  have hcg:=yf (u.bo.getD t default) (hu.bo _ hgm) (h96 _ hgm)
  have hnx:kZ (ids++[n+12]) (u.bo.take (t+1))=kZ ids (u.bo.take t)++[tT (n+12) (u.bo.getD t default)]:=by
   rw[List.take_succ_eq_append_getElem htl,GA (by rw[hil,htk]),show u.bo.getD t default=u.bo[t] by simp[List.getD,htl]]
  have hgr:u.gr t=u.bo.getD t default:=rfl
  generalize u.bo.getD t default=g at *
  have hfz:∀H1:Hp,[g.av].map (cZ.dX H1 6)=[g.av]:=fun H1=>by rw[List.map_cons,List.map_nil,cx 6 (pX g)]
  have hft:cT 0 [g.av]:=⟨pX g,trivial⟩
  have hflat:∀i,i<(g.nodes.map Node.av).length→fw ((g.nodes.map Node.av).getD i .any):=fun i hi=>by
   rw[dB Node.av _ _ _ (by simpa using hi)]
   simp[fw,nt,Node.cells]
  repeat' (first|((with_reducible refine aF ?_);conv=>whnf)|refine aG ?_|exact eK|with_reducible refine aD ?_ ?_|((with_reducible refine Ask.mk ?_);first|exact cz|(exact hgl)|(refine iT rfl ?_;simp only[List.length_map];omega)|exact cU|(intro h;simp_all[bt.cells]<;>fail)|(simp_all[bt.cells]<;>fail))|(apply aA;(·(first|exact eg _|exact cF)))|(refine aq [] .any (cs:=[st g.name,i64 g.locals,i64 g.br]) trivial hcg hflat (fun H1 _=>hfz H1) hft ?_)|refine aH ?_|((with_reducible refine aB ?_ ?_)<;>intro hc<;>(try simp only[List.length_map,ne_eq,dE] at hc)<;>try(exfalso;omega)))
  refine⟨(t+1,ids++[n+12]),by dsimp only;omega,_,_,_,Rt.refl _ _ _,cI,by dsimp only;omega,by omega,by simp[hil], ?_, ?_,⟨_,bq⟩,⟨_,bq⟩,⟨_,bq⟩,⟨_,bq⟩,⟨_,bq⟩,⟨_,by dsimp only;rw[hnx,List.length_map];exact bq⟩, ?_,fun y hy=>Eq.trans cB (hkp y hy)⟩
  ·refine List.nodup_append.2 ⟨hnd,by simp,fun a ha b hb=> ?_⟩
   simp only[List.mem_cons,List.not_mem_nil,or_false] at hb
   have:=hin _ ha;omega
  ·intro x hx
   rcases List.mem_append.1 hx with hx|hx
   ·have:=hin _ hx;exact⟨this.1,Nat.lt_of_lt_of_le this.2 c8⟩
   ·simp only[List.mem_cons,List.not_mem_nil,or_false] at hx
    subst hx;exact⟨by omega,c8⟩
  ·intro q hq
   have hq:q<t+1:=hq
   by_cases e:q=t
   ·subst e
    have e2:(ids++[n+12]).getD q 0=n+12:=by rw[List.getD,List.getElem?_append_right (by omega),hil,Nat.sub_self];rfl
    dsimp only
    rw[e2,hgr];exact⟨_,bq⟩
   ·obtain⟨d,hd⟩:=hnds q (by omega)
    have e2:(ids++[n+12]).getD q 0=ids.getD q 0:=by simp[List.getD,List.getElem?_append,show q<ids.length by omega]
    have:=hin _ (dN (l:=ids) (q:=q) (by omega))
    dsimp only
    rw[e2];exact⟨d,Eq.trans cB hd⟩
 ·have:t=u.bo.length:=by omega
  subst this
  rw[List.take_length] at r14
  repeat' (first|((with_reducible refine aF ?_);conv=>whnf)|refine aG ?_|exact eK|with_reducible refine aD ?_ ?_|((with_reducible refine Ask.mk ?_);first|exact cz|exact cU|(intro h;simp_all[bt.cells]<;>fail)|(simp_all[bt.cells]<;>fail))|(apply aA;(·exact cF))|refine aH ?_|((with_reducible refine aB ?_ ?_)<;>intro hc<;>(try simp only[List.length_map,ne_eq,dE] at hc)<;>try(exfalso;omega)))
  refine⟨⟨nx+2,nx+6,nx+14,ids,rfl,⟨?_,hil,⟨_,bq⟩,⟨_,bq⟩,⟨_,bq⟩,fun t ht=> ?_⟩, ?_,c8,fun y hy=>Eq.trans cB (hkp y hy)⟩⟩
  ·refine List.nodup_cons.2 ⟨?_,List.nodup_cons.2 ⟨?_,List.nodup_cons.2 ⟨fun h=> ?_,hnd⟩⟩⟩
   ·simp only[List.mem_cons,not_or]
    exact⟨by omega,by omega,fun h=>by have:=hin _ h;omega⟩
   ·simp only[List.mem_cons,not_or]
    exact⟨by omega,fun h=>by have:=hin _ h;omega⟩
   ·have:=hin _ h;omega
  ·obtain⟨d,hd⟩:=hnds t ht
   have:=hin _ (dN (l:=ids) (q:=t) (by omega))
   exact⟨d,Eq.trans cB hd⟩
  ·intro x hx
   simp only[List.mem_cons] at hx
   rcases hx with rfl|rfl|rfl|hx
   ·exact⟨by omega,by omega⟩
   ·exact⟨by omega,by omega⟩
   ·exact⟨by omega,by omega⟩
   ·have:=hin _ hx;exact⟨by omega,by omega⟩
theorem CW (u:bt) (hu:u.Wf) (h96:∀g∈u.bo,g.nodes.length * 96≤140737488351232):Pure Tryz.prog 10 [u.av] (fun r=>r=u.av):=by
 refine dY ((AO u hu h96 [] 0).mono ?_) (yu u)
 rintro r H n ⟨sh,lk,gr,ids,rfl,hA,_⟩
 exact hA.dX 2
def tx (S:List Nat) (H:Hp):Hp:=H.filter fun q=>decide (q.1∈S)
theorem jG {S:List Nat} {b:Nat} (hb:b∈S):∀H:Hp,bn (tx S H) b=bn H b
 |[]=>rfl
 |(d,v)::H=>by
  unfold tx
  by_cases hd:d∈S
  ·rw[List.filter_cons_of_pos (by simpa using hd)]
   by_cases e:b=d
   ·subst e;rw[cO,cO]
   ·rw[cG e,cG e];exact jG hb H
  ·rw[List.filter_cons_of_neg (by simpa using hd),cG (fun e=>hd (by rw[←e];exact hb))]
   exact jG hb H
theorem qN {G:Hp} {k:Nat} {cs:List AV}:cZ.nY G (k+1) (.agg cs)= .agg (cs.map (cZ.nY G k)):=rfl
theorem GU (G:Hp) (k:Nat) (n:Node):cZ.nY G k n.av=n.av:=by
 cases k with
 |zero=>rfl
 |succ k=>rw[qN];simp only[Node.cells,List.map_cons,List.map_nil,rG];rfl
theorem GS (G:Hp) (k:Nat) (n:Decl):cZ.nY G k n.av=n.av:=by
 cases k with
 |zero=>rfl
 |succ k=>rw[qN];simp only[Decl.cells,List.map_cons,List.map_nil,rG];rfl
theorem ND.nY {sh lk gr:Nat} {ids:List Nat} {u:bt} {H:Hp} (h:ND sh lk gr ids u H) (k:Nat):cZ.nY (tx (sh::lk::gr::ids) H) (k+4) (J4 sh lk gr u)=u.av:=by
 obtain⟨d1,h1⟩:=h.sh
 obtain⟨d2,h2⟩:=h.lk
 obtain⟨d3,h3⟩:=h.gr
 have g1:=(jG (S:=sh::lk::gr::ids) (b:=sh) (by simp) H).trans h1
 have g2:=(jG (S:=sh::lk::gr::ids) (b:=lk) (by simp) H).trans h2
 have g3:=(jG (S:=sh::lk::gr::ids) (b:=gr) (by simp) H).trans h3
 rw[qN]
 simp only[List.map_cons,List.map_nil]
 rw[nG g1 (by simp),nG g2 (by simp),nG g3 (nu h.len)]
 have e1:∀(l:List Decl) k,(l.map Decl.av).map (cZ.nY (tx (sh::lk::gr::ids) H) k)=l.map Decl.av:=fun l k=>by rw[List.map_map];exact List.map_congr_left fun d _=>GS _ _ d
 have e2:∀(l:List Node) k,(l.map Node.av).map (cZ.nY (tx (sh::lk::gr::ids) H) k)=l.map Node.av:=fun l k=>by rw[List.map_map];exact List.map_congr_left fun d _=>GU _ _ d
 rw[e1,e1]
 have:(kZ ids u.bo).map (cZ.nY (tx (sh::lk::gr::ids) H) (k+2))=u.bo.map cA.av:=by
  apply List.ext_getElem (by simp[kZ,h.len])
  intro t q1 q2
  have ht:t<u.bo.length:=by simpa using q2
  obtain⟨d,hd⟩:=h.SB t ht
  have g4:=(jG (S:=sh::lk::gr::ids) (b:=ids.getD t 0) (List.mem_cons_of_mem _ (List.mem_cons_of_mem _ (List.mem_cons_of_mem _ (dN (by rw[h.len];exact ht))))) H).trans hd
  have e1:(kZ ids u.bo)[t]'(by simpa using q1)=tT (ids.getD t 0) (u.gr t):=by rw[←wE h.len ht .any,gd]
  rw[List.getElem_map,e1,List.getElem_map,qN]
  simp only[List.map_cons,List.map_nil]
  rw[rG,rG,rG,nG g4 (by simp),e2]
  have:u.gr t=u.bo[t]:=by simp[bt.gr,List.getD,ht]
  rw[this];rfl
 rw[this];rfl
end Go.Proofs.YtekfmjjmihomlaaGreat
end
section
/- Units held one against another by the document; calm threads: the walk. -/
namespace Go.Proofs.YtekfmjjmihomlaaGreat
open Go Go.cZ Go.Proofs
set_option linter.unusedSimpArgs false
set_option linter.unusedVariables false
theorem P8 (a b:ByteArray):(a != b)= !decide (a=b):=by rw[bne,KN]
theorem pe (l m:List Decl) (hl:l.length * 32≤140737488351232) (hm:m.length * 32≤140737488351232):Pure Tryz.prog 41 [bw l,bw m] (fun r=>r=bl (decide (l=m))):=by
 refine aI HJ rfl ?_
 repeat' (first|((with_reducible refine aF ?_);conv=>whnf)|refine aG ?_|exact aC|with_reducible refine aD ?_ ?_|(apply aA;(·exact cF))|refine aH ?_|((with_reducible refine aB ?_ ?_)<;>intro hc<;>(try simp only[List.length_map,ne_eq,dE] at hc)<;>try(exfalso;omega)))
 ·refine db (Eq.symm ?_)
  exact decide_eq_false fun e=>hc (by rw[e])
 ·have hlm:l.length=m.length:=by omega
  refine aP (fun i:Nat=>[(0,bw l),(1,bw m),(5,i64 i)])
   (fun i H n=>i≤l.length∧∀j,j<i→l.getD j default=m.getD j default) (fun i=>l.length - i) 0 cI ⟨Nat.zero_le _,fun _ h=>by omega⟩ ?_
  rintro i H n ⟨hi,hall⟩
  by_cases hil:i<l.length
  ·have e1:=fun d=>FX (l:=l) hil d
   have e2:=fun d=>FX (l:=m) (i:=i) (by omega) d
   repeat' (first|((with_reducible refine aF ?_);conv=>whnf)|refine aG ?_|exact eK|with_reducible refine aD ?_ ?_|((with_reducible refine Ask.mk ?_);first|exact cz|exact cU|(intro h;simp_all[Decl.cells]<;>fail)|(simp_all[Decl.cells]<;>fail))|(apply aA;(·(first|exact e1 _|exact e2 _|exact cF)))|refine aH ?_|((with_reducible refine aB ?_ ?_)<;>intro hc<;>(try simp only[List.length_map,ne_eq,dE] at hc)<;>try(exfalso;omega)))
   ·refine db (Eq.symm ?_)
    refine decide_eq_false fun e=> ?_
    rw[e] at hc
    simp[KN] at hc
   ·refine⟨i+1,by omega,cI,by omega,fun j hj=> ?_⟩
    by_cases hji:j=i
    ·subst hji
     obtain⟨h1,h2,h3,_⟩:=hc
     rw[KN,decide_eq_true_eq] at h1
     exact Decl.C1 h1 h2 h3
    ·exact hall j (by omega)
  ·have:i=l.length:=by omega
   subst this
   repeat' (first|((with_reducible refine aF ?_);conv=>whnf)|refine aG ?_|exact aC|with_reducible refine aD ?_ ?_|(apply aA;(·exact cF))|refine aH ?_|((with_reducible refine aB ?_ ?_)<;>intro hc<;>(try simp only[List.length_map,ne_eq,dE] at hc)<;>try(exfalso;omega)))
   refine db (Eq.symm ?_)
   exact decide_eq_true (uo default hlm hall)
set_option maxRecDepth 4000 in
set_option maxHeartbeats 8000000 in
theorem xq (a b:cA) (ha:a.Wf) (hb:b.Wf):Pure Tryz.prog 42 [a.av,b.av] (fun r=>r=bl (decide (a=b))):=by
 have hla:=ha.len
 have hlb:=hb.len
 refine aI HK rfl ?_
 repeat' (first|((with_reducible refine aF ?_);conv=>whnf)|refine aG ?_|exact eK|with_reducible refine aD ?_ ?_|((with_reducible refine Ask.mk ?_);first|exact cz|exact cU|(intro h;simp_all[cA.cells]<;>fail)|(simp_all[cA.cells]<;>fail))|(apply aA;(·exact cF))|refine aH ?_|((with_reducible refine aB ?_ ?_)<;>intro hc<;>(try simp only[List.length_map,ne_eq,dE] at hc)<;>try(exfalso;omega)))
 ·refine db (Eq.symm ?_)
  refine decide_eq_false fun e=> ?_
  rw[e] at hc
  simp[P8] at hc
 ·have hnm:a.name=b.name∧a.locals=b.locals∧a.br=b.br∧a.nodes.length=b.nodes.length:=by
   simp[P8] at hc
   exact⟨hc.1.1.1,hc.1.1.2,hc.1.2,by have:=hc.2;omega⟩
  refine aP (fun i:Nat=>[(2, .pt 0 1 0 0),(3, .pt 1 1 0 0),(5,i64 i)])
   (fun i H n=>i≤a.nodes.length∧2≤n∧(∃d,bn H 0=some (.row 64 4 d [a.av]))∧(∃d,bn H 1=some (.row 64 4 d [b.av]))∧∀j,j<i→a.nodes.getD j default=b.nodes.getD j default) (fun i=>a.nodes.length - i) 0 cI ⟨Nat.zero_le _,c8,⟨_,bq⟩,⟨_,bq⟩,fun _ h=>by omega⟩ ?_
  clear hc
  rintro i H n ⟨hi,hn,⟨d0,r0⟩,⟨d1,r1⟩,hall⟩
  by_cases hil:i<a.nodes.length
  ·have e1:=fun d=>gG (l:=a.nodes) hil d
   have e2:=fun d=>gG (l:=b.nodes) (i:=i) (by omega) d
   repeat' (first|((with_reducible refine aF ?_);conv=>whnf)|refine aG ?_|exact eK|with_reducible refine aD ?_ ?_|((with_reducible refine Ask.mk ?_);first|exact cz|exact cU|(intro h;simp_all[cA.cells,Node.cells]<;>fail)|(simp_all[cA.cells,Node.cells]<;>fail))|(apply aA;(·(first|exact e1 _|exact e2 _|exact cF)))|refine aH ?_|((with_reducible refine aB ?_ ?_)<;>intro hc<;>(try simp only[List.length_map,ne_eq,dE] at hc)<;>try(exfalso;omega)))
   ·refine db (Eq.symm ?_)
    refine decide_eq_false fun e=> ?_
    rw[e] at hc
    simp at hc
   ·refine⟨i+1,by omega,cI,by omega,c8,⟨_,bq⟩,⟨_,bq⟩,fun j hj=> ?_⟩
    by_cases hji:j=i
    ·subst hji
     obtain⟨h1,h2,h3,h4,h5,h6,h7,h8,h9,h10,h11,h12,h13,_⟩:=hc
     exact Node.R4 h1 h2 h3 h4 (iR.C1 (by simpa using h5) h6 h7) (iR.C1 (by simpa using h8) h9 h10) h11 h12 h13
    ·exact hall j (by omega)
  ·have:i=a.nodes.length:=by omega
   subst this
   repeat' (first|((with_reducible refine aF ?_);conv=>whnf)|refine aG ?_|exact eK|with_reducible refine aD ?_ ?_|((with_reducible refine Ask.mk ?_);first|exact cz|exact cU|(intro h;simp_all[cA.cells]<;>fail)|(simp_all[cA.cells]<;>fail))|(apply aA;(·exact cF))|refine aH ?_|((with_reducible refine aB ?_ ?_)<;>intro hc<;>(try simp only[List.length_map,ne_eq,dE] at hc)<;>try(exfalso;omega)))
   refine db (Eq.symm ?_)
   exact decide_eq_true (cA.R3 hnm.1 hnm.2.1 hnm.2.2.1 (uo default hnm.2.2.2 hall))
set_option maxRecDepth 4000 in
set_option maxHeartbeats 4000000 in
theorem zy (u v:bt) (hu:u.Wf) (hv:v.Wf):Pure Tryz.prog 16 [u.av,v.av] (fun r=>r=bl (decide (u=v))):=by
 have h1:=pe u.shared v.shared hu.jJ hv.jJ
 have h2:=pe u.bx v.bx hu.kH hv.kH
 have hgl:=hu.kE
 have hgl2:=hv.kE
 refine aI G3 rfl ?_
 repeat' (first|((with_reducible refine aF ?_);conv=>whnf)|refine aG ?_|exact eK|with_reducible refine aD ?_ ?_|((with_reducible refine Ask.mk ?_);first|exact cz|exact cU|(intro h;simp_all[bt.cells]<;>fail)|(simp_all[bt.cells]<;>fail))|(apply aA;(·exact cF))|refine aK (h1) ?_|refine aK (h2) ?_|refine aH ?_|((with_reducible refine aB ?_ ?_)<;>intro hc<;>(try simp only[List.length_map,ne_eq,dE] at hc)<;>try(exfalso;omega)))
 ·refine db (Eq.symm ?_)
  refine decide_eq_false fun e=> ?_
  rw[e] at hc
  simp at hc
 ·have hnm:u.bo.length=v.bo.length∧u.shared=v.shared∧u.bx=v.bx:=by
   simp at hc
   exact⟨by have:=hc.1.1;omega,hc.1.2,hc.2⟩
  refine aP (fun i:Nat=>[(2, .pt 0 1 0 0),(3, .pt 1 1 0 0),(5,i64 i)])
   (fun i H n=>i≤u.bo.length∧2≤n∧(∃d,bn H 0=some (.row 25 3 d [u.av]))∧(∃d,bn H 1=some (.row 25 3 d [v.av]))∧∀j,j<i→u.bo.getD j default=v.bo.getD j default) (fun i=>u.bo.length - i) 0 cI ⟨Nat.zero_le _,c8,⟨_,bq⟩,⟨_,bq⟩,fun _ h=>by omega⟩ ?_
  clear hc h1 h2
  rintro i H n ⟨hi,hn,⟨d0,r0⟩,⟨d1,r1⟩,hall⟩
  by_cases hil:i<u.bo.length
  ·have e1:=fun d=>lV (l:=u.bo) hil d
   have e2:=fun d=>lV (l:=v.bo) (i:=i) (by omega) d
   have hg:=xq (u.bo.getD i default) (v.bo.getD i default) (hu.bo _ (cW default hil)) (hv.bo _ (cW default (by omega)))
   by_cases heq:u.bo.getD i default=v.bo.getD i default
   ·rw[decide_eq_true heq] at hg
    repeat' (first|((with_reducible refine aF ?_);conv=>whnf)|refine aG ?_|exact eK|with_reducible refine aD ?_ ?_|((with_reducible refine Ask.mk ?_);first|exact cz|exact cU|(intro h;simp_all[bt.cells,cA.cells]<;>fail)|(simp_all[bt.cells,cA.cells]<;>fail))|(apply aA;(·(first|exact e1 _|exact e2 _|exact cF)))|refine aK (hg) ?_|refine aH ?_|((with_reducible refine aB ?_ ?_)<;>intro hc<;>(try simp only[List.length_map,ne_eq,dE] at hc)<;>try(exfalso;omega)))
    refine⟨i+1,by omega,cI,by omega,c8,⟨_,bq⟩,⟨_,bq⟩,fun j hj=> ?_⟩
    by_cases hji:j=i
    ·subst hji;exact heq
    ·exact hall j (by omega)
   ·rw[decide_eq_false heq] at hg
    repeat' (first|((with_reducible refine aF ?_);conv=>whnf)|refine aG ?_|exact eK|with_reducible refine aD ?_ ?_|((with_reducible refine Ask.mk ?_);first|exact cz|exact cU|(intro h;simp_all[bt.cells,cA.cells]<;>fail)|(simp_all[bt.cells,cA.cells]<;>fail))|(apply aA;(·(first|exact e1 _|exact e2 _|exact cF)))|refine aK (hg) ?_|refine aH ?_|((with_reducible refine aB ?_ ?_)<;>intro hc<;>(try simp only[List.length_map,ne_eq,dE] at hc)<;>try(exfalso;omega)))
    refine db (Eq.symm ?_)
    exact decide_eq_false fun e=>heq (by rw[e])
  ·have:i=u.bo.length:=by omega
   subst this
   repeat' (first|((with_reducible refine aF ?_);conv=>whnf)|refine aG ?_|exact eK|with_reducible refine aD ?_ ?_|((with_reducible refine Ask.mk ?_);first|exact cz|exact cU|(intro h;simp_all[bt.cells]<;>fail)|(simp_all[bt.cells]<;>fail))|(apply aA;(·exact cF))|refine aH ?_|((with_reducible refine aB ?_ ?_)<;>intro hc<;>(try simp only[List.length_map,ne_eq,dE] at hc)<;>try(exfalso;omega)))
   refine db (Eq.symm ?_)
   exact decide_eq_true (bt.C1 hnm.2.1 hnm.2.2 (uo default hnm.1 hall))
end Go.Proofs.YtekfmjjmihomlaaGreat
end
section
/- Every Count and Ends; the unit stays: the law's walk. -/
namespace Go.Proofs.YtekfmjjmihomlaaGreat
open Go Go.cZ Go.Proofs
set_option linter.unusedSimpArgs false
set_option linter.unusedVariables false
set_option maxRecDepth 8000
theorem MJ:Pure Tryz.prog 15 [.sc (.slice none 0 0), .sc (.slice none 0 0)] (fun r=>r=bl true):=
 Pure.args (oX [] [] (fun e h=>by cases h) (by simp) (by simp)) fun c=> .cons (cZ.dZ.kJ c c 3 .any) (.cons (cZ.dZ.kJ c c 3 .any) .nil)
theorem ow (u:bt) (hu:u.Wf) (h96:∀g∈u.bo,g.nodes.length * 96≤140737488351232) (most:Int):Pure Tryz.prog 3 [u.av,i64 most] (fun r=>r=bl true):=by
 have cK:=xm u hu
 have c0:=ve
 have c1:=CW u hu h96
 have c2:=qp u hu most
 have c3:=xn u hu most cK
 have c4:=ot u hu most
 have c5:=zm u hu most cK
 have c6:=zy u u hu hu
 rw[decide_eq_true rfl] at c6
 clear cK
 unfold mZ at c4 c5
 refine aI QU rfl ?_
 rcases mi u hu most with⟨h1,h2⟩|⟨l,hr,hm1,hm2,hs,hE,hf,hlm⟩
 ·rw[if_neg h1] at c4 c5
  rw[h2] at c2 c3
  have c7:=MJ
  generalize (gB u most).1=x at *
  refine cV ?_
  refine db ?_
  simp
 ·rw[hE] at c2 c3 c4 c5
  dsimp only at c2 c3 c4 c5
  rw[if_pos rfl] at c4 c5
  have hel:=C0 u l
  have c7:=oX (jy u l) (jy u l) (fun e he=>oq hr hf (by omega) _ e (tD.1 he)) (by omega) (by omega)
  rw[decide_eq_true rfl] at c7
  generalize jy u l=E at *
  refine cV ?_
  refine db ?_
  simp
end Go.Proofs.YtekfmjjmihomlaaGreat
end
section
/- Every Count and Ends answers as the document's; the unit stays: for every unit and cap. No conditions. -/
namespace Go.Proofs.YtekfmjjmihomlaaGreat
open Go Go.cZ Go.Proofs Go.RowKit Go.ChangeShapes Go.WideShapes Go.ChangeAt
set_option linter.unusedSimpArgs false
set_option linter.unusedVariables false
set_option maxRecDepth 100000 in
theorem nA (os:Os) (started:os.Started) (H:Type) (enc:TypeId×Value→H):
 ReturnsInHanded {} Tryz.checked os 3 .any (Rows.exploreEndsSpec.pre6 enc Tryz.prog Tryz.f3 Rows.exploreEndsRow.domain false) (Rows.exploreEndsSpec.post enc Tryz.prog Tryz.f3 false true false false):=by
 refine returnsInHanded_of_change_sized (C:=Tryz.checked) own started (by kernel_rfl) Tryz.func3
  (ChangeSpec.witness6 (enc:=enc) (C:=Tryz.checked) false ⟨#[],#[.agg #[.slice none 0 0, .slice none 0 0, .slice none 0 0], .int .i64 0],[]⟩ 8 (by kernel_rfl) (by kernel_rfl) (by kernel_rfl) (by kernel_rfl)) ?_
 intro W base args ds gs before hval hW _ hr _
 refine ui (ts:=[25,3]) (tb:=4) laidOut (by kernel_rfl) rfl Tryz.underlying4 (by kernel_rfl) (fun ds h=> ?_) (fun t ht=> ?_)
  (mc (ag:=true) (by kernel_rfl) ux (fun h=>by cases h) (mc (ag:=false) (by kernel_rfl) (eG Tryz.underlying3) (fun _ _ _=>rfl) uw))
  (fun a h=> ?_) hval hW hr
 ·match ds,h with
  |[d0,d1],_=>rfl
 ·have:∀t∈[25,3],Tryz.prog.readableRec t=true∧t<Tryz.prog.types.size:=by
   simp only[List.forall_mem_cons]
   refine⟨⟨by kernel_rfl,of_decide_eq_true (by kernel_rfl)⟩,⟨by kernel_rfl,of_decide_eq_true (by kernel_rfl)⟩,by simp⟩
  exact this t ht
 ·exact ow a.1 h.1.1 h.1.2 a.2.1
theorem exploreEnds_holds:Rows.ExploreEndsSaid:=
 OpenClaim.holds_of_wide 3 Tryz.f3 rfl rfl rfl rfl rfl rfl rfl ⟨rfl,rfl,rfl,rfl,rfl⟩ rfl rfl rfl rfl rfl (by kernel_rfl) Tryz.func3 (by kernel_rfl)
  (of_decide_eq_true (by kernel_rfl)) (by unfold Func.isWrapper;first|(rw[if_pos (by decide+kernel)];kernel_rfl)|(rw[if_neg (by decide+kernel)];exact⟨rfl,rfl⟩))
  (fun os started H enc _=>nA os started H enc)
end Go.Proofs.YtekfmjjmihomlaaGreat
end
