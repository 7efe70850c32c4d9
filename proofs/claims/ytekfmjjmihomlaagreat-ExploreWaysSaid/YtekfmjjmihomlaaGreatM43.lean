import Derived.Test.YtekfmjjmihomlaaGreatM42
import Derived.Test.YtekfmjjmihomlaaGreatM26
import Derived.Test.YtekfmjjmihomlaaGreatM41
import Derived.Test.YtekfmjjmihomlaaGreatM38
section
/- Is a unit right? The document's walk. -/
namespace Go.Proofs.YtekfmjjmihomlaaGreat
open Go Go.cV Go.Proofs
set_option linter.unusedSimpArgs false
set_option linter.unusedVariables false
theorem zL (g:cB) (hg:g.Wf) (hw:Whole g):Pure Tryz.prog 98 [g.av] (fun r=>r=jb (gV g)):=by
 have h:=zK g hg hw
 have fL:∀L:List (List Int),cP 0 (L.map fX):=fun L=>(bu _ _).2 fun _ _=>by simp[fX,bw,bu]
 have fh:∀r,bw 0 (jb r):=fun r=>by simp only[jb,bw,cP];exact⟨fL _,trivial,trivial⟩
 by_cases hc:(gV g).1=[]
 ·refine pb (u:= .dH [.sc (.slice none 0 0),i64 (gV g).2]) (pure_or (h.mono ?_) (by simp[bw,cP]) (fh _)) (fh _) fun c=> ?_
  ·rintro r H n (⟨a,rfl,e⟩|⟨b,d,L,rfl,e,hb⟩)
   ·left;rw[e];exact cr _ (by simp[bw,cP])
   ·right
    rw[e]
    have e1:cV.dR H 6 (.dH [.sl b L.length,i64 (-1)])= .dH [cV.dR H 5 (.sl b L.length),i64 (-1)]:=by
     simp only[dR,List.map_cons,List.map_nil]
    rw[e1,dG hb (by simp),cc _ (fL L)]
    rfl
  ·unfold jb
   rw[hc]
   intro v hv
   rw[VR] at hv ⊢
   obtain⟨vs,rfl,hv⟩:=hv
   refine⟨vs,rfl, ?_⟩
   rw[c8] at hv ⊢
   obtain⟨v1,vs1,e1,h1,h2⟩:=hv
   exact⟨v1,vs1,e1,cV.dQ.jy c c 1 .any _ h1,h2⟩
 ·refine dP (h.mono ?_) (fh _)
  rintro r H n (⟨a,rfl,e⟩|⟨b,d,L,rfl,e,hb⟩)
  ·rw[e] at hc;exact absurd rfl hc
  ·rw[e]
   have e1:cV.dR H 6 (.dH [.sl b L.length,i64 (-1)])= .dH [cV.dR H 5 (.sl b L.length),i64 (-1)]:=by
    simp only[dR,List.map_cons,List.map_nil]
   rw[e1,dG hb (by simp),cc _ (fL L)]
   rfl
theorem uI (acc:List ByteArray) (l:List Decl) (w:Bool):qn acc l w=(eI acc (l.map Decl.name)&&(w||l.all fun d=>decide (d.word=0))):=by
 induction l generalizing acc with
 |nil=>simp[qn,eI]
 |cons d r ih=>
  rw[qn,List.map_cons,eI,ih,List.all_cons]
  cases fB d.name<;>cases w<;>cases fQ acc d.name<;>cases decide (d.word=0)<;>cases eI (acc++[d.name]) (r.map Decl.name)<;>simp
theorem py (acc a b:List ByteArray):eI acc (a++b)=(eI acc a&&eI (acc++a) b):=by
 induction a generalizing acc with
 |nil=>simp[eI]
 |cons s r ih=>
  rw[List.cons_append,eI,eI,ih,List.append_assoc,List.singleton_append]
  split<;>simp
def ir (u:bj):List Decl:=u.bh.map fun g=>⟨g.name,0,0⟩
theorem DV (u:bj):(ir u).map Decl.name=u.bh.map cB.name:=by simp[ir,List.map_map,Function.comp_def]
theorem jR (u:bj):(ir u).length=u.bh.length:=by simp[ir]
theorem DW {u:bj} {t:Nat} (h:t<u.bh.length):(ir u).take (t+1)=(ir u).take t++[⟨(u.gr t).name,0,0⟩]:=by
 rw[List.take_succ_eq_append_getElem (by rw[jR];exact h)]
 simp[ir,bj.gr,List.getD,h]
theorem NS (u:bj) (h1:u.shared.length≤64) (h2:u.bo.length≤16) (h3:u.bh.length≤8) {L1 L2:List ByteArray}
 (e1:L1=if qn [] u.shared true=true then[]++u.shared.map Decl.name else[])
 (e2:L2=if qn L1 u.bo false=true then L1++u.bo.map Decl.name else[]):
 (qn [] u.shared true&&qn L1 u.bo false&&qn L2 (ir u) false)=eQ u:=by
 unfold eQ
 rw[decide_eq_true h1,decide_eq_true h2,decide_eq_true h3,cd,py,py]
 have ht:(ir u).all (fun d=>decide (d.word=0))=true:=by simp[ir]
 rw[uI L2,ht,DV,Bool.or_true,Bool.and_true]
 rw[uI []] at e1 ⊢
 rw[uI L1] at e2 ⊢
 simp only[Bool.true_or,Bool.and_true,List.nil_append,Bool.true_and,Bool.false_or] at e1 e2 ⊢
 cases ha:eI [] (u.shared.map Decl.name) with
 |false=>simp
 |true=>
  rw[ha,if_pos rfl] at e1
  subst e1
  cases hb:eI (u.shared.map Decl.name) (u.bo.map Decl.name) with
  |false=>simp
  |true=>
   rw[hb] at e2
   cases hc:u.bo.all (fun d=>decide (d.word=0)) with
   |false=>simp
   |true=>
    rw[hc,if_pos (by rfl)] at e2
    subst e2
    simp
theorem Wk.LV {a a2:AV} {l:List AV} {H H2:Hp} {nx nx2:Nat} (h:Wk a H nx a2 H2 nx2):Wk (.dH (a::l)) H nx (.dH (a2::l)) H2 nx2:=by
 intro w0 ρ U w M0 hU hS
 obtain⟨ρ2,U2,k1,k2,k3,k4⟩:=h w0 ρ U w M0 hU hS
 refine⟨ρ2,U2,k1,k2,k3,fun v hv=> ?_⟩
 rw[VR] at hv ⊢
 obtain⟨vs,rfl,hv⟩:=hv
 refine⟨vs,rfl, ?_⟩
 rw[c8] at hv ⊢
 obtain⟨v1,vs1,e1,h1,h2⟩:=hv
 exact⟨v1,vs1,e1,k4 _ h1,c8.cO k3 h2⟩
theorem uR (l:List Decl) (hl:l.length≤64) (hw:∀d∈l,d.Wf) (a0:List ByteArray) (ha:a0.length≤1000) (w:Bool) (nv0:AV) (H0:Hp) (nx:Nat) (ht0:zj nv0 a0 H0 nx):cJ Tryz.prog 96 [bn l,nv0,bl w] H0 nx (fun r H n=>∃b d L,r= .dH [.sl b L.length,bl (qn a0 l w)]∧b<n∧bd H b=some (.row 9 1 d (strs L))∧L=(if qn a0 l w=true then a0++l.map Decl.name else[])∧nx≤n∧∀y,y<nx→gz nv0 y→bd H y=bd H0 y∧y≠b):=by
 refine(xK l hl hw a0 ha w nv0 H0 nx ht0).wk ?_
 rintro r H n ⟨h1,h2,h3,h4⟩
 have hnil:∀bb:Bool,∀L:List ByteArray,L=[]→∃r2 H2 n2,Wk (.dH [.sc (.slice none 0 0),bl bb]) H n r2 H2 n2∧∃b d,r2= .dH [.sl b L.length,bl bb]∧b<n2∧bd H2 b=some (.row 9 1 d (strs L))∧nx≤n2∧∀y,y<nx→gz nv0 y→bd H2 y=bd H0 y∧y≠b:=by
  rintro bb L rfl
  refine⟨_,_,_,Wk.LV (Wk.nil 9 1 .any (by omega)),n, .any,rfl,Nat.lt_succ_self _,cI _ _ _,Nat.le_succ_of_le h1,fun y a b=> ?_⟩
  have hne:y≠n:=by omega
  exact⟨(bz hne).trans (h2 y a b),hne⟩
 cases hk:qn a0 l w with
 |true=>
  obtain⟨nv,rfl,ht,hy⟩:=h3 hk
  rcases ht with⟨rfl,hL⟩|⟨b,d,rfl,hbn,hb⟩
  ·obtain⟨r2,H2,n2,k1,b,d,k2,k3,k4,k5,k6⟩:=hnil true _ hL
   exact⟨r2,H2,n2,k1,b,d,_,k2,k3,k4,by rw[if_pos rfl],k5,k6⟩
  ·exact⟨_,_,_,Wk.refl _ _ _,b,d,_,rfl,hbn,hb,by rw[if_pos rfl],h1,fun y a c=>⟨h2 y a c,uq (hy y a c)⟩⟩
 |false=>
  rw[h4 hk]
  obtain⟨r2,H2,n2,k1,b,d,k2,k3,k4,k5,k6⟩:=hnil false [] rfl
  exact⟨r2,H2,n2,k1,b,d,_,k2,k3,k4,by rw[if_neg (by decide)],k5,k6⟩
set_option maxRecDepth 8000 in
set_option maxHeartbeats 8000000 in
theorem xH (u:bj) (hu:u.Wf):Pure Tryz.prog 66 [u.av] (fun r=>r=mQ (fb u)):=by
 refine aI GV rfl ?_
 have hgl9:=hu.sn
 have hsl9:=hu.og
 have hll9:=hu.qf
 by_cases hsz:u.shared.length≤64∧u.bo.length≤16∧u.bh.length≤8
 ·obtain⟨hs1,hs2,hs3⟩:=hsz
  have hgm:(u.bh.map cB.av).length=u.bh.length:=by simp
  repeat' (first|((with_reducible refine aF ?_);conv=>whnf)|refine aG ?_|exact eO|with_reducible refine aD ?_ ?_|((with_reducible refine Ask.mk ?_);first|exact cw|exact cT|(intro h;simp_all[bj.cells]<;>fail)|(simp_all[bj.cells]<;>fail))|(apply aA;(·exact cA))|refine aH ?_|((with_reducible refine aB ?_ ?_)<;>intro hc<;>(try simp only[List.length_map,ne_eq,dC] at hc)<;>try(exfalso;omega)))
  all_goals first|(exfalso;omega)|skip
  refine aU (fun σ:Nat×AV=>[(1, .pt 0 1 0 0),(5,σ.2),(6,i64 σ.1)])
   (fun σ H n=>23≤n∧(∃d,bd H 0=some (.row 25 3 d [u.av]))∧((σ.1<u.bh.length∧σ.2= .sl 22 σ.1∧∃d,bd H 22=some (.row 103 3 d (((ir u).take σ.1).map Decl.av)))∨(σ.1=u.bh.length∧σ.2=bn (ir u)))) (fun σ=>u.bh.length - σ.1) (0,if u.bh.length=0 then bn (ir u) else .sl 22 0) ?_ ?_
  ·by_cases h0:u.bh.length=0
   ·have hz:ir u=[]:=List.length_eq_zero_iff.1 (by rw[jR];exact h0)
    rw[if_pos h0,hz]
    exact⟨_,_,_,(Rt.nil 5 103 3 (by omega) rfl).trans (Rt.su 5 22 0 (e:=103) (sz:=3) (d:= .any) (es:=[]) rfl bf rfl),cC,cU,⟨_,bf⟩, .inr ⟨h0.symm,rfl⟩⟩
   ·rw[if_neg h0]
    exact⟨_,_,_,Rt.nil 5 103 3 (by omega) rfl,cC,cU,⟨_,bf⟩, .inl ⟨by dsimp only;omega,rfl,_,by simp only[List.take_zero,List.map_nil];exact bf⟩⟩
  clear hc
  rintro⟨t,av⟩ H n ⟨hn,⟨d0,r0⟩,hst⟩
  dsimp only at hst ⊢
  rcases hst with⟨htl,rfl,d5,r5⟩|⟨ht,rfl⟩
  ·have eg:=fun d=>oz (l:=u.bh) htl d
   rw[show u.bh.getD t default=u.gr t from rfl] at eg
   have hnx:=DW htl
   have htm:(((ir u).take t).map Decl.av).length=t:=by rw[List.length_map,List.length_take,jR];omega
   have hap:(((ir u).take t).map Decl.av)++[(⟨(u.gr t).name,0,0⟩:Decl).av]=(((ir u).take (t+1)).map Decl.av):=by rw[hnx];simp
   have hal:(((ir u).take (t+1)).map Decl.av).length=t+1:=by rw[List.length_map,List.length_take,jR];omega
   have hap2:=hap
   unfold Decl.av Decl.cells at hap2
   repeat' (first|((with_reducible refine aF ?_);conv=>whnf)|refine aG ?_|exact eO|with_reducible refine aD ?_ ?_|((with_reducible refine Ask.mk ?_);first|exact cw|(exact hgm)|(exact htm)|exact cT|(intro h;simp_all[bj.cells,cB.cells]<;>fail)|(simp_all[bj.cells,cB.cells]<;>fail))|(apply aA;(·(first|exact eg _|exact cA)))|refine aH ?_|((with_reducible refine aB ?_ ?_)<;>intro hc<;>(try simp only[List.length_map,ne_eq,dC] at hc)<;>try(exfalso;omega)))
   by_cases hlast:t+1=u.bh.length
   ·have hz:(ir u).take (t+1)=ir u:=List.take_of_length_le (by rw[jR];omega)
    rw[hz] at hap
    exact⟨(t+1,bn (ir u)),by dsimp only;omega,_,_,_,Rt.su 5 22 (t+1) (e:=103) (sz:=3) (es:=(ir u).map Decl.av) rfl (by rw[←hap];exact bf) (by rw[List.length_map,jR];omega),cC,cU,⟨_,bf⟩, .inr ⟨hlast,rfl⟩⟩
   ·exact⟨(t+1, .sl 22 (t+1)),by dsimp only;omega,_,_,_,Rt.refl _ _ _,cC,cU,⟨_,bf⟩, .inl ⟨by dsimp only;omega,rfl,_,by dsimp only;rw[←hap];exact bf⟩⟩
  ·subst ht
   repeat' (first|((with_reducible refine aF ?_);conv=>whnf)|refine aG ?_|exact eO|with_reducible refine aD ?_ ?_|((with_reducible refine Ask.mk ?_);first|exact cw|(exact hgm)|exact cT|(intro h;simp_all[bj.cells]<;>fail)|(simp_all[bj.cells]<;>fail))|(apply aA;(·exact cA))|refine aH ?_|((with_reducible refine aB ?_ ?_)<;>intro hc<;>(try simp only[List.length_map,ne_eq,dC] at hc)<;>try(exfalso;omega)))
   refine aL (uR u.shared hs1 hu.shared [] (by simp) true _ _ _ (.inl ⟨rfl,rfl⟩)) ?_
   rintro _ H1 n1 ⟨b1,d1,L1,rfl,hb1,hr1,hL1,hn1,hy1⟩
   obtain⟨k1,a1⟩:=hy1 0 (by first|omega|exact cU) (fun b' n' e=>by cases e)
   have r1:∃d,bd H1 0=some (.row 25 3 d [u.av]):=⟨_,k1.trans bf⟩
   have hnn1:23≤n1:=Nat.le_trans (by first|omega|exact cU) hn1
   have hl1:L1.length≤64:=by rw[hL1];split<;>simp<;>omega
   clear k1 hy1 r0 hn1
   obtain⟨d1',r1⟩:=r1
   generalize hok1:qn [] u.shared true=o1 at *
   repeat' (first|((with_reducible refine aF ?_);conv=>whnf)|refine aG ?_|exact eO|with_reducible refine aD ?_ ?_|((with_reducible refine Ask.mk ?_);first|exact cw|exact cT|(intro h;simp_all[bj.cells]<;>fail)|(simp_all[bj.cells]<;>fail))|(apply aA;(·exact cA))|refine aH ?_|((with_reducible refine aB ?_ ?_)<;>intro hc<;>(try simp only[List.length_map,ne_eq,dC] at hc)<;>try(exfalso;omega)))
   refine aL (uR u.bo (by omega) hu.bo L1 (by omega) false _ _ _ (.inr ⟨b1,_,rfl,Nat.lt_of_lt_of_le hb1 cU,bf⟩)) ?_
   rintro _ H2 n2 ⟨b2,d2,L2,rfl,hb2,hr2,hL2,hn2,hy2⟩
   obtain⟨k2,a2⟩:=hy2 0 (by first|omega|exact cU) (fun b' n' e=>by cases e;exact a1)
   have r2:∃d,bd H2 0=some (.row 25 3 d [u.av]):=⟨_,k2.trans bf⟩
   have hnn2:23≤n2:=Nat.le_trans (by first|omega|exact cU) hn2
   have hl2:L2.length≤128:=by rw[hL2];split<;>simp<;>omega
   clear k2 hy2 r1 hr1 hn2
   obtain⟨d2',r2⟩:=r2
   generalize hok2:qn L1 u.bo false=o2 at *
   repeat' (first|((with_reducible refine aF ?_);conv=>whnf)|refine aG ?_|exact eO|with_reducible refine aD ?_ ?_|((with_reducible refine Ask.mk ?_);first|exact cw|exact cT|(intro h;simp_all[bj.cells]<;>fail)|(simp_all[bj.cells]<;>fail))|(apply aA;(·exact cA))|refine aH ?_|((with_reducible refine aB ?_ ?_)<;>intro hc<;>(try simp only[List.length_map,ne_eq,dC] at hc)<;>try(exfalso;omega)))
   refine aL (uR (ir u) (by rw[jR];omega) (fun d hd=> ?_) L2 (by omega) false _ _ _ (.inr ⟨b2,_,rfl,Nat.lt_of_lt_of_le hb2 cU,bf⟩)) ?_
   ·obtain⟨g,hg,rfl⟩:=List.mem_map.1 hd
    have hz:dz 0:=by unfold dz;omega
    exact⟨(hu.bh g hg).name,hz,hz⟩
   rintro _ H3 n3 ⟨b3,d3,L3,rfl,hb3,hr3,hL3,hn3,hy3⟩
   obtain⟨k3,a3⟩:=hy3 0 (by first|omega|exact cU) (fun b' n' e=>by cases e;exact a2)
   have r3:∃d,bd H3 0=some (.row 25 3 d [u.av]):=⟨_,k3.trans bf⟩
   have hnn3:23≤n3:=Nat.le_trans (by first|omega|exact cU) hn3
   clear k3 hy3 r2 hr2 hr3 hn3
   obtain⟨d3',r3⟩:=r3
   generalize hok3:qn L2 (ir u) false=o3 at *
   have hnm:(o1&&o2&&o3)=eQ u:=by
    rw[←NS u hs1 hs2 hs3 (L1:=L1) (L2:=L2) (by rw[hok1];exact hL1) (by rw[hok2];exact hL2),hok1,hok2,hok3]
   clear hL1 hL2 hL3 hok1 hok2 hok3
   cases hnb:eQ u with
   |false=>
    rw[kI hnb]
    rw[hnb] at hnm
    repeat' (first|((with_reducible refine aF ?_);conv=>whnf)|refine aG ?_|exact eO|with_reducible refine aD ?_ ?_|((with_reducible refine Ask.mk ?_);first|exact cw|exact cT|(intro h;simp_all[bj.cells]<;>fail)|(simp_all[bj.cells]<;>fail))|(apply aA;(·exact cA))|refine aH ?_|((with_reducible refine aB ?_ ?_)<;>intro hc<;>(try simp only[List.length_map,ne_eq,dC] at hc)<;>try(exfalso;omega)))
    ·exact rfl
    ·exfalso
     obtain⟨hc1,hc2⟩:=hc
     subst hc2
     cases o1<;>cases o2<;>simp_all
   |true=>
    rw[hnb] at hnm
    have e1:o1=true:=by cases o1;cases hnm;rfl
    have e2:o2=true:=by cases o2;cases o1<;>cases hnm;rfl
    have e3:o3=true:=by cases o3;cases o1<;>cases o2<;>cases hnm;rfl
    subst e1;subst e2;subst e3
    have hck:fb u=eP u u.bh 0:=by unfold fb;rw[if_pos hnb]
    rw[hck]
    repeat' (first|((with_reducible refine aF ?_);conv=>whnf)|refine aG ?_|exact eO|with_reducible refine aD ?_ ?_|((with_reducible refine Ask.mk ?_);first|exact cw|exact cT|(intro h;simp_all[bj.cells]<;>fail)|(simp_all[bj.cells]<;>fail))|(apply aA;(·exact cA))|refine aH ?_|((with_reducible refine aB ?_ ?_)<;>intro hc<;>(try simp only[List.length_map,ne_eq,dC] at hc)<;>try(exfalso;omega)))
    refine aP (fun t:Nat=>[(1, .pt 0 1 0 0),(12,i64 t)])
     (fun t H n=>t≤u.bh.length∧1≤n∧(∃d,bd H 0=some (.row 25 3 d [u.av]))∧eP u (u.bh.drop t) t=eP u u.bh 0) (fun t=>u.bh.length - t) 0 cC ⟨Nat.zero_le _,cU,⟨_,bf⟩,rfl⟩ ?_
    clear r3
    rintro t H n ⟨ht,hn,⟨d0,r0⟩,hF⟩
    by_cases htl:t<u.bh.length
    ·have hg:=hu.bh _ (cX default htl)
     rw[na htl] at hF
     have eg:=fun d=>oz htl d
     generalize hG:u.bh.getD t default=g at *
     have hl:=hg.len
     have hnm':(g.nodes.map Node.av).length=g.nodes.length:=by simp
     unfold lH at hF
     by_cases hb:g.locals<0∨g.locals>64∨g.bg<g.locals∨g.bg>4160∨g.nodes.length<1∨g.nodes.length>4096
     ·rw[if_pos hb] at hF
      rw[←hF]
      repeat' (first|((with_reducible refine aF ?_);conv=>whnf)|refine aG ?_|exact eO|with_reducible refine aD ?_ ?_|((with_reducible refine Ask.mk ?_);first|exact cw|(exact hgm)|(exact hnm')|exact cT|(intro h;simp_all[bj.cells,cB.cells]<;>fail)|(simp_all[bj.cells,cB.cells]<;>fail))|(apply aA;(·(first|exact eg _|exact cA)))|refine aH ?_|((with_reducible refine aB ?_ ?_)<;>intro hc<;>(try simp only[List.length_map,ne_eq,dC] at hc)<;>try(exfalso;omega)))
      all_goals first|exact rfl|(exfalso;omega)
     ·rw[if_neg hb] at hF
      repeat' (first|((with_reducible refine aF ?_);conv=>whnf)|refine aG ?_|exact eO|with_reducible refine aD ?_ ?_|((with_reducible refine Ask.mk ?_);first|exact cw|(exact hgm)|(exact hnm')|exact cT|(intro h;simp_all[bj.cells,cB.cells]<;>fail)|(simp_all[bj.cells,cB.cells]<;>fail))|(apply aA;(·(first|exact eg _|exact cA)))|refine aH ?_|((with_reducible refine aB ?_ ?_)<;>intro hc<;>(try simp only[List.length_map,ne_eq,dC] at hc)<;>try(exfalso;omega)))
      all_goals first|(exfalso;omega)|skip
      refine aP (fun i:Nat=>[(1, .pt 0 1 0 0),(12,i64 t),(13, .pt (n+10) 1 0 0),(14,i64 i)])
       (fun i H2 n2=>i≤g.nodes.length∧n+11≤n2∧(∃d,bd H2 0=some (.row 25 3 d [u.av]))∧(∃d,bd H2 (n+10)=some (.row 64 4 d [g.av]))∧fP (gv u g) (g.nodes.drop i) i=fP (gv u g) g.nodes 0) (fun i=>g.nodes.length - i) 0 cC ⟨Nat.zero_le _,cU,⟨_,bf⟩,⟨_,bf⟩,rfl⟩ ?_
      clear r0
      rintro i H2 n2 ⟨hi,hn2,⟨d02,r0⟩,⟨d4,r4⟩,hfst⟩
      by_cases hil:i<g.nodes.length
      ·have hp:=zO u g (g.nodes.getD i default) (hg.nodes _ (cX default hil))
       have en:=fun d=>gb hil d
       have hfst2:=qW default hfst hil
       cases hnb:gv u g (g.nodes.getD i default) with
       |false=>
        rw[hnb] at hp
        rw[if_neg (by rw[hnb];decide)] at hfst2
        rw[hfst2] at hF
        rw[←hF]
        repeat' (first|((with_reducible refine aF ?_);conv=>whnf)|refine aG ?_|exact eO|with_reducible refine aD ?_ ?_|((with_reducible refine Ask.mk ?_);first|exact cw|(exact hnm')|exact cT|(intro h;simp_all[bj.cells,cB.cells,Node.cells]<;>fail)|(simp_all[bj.cells,cB.cells,Node.cells]<;>fail))|(apply aA;(·(first|exact en _|exact cA)))|refine aK (hp) ?_|refine aH ?_|((with_reducible refine aB ?_ ?_)<;>intro hc<;>(try simp only[List.length_map,ne_eq,dC] at hc)<;>try(exfalso;omega)))
        exact rfl
       |true=>
        rw[hnb] at hp
        rw[if_pos hnb] at hfst2
        repeat' (first|((with_reducible refine aF ?_);conv=>whnf)|refine aG ?_|exact eO|with_reducible refine aD ?_ ?_|((with_reducible refine Ask.mk ?_);first|exact cw|(exact hnm')|exact cT|(intro h;simp_all[bj.cells,cB.cells,Node.cells]<;>fail)|(simp_all[bj.cells,cB.cells,Node.cells]<;>fail))|(apply aA;(·(first|exact en _|exact cA)))|refine aK (hp) ?_|refine aH ?_|((with_reducible refine aB ?_ ?_)<;>intro hc<;>(try simp only[List.length_map,ne_eq,dC] at hc)<;>try(exfalso;omega)))
        exact⟨i+1,by omega,cC,by omega,cU,⟨_,bf⟩,⟨_,bf⟩,hfst2.symm⟩
      ·have:i=g.nodes.length:=by omega
       subst this
       rw[qV _ _ (Nat.le_refl _)] at hfst
       rw[←hfst] at hF
       dsimp only at hF
       have hok:Whole g:=rR (u:=u) (by omega) fun m hm=>lq.1 (iK.1 hfst.symm m hm)
       have hh:=zL g hg hok
       unfold jb at hh
       by_cases hb2:0≤(gV g).2
       ·rw[if_pos hb2] at hF
        rw[←hF]
        repeat' (first|((with_reducible refine aF ?_);conv=>whnf)|refine aG ?_|exact eO|with_reducible refine aD ?_ ?_|((with_reducible refine Ask.mk ?_);first|exact cw|(exact hnm')|exact cT|(intro h;simp_all[bj.cells,cB.cells]<;>fail)|(simp_all[bj.cells,cB.cells]<;>fail))|(apply aA;(·exact cA))|refine aK (hh) ?_|refine aH ?_|((with_reducible refine aB ?_ ?_)<;>intro hc<;>(try simp only[List.length_map,ne_eq,dC] at hc)<;>try(exfalso;omega)))
        exact rfl
       ·rw[if_neg hb2] at hF
        repeat' (first|((with_reducible refine aF ?_);conv=>whnf)|refine aG ?_|exact eO|with_reducible refine aD ?_ ?_|((with_reducible refine Ask.mk ?_);first|exact cw|(exact hnm')|exact cT|(intro h;simp_all[bj.cells,cB.cells]<;>fail)|(simp_all[bj.cells,cB.cells]<;>fail))|(apply aA;(·exact cA))|refine aK (hh) ?_|refine aH ?_|((with_reducible refine aB ?_ ?_)<;>intro hc<;>(try simp only[List.length_map,ne_eq,dC] at hc)<;>try(exfalso;omega)))
        exact⟨t+1,by omega,cC,by omega,by omega,⟨_,bf⟩,hF⟩
    ·have:t=u.bh.length:=by omega
     subst this
     rw[List.drop_eq_nil_of_le (Nat.le_refl _),eP] at hF
     rw[←hF]
     repeat' (first|((with_reducible refine aF ?_);conv=>whnf)|refine aG ?_|exact eO|with_reducible refine aD ?_ ?_|((with_reducible refine Ask.mk ?_);first|exact cw|(exact hgm)|exact cT|(intro h;simp_all[bj.cells]<;>fail)|(simp_all[bj.cells]<;>fail))|(apply aA;(·exact cA))|refine aH ?_|((with_reducible refine aB ?_ ?_)<;>intro hc<;>(try simp only[List.length_map,ne_eq,dC] at hc)<;>try(exfalso;omega)))
     exact rfl
 ·have hb:eQ u=false:=by
   unfold eQ
   by_cases e1:u.shared.length≤64
   ·by_cases e2:u.bo.length≤16
    ·have e3:¬u.bh.length≤8:=fun e=>hsz ⟨e1,e2,e⟩
     simp[e3]
    ·simp[e2]
   ·simp[e1]
  rw[kI hb]
  repeat' (first|((with_reducible refine aF ?_);conv=>whnf)|refine aG ?_|exact eO|with_reducible refine aD ?_ ?_|((with_reducible refine Ask.mk ?_);first|exact cw|exact cT|(intro h;simp_all[bj.cells]<;>fail)|(simp_all[bj.cells]<;>fail))|(apply aA;(·exact cA))|refine aH ?_|((with_reducible refine aB ?_ ?_)<;>intro hc<;>(try simp only[List.length_map,ne_eq,dC] at hc)<;>try(exfalso;omega)))
  all_goals first|exact rfl|(exfalso;omega)
end Go.Proofs.YtekfmjjmihomlaaGreat
end
section
/- Every Way and Shows: the law's walk. -/
namespace Go.Proofs.YtekfmjjmihomlaaGreat
open Go Go.cV Go.Proofs
set_option linter.unusedSimpArgs false
set_option linter.unusedVariables false
set_option maxRecDepth 8000
theorem J9:Pure Tryz.prog 29 [.sc (.slice none 0 0), .sc (.slice none 0 0)] (fun r=>r=bl true):=
 Pure.args (nC [] [] (by simp)) fun c=> .cons (cV.dQ.jy c c 1 .any) (.cons (cV.dQ.jy c c 1 .any) .nil)
theorem J8:Pure Tryz.prog 29 [cW [], .sc (.slice none 0 0)] (fun r=>r=bl true):=
 Pure.args (nC [] [] (by simp)) fun c=> .cons (fun _ h=>h) (.cons (cV.dQ.jy c c 1 .any) .nil)
theorem oW (u:bj) (hu:u.Wf) (most:Int) (e:dc) (he1:e.bk.length * 16≤140737488355328) (he2:e.mem.length * 8≤140737488355328) (want:List cM) (hw:want.length * 16≤140737488355328):Pure Tryz.prog 7 [u.av,i64 most,e.av,dE want] (fun r=>r=bl true):=by
 have cK:=xH u hu
 have c0:=uu
 have c1:=x9 u hu most e he1 he2
 have c2:=DI u hu most e he1 he2 cK
 have c3:=zX u hu most want hw
 have c4:=xM u hu most want cK
 clear cK
 unfold rQ at c1
 unfold uU at c2
 refine aI PJ rfl ?_
 generalize fD (eo u most).2 want (eo u most).2.length=b at *
 rcases mP u hu most with⟨h1,h2⟩|⟨l,hr,hm1,hm2,hs,hE,hf,hlm⟩
 ·rw[if_neg h1] at c1 c2
  have c5:=J9
  generalize (eo u most).1=x at *
  cases b
  all_goals
   refine cN ?_
   refine dW ?_
   simp
 ·rw[hE] at c1 c2 c3 c4
  dsimp only at c1 c2 c3 c4
  rw[if_pos rfl] at c1 c2
  cases hh:fK u l e l.length with
  |none=>
   rw[hh] at c1 c2
   have c5:=J8
   have c1:Pure Tryz.prog 25 [u.av,i64 most,e.av] (fun r=>r= .dH [cW [],bl false,i64 0]):=c1
   cases b
   all_goals
    refine cN ?_
    refine dW ?_
    simp
  |some i=>
   rw[hh] at c1 c2
   have hi:=FP hh
   have hWl:(gB l (some i)).length≤65536:=by show(kz l i).reverse.length≤_;rw[List.length_reverse];exact Nat.le_trans (oT l i i) (by omega)
   have c5:=nC (gB l (some i)) (gB l (some i)) (by omega)
   rw[decide_eq_true rfl] at c5
   have c1:Pure Tryz.prog 25 [u.av,i64 most,e.av] (fun r=>r= .dH [cW (gB l (some i)),bl true,i64 0]):=c1
   have c2:Pure Tryz.prog 26 [u.av,i64 most,e.av] (fun r=>r= .dH [cW (gB l (some i)),bl true,i64 0]):=c2
   generalize gB l (some i)=W at *
   cases b
   all_goals
    refine cN ?_
    refine dW ?_
    simp
end Go.Proofs.YtekfmjjmihomlaaGreat
end
section
/- Every Way and Shows answers as the document's: for every unit, cap, end and list of prints. No conditions. -/
namespace Go.Proofs.YtekfmjjmihomlaaGreat
open Go Go.cV Go.Proofs Go.RowKit Go.ChangeShapes Go.WideShapes Go.ChangeAt
set_option linter.unusedSimpArgs false
set_option linter.unusedVariables false
set_option maxRecDepth 100000 in
theorem mV (os:Os) (started:os.Started) (H:Type) (enc:TypeId×Value→H):
 ReturnsInHanded {} Tryz.checked os 7 .any (Rows.exploreWaysSpec.pre6 enc Tryz.prog Tryz.f7 Rows.exploreWaysRow.domain false) (Rows.exploreWaysSpec.post enc Tryz.prog Tryz.f7 false true false false):=by
 refine returnsInHanded_of_change_sized (C:=Tryz.checked) own started (by kernel_rfl) Tryz.func7
  (ChangeSpec.witness6 (enc:=enc) (C:=Tryz.checked) false ⟨#[],#[.agg #[.slice none 0 0, .slice none 0 0, .slice none 0 0], .int .i64 0, .agg #[.slice none 0 0, .slice none 0 0, .bool false], .slice none 0 0],[]⟩ 8 (by kernel_rfl) (by kernel_rfl) (by kernel_rfl) (by kernel_rfl)) ?_
 intro W base args ds gs before hval hW _ hr _
 refine uD (ts:=[25,3,40,37]) (tb:=4) laidOut (by kernel_rfl) rfl Tryz.underlying4 (by kernel_rfl) (fun ds h=> ?_) (fun t ht=> ?_)
  (iG (ag:=true) (by kernel_rfl) yo (fun h=>by cases h) (iG (ag:=false) (by kernel_rfl) (dY Tryz.underlying3) (fun _ _ _=>rfl) (iG (ag:=true) (by kernel_rfl) C7 (fun h=>by cases h) (iG (ag:=false) (by kernel_rfl) nt (fun _ _ _=>rfl) uJ))))
  (fun a h=> ?_) hval hW hr
 ·match ds,h with
  |[d0,d1,d2,d3],_=>rfl
 ·have:∀t∈[25,3,40,37],Tryz.prog.readableRec t=true∧t<Tryz.prog.types.size:=by
   simp only[List.forall_mem_cons]
   refine⟨⟨by kernel_rfl,of_decide_eq_true (by kernel_rfl)⟩,⟨by kernel_rfl,of_decide_eq_true (by kernel_rfl)⟩,⟨by kernel_rfl,of_decide_eq_true (by kernel_rfl)⟩,⟨by kernel_rfl,of_decide_eq_true (by kernel_rfl)⟩,by simp⟩
  exact this t ht
 ·exact oW a.1 h.1 a.2.1 a.2.2.1 (Nat.le_trans h.2.2.1.bk.2 (by decide)) (Nat.le_trans h.2.2.1.mem.2 (by decide)) a.2.2.2.1 (Nat.le_trans h.2.2.2.1.2 (by decide))
theorem exploreWays_holds:Rows.ExploreWaysSaid:=
 OpenClaim.holds_of_wide 7 Tryz.f7 rfl rfl rfl rfl rfl rfl rfl ⟨rfl,rfl,rfl,rfl,rfl⟩ rfl rfl rfl rfl rfl (by kernel_rfl) Tryz.func7 (by kernel_rfl)
  (of_decide_eq_true (by kernel_rfl)) (by unfold Func.isWrapper;first|(rw[if_pos (by decide+kernel)];kernel_rfl)|(rw[if_neg (by decide+kernel)];exact⟨rfl,rfl⟩))
  (fun os started H enc _=>mV os started H enc)
end Go.Proofs.YtekfmjjmihomlaaGreat
end
