import Derived.Test.YtekfmjjmihomlaaGreatM25
import Derived.Test.YtekfmjjmihomlaaGreatM23
section
/- What is so of right units, in plain data. -/
namespace Go.Proofs.YtekfmjjmihomlaaGreat
open Go Go.cZ Go.Proofs
set_option linter.unusedSimpArgs false
set_option linter.unusedVariables false
def fg (u:bt):Int×Int×Int:=if eY u=true then eW u u.bo 0 else(60,0,0)
structure og (u:bt) (g:cA) (n:Node):Prop where
 kind:1≤n.kind∧n.kind<10
 origin:0≤n.origin∧n.origin<4096
 op:(n.kind=1→n.op<19)∧(n.kind≠1→n.op=0)
 slot:(iP n.kind=true→0≤n.slot∧n.slot<g.br)∧(iP n.kind=false→n.slot=0)
 cH:(e8 n.kind=true→0≤n.cH∧n.cH<(if n.kind=5∨n.kind=6 then u.bx.length else u.shared.length:Nat))∧(e8 n.kind=false→n.cH=0)
 a:nS n.a (ln n.kind) g.br=true
 b:nS n.b (decide (n.kind=1)&&dW n.op) g.br=true
 next:(gv n.kind=true→0≤n.next∧n.next<g.nodes.length)∧(gv n.kind=false→n.next=0)
 nq:(n.kind=8→0≤n.nq∧n.nq<g.nodes.length)∧(n.kind≠8→n.nq=0)
theorem I4 {n most:Int} {b:Bool}:nK n b most=true↔(b=true→0≤n∧n<most)∧(b=false→n=0):=by
 unfold nK
 cases b<;>simp
theorem mH {u:bt} {g:cA} {n:Node}:hX u g n=true↔og u g n:=by
 unfold hX
 simp only[Bool.and_eq_true,decide_eq_true_eq,I4,Bool.ite_eq_true_distrib]
 constructor
 ·rintro⟨⟨⟨⟨⟨⟨⟨⟨h1,h2,h3,h4⟩,h5⟩,h6⟩,h7⟩,h8⟩,h9⟩,h10⟩,h11⟩
  refine⟨⟨h1,h2⟩,⟨h3,h4⟩, ?_,h6, ?_,h8,h9,h10, ?_⟩
  ·by_cases h:n.kind=1
   ·rw[if_pos h] at h5;exact⟨fun _=>h5,fun e=>absurd h e⟩
   ·rw[if_neg h] at h5;exact⟨fun e=>absurd e h,fun _=>h5⟩
  ·refine⟨fun e=> ?_,h7.2⟩
   have:=h7.1 e
   split at this<;>rename_i hh
   ·rw[if_pos hh];exact this
   ·rw[if_neg hh];exact this
  ·exact⟨fun e=>h11.1 (by simp[e]),fun e=>h11.2 (by simp[e])⟩
 ·intro h
  refine⟨⟨⟨⟨⟨⟨⟨⟨h.kind.1,h.kind.2,h.origin.1,h.origin.2⟩, ?_⟩,h.slot⟩,⟨fun e=> ?_,h.cH.2⟩⟩,h.a⟩,h.b⟩,h.next⟩, ?_⟩
  ·by_cases e:n.kind=1
   ·rw[if_pos e];exact h.op.1 e
   ·rw[if_neg e];exact h.op.2 e
  ·have:=h.cH.1 e
   split at this<;>rename_i hh
   ·rw[if_pos hh];exact this
   ·rw[if_neg hh];exact this
  ·exact⟨fun e=>h.nq.1 (by simpa using e),fun e=>h.nq.2 (by simpa using e)⟩
theorem iN {α:Type} {p:α→Bool}:∀{l:List α} {i:Nat},fU p l i=none↔∀x∈l,p x=true
 |[],i=>by simp[fU]
 |x::l,i=>by
  rw[fU]
  by_cases h:p x=true
  ·rw[if_pos h,iN];simp[h]
  ·rw[if_neg h];simp[h]
structure ic (u:bt) (g:cA):Prop where
 locals:0≤g.locals∧g.locals≤64
 br:g.locals≤g.br∧g.br≤4160
 len:1≤g.nodes.length∧g.nodes.length≤4096
 nodes:∀n∈g.nodes,og u g n
 held:(gl g).2<0
theorem ON {u:bt} {g:cA} {n:Node} (h:og u g n) {k:Int} (hk:k∈n.gK):0≤k∧k<g.nodes.length:=by
 unfold Node.gK at hk
 have hkd:=h.kind
 split at hk
 ·simp at hk
 ·rename_i h9
  have hn:=h.next.1 (by unfold gv;exact decide_eq_true (by omega))
  split at hk
  ·rename_i h8
   have he:=h.nq.1 h8
   simp only[List.mem_cons,List.not_mem_nil,or_false] at hk
   rcases hk with rfl|rfl
   ·exact hn
   ·exact he
  ·simp only[List.mem_cons,List.not_mem_nil,or_false] at hk
   subst hk;exact hn
theorem sJ {u:bt} {g:cA} (hl:1≤g.nodes.length∧g.nodes.length≤4096) (h:∀n∈g.nodes,og u g n):Whole g:=
 ⟨hl.1,hl.2,fun i hi=>by
  have hn:=h _ (cW default hi)
  exact⟨hn.kind.1,hn.kind.2,fun k hk=>by have:=ON hn hk;omega⟩⟩
theorem ic.whole {u:bt} {g:cA} (h:ic u g):Whole g:=sJ h.len h.nodes
theorem ic.node {u:bt} {g:cA} (h:ic u g) {i:Nat} (hi:i<g.nodes.length):og u g (g.nd i):=h.nodes _ (cW default hi)
theorem p6 {u:bt} {g:cA}:lW u g=none↔ic u g:=by
 unfold lW
 constructor
 ·intro h
  split at h
  ·cases h
  ·rename_i h1
   cases hf:fU (hX u g) g.nodes 0 with
   |some i=>rw[hf] at h;cases h
   |none=>
    rw[hf] at h
    simp only at h
    split at h
    ·cases h
    ·rename_i h2
     exact⟨by omega,by omega,by omega,fun n hn=>mH.1 (iN.1 hf n hn),by omega⟩
 ·intro h
  have h1:=h.locals
  have h2:=h.br
  have h3:=h.len
  have h4:=h.held
  rw[if_neg (by omega),iN.2 fun n hn=>mH.2 (h.nodes n hn)]
  simp only
  rw[if_neg (by omega)]
theorem nE {u:bt}:∀{l:List cA} {t:Nat},eW u l t=(0,0,0)↔∀g∈l,ic u g
 |[],t=>by simp[eW]
 |g::r,t=>by
  rw[eW]
  cases h:lW u g with
  |some k=>
   have:¬ic u g:=fun e=>by rw[p6.2 e] at h;cases h
   simp[this]
  |none=>
   have:=p6.1 h
   simp[nE,this]
theorem p7 {u:bt}:∀{l:List cA} {t:Nat},eW u l t≠(0,0,0)→(eW u l t).1=60
 |[],t,h=>absurd rfl h
 |g::r,t,h=>by
  rw[eW] at h ⊢
  cases hg:lW u g with
  |some k=>rfl
  |none=>rw[hg] at h;exact p7 h
structure dC (u:bt):Prop where
 named:eY u=true
 bo:∀g∈u.bo,ic u g
theorem ly {u:bt}:fg u=(0,0,0)↔dC u:=by
 unfold fg
 constructor
 ·intro h
  split at h
  ·rename_i hn;exact⟨hn,nE.1 h⟩
  ·cases h
 ·intro h;rw[if_pos h.named,nE.2 h.bo]
theorem ql {u:bt} (h:¬dC u):(fg u).1=60:=by
 have h2:=mt ly.1 h
 unfold fg at h2 ⊢
 split
 ·rename_i hn;rw[if_pos hn] at h2;exact p7 h2
 ·rfl
theorem dC.vO {u:bt} (h:dC u):u.shared.length≤64∧u.bx.length≤16∧u.bo.length≤8:=by
 have:=h.named
 unfold eY at this
 simp only[Bool.and_eq_true,decide_eq_true_eq] at this
 exact⟨this.1.1.1.1,this.1.1.1.2,this.1.1.2⟩
theorem dC.gr {u:bt} (h:dC u) {t:Nat} (ht:t<u.bo.length):ic u (u.gr t):=h.bo _ (cW default ht)
end Go.Proofs.YtekfmjjmihomlaaGreat
end
section
/- Is a unit right? The walk. -/
namespace Go.Proofs.YtekfmjjmihomlaaGreat
open Go Go.cZ Go.Proofs
set_option linter.unusedSimpArgs false
set_option linter.unusedVariables false
theorem qz {α:Type} {p:α→Bool} {l:List α} (d:α) {i:Nat} (h:fU p (l.drop i) i=fU p l 0) (hi:i<l.length):fU p l 0=if p (l.getD i d)=true then fU p (l.drop (i+1)) (i+1) else some i:=by
 rw[←h,wD p l d hi]
theorem oD {u:bt} {l:List cA} {t:Nat} (h:t<l.length):eW u (l.drop t) t=match lW u (l.getD t default) with
 |some k=>(60,(t:Int),k)
 |none=>eW u (l.drop (t+1)) (t+1):=by
 rw[List.drop_eq_getElem_cons h,eW,gd h];rfl
theorem kU {u:bt} (h:eY u=false):fg u=(60,0,0):=by unfold fg;rw[if_neg (by rw[h];decide)]
abbrev mj (r:Int×Int×Int):AV:= .dV [i64 r.1,i64 r.2.1,i64 r.2.2]
set_option maxHeartbeats 4000000 in
theorem qm (u:bt) (hu:u.Wf):Pure Tryz.prog 51 [u.av] (fun r=>r=mj (fg u)):=by
 refine aI HT rfl ?_
 have hnp:=zV u hu
 cases hnm:eY u with
 |false=>
  rw[hnm] at hnp
  rw[kU hnm]
  repeat' (first|((with_reducible refine aF ?_);conv=>whnf)|refine aG ?_|exact eK|with_reducible refine aD ?_ ?_|((with_reducible refine Ask.mk ?_);first|exact cz|exact cU|(intro h;simp_all[bt.cells]<;>fail)|(simp_all[bt.cells]<;>fail))|(apply aA;(·exact cF))|refine aK (hnp) ?_|refine aH ?_|((with_reducible refine aB ?_ ?_)<;>intro hc<;>(try simp only[List.length_map,ne_eq,dE] at hc)<;>try(exfalso;omega)))
  exact rfl
 |true=>
  rw[hnm] at hnp
  have hck:fg u=eW u u.bo 0:=by unfold fg;rw[if_pos hnm]
  rw[hck]
  have hgl:u.bo.length≤8:=by
   have:=hnm
   unfold eY at this
   simp only[Bool.and_eq_true,decide_eq_true_eq] at this
   exact this.1.1.2
  repeat' (first|((with_reducible refine aF ?_);conv=>whnf)|refine aG ?_|exact eK|with_reducible refine aD ?_ ?_|((with_reducible refine Ask.mk ?_);first|exact cz|exact cU|(intro h;simp_all[bt.cells]<;>fail)|(simp_all[bt.cells]<;>fail))|(apply aA;(·exact cF))|refine aK (hnp) ?_|refine aH ?_|((with_reducible refine aB ?_ ?_)<;>intro hc<;>(try simp only[List.length_map,ne_eq,dE] at hc)<;>try(exfalso;omega)))
  simp only[List.length_map]
  refine aP (fun t:Nat=>[(1, .pt 0 1 0 0),(15,cR u.bo),(16,i64 u.bo.length),(17,i64 t)])
   (fun t H n=>t≤u.bo.length∧1≤n∧(∃d,bn H 0=some (.row 25 3 d [u.av]))∧eW u (u.bo.drop t) t=eW u u.bo 0) (fun t=>u.bo.length - t) 0 cI ⟨Nat.zero_le _,c8,⟨_,bq⟩,rfl⟩ ?_
  rintro t H n ⟨ht,hn,⟨d0,r0⟩,hF⟩
  by_cases htl:t<u.bo.length
  ·have hg:=hu.bo _ (cW default htl)
   rw[oD htl] at hF
   have eg:=fun d=>lV htl d
   generalize hG:u.bo.getD t default=g at *
   have hl:=hg.len
   unfold lW at hF
   by_cases hb:g.locals<0∨g.locals>64∨g.br<g.locals∨g.br>4160∨g.nodes.length<1∨g.nodes.length>4096
   ·rw[if_pos hb] at hF
    rw[←hF]
    repeat' (first|((with_reducible refine aF ?_);conv=>whnf)|refine aG ?_|exact eK|with_reducible refine aD ?_ ?_|((with_reducible refine Ask.mk ?_);first|exact cz|exact cU|(intro h;simp_all[bt.cells,cA.cells]<;>fail)|(simp_all[bt.cells,cA.cells]<;>fail))|(apply aA;(·(first|exact eg _|exact cF)))|refine aH ?_|((with_reducible refine aB ?_ ?_)<;>intro hc<;>(try simp only[List.length_map,ne_eq,dE] at hc)<;>try(exfalso;omega)))
    all_goals first|exact rfl|(exfalso;omega)
   ·rw[if_neg hb] at hF
    repeat' (first|((with_reducible refine aF ?_);conv=>whnf)|refine aG ?_|exact eK|with_reducible refine aD ?_ ?_|((with_reducible refine Ask.mk ?_);first|exact cz|exact cU|(intro h;simp_all[bt.cells,cA.cells]<;>fail)|(simp_all[bt.cells,cA.cells]<;>fail))|(apply aA;(·(first|exact eg _|exact cF)))|refine aH ?_|((with_reducible refine aB ?_ ?_)<;>intro hc<;>(try simp only[List.length_map,ne_eq,dE] at hc)<;>try(exfalso;omega)))
    simp only[List.length_map]
    clear hnp
    refine aP (fun i:Nat=>[(1, .pt 0 1 0 0),(5,i64 t),(6, .pt (n+4) 1 0 0),(15,cR u.bo),(16,i64 u.bo.length),(17,i64 t),(56,oO g.nodes),(57,i64 g.nodes.length),(58,i64 i)])
     (fun i H2 n2=>i≤g.nodes.length∧n+5≤n2∧(∃d,bn H2 0=some (.row 25 3 d [u.av]))∧(∃d,bn H2 (n+4)=some (.row 64 4 d [g.av]))∧fU (hX u g) (g.nodes.drop i) i=fU (hX u g) g.nodes 0) (fun i=>g.nodes.length - i) 0 cI ⟨Nat.zero_le _,c8,⟨_,bq⟩,⟨_,bq⟩,rfl⟩ ?_
    clear r0
    rintro i H2 n2 ⟨hi,hn2,⟨d02,r0⟩,⟨d4,r4⟩,hfst⟩
    by_cases hil:i<g.nodes.length
    ·have hp:=zu u g (g.nodes.getD i default) (hg.nodes _ (cW default hil))
     have en:=fun d=>gG hil d
     have hfst2:=qz default hfst hil
     cases hnb:hX u g (g.nodes.getD i default) with
     |false=>
      rw[hnb] at hp
      rw[if_neg (by rw[hnb];decide)] at hfst2
      rw[hfst2] at hF
      rw[←hF]
      repeat' (first|((with_reducible refine aF ?_);conv=>whnf)|refine aG ?_|exact eK|with_reducible refine aD ?_ ?_|((with_reducible refine Ask.mk ?_);first|exact cz|exact cU|(intro h;simp_all[bt.cells,cA.cells,Node.cells]<;>fail)|(simp_all[bt.cells,cA.cells,Node.cells]<;>fail))|(apply aA;(·(first|exact en _|exact cF)))|refine aK (hp) ?_|refine aH ?_|((with_reducible refine aB ?_ ?_)<;>intro hc<;>(try simp only[List.length_map,ne_eq,dE] at hc)<;>try(exfalso;omega)))
      exact rfl
     |true=>
      rw[hnb] at hp
      rw[if_pos hnb] at hfst2
      repeat' (first|((with_reducible refine aF ?_);conv=>whnf)|refine aG ?_|exact eK|with_reducible refine aD ?_ ?_|((with_reducible refine Ask.mk ?_);first|exact cz|exact cU|(intro h;simp_all[bt.cells,cA.cells,Node.cells]<;>fail)|(simp_all[bt.cells,cA.cells,Node.cells]<;>fail))|(apply aA;(·(first|exact en _|exact cF)))|refine aK (hp) ?_|refine aH ?_|((with_reducible refine aB ?_ ?_)<;>intro hc<;>(try simp only[List.length_map,ne_eq,dE] at hc)<;>try(exfalso;omega)))
      exact⟨i+1,by omega,cI,by omega,c8,⟨_,bq⟩,⟨_,bq⟩,hfst2.symm⟩
    ·have:i=g.nodes.length:=by omega
     subst this
     rw[qy _ _ (Nat.le_refl _)] at hfst
     rw[←hfst] at hF
     dsimp only at hF
     have hok:Whole g:=sJ (u:=u) (by omega) fun m hm=>mH.1 (iN.1 hfst.symm m hm)
     have hh:=DK g hg hok
     unfold jk at hh
     by_cases hb2:0≤(gl g).2
     ·rw[if_pos hb2] at hF
      rw[←hF]
      repeat' (first|((with_reducible refine aF ?_);conv=>whnf)|refine aG ?_|exact eK|with_reducible refine aD ?_ ?_|((with_reducible refine Ask.mk ?_);first|exact cz|exact cU|(intro h;simp_all[bt.cells,cA.cells]<;>fail)|(simp_all[bt.cells,cA.cells]<;>fail))|(apply aA;(·exact cF))|refine aK (hh) ?_|refine aH ?_|((with_reducible refine aB ?_ ?_)<;>intro hc<;>(try simp only[List.length_map,ne_eq,dE] at hc)<;>try(exfalso;omega)))
      exact rfl
     ·rw[if_neg hb2] at hF
      repeat' (first|((with_reducible refine aF ?_);conv=>whnf)|refine aG ?_|exact eK|with_reducible refine aD ?_ ?_|((with_reducible refine Ask.mk ?_);first|exact cz|exact cU|(intro h;simp_all[bt.cells,cA.cells]<;>fail)|(simp_all[bt.cells,cA.cells]<;>fail))|(apply aA;(·exact cF))|refine aK (hh) ?_|refine aH ?_|((with_reducible refine aB ?_ ?_)<;>intro hc<;>(try simp only[List.length_map,ne_eq,dE] at hc)<;>try(exfalso;omega)))
      exact⟨t+1,by omega,cI,by omega,by omega,⟨_,bq⟩,hF⟩
  ·have:t=u.bo.length:=by omega
   subst this
   rw[List.drop_eq_nil_of_le (Nat.le_refl _),eW] at hF
   rw[←hF]
   repeat' (first|((with_reducible refine aF ?_);conv=>whnf)|refine aG ?_|exact eK|with_reducible refine aD ?_ ?_|((with_reducible refine Ask.mk ?_);first|exact cz|exact cU|(intro h;simp_all[bt.cells]<;>fail)|(simp_all[bt.cells]<;>fail))|(apply aA;(·exact cF))|refine aH ?_|((with_reducible refine aB ?_ ?_)<;>intro hc<;>(try simp only[List.length_map,ne_eq,dE] at hc)<;>try(exfalso;omega)))
   exact rfl
end Go.Proofs.YtekfmjjmihomlaaGreat
end
