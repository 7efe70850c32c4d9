import Derived.Test.YtekfmjjmihomlaaGreatM25
import Derived.Test.YtekfmjjmihomlaaGreatM23
section
/- What is so of right units, in plain data. -/
namespace Go.Proofs.YtekfmjjmihomlaaGreat
open Go Go.cO Go.Proofs
set_option linter.unusedSimpArgs false
set_option linter.unusedVariables false
def iU (u:bf):Int×Int×Int:=if ed u=true then eU u u.bk 0 else(60,0,0)
structure mb (u:bf) (g:cC) (n:Node):Prop where
 kind:1≤n.kind∧n.kind<10
 origin:0≤n.origin∧n.origin<4096
 op:(n.kind=1→n.op<19)∧(n.kind≠1→n.op=0)
 slot:(jI n.kind=true→0≤n.slot∧n.slot<g.bj)∧(jI n.kind=false→n.slot=0)
 cH:(gA n.kind=true→0≤n.cH∧n.cH<(if n.kind=5∨n.kind=6 then u.cB.length else u.shared.length:Nat))∧(gA n.kind=false→n.cH=0)
 a:qF n.a (qy n.kind) g.bj=true
 b:qF n.b (decide (n.kind=1)&&dO n.op) g.bj=true
 next:(iB n.kind=true→0≤n.next∧n.next<g.nodes.length)∧(iB n.kind=false→n.next=0)
 og:(n.kind=8→0≤n.og∧n.og<g.nodes.length)∧(n.kind≠8→n.og=0)
theorem DT {n most:Int} {b:Bool}:nH n b most=true↔(b=true→0≤n∧n<most)∧(b=false→n=0):=by
 unfold nH
 cases b<;>simp
theorem nG {u:bf} {g:cC} {n:Node}:jx u g n=true↔mb u g n:=by
 unfold jx
 simp only[Bool.and_eq_true,decide_eq_true_eq,DT,Bool.ite_eq_true_distrib]
 constructor
 ·rintro⟨⟨⟨⟨⟨⟨⟨⟨h1,h2,h3,h4⟩,h5⟩,h6⟩,h7⟩,h8⟩,h9⟩,h10⟩,h11⟩
  refine⟨⟨h1,h2⟩,⟨h3,h4⟩, ?_,h6, ?_,h8,h9,h10, ?_⟩
  ·by_cases h:n.kind=1
   ·rw[if_pos h] at h5;exact⟨fun _=>h5,fun e=>absurd h e⟩
   ·rw[if_neg h] at h5;exact⟨fun e=>absurd e h,fun _=>h5⟩
  ·refine⟨fun e=> ?_,h7.2⟩
   have:=h7.1 e
   split at this<;>rename_i hh
   ·rw[if_pos hh];exact this
   ·rw[if_neg hh];exact this
  ·exact⟨fun e=>h11.1 (by simp[e]),fun e=>h11.2 (by simp[e])⟩
 ·intro h
  refine⟨⟨⟨⟨⟨⟨⟨⟨h.kind.1,h.kind.2,h.origin.1,h.origin.2⟩, ?_⟩,h.slot⟩,⟨fun e=> ?_,h.cH.2⟩⟩,h.a⟩,h.b⟩,h.next⟩, ?_⟩
  ·by_cases e:n.kind=1
   ·rw[if_pos e];exact h.op.1 e
   ·rw[if_neg e];exact h.op.2 e
  ·have:=h.cH.1 e
   split at this<;>rename_i hh
   ·rw[if_pos hh];exact this
   ·rw[if_neg hh];exact this
  ·exact⟨fun e=>h.og.1 (by simpa using e),fun e=>h.og.2 (by simpa using e)⟩
theorem iJ {α:Type} {p:α→Bool}:∀{l:List α} {i:Nat},eo p l i=none↔∀x∈l,p x=true
 |[],i=>by simp[eo]
 |x::l,i=>by
  rw[eo]
  by_cases h:p x=true
  ·rw[if_pos h,iJ];simp[h]
  ·rw[if_neg h];simp[h]
structure gN (u:bf) (g:cC):Prop where
 locals:0≤g.locals∧g.locals≤64
 bj:g.locals≤g.bj∧g.bj≤4160
 len:1≤g.nodes.length∧g.nodes.length≤4096
 nodes:∀n∈g.nodes,mb u g n
 held:(jt g).2<0
theorem JC {u:bf} {g:cC} {n:Node} (h:mb u g n) {k:Int} (hk:k∈n.oq):0≤k∧k<g.nodes.length:=by
 unfold Node.oq at hk
 have hkd:=h.kind
 split at hk
 ·simp at hk
 ·rename_i h9
  have hn:=h.next.1 (by unfold iB;exact decide_eq_true (by omega))
  split at hk
  ·rename_i h8
   have he:=h.og.1 h8
   simp only[List.mem_cons,List.not_mem_nil,or_false] at hk
   rcases hk with rfl|rfl
   ·exact hn
   ·exact he
  ·simp only[List.mem_cons,List.not_mem_nil,or_false] at hk
   subst hk;exact hn
theorem vP {u:bf} {g:cC} (hl:1≤g.nodes.length∧g.nodes.length≤4096) (h:∀n∈g.nodes,mb u g n):Whole g:=
 ⟨hl.1,hl.2,fun i hi=>by
  have hn:=h _ (cU default hi)
  exact⟨hn.kind.1,hn.kind.2,fun k hk=>by have:=JC hn hk;omega⟩⟩
theorem gN.whole {u:bf} {g:cC} (h:gN u g):Whole g:=vP h.len h.nodes
theorem gN.node {u:bf} {g:cC} (h:gN u g) {i:Nat} (hi:i<g.nodes.length):mb u g (g.nd i):=h.nodes _ (cU default hi)
theorem nW {u:bf} {g:cC}:lJ u g=none↔gN u g:=by
 unfold lJ
 constructor
 ·intro h
  split at h
  ·cases h
  ·rename_i h1
   cases hf:eo (jx u g) g.nodes 0 with
   |some i=>rw[hf] at h;cases h
   |none=>
    rw[hf] at h
    simp only at h
    split at h
    ·cases h
    ·rename_i h2
     exact⟨by omega,by omega,by omega,fun n hn=>nG.1 (iJ.1 hf n hn),by omega⟩
 ·intro h
  have h1:=h.locals
  have h2:=h.bj
  have h3:=h.len
  have h4:=h.held
  rw[if_neg (by omega),iJ.2 fun n hn=>nG.2 (h.nodes n hn)]
  simp only
  rw[if_neg (by omega)]
theorem lK {u:bf}:∀{l:List cC} {t:Nat},eU u l t=(0,0,0)↔∀g∈l,gN u g
 |[],t=>by simp[eU]
 |g::r,t=>by
  rw[eU]
  cases h:lJ u g with
  |some k=>
   have:¬gN u g:=fun e=>by rw[nW.2 e] at h;cases h
   simp[this]
  |none=>
   have:=nW.1 h
   simp[lK,this]
theorem nX {u:bf}:∀{l:List cC} {t:Nat},eU u l t≠(0,0,0)→(eU u l t).1=60
 |[],t,h=>absurd rfl h
 |g::r,t,h=>by
  rw[eU] at h ⊢
  cases hg:lJ u g with
  |some k=>rfl
  |none=>rw[hg] at h;exact nX h
structure ch (u:bf):Prop where
 named:ed u=true
 bk:∀g∈u.bk,gN u g
theorem mh {u:bf}:iU u=(0,0,0)↔ch u:=by
 unfold iU
 constructor
 ·intro h
  split at h
  ·rename_i hn;exact⟨hn,lK.1 h⟩
  ·cases h
 ·intro h;rw[if_pos h.named,lK.2 h.bk]
theorem ve {u:bf} (h:¬ch u):(iU u).1=60:=by
 have h2:=mt mh.1 h
 unfold iU at h2 ⊢
 split
 ·rename_i hn;rw[if_pos hn] at h2;exact nX h2
 ·rfl
theorem ch.AP {u:bf} (h:ch u):u.shared.length≤64∧u.cB.length≤16∧u.bk.length≤8:=by
 have:=h.named
 unfold ed at this
 simp only[Bool.and_eq_true,decide_eq_true_eq] at this
 exact⟨this.1.1.1.1,this.1.1.1.2,this.1.1.2⟩
theorem ch.gr {u:bf} (h:ch u) {t:Nat} (ht:t<u.bk.length):gN u (u.gr t):=h.bk _ (cU default ht)
end Go.Proofs.YtekfmjjmihomlaaGreat
end
section
/- Is a unit right? The walk. -/
namespace Go.Proofs.YtekfmjjmihomlaaGreat
open Go Go.cO Go.Proofs
set_option linter.unusedSimpArgs false
set_option linter.unusedVariables false
theorem wH {α:Type} {p:α→Bool} {l:List α} (d:α) {i:Nat} (h:eo p (l.drop i) i=eo p l 0) (hi:i<l.length):eo p l 0=if p (l.getD i d)=true then eo p (l.drop (i+1)) (i+1) else some i:=by
 rw[←h,tR p l d hi]
theorem ru {u:bf} {l:List cC} {t:Nat} (h:t<l.length):eU u (l.drop t) t=match lJ u (l.getD t default) with
 |some k=>(60,(t:Int),k)
 |none=>eU u (l.drop (t+1)) (t+1):=by
 rw[List.drop_eq_getElem_cons h,eU,gd h];rfl
theorem rb {u:bf} (h:ed u=false):iU u=(60,0,0):=by unfold iU;rw[if_neg (by rw[h];decide)]
abbrev I5 (r:Int×Int×Int):AV:= .dc [i64 r.1,i64 r.2.1,i64 r.2.2]
set_option maxHeartbeats 4000000 in
theorem o8 (u:bf) (hu:u.Wf):Pure Tryz.prog 51 [u.av] (fun r=>r=I5 (iU u)):=by
 refine aI C0 rfl ?_
 have hnp:=wW u hu
 cases hnm:ed u with
 |false=>
  rw[hnm] at hnp
  rw[rb hnm]
  repeat' (first|((with_reducible refine aF ?_);conv=>whnf)|refine aG ?_|exact gJ|with_reducible refine aD ?_ ?_|((with_reducible refine Ask.mk ?_);first|exact dj|exact cy|(intro h;simp_all[bf.cells]<;>fail)|(simp_all[bf.cells]<;>fail))|(apply aA;(·exact cI))|refine aK (hnp) ?_|refine aH ?_|((with_reducible refine aB ?_ ?_)<;>intro hc<;>(try simp only[List.length_map,ne_eq,db] at hc)<;>try(exfalso;omega)))
  exact rfl
 |true=>
  rw[hnm] at hnp
  have hck:iU u=eU u u.bk 0:=by unfold iU;rw[if_pos hnm]
  rw[hck]
  have hgl:u.bk.length≤8:=by
   have:=hnm
   unfold ed at this
   simp only[Bool.and_eq_true,decide_eq_true_eq] at this
   exact this.1.1.2
  repeat' (first|((with_reducible refine aF ?_);conv=>whnf)|refine aG ?_|exact gJ|with_reducible refine aD ?_ ?_|((with_reducible refine Ask.mk ?_);first|exact dj|exact cy|(intro h;simp_all[bf.cells]<;>fail)|(simp_all[bf.cells]<;>fail))|(apply aA;(·exact cI))|refine aK (hnp) ?_|refine aH ?_|((with_reducible refine aB ?_ ?_)<;>intro hc<;>(try simp only[List.length_map,ne_eq,db] at hc)<;>try(exfalso;omega)))
  simp only[List.length_map]
  refine aR (fun t:Nat=>[(1, .pt 0 1 0 0),(15,dV u.bk),(16,i64 u.bk.length),(17,i64 t)])
   (fun t H n=>t≤u.bk.length∧1≤n∧(∃d,bd H 0=some (.row 25 3 d [u.av]))∧eU u (u.bk.drop t) t=eU u u.bk 0) (fun t=>u.bk.length - t) 0 cJ ⟨Nat.zero_le _,cW,⟨_,bg⟩,rfl⟩ ?_
  rintro t H n ⟨ht,hn,⟨d0,r0⟩,hF⟩
  by_cases htl:t<u.bk.length
  ·have hg:=hu.bk _ (cU default htl)
   rw[ru htl] at hF
   have eg:=fun d=>xe htl d
   generalize hG:u.bk.getD t default=g at *
   have hl:=hg.len
   unfold lJ at hF
   by_cases hb:g.locals<0∨g.locals>64∨g.bj<g.locals∨g.bj>4160∨g.nodes.length<1∨g.nodes.length>4096
   ·rw[if_pos hb] at hF
    rw[←hF]
    repeat' (first|((with_reducible refine aF ?_);conv=>whnf)|refine aG ?_|exact gJ|with_reducible refine aD ?_ ?_|((with_reducible refine Ask.mk ?_);first|exact dj|exact cy|(intro h;simp_all[bf.cells,cC.cells]<;>fail)|(simp_all[bf.cells,cC.cells]<;>fail))|(apply aA;(·(first|exact eg _|exact cI)))|refine aH ?_|((with_reducible refine aB ?_ ?_)<;>intro hc<;>(try simp only[List.length_map,ne_eq,db] at hc)<;>try(exfalso;omega)))
    all_goals first|exact rfl|(exfalso;omega)
   ·rw[if_neg hb] at hF
    repeat' (first|((with_reducible refine aF ?_);conv=>whnf)|refine aG ?_|exact gJ|with_reducible refine aD ?_ ?_|((with_reducible refine Ask.mk ?_);first|exact dj|exact cy|(intro h;simp_all[bf.cells,cC.cells]<;>fail)|(simp_all[bf.cells,cC.cells]<;>fail))|(apply aA;(·(first|exact eg _|exact cI)))|refine aH ?_|((with_reducible refine aB ?_ ?_)<;>intro hc<;>(try simp only[List.length_map,ne_eq,db] at hc)<;>try(exfalso;omega)))
    simp only[List.length_map]
    clear hnp
    refine aR (fun i:Nat=>[(1, .pt 0 1 0 0),(5,i64 t),(6, .pt (n+4) 1 0 0),(15,dV u.bk),(16,i64 u.bk.length),(17,i64 t),(56,mG g.nodes),(57,i64 g.nodes.length),(58,i64 i)])
     (fun i H2 n2=>i≤g.nodes.length∧n+5≤n2∧(∃d,bd H2 0=some (.row 25 3 d [u.av]))∧(∃d,bd H2 (n+4)=some (.row 64 4 d [g.av]))∧eo (jx u g) (g.nodes.drop i) i=eo (jx u g) g.nodes 0) (fun i=>g.nodes.length - i) 0 cJ ⟨Nat.zero_le _,cW,⟨_,bg⟩,⟨_,bg⟩,rfl⟩ ?_
    clear r0
    rintro i H2 n2 ⟨hi,hn2,⟨d02,r0⟩,⟨d4,r4⟩,hfst⟩
    by_cases hil:i<g.nodes.length
    ·have hp:=wu u g (g.nodes.getD i default) (hg.nodes _ (cU default hil))
     have en:=fun d=>kr hil d
     have hfst2:=wH default hfst hil
     cases hnb:jx u g (g.nodes.getD i default) with
     |false=>
      rw[hnb] at hp
      rw[if_neg (by rw[hnb];decide)] at hfst2
      rw[hfst2] at hF
      rw[←hF]
      repeat' (first|((with_reducible refine aF ?_);conv=>whnf)|refine aG ?_|exact gJ|with_reducible refine aD ?_ ?_|((with_reducible refine Ask.mk ?_);first|exact dj|exact cy|(intro h;simp_all[bf.cells,cC.cells,Node.cells]<;>fail)|(simp_all[bf.cells,cC.cells,Node.cells]<;>fail))|(apply aA;(·(first|exact en _|exact cI)))|refine aK (hp) ?_|refine aH ?_|((with_reducible refine aB ?_ ?_)<;>intro hc<;>(try simp only[List.length_map,ne_eq,db] at hc)<;>try(exfalso;omega)))
      exact rfl
     |true=>
      rw[hnb] at hp
      rw[if_pos hnb] at hfst2
      repeat' (first|((with_reducible refine aF ?_);conv=>whnf)|refine aG ?_|exact gJ|with_reducible refine aD ?_ ?_|((with_reducible refine Ask.mk ?_);first|exact dj|exact cy|(intro h;simp_all[bf.cells,cC.cells,Node.cells]<;>fail)|(simp_all[bf.cells,cC.cells,Node.cells]<;>fail))|(apply aA;(·(first|exact en _|exact cI)))|refine aK (hp) ?_|refine aH ?_|((with_reducible refine aB ?_ ?_)<;>intro hc<;>(try simp only[List.length_map,ne_eq,db] at hc)<;>try(exfalso;omega)))
      exact⟨i+1,by omega,cJ,by omega,cW,⟨_,bg⟩,⟨_,bg⟩,hfst2.symm⟩
    ·have:i=g.nodes.length:=by omega
     subst this
     rw[wG _ _ (Nat.le_refl _)] at hfst
     rw[←hfst] at hF
     dsimp only at hF
     have hok:Whole g:=vP (u:=u) (by omega) fun m hm=>nG.1 (iJ.1 hfst.symm m hm)
     have hh:=zZ g hg hok
     unfold pB at hh
     by_cases hb2:0≤(jt g).2
     ·rw[if_pos hb2] at hF
      rw[←hF]
      repeat' (first|((with_reducible refine aF ?_);conv=>whnf)|refine aG ?_|exact gJ|with_reducible refine aD ?_ ?_|((with_reducible refine Ask.mk ?_);first|exact dj|exact cy|(intro h;simp_all[bf.cells,cC.cells]<;>fail)|(simp_all[bf.cells,cC.cells]<;>fail))|(apply aA;(·exact cI))|refine aK (hh) ?_|refine aH ?_|((with_reducible refine aB ?_ ?_)<;>intro hc<;>(try simp only[List.length_map,ne_eq,db] at hc)<;>try(exfalso;omega)))
      exact rfl
     ·rw[if_neg hb2] at hF
      repeat' (first|((with_reducible refine aF ?_);conv=>whnf)|refine aG ?_|exact gJ|with_reducible refine aD ?_ ?_|((with_reducible refine Ask.mk ?_);first|exact dj|exact cy|(intro h;simp_all[bf.cells,cC.cells]<;>fail)|(simp_all[bf.cells,cC.cells]<;>fail))|(apply aA;(·exact cI))|refine aK (hh) ?_|refine aH ?_|((with_reducible refine aB ?_ ?_)<;>intro hc<;>(try simp only[List.length_map,ne_eq,db] at hc)<;>try(exfalso;omega)))
      exact⟨t+1,by omega,cJ,by omega,by omega,⟨_,bg⟩,hF⟩
  ·have:t=u.bk.length:=by omega
   subst this
   rw[List.drop_eq_nil_of_le (Nat.le_refl _),eU] at hF
   rw[←hF]
   repeat' (first|((with_reducible refine aF ?_);conv=>whnf)|refine aG ?_|exact gJ|with_reducible refine aD ?_ ?_|((with_reducible refine Ask.mk ?_);first|exact dj|exact cy|(intro h;simp_all[bf.cells]<;>fail)|(simp_all[bf.cells]<;>fail))|(apply aA;(·exact cI))|refine aH ?_|((with_reducible refine aB ?_ ?_)<;>intro hc<;>(try simp only[List.length_map,ne_eq,db] at hc)<;>try(exfalso;omega)))
   exact rfl
end Go.Proofs.YtekfmjjmihomlaaGreat
end
