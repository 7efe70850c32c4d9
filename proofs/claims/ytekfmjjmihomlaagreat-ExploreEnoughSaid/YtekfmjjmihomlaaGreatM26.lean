import Derived.Test.YtekfmjjmihomlaaGreatM25
import Derived.Test.YtekfmjjmihomlaaGreatM23
section
/- What is so of right units, in plain data. -/
namespace Go.Proofs.YtekfmjjmihomlaaGreat
open Go Go.cN Go.Proofs
set_option linter.unusedSimpArgs false
set_option linter.unusedVariables false
def iM (u:bf):Int×Int×Int:=if eW u=true then eS u u.bj 0 else(60,0,0)
structure mU (u:bf) (g:bz) (n:Node):Prop where
 kind:1≤n.kind∧n.kind<10
 origin:0≤n.origin∧n.origin<4096
 op:(n.kind=1→n.op<19)∧(n.kind≠1→n.op=0)
 slot:(jB n.kind=true→0≤n.slot∧n.slot<g.bh)∧(jB n.kind=false→n.slot=0)
 cH:(fq n.kind=true→0≤n.cH∧n.cH<(if n.kind=5∨n.kind=6 then u.bx.length else u.shared.length:Nat))∧(fq n.kind=false→n.cH=0)
 a:pf n.a (qk n.kind) g.bh=true
 b:pf n.b (decide (n.kind=1)&&dK n.op) g.bh=true
 next:(gw n.kind=true→0≤n.next∧n.next<g.nodes.length)∧(gw n.kind=false→n.next=0)
 oX:(n.kind=8→0≤n.oX∧n.oX<g.nodes.length)∧(n.kind≠8→n.oX=0)
theorem C9 {n most:Int} {b:Bool}:mz n b most=true↔(b=true→0≤n∧n<most)∧(b=false→n=0):=by
 unfold mz
 cases b<;>simp
theorem my {u:bf} {g:bz} {n:Node}:jo u g n=true↔mU u g n:=by
 unfold jo
 simp only[Bool.and_eq_true,decide_eq_true_eq,C9,Bool.ite_eq_true_distrib]
 constructor
 ·rintro⟨⟨⟨⟨⟨⟨⟨⟨h1,h2,h3,h4⟩,h5⟩,h6⟩,h7⟩,h8⟩,h9⟩,h10⟩,h11⟩
  refine⟨⟨h1,h2⟩,⟨h3,h4⟩, ?_,h6, ?_,h8,h9,h10, ?_⟩
  ·by_cases h:n.kind=1
   ·rw[if_pos h] at h5;exact⟨fun _=>h5,fun e=>absurd h e⟩
   ·rw[if_neg h] at h5;exact⟨fun e=>absurd e h,fun _=>h5⟩
  ·refine⟨fun e=> ?_,h7.2⟩
   have:=h7.1 e
   split at this<;>rename_i hh
   ·rw[if_pos hh];exact this
   ·rw[if_neg hh];exact this
  ·exact⟨fun e=>h11.1 (by simp[e]),fun e=>h11.2 (by simp[e])⟩
 ·intro h
  refine⟨⟨⟨⟨⟨⟨⟨⟨h.kind.1,h.kind.2,h.origin.1,h.origin.2⟩, ?_⟩,h.slot⟩,⟨fun e=> ?_,h.cH.2⟩⟩,h.a⟩,h.b⟩,h.next⟩, ?_⟩
  ·by_cases e:n.kind=1
   ·rw[if_pos e];exact h.op.1 e
   ·rw[if_neg e];exact h.op.2 e
  ·have:=h.cH.1 e
   split at this<;>rename_i hh
   ·rw[if_pos hh];exact this
   ·rw[if_neg hh];exact this
  ·exact⟨fun e=>h.oX.1 (by simpa using e),fun e=>h.oX.2 (by simpa using e)⟩
theorem iB {α:Type} {p:α→Bool}:∀{l:List α} {i:Nat},e8 p l i=none↔∀x∈l,p x=true
 |[],i=>by simp[e8]
 |x::l,i=>by
  rw[e8]
  by_cases h:p x=true
  ·rw[if_pos h,iB];simp[h]
  ·rw[if_neg h];simp[h]
structure gK (u:bf) (g:bz):Prop where
 locals:0≤g.locals∧g.locals≤64
 bh:g.locals≤g.bh∧g.bh≤4160
 len:1≤g.nodes.length∧g.nodes.length≤4096
 nodes:∀n∈g.nodes,mU u g n
 held:(ji g).2<0
theorem IX {u:bf} {g:bz} {n:Node} (h:mU u g n) {k:Int} (hk:k∈n.o8):0≤k∧k<g.nodes.length:=by
 unfold Node.o8 at hk
 have hkd:=h.kind
 split at hk
 ·simp at hk
 ·rename_i h9
  have hn:=h.next.1 (by unfold gw;exact decide_eq_true (by omega))
  split at hk
  ·rename_i h8
   have he:=h.oX.1 h8
   simp only[List.mem_cons,List.not_mem_nil,or_false] at hk
   rcases hk with rfl|rfl
   ·exact hn
   ·exact he
  ·simp only[List.mem_cons,List.not_mem_nil,or_false] at hk
   subst hk;exact hn
theorem vA {u:bf} {g:bz} (hl:1≤g.nodes.length∧g.nodes.length≤4096) (h:∀n∈g.nodes,mU u g n):Whole g:=
 ⟨hl.1,hl.2,fun i hi=>by
  have hn:=h _ (cW default hi)
  exact⟨hn.kind.1,hn.kind.2,fun k hk=>by have:=IX hn hk;omega⟩⟩
theorem gK.whole {u:bf} {g:bz} (h:gK u g):Whole g:=vA h.len h.nodes
theorem gK.node {u:bf} {g:bz} (h:gK u g) {i:Nat} (hi:i<g.nodes.length):mU u g (g.nd i):=h.nodes _ (cW default hi)
theorem nM {u:bf} {g:bz}:lB u g=none↔gK u g:=by
 unfold lB
 constructor
 ·intro h
  split at h
  ·cases h
  ·rename_i h1
   cases hf:e8 (jo u g) g.nodes 0 with
   |some i=>rw[hf] at h;cases h
   |none=>
    rw[hf] at h
    simp only at h
    split at h
    ·cases h
    ·rename_i h2
     exact⟨by omega,by omega,by omega,fun n hn=>my.1 (iB.1 hf n hn),by omega⟩
 ·intro h
  have h1:=h.locals
  have h2:=h.bh
  have h3:=h.len
  have h4:=h.held
  rw[if_neg (by omega),iB.2 fun n hn=>my.2 (h.nodes n hn)]
  simp only
  rw[if_neg (by omega)]
theorem lC {u:bf}:∀{l:List bz} {t:Nat},eS u l t=(0,0,0)↔∀g∈l,gK u g
 |[],t=>by simp[eS]
 |g::r,t=>by
  rw[eS]
  cases h:lB u g with
  |some k=>
   have:¬gK u g:=fun e=>by rw[nM.2 e] at h;cases h
   simp[this]
  |none=>
   have:=nM.1 h
   simp[lC,this]
theorem nN {u:bf}:∀{l:List bz} {t:Nat},eS u l t≠(0,0,0)→(eS u l t).1=60
 |[],t,h=>absurd rfl h
 |g::r,t,h=>by
  rw[eS] at h ⊢
  cases hg:lB u g with
  |some k=>rfl
  |none=>rw[hg] at h;exact nN h
structure ch (u:bf):Prop where
 named:eW u=true
 bj:∀g∈u.bj,gK u g
theorem mZ {u:bf}:iM u=(0,0,0)↔ch u:=by
 unfold iM
 constructor
 ·intro h
  split at h
  ·rename_i hn;exact⟨hn,lC.1 h⟩
  ·cases h
 ·intro h;rw[if_pos h.named,lC.2 h.bj]
theorem vR {u:bf} (h:¬ch u):(iM u).1=60:=by
 have h2:=mt mZ.1 h
 unfold iM at h2 ⊢
 split
 ·rename_i hn;rw[if_pos hn] at h2;exact nN h2
 ·rfl
theorem ch.A8 {u:bf} (h:ch u):u.shared.length≤64∧u.bx.length≤16∧u.bj.length≤8:=by
 have:=h.named
 unfold eW at this
 simp only[Bool.and_eq_true,decide_eq_true_eq] at this
 exact⟨this.1.1.1.1,this.1.1.1.2,this.1.1.2⟩
theorem ch.gr {u:bf} (h:ch u) {t:Nat} (ht:t<u.bj.length):gK u (u.gr t):=h.bj _ (cW default ht)
end Go.Proofs.YtekfmjjmihomlaaGreat
end
section
/- Is a unit right? The walk. -/
namespace Go.Proofs.YtekfmjjmihomlaaGreat
open Go Go.cN Go.Proofs
set_option linter.unusedSimpArgs false
set_option linter.unusedVariables false
theorem vr {α:Type} {p:α→Bool} {l:List α} (d:α) {i:Nat} (h:e8 p (l.drop i) i=e8 p l 0) (hi:i<l.length):e8 p l 0=if p (l.getD i d)=true then e8 p (l.drop (i+1)) (i+1) else some i:=by
 rw[←h,tC p l d hi]
theorem rb {u:bf} {l:List bz} {t:Nat} (h:t<l.length):eS u (l.drop t) t=match lB u (l.getD t default) with
 |some k=>(60,(t:Int),k)
 |none=>eS u (l.drop (t+1)) (t+1):=by
 rw[List.drop_eq_getElem_cons h,eS,gd h];rfl
theorem rO {u:bf} (h:eW u=false):iM u=(60,0,0):=by unfold iM;rw[if_neg (by rw[h];decide)]
abbrev IP (r:Int×Int×Int):AV:= .da [i64 r.1,i64 r.2.1,i64 r.2.2]
set_option maxHeartbeats 4000000 in
theorem oR (u:bf) (hu:u.Wf):Pure Tryz.prog 51 [u.av] (fun r=>r=IP (iM u)):=by
 refine aI CH rfl ?_
 have hnp:=wH u hu
 cases hnm:eW u with
 |false=>
  rw[hnm] at hnp
  rw[rO hnm]
  repeat' (first|((with_reducible refine aF ?_);conv=>whnf)|refine aG ?_|exact gE|with_reducible refine aD ?_ ?_|((with_reducible refine Ask.mk ?_);first|exact di|exact cy|(intro h;simp_all[bf.cells]<;>fail)|(simp_all[bf.cells]<;>fail))|(apply aA;(·exact cI))|refine aK (hnp) ?_|refine aH ?_|((with_reducible refine aB ?_ ?_)<;>intro hc<;>(try simp only[List.length_map,ne_eq,dZ] at hc)<;>try(exfalso;omega)))
  exact rfl
 |true=>
  rw[hnm] at hnp
  have hck:iM u=eS u u.bj 0:=by unfold iM;rw[if_pos hnm]
  rw[hck]
  have hgl:u.bj.length≤8:=by
   have:=hnm
   unfold eW at this
   simp only[Bool.and_eq_true,decide_eq_true_eq] at this
   exact this.1.1.2
  repeat' (first|((with_reducible refine aF ?_);conv=>whnf)|refine aG ?_|exact gE|with_reducible refine aD ?_ ?_|((with_reducible refine Ask.mk ?_);first|exact di|exact cy|(intro h;simp_all[bf.cells]<;>fail)|(simp_all[bf.cells]<;>fail))|(apply aA;(·exact cI))|refine aK (hnp) ?_|refine aH ?_|((with_reducible refine aB ?_ ?_)<;>intro hc<;>(try simp only[List.length_map,ne_eq,dZ] at hc)<;>try(exfalso;omega)))
  simp only[List.length_map]
  refine aR (fun t:Nat=>[(1, .pt 0 1 0 0),(15,dQ u.bj),(16,i64 u.bj.length),(17,i64 t)])
   (fun t H n=>t≤u.bj.length∧1≤n∧(∃d,bd H 0=some (.row 25 3 d [u.av]))∧eS u (u.bj.drop t) t=eS u u.bj 0) (fun t=>u.bj.length - t) 0 cK ⟨Nat.zero_le _,cZ,⟨_,bg⟩,rfl⟩ ?_
  rintro t H n ⟨ht,hn,⟨d0,r0⟩,hF⟩
  by_cases htl:t<u.bj.length
  ·have hg:=hu.bj _ (cW default htl)
   rw[rb htl] at hF
   have eg:=fun d=>xP htl d
   generalize hG:u.bj.getD t default=g at *
   have hl:=hg.len
   unfold lB at hF
   by_cases hb:g.locals<0∨g.locals>64∨g.bh<g.locals∨g.bh>4160∨g.nodes.length<1∨g.nodes.length>4096
   ·rw[if_pos hb] at hF
    rw[←hF]
    repeat' (first|((with_reducible refine aF ?_);conv=>whnf)|refine aG ?_|exact gE|with_reducible refine aD ?_ ?_|((with_reducible refine Ask.mk ?_);first|exact di|exact cy|(intro h;simp_all[bf.cells,bz.cells]<;>fail)|(simp_all[bf.cells,bz.cells]<;>fail))|(apply aA;(·(first|exact eg _|exact cI)))|refine aH ?_|((with_reducible refine aB ?_ ?_)<;>intro hc<;>(try simp only[List.length_map,ne_eq,dZ] at hc)<;>try(exfalso;omega)))
    all_goals first|exact rfl|(exfalso;omega)
   ·rw[if_neg hb] at hF
    repeat' (first|((with_reducible refine aF ?_);conv=>whnf)|refine aG ?_|exact gE|with_reducible refine aD ?_ ?_|((with_reducible refine Ask.mk ?_);first|exact di|exact cy|(intro h;simp_all[bf.cells,bz.cells]<;>fail)|(simp_all[bf.cells,bz.cells]<;>fail))|(apply aA;(·(first|exact eg _|exact cI)))|refine aH ?_|((with_reducible refine aB ?_ ?_)<;>intro hc<;>(try simp only[List.length_map,ne_eq,dZ] at hc)<;>try(exfalso;omega)))
    simp only[List.length_map]
    clear hnp
    refine aR (fun i:Nat=>[(1, .pt 0 1 0 0),(5,i64 t),(6, .pt (n+4) 1 0 0),(15,dQ u.bj),(16,i64 u.bj.length),(17,i64 t),(56,lz g.nodes),(57,i64 g.nodes.length),(58,i64 i)])
     (fun i H2 n2=>i≤g.nodes.length∧n+5≤n2∧(∃d,bd H2 0=some (.row 25 3 d [u.av]))∧(∃d,bd H2 (n+4)=some (.row 64 4 d [g.av]))∧e8 (jo u g) (g.nodes.drop i) i=e8 (jo u g) g.nodes 0) (fun i=>g.nodes.length - i) 0 cK ⟨Nat.zero_le _,cZ,⟨_,bg⟩,⟨_,bg⟩,rfl⟩ ?_
    clear r0
    rintro i H2 n2 ⟨hi,hn2,⟨d02,r0⟩,⟨d4,r4⟩,hfst⟩
    by_cases hil:i<g.nodes.length
    ·have hp:=w5 u g (g.nodes.getD i default) (hg.nodes _ (cW default hil))
     have en:=fun d=>kb hil d
     have hfst2:=vr default hfst hil
     cases hnb:jo u g (g.nodes.getD i default) with
     |false=>
      rw[hnb] at hp
      rw[if_neg (by rw[hnb];decide)] at hfst2
      rw[hfst2] at hF
      rw[←hF]
      repeat' (first|((with_reducible refine aF ?_);conv=>whnf)|refine aG ?_|exact gE|with_reducible refine aD ?_ ?_|((with_reducible refine Ask.mk ?_);first|exact di|exact cy|(intro h;simp_all[bf.cells,bz.cells,Node.cells]<;>fail)|(simp_all[bf.cells,bz.cells,Node.cells]<;>fail))|(apply aA;(·(first|exact en _|exact cI)))|refine aK (hp) ?_|refine aH ?_|((with_reducible refine aB ?_ ?_)<;>intro hc<;>(try simp only[List.length_map,ne_eq,dZ] at hc)<;>try(exfalso;omega)))
      exact rfl
     |true=>
      rw[hnb] at hp
      rw[if_pos hnb] at hfst2
      repeat' (first|((with_reducible refine aF ?_);conv=>whnf)|refine aG ?_|exact gE|with_reducible refine aD ?_ ?_|((with_reducible refine Ask.mk ?_);first|exact di|exact cy|(intro h;simp_all[bf.cells,bz.cells,Node.cells]<;>fail)|(simp_all[bf.cells,bz.cells,Node.cells]<;>fail))|(apply aA;(·(first|exact en _|exact cI)))|refine aK (hp) ?_|refine aH ?_|((with_reducible refine aB ?_ ?_)<;>intro hc<;>(try simp only[List.length_map,ne_eq,dZ] at hc)<;>try(exfalso;omega)))
      exact⟨i+1,by omega,cK,by omega,cZ,⟨_,bg⟩,⟨_,bg⟩,hfst2.symm⟩
    ·have:i=g.nodes.length:=by omega
     subst this
     rw[vq _ _ (Nat.le_refl _)] at hfst
     rw[←hfst] at hF
     dsimp only at hF
     have hok:Whole g:=vA (u:=u) (by omega) fun m hm=>my.1 (iB.1 hfst.symm m hm)
     have hh:=zC g hg hok
     unfold oi at hh
     by_cases hb2:0≤(ji g).2
     ·rw[if_pos hb2] at hF
      rw[←hF]
      repeat' (first|((with_reducible refine aF ?_);conv=>whnf)|refine aG ?_|exact gE|with_reducible refine aD ?_ ?_|((with_reducible refine Ask.mk ?_);first|exact di|exact cy|(intro h;simp_all[bf.cells,bz.cells]<;>fail)|(simp_all[bf.cells,bz.cells]<;>fail))|(apply aA;(·exact cI))|refine aK (hh) ?_|refine aH ?_|((with_reducible refine aB ?_ ?_)<;>intro hc<;>(try simp only[List.length_map,ne_eq,dZ] at hc)<;>try(exfalso;omega)))
      exact rfl
     ·rw[if_neg hb2] at hF
      repeat' (first|((with_reducible refine aF ?_);conv=>whnf)|refine aG ?_|exact gE|with_reducible refine aD ?_ ?_|((with_reducible refine Ask.mk ?_);first|exact di|exact cy|(intro h;simp_all[bf.cells,bz.cells]<;>fail)|(simp_all[bf.cells,bz.cells]<;>fail))|(apply aA;(·exact cI))|refine aK (hh) ?_|refine aH ?_|((with_reducible refine aB ?_ ?_)<;>intro hc<;>(try simp only[List.length_map,ne_eq,dZ] at hc)<;>try(exfalso;omega)))
      exact⟨t+1,by omega,cK,by omega,by omega,⟨_,bg⟩,hF⟩
  ·have:t=u.bj.length:=by omega
   subst this
   rw[List.drop_eq_nil_of_le (Nat.le_refl _),eS] at hF
   rw[←hF]
   repeat' (first|((with_reducible refine aF ?_);conv=>whnf)|refine aG ?_|exact gE|with_reducible refine aD ?_ ?_|((with_reducible refine Ask.mk ?_);first|exact di|exact cy|(intro h;simp_all[bf.cells]<;>fail)|(simp_all[bf.cells]<;>fail))|(apply aA;(·exact cI))|refine aH ?_|((with_reducible refine aB ?_ ?_)<;>intro hc<;>(try simp only[List.length_map,ne_eq,dZ] at hc)<;>try(exfalso;omega)))
   exact rfl
end Go.Proofs.YtekfmjjmihomlaaGreat
end
