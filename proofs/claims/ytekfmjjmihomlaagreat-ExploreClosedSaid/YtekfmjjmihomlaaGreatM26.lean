import Derived.Test.YtekfmjjmihomlaaGreatM25
import Derived.Test.YtekfmjjmihomlaaGreatM23
section
/- What is so of right units, in plain data. -/
namespace Go.Proofs.YtekfmjjmihomlaaGreat
open Go Go.cQ Go.Proofs
set_option linter.unusedSimpArgs false
set_option linter.unusedVariables false
def iT (u:bf):Int×Int×Int:=if ec u=true then eW u u.bj 0 else(60,0,0)
structure mh (u:bf) (g:cB) (n:Node):Prop where
 kind:1≤n.kind∧n.kind<10
 origin:0≤n.origin∧n.origin<4096
 op:(n.kind=1→n.op<19)∧(n.kind≠1→n.op=0)
 slot:(jI n.kind=true→0≤n.slot∧n.slot<g.bh)∧(jI n.kind=false→n.slot=0)
 cH:(fw n.kind=true→0≤n.cH∧n.cH<(if n.kind=5∨n.kind=6 then u.bz.length else u.shared.length:Nat))∧(fw n.kind=false→n.cH=0)
 a:pz n.a (qx n.kind) g.bh=true
 b:pz n.b (decide (n.kind=1)&&dK n.op) g.bh=true
 next:(hX n.kind=true→0≤n.next∧n.next<g.nodes.length)∧(hX n.kind=false→n.next=0)
 o7:(n.kind=8→0≤n.o7∧n.o7<g.nodes.length)∧(n.kind≠8→n.o7=0)
theorem D6 {n most:Int} {b:Bool}:nI n b most=true↔(b=true→0≤n∧n<most)∧(b=false→n=0):=by
 unfold nI
 cases b<;>simp
theorem nH {u:bf} {g:cB} {n:Node}:jx u g n=true↔mh u g n:=by
 unfold jx
 simp only[Bool.and_eq_true,decide_eq_true_eq,D6,Bool.ite_eq_true_distrib]
 constructor
 ·rintro⟨⟨⟨⟨⟨⟨⟨⟨h1,h2,h3,h4⟩,h5⟩,h6⟩,h7⟩,h8⟩,h9⟩,h10⟩,h11⟩
  refine⟨⟨h1,h2⟩,⟨h3,h4⟩, ?_,h6, ?_,h8,h9,h10, ?_⟩
  ·by_cases h:n.kind=1
   ·rw[if_pos h] at h5;exact⟨fun _=>h5,fun e=>absurd h e⟩
   ·rw[if_neg h] at h5;exact⟨fun e=>absurd e h,fun _=>h5⟩
  ·refine⟨fun e=> ?_,h7.2⟩
   have:=h7.1 e
   split at this<;>rename_i hh
   ·rw[if_pos hh];exact this
   ·rw[if_neg hh];exact this
  ·exact⟨fun e=>h11.1 (by simp[e]),fun e=>h11.2 (by simp[e])⟩
 ·intro h
  refine⟨⟨⟨⟨⟨⟨⟨⟨h.kind.1,h.kind.2,h.origin.1,h.origin.2⟩, ?_⟩,h.slot⟩,⟨fun e=> ?_,h.cH.2⟩⟩,h.a⟩,h.b⟩,h.next⟩, ?_⟩
  ·by_cases e:n.kind=1
   ·rw[if_pos e];exact h.op.1 e
   ·rw[if_neg e];exact h.op.2 e
  ·have:=h.cH.1 e
   split at this<;>rename_i hh
   ·rw[if_pos hh];exact this
   ·rw[if_neg hh];exact this
  ·exact⟨fun e=>h.o7.1 (by simpa using e),fun e=>h.o7.2 (by simpa using e)⟩
theorem iH {α:Type} {p:α→Bool}:∀{l:List α} {i:Nat},ej p l i=none↔∀x∈l,p x=true
 |[],i=>by simp[ej]
 |x::l,i=>by
  rw[ej]
  by_cases h:p x=true
  ·rw[if_pos h,iH];simp[h]
  ·rw[if_neg h];simp[h]
structure gN (u:bf) (g:cB):Prop where
 locals:0≤g.locals∧g.locals≤64
 bh:g.locals≤g.bh∧g.bh≤4160
 len:1≤g.nodes.length∧g.nodes.length≤4096
 nodes:∀n∈g.nodes,mh u g n
 held:(jt g).2<0
theorem JW {u:bf} {g:cB} {n:Node} (h:mh u g n) {k:Int} (hk:k∈n.oh):0≤k∧k<g.nodes.length:=by
 unfold Node.oh at hk
 have hkd:=h.kind
 split at hk
 ·simp at hk
 ·rename_i h9
  have hn:=h.next.1 (by unfold hX;exact decide_eq_true (by omega))
  split at hk
  ·rename_i h8
   have he:=h.o7.1 h8
   simp only[List.mem_cons,List.not_mem_nil,or_false] at hk
   rcases hk with rfl|rfl
   ·exact hn
   ·exact he
  ·simp only[List.mem_cons,List.not_mem_nil,or_false] at hk
   subst hk;exact hn
theorem vT {u:bf} {g:cB} (hl:1≤g.nodes.length∧g.nodes.length≤4096) (h:∀n∈g.nodes,mh u g n):Whole g:=
 ⟨hl.1,hl.2,fun i hi=>by
  have hn:=h _ (cX default hi)
  exact⟨hn.kind.1,hn.kind.2,fun k hk=>by have:=JW hn hk;omega⟩⟩
theorem gN.whole {u:bf} {g:cB} (h:gN u g):Whole g:=vT h.len h.nodes
theorem gN.node {u:bf} {g:cB} (h:gN u g) {i:Nat} (hi:i<g.nodes.length):mh u g (g.nd i):=h.nodes _ (cX default hi)
theorem nV {u:bf} {g:cB}:lH u g=none↔gN u g:=by
 unfold lH
 constructor
 ·intro h
  split at h
  ·cases h
  ·rename_i h1
   cases hf:ej (jx u g) g.nodes 0 with
   |some i=>rw[hf] at h;cases h
   |none=>
    rw[hf] at h
    simp only at h
    split at h
    ·cases h
    ·rename_i h2
     exact⟨by omega,by omega,by omega,fun n hn=>nH.1 (iH.1 hf n hn),by omega⟩
 ·intro h
  have h1:=h.locals
  have h2:=h.bh
  have h3:=h.len
  have h4:=h.held
  rw[if_neg (by omega),iH.2 fun n hn=>nH.2 (h.nodes n hn)]
  simp only
  rw[if_neg (by omega)]
theorem lI {u:bf}:∀{l:List cB} {t:Nat},eW u l t=(0,0,0)↔∀g∈l,gN u g
 |[],t=>by simp[eW]
 |g::r,t=>by
  rw[eW]
  cases h:lH u g with
  |some k=>
   have:¬gN u g:=fun e=>by rw[nV.2 e] at h;cases h
   simp[this]
  |none=>
   have:=nV.1 h
   simp[lI,this]
theorem nW {u:bf}:∀{l:List cB} {t:Nat},eW u l t≠(0,0,0)→(eW u l t).1=60
 |[],t,h=>absurd rfl h
 |g::r,t,h=>by
  rw[eW] at h ⊢
  cases hg:lH u g with
  |some k=>rfl
  |none=>rw[hg] at h;exact nW h
structure ca (u:bf):Prop where
 named:ec u=true
 bj:∀g∈u.bj,gN u g
theorem mn {u:bf}:iT u=(0,0,0)↔ca u:=by
 unfold iT
 constructor
 ·intro h
  split at h
  ·rename_i hn;exact⟨hn,lI.1 h⟩
  ·cases h
 ·intro h;rw[if_pos h.named,lI.2 h.bj]
theorem vm {u:bf} (h:¬ca u):(iT u).1=60:=by
 have h2:=mt mn.1 h
 unfold iT at h2 ⊢
 split
 ·rename_i hn;rw[if_pos hn] at h2;exact nW h2
 ·rfl
theorem ca.A2 {u:bf} (h:ca u):u.shared.length≤64∧u.bz.length≤16∧u.bj.length≤8:=by
 have:=h.named
 unfold ec at this
 simp only[Bool.and_eq_true,decide_eq_true_eq] at this
 exact⟨this.1.1.1.1,this.1.1.1.2,this.1.1.2⟩
theorem ca.gr {u:bf} (h:ca u) {t:Nat} (ht:t<u.bj.length):gN u (u.gr t):=h.bj _ (cX default ht)
end Go.Proofs.YtekfmjjmihomlaaGreat
end
section
/- Is a unit right? The walk. -/
namespace Go.Proofs.YtekfmjjmihomlaaGreat
open Go Go.cQ Go.Proofs
set_option linter.unusedSimpArgs false
set_option linter.unusedVariables false
theorem wQ {α:Type} {p:α→Bool} {l:List α} (d:α) {i:Nat} (h:ej p (l.drop i) i=ej p l 0) (hi:i<l.length):ej p l 0=if p (l.getD i d)=true then ej p (l.drop (i+1)) (i+1) else some i:=by
 rw[←h,tT p l d hi]
theorem rq {u:bf} {l:List cB} {t:Nat} (h:t<l.length):eW u (l.drop t) t=match lH u (l.getD t default) with
 |some k=>(60,(t:Int),k)
 |none=>eW u (l.drop (t+1)) (t+1):=by
 rw[List.drop_eq_getElem_cons h,eW,gd h];rfl
theorem rb {u:bf} (h:ec u=false):iT u=(60,0,0):=by unfold iT;rw[if_neg (by rw[h];decide)]
abbrev JO (r:Int×Int×Int):AV:= .de [i64 r.1,i64 r.2.1,i64 r.2.2]
set_option maxHeartbeats 4000000 in
theorem oX (u:bf) (hu:u.Wf):Pure Tryz.prog 51 [u.av] (fun r=>r=JO (iT u)):=by
 refine aI DD rfl ?_
 have hnp:=w8 u hu
 cases hnm:ec u with
 |false=>
  rw[hnm] at hnp
  rw[rb hnm]
  repeat' (first|((with_reducible refine aF ?_);conv=>whnf)|refine aG ?_|exact gG|with_reducible refine aD ?_ ?_|((with_reducible refine Ask.mk ?_);first|exact dq|exact cy|(intro h;simp_all[bf.cells]<;>fail)|(simp_all[bf.cells]<;>fail))|(apply aA;(·exact cI))|refine aK (hnp) ?_|refine aH ?_|((with_reducible refine aB ?_ ?_)<;>intro hc<;>(try simp only[List.length_map,ne_eq,dc] at hc)<;>try(exfalso;omega)))
  exact rfl
 |true=>
  rw[hnm] at hnp
  have hck:iT u=eW u u.bj 0:=by unfold iT;rw[if_pos hnm]
  rw[hck]
  have hgl:u.bj.length≤8:=by
   have:=hnm
   unfold ec at this
   simp only[Bool.and_eq_true,decide_eq_true_eq] at this
   exact this.1.1.2
  repeat' (first|((with_reducible refine aF ?_);conv=>whnf)|refine aG ?_|exact gG|with_reducible refine aD ?_ ?_|((with_reducible refine Ask.mk ?_);first|exact dq|exact cy|(intro h;simp_all[bf.cells]<;>fail)|(simp_all[bf.cells]<;>fail))|(apply aA;(·exact cI))|refine aK (hnp) ?_|refine aH ?_|((with_reducible refine aB ?_ ?_)<;>intro hc<;>(try simp only[List.length_map,ne_eq,dc] at hc)<;>try(exfalso;omega)))
  simp only[List.length_map]
  refine aR (fun t:Nat=>[(1, .pt 0 1 0 0),(15,dS u.bj),(16,i64 u.bj.length),(17,i64 t)])
   (fun t H n=>t≤u.bj.length∧1≤n∧(∃d,bd H 0=some (.row 25 3 d [u.av]))∧eW u (u.bj.drop t) t=eW u u.bj 0) (fun t=>u.bj.length - t) 0 cK ⟨Nat.zero_le _,cY,⟨_,bg⟩,rfl⟩ ?_
  rintro t H n ⟨ht,hn,⟨d0,r0⟩,hF⟩
  by_cases htl:t<u.bj.length
  ·have hg:=hu.bj _ (cX default htl)
   rw[rq htl] at hF
   have eg:=fun d=>xp htl d
   generalize hG:u.bj.getD t default=g at *
   have hl:=hg.len
   unfold lH at hF
   by_cases hb:g.locals<0∨g.locals>64∨g.bh<g.locals∨g.bh>4160∨g.nodes.length<1∨g.nodes.length>4096
   ·rw[if_pos hb] at hF
    rw[←hF]
    repeat' (first|((with_reducible refine aF ?_);conv=>whnf)|refine aG ?_|exact gG|with_reducible refine aD ?_ ?_|((with_reducible refine Ask.mk ?_);first|exact dq|exact cy|(intro h;simp_all[bf.cells,cB.cells]<;>fail)|(simp_all[bf.cells,cB.cells]<;>fail))|(apply aA;(·(first|exact eg _|exact cI)))|refine aH ?_|((with_reducible refine aB ?_ ?_)<;>intro hc<;>(try simp only[List.length_map,ne_eq,dc] at hc)<;>try(exfalso;omega)))
    all_goals first|exact rfl|(exfalso;omega)
   ·rw[if_neg hb] at hF
    repeat' (first|((with_reducible refine aF ?_);conv=>whnf)|refine aG ?_|exact gG|with_reducible refine aD ?_ ?_|((with_reducible refine Ask.mk ?_);first|exact dq|exact cy|(intro h;simp_all[bf.cells,cB.cells]<;>fail)|(simp_all[bf.cells,cB.cells]<;>fail))|(apply aA;(·(first|exact eg _|exact cI)))|refine aH ?_|((with_reducible refine aB ?_ ?_)<;>intro hc<;>(try simp only[List.length_map,ne_eq,dc] at hc)<;>try(exfalso;omega)))
    simp only[List.length_map]
    clear hnp
    refine aR (fun i:Nat=>[(1, .pt 0 1 0 0),(5,i64 t),(6, .pt (n+4) 1 0 0),(15,dS u.bj),(16,i64 u.bj.length),(17,i64 t),(56,mI g.nodes),(57,i64 g.nodes.length),(58,i64 i)])
     (fun i H2 n2=>i≤g.nodes.length∧n+5≤n2∧(∃d,bd H2 0=some (.row 25 3 d [u.av]))∧(∃d,bd H2 (n+4)=some (.row 64 4 d [g.av]))∧ej (jx u g) (g.nodes.drop i) i=ej (jx u g) g.nodes 0) (fun i=>g.nodes.length - i) 0 cK ⟨Nat.zero_le _,cY,⟨_,bg⟩,⟨_,bg⟩,rfl⟩ ?_
    clear r0
    rintro i H2 n2 ⟨hi,hn2,⟨d02,r0⟩,⟨d4,r4⟩,hfst⟩
    by_cases hil:i<g.nodes.length
    ·have hp:=xG u g (g.nodes.getD i default) (hg.nodes _ (cX default hil))
     have en:=fun d=>kq hil d
     have hfst2:=wQ default hfst hil
     cases hnb:jx u g (g.nodes.getD i default) with
     |false=>
      rw[hnb] at hp
      rw[if_neg (by rw[hnb];decide)] at hfst2
      rw[hfst2] at hF
      rw[←hF]
      repeat' (first|((with_reducible refine aF ?_);conv=>whnf)|refine aG ?_|exact gG|with_reducible refine aD ?_ ?_|((with_reducible refine Ask.mk ?_);first|exact dq|exact cy|(intro h;simp_all[bf.cells,cB.cells,Node.cells]<;>fail)|(simp_all[bf.cells,cB.cells,Node.cells]<;>fail))|(apply aA;(·(first|exact en _|exact cI)))|refine aK (hp) ?_|refine aH ?_|((with_reducible refine aB ?_ ?_)<;>intro hc<;>(try simp only[List.length_map,ne_eq,dc] at hc)<;>try(exfalso;omega)))
      exact rfl
     |true=>
      rw[hnb] at hp
      rw[if_pos hnb] at hfst2
      repeat' (first|((with_reducible refine aF ?_);conv=>whnf)|refine aG ?_|exact gG|with_reducible refine aD ?_ ?_|((with_reducible refine Ask.mk ?_);first|exact dq|exact cy|(intro h;simp_all[bf.cells,cB.cells,Node.cells]<;>fail)|(simp_all[bf.cells,cB.cells,Node.cells]<;>fail))|(apply aA;(·(first|exact en _|exact cI)))|refine aK (hp) ?_|refine aH ?_|((with_reducible refine aB ?_ ?_)<;>intro hc<;>(try simp only[List.length_map,ne_eq,dc] at hc)<;>try(exfalso;omega)))
      exact⟨i+1,by omega,cK,by omega,cY,⟨_,bg⟩,⟨_,bg⟩,hfst2.symm⟩
    ·have:i=g.nodes.length:=by omega
     subst this
     rw[wP _ _ (Nat.le_refl _)] at hfst
     rw[←hfst] at hF
     dsimp only at hF
     have hok:Whole g:=vT (u:=u) (by omega) fun m hm=>nH.1 (iH.1 hfst.symm m hm)
     have hh:=zi g hg hok
     unfold ow at hh
     by_cases hb2:0≤(jt g).2
     ·rw[if_pos hb2] at hF
      rw[←hF]
      repeat' (first|((with_reducible refine aF ?_);conv=>whnf)|refine aG ?_|exact gG|with_reducible refine aD ?_ ?_|((with_reducible refine Ask.mk ?_);first|exact dq|exact cy|(intro h;simp_all[bf.cells,cB.cells]<;>fail)|(simp_all[bf.cells,cB.cells]<;>fail))|(apply aA;(·exact cI))|refine aK (hh) ?_|refine aH ?_|((with_reducible refine aB ?_ ?_)<;>intro hc<;>(try simp only[List.length_map,ne_eq,dc] at hc)<;>try(exfalso;omega)))
      exact rfl
     ·rw[if_neg hb2] at hF
      repeat' (first|((with_reducible refine aF ?_);conv=>whnf)|refine aG ?_|exact gG|with_reducible refine aD ?_ ?_|((with_reducible refine Ask.mk ?_);first|exact dq|exact cy|(intro h;simp_all[bf.cells,cB.cells]<;>fail)|(simp_all[bf.cells,cB.cells]<;>fail))|(apply aA;(·exact cI))|refine aK (hh) ?_|refine aH ?_|((with_reducible refine aB ?_ ?_)<;>intro hc<;>(try simp only[List.length_map,ne_eq,dc] at hc)<;>try(exfalso;omega)))
      exact⟨t+1,by omega,cK,by omega,by omega,⟨_,bg⟩,hF⟩
  ·have:t=u.bj.length:=by omega
   subst this
   rw[List.drop_eq_nil_of_le (Nat.le_refl _),eW] at hF
   rw[←hF]
   repeat' (first|((with_reducible refine aF ?_);conv=>whnf)|refine aG ?_|exact gG|with_reducible refine aD ?_ ?_|((with_reducible refine Ask.mk ?_);first|exact dq|exact cy|(intro h;simp_all[bf.cells]<;>fail)|(simp_all[bf.cells]<;>fail))|(apply aA;(·exact cI))|refine aH ?_|((with_reducible refine aB ?_ ?_)<;>intro hc<;>(try simp only[List.length_map,ne_eq,dc] at hc)<;>try(exfalso;omega)))
   exact rfl
end Go.Proofs.YtekfmjjmihomlaaGreat
end
