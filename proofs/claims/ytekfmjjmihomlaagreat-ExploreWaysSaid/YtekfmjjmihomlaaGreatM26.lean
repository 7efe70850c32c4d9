import Derived.Test.YtekfmjjmihomlaaGreatM25
import Derived.Test.YtekfmjjmihomlaaGreatM23
section
/- What is so of right units, in plain data. -/
namespace Go.Proofs.YtekfmjjmihomlaaGreat
open Go Go.cV Go.Proofs
set_option linter.unusedSimpArgs false
set_option linter.unusedVariables false
def fb (u:bj):Int×Int×Int:=if eQ u=true then eP u u.bh 0 else(60,0,0)
structure oP (u:bj) (g:cB) (n:Node):Prop where
 kind:1≤n.kind∧n.kind<10
 origin:0≤n.origin∧n.origin<4096
 op:(n.kind=1→n.op<19)∧(n.kind≠1→n.op=0)
 slot:(iN n.kind=true→0≤n.slot∧n.slot<g.bg)∧(iN n.kind=false→n.slot=0)
 bx:(eS n.kind=true→0≤n.bx∧n.bx<(if n.kind=5∨n.kind=6 then u.bo.length else u.shared.length:Nat))∧(eS n.kind=false→n.bx=0)
 a:mu n.a (lW n.kind) g.bg=true
 b:mu n.b (decide (n.kind=1)&&dN n.op) g.bg=true
 next:(gl n.kind=true→0≤n.next∧n.next<g.nodes.length)∧(gl n.kind=false→n.next=0)
 oV:(n.kind=8→0≤n.oV∧n.oV<g.nodes.length)∧(n.kind≠8→n.oV=0)
theorem HU {n most:Int} {b:Bool}:mh n b most=true↔(b=true→0≤n∧n<most)∧(b=false→n=0):=by
 unfold mh
 cases b<;>simp
theorem lq {u:bj} {g:cB} {n:Node}:gv u g n=true↔oP u g n:=by
 unfold gv
 simp only[Bool.and_eq_true,decide_eq_true_eq,HU,Bool.ite_eq_true_distrib]
 constructor
 ·rintro⟨⟨⟨⟨⟨⟨⟨⟨h1,h2,h3,h4⟩,h5⟩,h6⟩,h7⟩,h8⟩,h9⟩,h10⟩,h11⟩
  refine⟨⟨h1,h2⟩,⟨h3,h4⟩, ?_,h6, ?_,h8,h9,h10, ?_⟩
  ·by_cases h:n.kind=1
   ·rw[if_pos h] at h5;exact⟨fun _=>h5,fun e=>absurd h e⟩
   ·rw[if_neg h] at h5;exact⟨fun e=>absurd e h,fun _=>h5⟩
  ·refine⟨fun e=> ?_,h7.2⟩
   have:=h7.1 e
   split at this<;>rename_i hh
   ·rw[if_pos hh];exact this
   ·rw[if_neg hh];exact this
  ·exact⟨fun e=>h11.1 (by simp[e]),fun e=>h11.2 (by simp[e])⟩
 ·intro h
  refine⟨⟨⟨⟨⟨⟨⟨⟨h.kind.1,h.kind.2,h.origin.1,h.origin.2⟩, ?_⟩,h.slot⟩,⟨fun e=> ?_,h.bx.2⟩⟩,h.a⟩,h.b⟩,h.next⟩, ?_⟩
  ·by_cases e:n.kind=1
   ·rw[if_pos e];exact h.op.1 e
   ·rw[if_neg e];exact h.op.2 e
  ·have:=h.bx.1 e
   split at this<;>rename_i hh
   ·rw[if_pos hh];exact this
   ·rw[if_neg hh];exact this
  ·exact⟨fun e=>h.oV.1 (by simpa using e),fun e=>h.oV.2 (by simpa using e)⟩
theorem iK {α:Type} {p:α→Bool}:∀{l:List α} {i:Nat},fP p l i=none↔∀x∈l,p x=true
 |[],i=>by simp[fP]
 |x::l,i=>by
  rw[fP]
  by_cases h:p x=true
  ·rw[if_pos h,iK];simp[h]
  ·rw[if_neg h];simp[h]
structure iW (u:bj) (g:cB):Prop where
 locals:0≤g.locals∧g.locals≤64
 bg:g.locals≤g.bg∧g.bg≤4160
 len:1≤g.nodes.length∧g.nodes.length≤4096
 nodes:∀n∈g.nodes,oP u g n
 held:(gV g).2<0
theorem NG {u:bj} {g:cB} {n:Node} (h:oP u g n) {k:Int} (hk:k∈n.gC):0≤k∧k<g.nodes.length:=by
 unfold Node.gC at hk
 have hkd:=h.kind
 split at hk
 ·simp at hk
 ·rename_i h9
  have hn:=h.next.1 (by unfold gl;exact decide_eq_true (by omega))
  split at hk
  ·rename_i h8
   have he:=h.oV.1 h8
   simp only[List.mem_cons,List.not_mem_nil,or_false] at hk
   rcases hk with rfl|rfl
   ·exact hn
   ·exact he
  ·simp only[List.mem_cons,List.not_mem_nil,or_false] at hk
   subst hk;exact hn
theorem rR {u:bj} {g:cB} (hl:1≤g.nodes.length∧g.nodes.length≤4096) (h:∀n∈g.nodes,oP u g n):Whole g:=
 ⟨hl.1,hl.2,fun i hi=>by
  have hn:=h _ (cX default hi)
  exact⟨hn.kind.1,hn.kind.2,fun k hk=>by have:=NG hn hk;omega⟩⟩
theorem iW.whole {u:bj} {g:cB} (h:iW u g):Whole g:=rR h.len h.nodes
theorem iW.node {u:bj} {g:cB} (h:iW u g) {i:Nat} (hi:i<g.nodes.length):oP u g (g.nd i):=h.nodes _ (cX default hi)
theorem pA {u:bj} {g:cB}:lH u g=none↔iW u g:=by
 unfold lH
 constructor
 ·intro h
  split at h
  ·cases h
  ·rename_i h1
   cases hf:fP (gv u g) g.nodes 0 with
   |some i=>rw[hf] at h;cases h
   |none=>
    rw[hf] at h
    simp only at h
    split at h
    ·cases h
    ·rename_i h2
     exact⟨by omega,by omega,by omega,fun n hn=>lq.1 (iK.1 hf n hn),by omega⟩
 ·intro h
  have h1:=h.locals
  have h2:=h.bg
  have h3:=h.len
  have h4:=h.held
  rw[if_neg (by omega),iK.2 fun n hn=>lq.2 (h.nodes n hn)]
  simp only
  rw[if_neg (by omega)]
theorem mZ {u:bj}:∀{l:List cB} {t:Nat},eP u l t=(0,0,0)↔∀g∈l,iW u g
 |[],t=>by simp[eP]
 |g::r,t=>by
  rw[eP]
  cases h:lH u g with
  |some k=>
   have:¬iW u g:=fun e=>by rw[pA.2 e] at h;cases h
   simp[this]
  |none=>
   have:=pA.1 h
   simp[mZ,this]
theorem pB {u:bj}:∀{l:List cB} {t:Nat},eP u l t≠(0,0,0)→(eP u l t).1=60
 |[],t,h=>absurd rfl h
 |g::r,t,h=>by
  rw[eP] at h ⊢
  cases hg:lH u g with
  |some k=>rfl
  |none=>rw[hg] at h;exact pB h
structure ct (u:bj):Prop where
 named:eQ u=true
 bh:∀g∈u.bh,iW u g
theorem l6 {u:bj}:fb u=(0,0,0)↔ct u:=by
 unfold fb
 constructor
 ·intro h
  split at h
  ·rename_i hn;exact⟨hn,mZ.1 h⟩
  ·cases h
 ·intro h;rw[if_pos h.named,mZ.2 h.bh]
theorem qJ {u:bj} (h:¬ct u):(fb u).1=60:=by
 have h2:=mt l6.1 h
 unfold fb at h2 ⊢
 split
 ·rename_i hn;rw[if_pos hn] at h2;exact pB h2
 ·rfl
theorem ct.tv {u:bj} (h:ct u):u.shared.length≤64∧u.bo.length≤16∧u.bh.length≤8:=by
 have:=h.named
 unfold eQ at this
 simp only[Bool.and_eq_true,decide_eq_true_eq] at this
 exact⟨this.1.1.1.1,this.1.1.1.2,this.1.1.2⟩
theorem ct.gr {u:bj} (h:ct u) {t:Nat} (ht:t<u.bh.length):iW u (u.gr t):=h.bh _ (cX default ht)
end Go.Proofs.YtekfmjjmihomlaaGreat
end
section
/- Is a unit right? The walk. -/
namespace Go.Proofs.YtekfmjjmihomlaaGreat
open Go Go.cV Go.Proofs
set_option linter.unusedSimpArgs false
set_option linter.unusedVariables false
theorem qW {α:Type} {p:α→Bool} {l:List α} (d:α) {i:Nat} (h:fP p (l.drop i) i=fP p l 0) (hi:i<l.length):fP p l 0=if p (l.getD i d)=true then fP p (l.drop (i+1)) (i+1) else some i:=by
 rw[←h,vS p l d hi]
theorem na {u:bj} {l:List cB} {t:Nat} (h:t<l.length):eP u (l.drop t) t=match lH u (l.getD t default) with
 |some k=>(60,(t:Int),k)
 |none=>eP u (l.drop (t+1)) (t+1):=by
 rw[List.drop_eq_getElem_cons h,eP,gd h];rfl
theorem kI {u:bj} (h:eQ u=false):fb u=(60,0,0):=by unfold fb;rw[if_neg (by rw[h];decide)]
abbrev mQ (r:Int×Int×Int):AV:= .dH [i64 r.1,i64 r.2.1,i64 r.2.2]
set_option maxHeartbeats 4000000 in
theorem qK (u:bj) (hu:u.Wf):Pure Tryz.prog 51 [u.av] (fun r=>r=mQ (fb u)):=by
 refine aI GJ rfl ?_
 have hnp:=yh u hu
 cases hnm:eQ u with
 |false=>
  rw[hnm] at hnp
  rw[kI hnm]
  repeat' (first|((with_reducible refine aF ?_);conv=>whnf)|refine aG ?_|exact eO|with_reducible refine aD ?_ ?_|((with_reducible refine Ask.mk ?_);first|exact cw|exact cT|(intro h;simp_all[bj.cells]<;>fail)|(simp_all[bj.cells]<;>fail))|(apply aA;(·exact cA))|refine aK (hnp) ?_|refine aH ?_|((with_reducible refine aB ?_ ?_)<;>intro hc<;>(try simp only[List.length_map,ne_eq,dC] at hc)<;>try(exfalso;omega)))
  exact rfl
 |true=>
  rw[hnm] at hnp
  have hck:fb u=eP u u.bh 0:=by unfold fb;rw[if_pos hnm]
  rw[hck]
  have hgl:u.bh.length≤8:=by
   have:=hnm
   unfold eQ at this
   simp only[Bool.and_eq_true,decide_eq_true_eq] at this
   exact this.1.1.2
  repeat' (first|((with_reducible refine aF ?_);conv=>whnf)|refine aG ?_|exact eO|with_reducible refine aD ?_ ?_|((with_reducible refine Ask.mk ?_);first|exact cw|exact cT|(intro h;simp_all[bj.cells]<;>fail)|(simp_all[bj.cells]<;>fail))|(apply aA;(·exact cA))|refine aK (hnp) ?_|refine aH ?_|((with_reducible refine aB ?_ ?_)<;>intro hc<;>(try simp only[List.length_map,ne_eq,dC] at hc)<;>try(exfalso;omega)))
  simp only[List.length_map]
  refine aP (fun t:Nat=>[(1, .pt 0 1 0 0),(15,cL u.bh),(16,i64 u.bh.length),(17,i64 t)])
   (fun t H n=>t≤u.bh.length∧1≤n∧(∃d,bd H 0=some (.row 25 3 d [u.av]))∧eP u (u.bh.drop t) t=eP u u.bh 0) (fun t=>u.bh.length - t) 0 cC ⟨Nat.zero_le _,cU,⟨_,bf⟩,rfl⟩ ?_
  rintro t H n ⟨ht,hn,⟨d0,r0⟩,hF⟩
  by_cases htl:t<u.bh.length
  ·have hg:=hu.bh _ (cX default htl)
   rw[na htl] at hF
   have eg:=fun d=>oz htl d
   generalize hG:u.bh.getD t default=g at *
   have hl:=hg.len
   unfold lH at hF
   by_cases hb:g.locals<0∨g.locals>64∨g.bg<g.locals∨g.bg>4160∨g.nodes.length<1∨g.nodes.length>4096
   ·rw[if_pos hb] at hF
    rw[←hF]
    repeat' (first|((with_reducible refine aF ?_);conv=>whnf)|refine aG ?_|exact eO|with_reducible refine aD ?_ ?_|((with_reducible refine Ask.mk ?_);first|exact cw|exact cT|(intro h;simp_all[bj.cells,cB.cells]<;>fail)|(simp_all[bj.cells,cB.cells]<;>fail))|(apply aA;(·(first|exact eg _|exact cA)))|refine aH ?_|((with_reducible refine aB ?_ ?_)<;>intro hc<;>(try simp only[List.length_map,ne_eq,dC] at hc)<;>try(exfalso;omega)))
    all_goals first|exact rfl|(exfalso;omega)
   ·rw[if_neg hb] at hF
    repeat' (first|((with_reducible refine aF ?_);conv=>whnf)|refine aG ?_|exact eO|with_reducible refine aD ?_ ?_|((with_reducible refine Ask.mk ?_);first|exact cw|exact cT|(intro h;simp_all[bj.cells,cB.cells]<;>fail)|(simp_all[bj.cells,cB.cells]<;>fail))|(apply aA;(·(first|exact eg _|exact cA)))|refine aH ?_|((with_reducible refine aB ?_ ?_)<;>intro hc<;>(try simp only[List.length_map,ne_eq,dC] at hc)<;>try(exfalso;omega)))
    simp only[List.length_map]
    clear hnp
    refine aP (fun i:Nat=>[(1, .pt 0 1 0 0),(5,i64 t),(6, .pt (n+4) 1 0 0),(15,cL u.bh),(16,i64 u.bh.length),(17,i64 t),(56,np g.nodes),(57,i64 g.nodes.length),(58,i64 i)])
     (fun i H2 n2=>i≤g.nodes.length∧n+5≤n2∧(∃d,bd H2 0=some (.row 25 3 d [u.av]))∧(∃d,bd H2 (n+4)=some (.row 64 4 d [g.av]))∧fP (gv u g) (g.nodes.drop i) i=fP (gv u g) g.nodes 0) (fun i=>g.nodes.length - i) 0 cC ⟨Nat.zero_le _,cU,⟨_,bf⟩,⟨_,bf⟩,rfl⟩ ?_
    clear r0
    rintro i H2 n2 ⟨hi,hn2,⟨d02,r0⟩,⟨d4,r4⟩,hfst⟩
    by_cases hil:i<g.nodes.length
    ·have hp:=zM u g (g.nodes.getD i default) (hg.nodes _ (cX default hil))
     have en:=fun d=>gb hil d
     have hfst2:=qW default hfst hil
     cases hnb:gv u g (g.nodes.getD i default) with
     |false=>
      rw[hnb] at hp
      rw[if_neg (by rw[hnb];decide)] at hfst2
      rw[hfst2] at hF
      rw[←hF]
      repeat' (first|((with_reducible refine aF ?_);conv=>whnf)|refine aG ?_|exact eO|with_reducible refine aD ?_ ?_|((with_reducible refine Ask.mk ?_);first|exact cw|exact cT|(intro h;simp_all[bj.cells,cB.cells,Node.cells]<;>fail)|(simp_all[bj.cells,cB.cells,Node.cells]<;>fail))|(apply aA;(·(first|exact en _|exact cA)))|refine aK (hp) ?_|refine aH ?_|((with_reducible refine aB ?_ ?_)<;>intro hc<;>(try simp only[List.length_map,ne_eq,dC] at hc)<;>try(exfalso;omega)))
      exact rfl
     |true=>
      rw[hnb] at hp
      rw[if_pos hnb] at hfst2
      repeat' (first|((with_reducible refine aF ?_);conv=>whnf)|refine aG ?_|exact eO|with_reducible refine aD ?_ ?_|((with_reducible refine Ask.mk ?_);first|exact cw|exact cT|(intro h;simp_all[bj.cells,cB.cells,Node.cells]<;>fail)|(simp_all[bj.cells,cB.cells,Node.cells]<;>fail))|(apply aA;(·(first|exact en _|exact cA)))|refine aK (hp) ?_|refine aH ?_|((with_reducible refine aB ?_ ?_)<;>intro hc<;>(try simp only[List.length_map,ne_eq,dC] at hc)<;>try(exfalso;omega)))
      exact⟨i+1,by omega,cC,by omega,cU,⟨_,bf⟩,⟨_,bf⟩,hfst2.symm⟩
    ·have:i=g.nodes.length:=by omega
     subst this
     rw[qV _ _ (Nat.le_refl _)] at hfst
     rw[←hfst] at hF
     dsimp only at hF
     have hok:Whole g:=rR (u:=u) (by omega) fun m hm=>lq.1 (iK.1 hfst.symm m hm)
     have hh:=CI g hg hok
     unfold jb at hh
     by_cases hb2:0≤(gV g).2
     ·rw[if_pos hb2] at hF
      rw[←hF]
      repeat' (first|((with_reducible refine aF ?_);conv=>whnf)|refine aG ?_|exact eO|with_reducible refine aD ?_ ?_|((with_reducible refine Ask.mk ?_);first|exact cw|exact cT|(intro h;simp_all[bj.cells,cB.cells]<;>fail)|(simp_all[bj.cells,cB.cells]<;>fail))|(apply aA;(·exact cA))|refine aK (hh) ?_|refine aH ?_|((with_reducible refine aB ?_ ?_)<;>intro hc<;>(try simp only[List.length_map,ne_eq,dC] at hc)<;>try(exfalso;omega)))
      exact rfl
     ·rw[if_neg hb2] at hF
      repeat' (first|((with_reducible refine aF ?_);conv=>whnf)|refine aG ?_|exact eO|with_reducible refine aD ?_ ?_|((with_reducible refine Ask.mk ?_);first|exact cw|exact cT|(intro h;simp_all[bj.cells,cB.cells]<;>fail)|(simp_all[bj.cells,cB.cells]<;>fail))|(apply aA;(·exact cA))|refine aK (hh) ?_|refine aH ?_|((with_reducible refine aB ?_ ?_)<;>intro hc<;>(try simp only[List.length_map,ne_eq,dC] at hc)<;>try(exfalso;omega)))
      exact⟨t+1,by omega,cC,by omega,by omega,⟨_,bf⟩,hF⟩
  ·have:t=u.bh.length:=by omega
   subst this
   rw[List.drop_eq_nil_of_le (Nat.le_refl _),eP] at hF
   rw[←hF]
   repeat' (first|((with_reducible refine aF ?_);conv=>whnf)|refine aG ?_|exact eO|with_reducible refine aD ?_ ?_|((with_reducible refine Ask.mk ?_);first|exact cw|exact cT|(intro h;simp_all[bj.cells]<;>fail)|(simp_all[bj.cells]<;>fail))|(apply aA;(·exact cA))|refine aH ?_|((with_reducible refine aB ?_ ?_)<;>intro hc<;>(try simp only[List.length_map,ne_eq,dC] at hc)<;>try(exfalso;omega)))
   exact rfl
end Go.Proofs.YtekfmjjmihomlaaGreat
end
