import Derived.Test.YtekfmjjmihomlaaGreatM25
import Derived.Test.YtekfmjjmihomlaaGreatM23
section
/- What is so of right units, in plain data. -/
namespace Go.Proofs.YtekfmjjmihomlaaGreat
open Go Go.cO Go.Proofs
set_option linter.unusedSimpArgs false
set_option linter.unusedVariables false
def iI (u:bh):Int×Int×Int:=if eU u=true then eP u u.bj 0 else(60,0,0)
structure mL (u:bh) (g:cB) (n:Node):Prop where
 kind:1≤n.kind∧n.kind<10
 origin:0≤n.origin∧n.origin<4096
 op:(n.kind=1→n.op<19)∧(n.kind≠1→n.op=0)
 slot:(iw n.kind=true→0≤n.slot∧n.slot<g.bg)∧(iw n.kind=false→n.slot=0)
 cG:(fi n.kind=true→0≤n.cG∧n.cG<(if n.kind=5∨n.kind=6 then u.bx.length else u.shared.length:Nat))∧(fi n.kind=false→n.cG=0)
 a:pU n.a (qW n.kind) g.bg=true
 b:pU n.b (decide (n.kind=1)&&dH n.op) g.bg=true
 next:(gn n.kind=true→0≤n.next∧n.next<g.nodes.length)∧(gn n.kind=false→n.next=0)
 oJ:(n.kind=8→0≤n.oJ∧n.oJ<g.nodes.length)∧(n.kind≠8→n.oJ=0)
theorem CS {n most:Int} {b:Bool}:mf n b most=true↔(b=true→0≤n∧n<most)∧(b=false→n=0):=by
 unfold mf
 cases b<;>simp
theorem mc {u:bh} {g:cB} {n:Node}:ji u g n=true↔mL u g n:=by
 unfold ji
 simp only[Bool.and_eq_true,decide_eq_true_eq,CS,Bool.ite_eq_true_distrib]
 constructor
 ·rintro⟨⟨⟨⟨⟨⟨⟨⟨h1,h2,h3,h4⟩,h5⟩,h6⟩,h7⟩,h8⟩,h9⟩,h10⟩,h11⟩
  refine⟨⟨h1,h2⟩,⟨h3,h4⟩, ?_,h6, ?_,h8,h9,h10, ?_⟩
  ·by_cases h:n.kind=1
   ·rw[if_pos h] at h5;exact⟨fun _=>h5,fun e=>absurd h e⟩
   ·rw[if_neg h] at h5;exact⟨fun e=>absurd e h,fun _=>h5⟩
  ·refine⟨fun e=> ?_,h7.2⟩
   have:=h7.1 e
   split at this<;>rename_i hh
   ·rw[if_pos hh];exact this
   ·rw[if_neg hh];exact this
  ·exact⟨fun e=>h11.1 (by simp[e]),fun e=>h11.2 (by simp[e])⟩
 ·intro h
  refine⟨⟨⟨⟨⟨⟨⟨⟨h.kind.1,h.kind.2,h.origin.1,h.origin.2⟩, ?_⟩,h.slot⟩,⟨fun e=> ?_,h.cG.2⟩⟩,h.a⟩,h.b⟩,h.next⟩, ?_⟩
  ·by_cases e:n.kind=1
   ·rw[if_pos e];exact h.op.1 e
   ·rw[if_neg e];exact h.op.2 e
  ·have:=h.cG.1 e
   split at this<;>rename_i hh
   ·rw[if_pos hh];exact this
   ·rw[if_neg hh];exact this
  ·exact⟨fun e=>h.oJ.1 (by simpa using e),fun e=>h.oJ.2 (by simpa using e)⟩
theorem gz {α:Type} {p:α→Bool}:∀{l:List α} {i:Nat},eZ p l i=none↔∀x∈l,p x=true
 |[],i=>by simp[eZ]
 |x::l,i=>by
  rw[eZ]
  by_cases h:p x=true
  ·rw[if_pos h,gz];simp[h]
  ·rw[if_neg h];simp[h]
structure gF (u:bh) (g:cB):Prop where
 locals:0≤g.locals∧g.locals≤64
 bg:g.locals≤g.bg∧g.bg≤4160
 len:1≤g.nodes.length∧g.nodes.length≤4096
 nodes:∀n∈g.nodes,mL u g n
 held:(jd g).2<0
theorem IG {u:bh} {g:cB} {n:Node} (h:mL u g n) {k:Int} (hk:k∈n.oR):0≤k∧k<g.nodes.length:=by
 unfold Node.oR at hk
 have hkd:=h.kind
 split at hk
 ·simp at hk
 ·rename_i h9
  have hn:=h.next.1 (by unfold gn;exact decide_eq_true (by omega))
  split at hk
  ·rename_i h8
   have he:=h.oJ.1 h8
   simp only[List.mem_cons,List.not_mem_nil,or_false] at hk
   rcases hk with rfl|rfl
   ·exact hn
   ·exact he
  ·simp only[List.mem_cons,List.not_mem_nil,or_false] at hk
   subst hk;exact hn
theorem ud {u:bh} {g:cB} (hl:1≤g.nodes.length∧g.nodes.length≤4096) (h:∀n∈g.nodes,mL u g n):Whole g:=
 ⟨hl.1,hl.2,fun i hi=>by
  have hn:=h _ (cY default hi)
  exact⟨hn.kind.1,hn.kind.2,fun k hk=>by have:=IG hn hk;omega⟩⟩
theorem gF.whole {u:bh} {g:cB} (h:gF u g):Whole g:=ud h.len h.nodes
theorem gF.node {u:bh} {g:cB} (h:gF u g) {i:Nat} (hi:i<g.nodes.length):mL u g (g.nd i):=h.nodes _ (cY default hi)
theorem nB {u:bh} {g:cB}:ky u g=none↔gF u g:=by
 unfold ky
 constructor
 ·intro h
  split at h
  ·cases h
  ·rename_i h1
   cases hf:eZ (ji u g) g.nodes 0 with
   |some i=>rw[hf] at h;cases h
   |none=>
    rw[hf] at h
    simp only at h
    split at h
    ·cases h
    ·rename_i h2
     exact⟨by omega,by omega,by omega,fun n hn=>mc.1 (gz.1 hf n hn),by omega⟩
 ·intro h
  have h1:=h.locals
  have h2:=h.bg
  have h3:=h.len
  have h4:=h.held
  rw[if_neg (by omega),gz.2 fun n hn=>mc.2 (h.nodes n hn)]
  simp only
  rw[if_neg (by omega)]
theorem kz {u:bh}:∀{l:List cB} {t:Nat},eP u l t=(0,0,0)↔∀g∈l,gF u g
 |[],t=>by simp[eP]
 |g::r,t=>by
  rw[eP]
  cases h:ky u g with
  |some k=>
   have:¬gF u g:=fun e=>by rw[nB.2 e] at h;cases h
   simp[this]
  |none=>
   have:=nB.1 h
   simp[kz,this]
theorem nC {u:bh}:∀{l:List cB} {t:Nat},eP u l t≠(0,0,0)→(eP u l t).1=60
 |[],t,h=>absurd rfl h
 |g::r,t,h=>by
  rw[eP] at h ⊢
  cases hg:ky u g with
  |some k=>rfl
  |none=>rw[hg] at h;exact nC h
structure cr (u:bh):Prop where
 named:eU u=true
 bj:∀g∈u.bj,gF u g
theorem mQ {u:bh}:iI u=(0,0,0)↔cr u:=by
 unfold iI
 constructor
 ·intro h
  split at h
  ·rename_i hn;exact⟨hn,kz.1 h⟩
  ·cases h
 ·intro h;rw[if_pos h.named,kz.2 h.bj]
theorem uz {u:bh} (h:¬cr u):(iI u).1=60:=by
 have h2:=mt mQ.1 h
 unfold iI at h2 ⊢
 split
 ·rename_i hn;rw[if_pos hn] at h2;exact nC h2
 ·rfl
theorem cr.AR {u:bh} (h:cr u):u.shared.length≤64∧u.bx.length≤16∧u.bj.length≤8:=by
 have:=h.named
 unfold eU at this
 simp only[Bool.and_eq_true,decide_eq_true_eq] at this
 exact⟨this.1.1.1.1,this.1.1.1.2,this.1.1.2⟩
theorem cr.gr {u:bh} (h:cr u) {t:Nat} (ht:t<u.bj.length):gF u (u.gr t):=h.bj _ (cY default ht)
end Go.Proofs.YtekfmjjmihomlaaGreat
end
section
/- Is a unit right? The walk. -/
namespace Go.Proofs.YtekfmjjmihomlaaGreat
open Go Go.cO Go.Proofs
set_option linter.unusedSimpArgs false
set_option linter.unusedVariables false
theorem vX {α:Type} {p:α→Bool} {l:List α} (d:α) {i:Nat} (h:eZ p (l.drop i) i=eZ p l 0) (hi:i<l.length):eZ p l 0=if p (l.getD i d)=true then eZ p (l.drop (i+1)) (i+1) else some i:=by
 rw[←h,sf p l d hi]
theorem rD {u:bh} {l:List cB} {t:Nat} (h:t<l.length):eP u (l.drop t) t=match ky u (l.getD t default) with
 |some k=>(60,(t:Int),k)
 |none=>eP u (l.drop (t+1)) (t+1):=by
 rw[List.drop_eq_getElem_cons h,eP,gd h];rfl
theorem qq {u:bh} (h:eU u=false):iI u=(60,0,0):=by unfold iI;rw[if_neg (by rw[h];decide)]
abbrev H9 (r:Int×Int×Int):AV:= .dY [i64 r.1,i64 r.2.1,i64 r.2.2]
set_option maxHeartbeats 4000000 in
theorem oD (u:bh) (hu:u.Wf):Pure Tryz.prog 51 [u.av] (fun r=>r=H9 (iI u)):=by
 refine aI BZ rfl ?_
 have hnp:=vo u hu
 cases hnm:eU u with
 |false=>
  rw[hnm] at hnp
  rw[qq hnm]
  repeat' (first|((with_reducible refine aF ?_);conv=>whnf)|refine aG ?_|exact gA|with_reducible refine aD ?_ ?_|((with_reducible refine Ask.mk ?_);first|exact de|exact cx|(intro h;simp_all[bh.cells]<;>fail)|(simp_all[bh.cells]<;>fail))|(apply aA;(·exact cH))|refine aK (hnp) ?_|refine aH ?_|((with_reducible refine aB ?_ ?_)<;>intro hc<;>(try simp only[List.length_map,ne_eq,dX] at hc)<;>try(exfalso;omega)))
  exact rfl
 |true=>
  rw[hnm] at hnp
  have hck:iI u=eP u u.bj 0:=by unfold iI;rw[if_pos hnm]
  rw[hck]
  have hgl:u.bj.length≤8:=by
   have:=hnm
   unfold eU at this
   simp only[Bool.and_eq_true,decide_eq_true_eq] at this
   exact this.1.1.2
  repeat' (first|((with_reducible refine aF ?_);conv=>whnf)|refine aG ?_|exact gA|with_reducible refine aD ?_ ?_|((with_reducible refine Ask.mk ?_);first|exact de|exact cx|(intro h;simp_all[bh.cells]<;>fail)|(simp_all[bh.cells]<;>fail))|(apply aA;(·exact cH))|refine aK (hnp) ?_|refine aH ?_|((with_reducible refine aB ?_ ?_)<;>intro hc<;>(try simp only[List.length_map,ne_eq,dX] at hc)<;>try(exfalso;omega)))
  simp only[List.length_map]
  refine aR (fun t:Nat=>[(1, .pt 0 1 0 0),(15,dU u.bj),(16,i64 u.bj.length),(17,i64 t)])
   (fun t H n=>t≤u.bj.length∧1≤n∧(∃d,bd H 0=some (.row 25 3 d [u.av]))∧eP u (u.bj.drop t) t=eP u u.bj 0) (fun t=>u.bj.length - t) 0 cM ⟨Nat.zero_le _,cX,⟨_,bf⟩,rfl⟩ ?_
  rintro t H n ⟨ht,hn,⟨d0,r0⟩,hF⟩
  by_cases htl:t<u.bj.length
  ·have hg:=hu.bj _ (cY default htl)
   rw[rD htl] at hF
   have eg:=fun d=>wy htl d
   generalize hG:u.bj.getD t default=g at *
   have hl:=hg.len
   unfold ky at hF
   by_cases hb:g.locals<0∨g.locals>64∨g.bg<g.locals∨g.bg>4160∨g.nodes.length<1∨g.nodes.length>4096
   ·rw[if_pos hb] at hF
    rw[←hF]
    repeat' (first|((with_reducible refine aF ?_);conv=>whnf)|refine aG ?_|exact gA|with_reducible refine aD ?_ ?_|((with_reducible refine Ask.mk ?_);first|exact de|exact cx|(intro h;simp_all[bh.cells,cB.cells]<;>fail)|(simp_all[bh.cells,cB.cells]<;>fail))|(apply aA;(·(first|exact eg _|exact cH)))|refine aH ?_|((with_reducible refine aB ?_ ?_)<;>intro hc<;>(try simp only[List.length_map,ne_eq,dX] at hc)<;>try(exfalso;omega)))
    all_goals first|exact rfl|(exfalso;omega)
   ·rw[if_neg hb] at hF
    repeat' (first|((with_reducible refine aF ?_);conv=>whnf)|refine aG ?_|exact gA|with_reducible refine aD ?_ ?_|((with_reducible refine Ask.mk ?_);first|exact de|exact cx|(intro h;simp_all[bh.cells,cB.cells]<;>fail)|(simp_all[bh.cells,cB.cells]<;>fail))|(apply aA;(·(first|exact eg _|exact cH)))|refine aH ?_|((with_reducible refine aB ?_ ?_)<;>intro hc<;>(try simp only[List.length_map,ne_eq,dX] at hc)<;>try(exfalso;omega)))
    simp only[List.length_map]
    clear hnp
    refine aR (fun i:Nat=>[(1, .pt 0 1 0 0),(5,i64 t),(6, .pt (n+4) 1 0 0),(15,dU u.bj),(16,i64 u.bj.length),(17,i64 t),(56,nX g.nodes),(57,i64 g.nodes.length),(58,i64 i)])
     (fun i H2 n2=>i≤g.nodes.length∧n+5≤n2∧(∃d,bd H2 0=some (.row 25 3 d [u.av]))∧(∃d,bd H2 (n+4)=some (.row 64 4 d [g.av]))∧eZ (ji u g) (g.nodes.drop i) i=eZ (ji u g) g.nodes 0) (fun i=>g.nodes.length - i) 0 cM ⟨Nat.zero_le _,cX,⟨_,bf⟩,⟨_,bf⟩,rfl⟩ ?_
    clear r0
    rintro i H2 n2 ⟨hi,hn2,⟨d02,r0⟩,⟨d4,r4⟩,hfst⟩
    by_cases hil:i<g.nodes.length
    ·have hp:=wJ u g (g.nodes.getD i default) (hg.nodes _ (cY default hil))
     have en:=fun d=>k7 hil d
     have hfst2:=vX default hfst hil
     cases hnb:ji u g (g.nodes.getD i default) with
     |false=>
      rw[hnb] at hp
      rw[if_neg (by rw[hnb];decide)] at hfst2
      rw[hfst2] at hF
      rw[←hF]
      repeat' (first|((with_reducible refine aF ?_);conv=>whnf)|refine aG ?_|exact gA|with_reducible refine aD ?_ ?_|((with_reducible refine Ask.mk ?_);first|exact de|exact cx|(intro h;simp_all[bh.cells,cB.cells,Node.cells]<;>fail)|(simp_all[bh.cells,cB.cells,Node.cells]<;>fail))|(apply aA;(·(first|exact en _|exact cH)))|refine aK (hp) ?_|refine aH ?_|((with_reducible refine aB ?_ ?_)<;>intro hc<;>(try simp only[List.length_map,ne_eq,dX] at hc)<;>try(exfalso;omega)))
      exact rfl
     |true=>
      rw[hnb] at hp
      rw[if_pos hnb] at hfst2
      repeat' (first|((with_reducible refine aF ?_);conv=>whnf)|refine aG ?_|exact gA|with_reducible refine aD ?_ ?_|((with_reducible refine Ask.mk ?_);first|exact de|exact cx|(intro h;simp_all[bh.cells,cB.cells,Node.cells]<;>fail)|(simp_all[bh.cells,cB.cells,Node.cells]<;>fail))|(apply aA;(·(first|exact en _|exact cH)))|refine aK (hp) ?_|refine aH ?_|((with_reducible refine aB ?_ ?_)<;>intro hc<;>(try simp only[List.length_map,ne_eq,dX] at hc)<;>try(exfalso;omega)))
      exact⟨i+1,by omega,cM,by omega,cX,⟨_,bf⟩,⟨_,bf⟩,hfst2.symm⟩
    ·have:i=g.nodes.length:=by omega
     subst this
     rw[vW _ _ (Nat.le_refl _)] at hfst
     rw[←hfst] at hF
     dsimp only at hF
     have hok:Whole g:=ud (u:=u) (by omega) fun m hm=>mc.1 (gz.1 hfst.symm m hm)
     have hh:=yf g hg hok
     unfold oY at hh
     by_cases hb2:0≤(jd g).2
     ·rw[if_pos hb2] at hF
      rw[←hF]
      repeat' (first|((with_reducible refine aF ?_);conv=>whnf)|refine aG ?_|exact gA|with_reducible refine aD ?_ ?_|((with_reducible refine Ask.mk ?_);first|exact de|exact cx|(intro h;simp_all[bh.cells,cB.cells]<;>fail)|(simp_all[bh.cells,cB.cells]<;>fail))|(apply aA;(·exact cH))|refine aK (hh) ?_|refine aH ?_|((with_reducible refine aB ?_ ?_)<;>intro hc<;>(try simp only[List.length_map,ne_eq,dX] at hc)<;>try(exfalso;omega)))
      exact rfl
     ·rw[if_neg hb2] at hF
      repeat' (first|((with_reducible refine aF ?_);conv=>whnf)|refine aG ?_|exact gA|with_reducible refine aD ?_ ?_|((with_reducible refine Ask.mk ?_);first|exact de|exact cx|(intro h;simp_all[bh.cells,cB.cells]<;>fail)|(simp_all[bh.cells,cB.cells]<;>fail))|(apply aA;(·exact cH))|refine aK (hh) ?_|refine aH ?_|((with_reducible refine aB ?_ ?_)<;>intro hc<;>(try simp only[List.length_map,ne_eq,dX] at hc)<;>try(exfalso;omega)))
      exact⟨t+1,by omega,cM,by omega,by omega,⟨_,bf⟩,hF⟩
  ·have:t=u.bj.length:=by omega
   subst this
   rw[List.drop_eq_nil_of_le (Nat.le_refl _),eP] at hF
   rw[←hF]
   repeat' (first|((with_reducible refine aF ?_);conv=>whnf)|refine aG ?_|exact gA|with_reducible refine aD ?_ ?_|((with_reducible refine Ask.mk ?_);first|exact de|exact cx|(intro h;simp_all[bh.cells]<;>fail)|(simp_all[bh.cells]<;>fail))|(apply aA;(·exact cH))|refine aH ?_|((with_reducible refine aB ?_ ?_)<;>intro hc<;>(try simp only[List.length_map,ne_eq,dX] at hc)<;>try(exfalso;omega)))
   exact rfl
end Go.Proofs.YtekfmjjmihomlaaGreat
end
