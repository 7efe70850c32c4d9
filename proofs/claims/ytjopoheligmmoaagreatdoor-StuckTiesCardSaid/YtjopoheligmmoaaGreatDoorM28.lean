import Derived.Test.YtjopoheligmmoaaGreatDoorM27
import Derived.Test.YtjopoheligmmoaaGreatDoorM24
section
/- What is so of right units, in plain data. -/
namespace Go.Proofs.YtjopoheligmmoaaGreatDoor
open Go Go.cY Go.Proofs
set_option linter.unusedSimpArgs false
set_option linter.unusedVariables false
def iP (u:bw):Int×Int×Int:=if fW u=true then fS u u.bu 0 else(60,0,0)
structure nR (u:bw) (g:cD) (n:Node):Prop where
 kind:1≤n.kind∧n.kind<10
 origin:0≤n.origin∧n.origin<4096
 op:(n.kind=1→n.op<19)∧(n.kind≠1→n.op=0)
 slot:(k7 n.kind=true→0≤n.slot∧n.slot<g.bz)∧(k7 n.kind=false→n.slot=0)
 cM:(fw n.kind=true→0≤n.cM∧n.cM<(if n.kind=5∨n.kind=6 then u.cE.length else u.shared.length:Nat))∧(fw n.kind=false→n.cM=0)
 a:tg n.a (vH n.kind) g.bz=true
 b:tg n.b (decide (n.kind=1)&&eB n.op) g.bz=true
 next:(jV n.kind=true→0≤n.next∧n.next<g.nodes.length)∧(jV n.kind=false→n.next=0)
 sC:(n.kind=8→0≤n.sC∧n.sC<g.nodes.length)∧(n.kind≠8→n.sC=0)
theorem OY {n most:Int} {b:Bool}:qI n b most=true↔(b=true→0≤n∧n<most)∧(b=false→n=0):=by
 unfold qI
 cases b<;>simp
theorem qH {u:bw} {g:cD} {n:Node}:mE u g n=true↔nR u g n:=by
 unfold mE
 simp only[Bool.and_eq_true,decide_eq_true_eq,OY,Bool.ite_eq_true_distrib]
 constructor
 ·rintro⟨⟨⟨⟨⟨⟨⟨⟨h1,h2,h3,h4⟩,h5⟩,h6⟩,h7⟩,h8⟩,h9⟩,h10⟩,h11⟩
  refine⟨⟨h1,h2⟩,⟨h3,h4⟩, ?_,h6, ?_,h8,h9,h10, ?_⟩
  ·by_cases h:n.kind=1
   ·rw[if_pos h] at h5;exact⟨fun _=>h5,fun e=>absurd h e⟩
   ·rw[if_neg h] at h5;exact⟨fun e=>absurd e h,fun _=>h5⟩
  ·refine⟨fun e=> ?_,h7.2⟩
   have:=h7.1 e
   split at this<;>rename_i hh
   ·rw[if_pos hh];exact this
   ·rw[if_neg hh];exact this
  ·exact⟨fun e=>h11.1 (by simp[e]),fun e=>h11.2 (by simp[e])⟩
 ·intro h
  refine⟨⟨⟨⟨⟨⟨⟨⟨h.kind.1,h.kind.2,h.origin.1,h.origin.2⟩, ?_⟩,h.slot⟩,⟨fun e=> ?_,h.cM.2⟩⟩,h.a⟩,h.b⟩,h.next⟩, ?_⟩
  ·by_cases e:n.kind=1
   ·rw[if_pos e];exact h.op.1 e
   ·rw[if_neg e];exact h.op.2 e
  ·have:=h.cM.1 e
   split at this<;>rename_i hh
   ·rw[if_pos hh];exact this
   ·rw[if_neg hh];exact this
  ·exact⟨fun e=>h.sC.1 (by simpa using e),fun e=>h.sC.2 (by simpa using e)⟩
theorem j1 {α:Type} {p:α→Bool}:∀{l:List α} {i:Nat},fj p l i=none↔∀x∈l,p x=true
 |[],i=>by simp[fj]
 |x::l,i=>by
  rw[fj]
  by_cases h:p x=true
  ·rw[if_pos h,j1];simp[h]
  ·rw[if_neg h];simp[h]
structure eK (u:bw) (g:cD):Prop where
 locals:0≤g.locals∧g.locals≤64
 bz:g.locals≤g.bz∧g.bz≤4160
 len:1≤g.nodes.length∧g.nodes.length≤4096
 nodes:∀n∈g.nodes,nR u g n
 held:(eN g).2<0
theorem VK {u:bw} {g:cD} {n:Node} (h:nR u g n) {k:Int} (hk:k∈n.oG):0≤k∧k<g.nodes.length:=by
 unfold Node.oG at hk
 have hkd:=h.kind
 split at hk
 ·simp at hk
 ·rename_i h9
  have hn:=h.next.1 (by unfold jV;exact decide_eq_true (by omega))
  split at hk
  ·rename_i h8
   have he:=h.sC.1 h8
   simp only[List.mem_cons,List.not_mem_nil,or_false] at hk
   rcases hk with rfl|rfl
   ·exact hn
   ·exact he
  ·simp only[List.mem_cons,List.not_mem_nil,or_false] at hk
   subst hk;exact hn
theorem AN {u:bw} {g:cD} (hl:1≤g.nodes.length∧g.nodes.length≤4096) (h:∀n∈g.nodes,nR u g n):Whole g:=
 ⟨hl.1,hl.2,fun i hi=>by
  have hn:=h _ (cS default hi)
  exact⟨hn.kind.1,hn.kind.2,fun k hk=>by have:=VK hn hk;omega⟩⟩
theorem eK.whole {u:bw} {g:cD} (h:eK u g):Whole g:=AN h.len h.nodes
theorem eK.node {u:bw} {g:cD} (h:eK u g) {i:Nat} (hi:i<g.nodes.length):nR u g (g.nd i):=h.nodes _ (cS default hi)
theorem q8 {u:bw} {g:cD}:nj u g=none↔eK u g:=by
 unfold nj
 constructor
 ·intro h
  split at h
  ·cases h
  ·rename_i h1
   cases hf:fj (mE u g) g.nodes 0 with
   |some i=>rw[hf] at h;cases h
   |none=>
    rw[hf] at h
    simp only at h
    split at h
    ·cases h
    ·rename_i h2
     exact⟨by omega,by omega,by omega,fun n hn=>qH.1 (j1.1 hf n hn),by omega⟩
 ·intro h
  have h1:=h.locals
  have h2:=h.bz
  have h3:=h.len
  have h4:=h.held
  rw[if_neg (by omega),j1.2 fun n hn=>qH.2 (h.nodes n hn)]
  simp only
  rw[if_neg (by omega)]
theorem nk {u:bw}:∀{l:List cD} {t:Nat},fS u l t=(0,0,0)↔∀g∈l,eK u g
 |[],t=>by simp[fS]
 |g::r,t=>by
  rw[fS]
  cases h:nj u g with
  |some k=>
   have:¬eK u g:=fun e=>by rw[q8.2 e] at h;cases h
   simp[this]
  |none=>
   have:=q8.1 h
   simp[nk,this]
theorem q9 {u:bw}:∀{l:List cD} {t:Nat},fS u l t≠(0,0,0)→(fS u l t).1=60
 |[],t,h=>absurd rfl h
 |g::r,t,h=>by
  rw[fS] at h ⊢
  cases hg:nj u g with
  |some k=>rfl
  |none=>rw[hg] at h;exact q9 h
structure cT (u:bw):Prop where
 named:fW u=true
 bu:∀g∈u.bu,eK u g
theorem kG {u:bw}:iP u=(0,0,0)↔cT u:=by
 unfold iP
 constructor
 ·intro h
  split at h
  ·rename_i hn;exact⟨hn,nk.1 h⟩
  ·cases h
 ·intro h;rw[if_pos h.named,nk.2 h.bu]
theorem nV {u:bw} (h:¬cT u):(iP u).1=60:=by
 have h2:=mt kG.1 h
 unfold iP at h2 ⊢
 split
 ·rename_i hn;rw[if_pos hn] at h2;exact q9 h2
 ·rfl
open Classical in
noncomputable def DA (u:bw):Bool:=decide (cT u)
open Classical in
theorem nz {u:bw}:DA u=true↔cT u:=by unfold DA;rw[decide_eq_true_eq]
theorem cT.qX {u:bw} (h:cT u):u.shared.length≤64∧u.cE.length≤16∧u.bu.length≤8:=by
 have:=h.named
 unfold fW at this
 simp only[Bool.and_eq_true,decide_eq_true_eq] at this
 exact⟨this.1.1.1.1,this.1.1.1.2,this.1.1.2⟩
theorem cT.gr {u:bw} (h:cT u) {t:Nat} (ht:t<u.bu.length):eK u (u.gr t):=h.bu _ (cS default ht)
theorem X8 {u:bw} {g:cD} (hg:eK u g) {lk:Nat→List Int} (hlk:P9 g lk):∀i:Int,l4 g (-1) i→∀k∈lk i.toNat,0≤k∧k<u.cE.length:=by
 have hw:=hg.whole
 have hin:∀i:Int,l4 g (-1) i→0≤i∧i.toNat<g.nodes.length:=fun i hi=>by
  induction hi with
  |zero=>exact⟨by omega,by have:=hw.1;simp;omega⟩
  |@step i k _ _ hk ih=>
   exact(hw.2.2 i.toNat ih.2).2.2 k hk
 intro i hi
 induction hi with
 |zero=>intro k hk;rw[show(0:Int).toNat=0 by rfl,hlk.zero] at hk;simp at hk
 |@step i j hi hc hj ih=>
  obtain⟨now,h1,h2⟩:=hlk.on i hi
  have hn:=hg.node (hin i hi).2
  rw[h2 j hj]
  intro k hk
  unfold df at h1
  split at h1
  ·rename_i h5
   cases h1
   rcases List.mem_append.1 hk with hk|hk
   ·exact ih k hk
   ·simp only[List.mem_cons,List.not_mem_nil,or_false] at hk
    subst hk
    have:=hn.cM.1 (by unfold fw;exact decide_eq_true (by omega))
    rw[if_pos (.inl h5)] at this
    exact this
  ·split at h1
   ·split at h1
    ·cases h1
     exact ih k (List.dropLast_subset _ hk)
    ·cases h1
   ·split at h1
    ·split at h1
     ·cases h1;exact ih k hk
     ·cases h1
    ·cases h1;exact ih k hk
theorem ET {u:bw} {g:cD} (hg:eK u g) (i:Nat):∀k∈(eN g).1.getD i [],0≤k∧k<u.cE.length:=by
 obtain⟨h1,h2,h3,h4⟩:=kP hg.whole hg.held
 by_cases hi:i<g.nodes.length
 ·by_cases hc:l4 g (-1) i
  ·exact X8 hg h3 i hc
  ·rw[h4 i hi hc];intro k hk;simp at hk
 ·rw[List.getD,List.getElem?_eq_none (by omega)];intro k hk;simp at hk
end Go.Proofs.YtjopoheligmmoaaGreatDoor
end
section
/- Is a unit right? The walk. -/
namespace Go.Proofs.YtjopoheligmmoaaGreatDoor
open Go Go.cY Go.Proofs
set_option linter.unusedSimpArgs false
set_option linter.unusedVariables false
theorem BY {α:Type} {p:α→Bool} {l:List α} (d:α) {i:Nat} (h:fj p (l.drop i) i=fj p l 0) (hi:i<l.length):fj p l 0=if p (l.getD i d)=true then fj p (l.drop (i+1)) (i+1) else some i:=by
 rw[←h,xi p l d hi]
theorem vx {u:bw} {l:List cD} {t:Nat} (h:t<l.length):fS u (l.drop t) t=match nj u (l.getD t default) with
 |some k=>(60,(t:Int),k)
 |none=>fS u (l.drop (t+1)) (t+1):=by
 rw[List.drop_eq_getElem_cons h,fS,gd h];rfl
theorem vi {u:bw} (h:fW u=false):iP u=(60,0,0):=by unfold iP;rw[if_neg (by rw[h];decide)]
abbrev vh (r:Int×Int×Int):AV:= .dP [i64 r.1,i64 r.2.1,i64 r.2.2]
set_option maxHeartbeats 4000000 in
theorem jG (u:bw) (hu:u.Wf):Pure Tryz.prog 35 [u.av] (fun r=>r=vh (iP u)):=by
 refine aI NY rfl ?_
 have hnp:=CP u hu
 cases hnm:fW u with
 |false=>
  rw[hnm] at hnp
  rw[vi hnm]
  repeat' (first|((with_reducible refine aF ?_);conv=>whnf)|refine aG ?_|exact gF|with_reducible refine aD ?_ ?_|((with_reducible refine Ask.mk ?_);first|exact dw|exact dE|(intro h;simp_all[bw.cells]<;>fail)|(simp_all[bw.cells]<;>fail))|(apply aB;(·exact cR))|refine aK (hnp) ?_|refine aH ?_|((with_reducible refine aA ?_ ?_)<;>intro hc<;>(try simp only[List.length_map,ne_eq,da] at hc)<;>try(exfalso;omega)))
  exact rfl
 |true=>
  rw[hnm] at hnp
  have hck:iP u=fS u u.bu 0:=by unfold iP;rw[if_pos hnm]
  rw[hck]
  have hgl:u.bu.length≤8:=by
   have:=hnm
   unfold fW at this
   simp only[Bool.and_eq_true,decide_eq_true_eq] at this
   exact this.1.1.2
  repeat' (first|((with_reducible refine aF ?_);conv=>whnf)|refine aG ?_|exact gF|with_reducible refine aD ?_ ?_|((with_reducible refine Ask.mk ?_);first|exact dw|exact dE|(intro h;simp_all[bw.cells]<;>fail)|(simp_all[bw.cells]<;>fail))|(apply aB;(·exact cR))|refine aK (hnp) ?_|refine aH ?_|((with_reducible refine aA ?_ ?_)<;>intro hc<;>(try simp only[List.length_map,ne_eq,da] at hc)<;>try(exfalso;omega)))
  simp only[List.length_map]
  refine aM (fun t:Nat=>[(1, .pt 0 1 0 0),(15,de u.bu),(16,i64 u.bu.length),(17,i64 t)])
   (fun t H n=>t≤u.bu.length∧1≤n∧(∃d,bt H 0=some (.row 25 3 d [u.av]))∧fS u (u.bu.drop t) t=fS u u.bu 0) (fun t=>u.bu.length - t) 0 cH ⟨Nat.zero_le _,c8,⟨_,bx⟩,rfl⟩ ?_
  rintro t H n ⟨ht,hn,⟨d0,r0⟩,hF⟩
  by_cases htl:t<u.bu.length
  ·have hg:=hu.bu _ (cS default htl)
   rw[vx htl] at hF
   have eg:=fun d=>oe htl d
   generalize hG:u.bu.getD t default=g at *
   have hl:=hg.len
   unfold nj at hF
   by_cases hb:g.locals<0∨g.locals>64∨g.bz<g.locals∨g.bz>4160∨g.nodes.length<1∨g.nodes.length>4096
   ·rw[if_pos hb] at hF
    rw[←hF]
    repeat' (first|((with_reducible refine aF ?_);conv=>whnf)|refine aG ?_|exact gF|with_reducible refine aD ?_ ?_|((with_reducible refine Ask.mk ?_);first|exact dw|exact dE|(intro h;simp_all[bw.cells,cD.cells]<;>fail)|(simp_all[bw.cells,cD.cells]<;>fail))|(apply aB;(·(first|exact eg _|exact cR)))|refine aH ?_|((with_reducible refine aA ?_ ?_)<;>intro hc<;>(try simp only[List.length_map,ne_eq,da] at hc)<;>try(exfalso;omega)))
    all_goals first|exact rfl|(exfalso;omega)
   ·rw[if_neg hb] at hF
    repeat' (first|((with_reducible refine aF ?_);conv=>whnf)|refine aG ?_|exact gF|with_reducible refine aD ?_ ?_|((with_reducible refine Ask.mk ?_);first|exact dw|exact dE|(intro h;simp_all[bw.cells,cD.cells]<;>fail)|(simp_all[bw.cells,cD.cells]<;>fail))|(apply aB;(·(first|exact eg _|exact cR)))|refine aH ?_|((with_reducible refine aA ?_ ?_)<;>intro hc<;>(try simp only[List.length_map,ne_eq,da] at hc)<;>try(exfalso;omega)))
    simp only[List.length_map]
    clear hnp
    refine aM (fun i:Nat=>[(1, .pt 0 1 0 0),(5,i64 t),(6, .pt (n+4) 1 0 0),(15,de u.bu),(16,i64 u.bu.length),(17,i64 t),(56,ig g.nodes),(57,i64 g.nodes.length),(58,i64 i)])
     (fun i H2 n2=>i≤g.nodes.length∧n+5≤n2∧(∃d,bt H2 0=some (.row 25 3 d [u.av]))∧(∃d,bt H2 (n+4)=some (.row 60 4 d [g.av]))∧fj (mE u g) (g.nodes.drop i) i=fj (mE u g) g.nodes 0) (fun i=>g.nodes.length - i) 0 cH ⟨Nat.zero_le _,c8,⟨_,bx⟩,⟨_,bx⟩,rfl⟩ ?_
    clear r0
    rintro i H2 n2 ⟨hi,hn2,⟨d02,r0⟩,⟨d4,r4⟩,hfst⟩
    by_cases hil:i<g.nodes.length
    ·have hp:=DB u g (g.nodes.getD i default) (hg.nodes _ (cS default hil))
     have en:=fun d=>ja hil d
     have hfst2:=BY default hfst hil
     cases hnb:mE u g (g.nodes.getD i default) with
     |false=>
      rw[hnb] at hp
      rw[if_neg (by rw[hnb];decide)] at hfst2
      rw[hfst2] at hF
      rw[←hF]
      repeat' (first|((with_reducible refine aF ?_);conv=>whnf)|refine aG ?_|exact gF|with_reducible refine aD ?_ ?_|((with_reducible refine Ask.mk ?_);first|exact dw|exact dE|(intro h;simp_all[bw.cells,cD.cells,Node.cells]<;>fail)|(simp_all[bw.cells,cD.cells,Node.cells]<;>fail))|(apply aB;(·(first|exact en _|exact cR)))|refine aK (hp) ?_|refine aH ?_|((with_reducible refine aA ?_ ?_)<;>intro hc<;>(try simp only[List.length_map,ne_eq,da] at hc)<;>try(exfalso;omega)))
      exact rfl
     |true=>
      rw[hnb] at hp
      rw[if_pos hnb] at hfst2
      repeat' (first|((with_reducible refine aF ?_);conv=>whnf)|refine aG ?_|exact gF|with_reducible refine aD ?_ ?_|((with_reducible refine Ask.mk ?_);first|exact dw|exact dE|(intro h;simp_all[bw.cells,cD.cells,Node.cells]<;>fail)|(simp_all[bw.cells,cD.cells,Node.cells]<;>fail))|(apply aB;(·(first|exact en _|exact cR)))|refine aK (hp) ?_|refine aH ?_|((with_reducible refine aA ?_ ?_)<;>intro hc<;>(try simp only[List.length_map,ne_eq,da] at hc)<;>try(exfalso;omega)))
      exact⟨i+1,by omega,cH,by omega,c8,⟨_,bx⟩,⟨_,bx⟩,hfst2.symm⟩
    ·have:i=g.nodes.length:=by omega
     subst this
     rw[BX _ _ (Nat.le_refl _)] at hfst
     rw[←hfst] at hF
     dsimp only at hF
     have hok:Whole g:=AN (u:=u) (by omega) fun m hm=>qH.1 (j1.1 hfst.symm m hm)
     have hh:=ud g hg hok
     unfold pq at hh
     by_cases hb2:0≤(eN g).2
     ·rw[if_pos hb2] at hF
      rw[←hF]
      repeat' (first|((with_reducible refine aF ?_);conv=>whnf)|refine aG ?_|exact gF|with_reducible refine aD ?_ ?_|((with_reducible refine Ask.mk ?_);first|exact dw|exact dE|(intro h;simp_all[bw.cells,cD.cells]<;>fail)|(simp_all[bw.cells,cD.cells]<;>fail))|(apply aB;(·exact cR))|refine aK (hh) ?_|refine aH ?_|((with_reducible refine aA ?_ ?_)<;>intro hc<;>(try simp only[List.length_map,ne_eq,da] at hc)<;>try(exfalso;omega)))
      exact rfl
     ·rw[if_neg hb2] at hF
      repeat' (first|((with_reducible refine aF ?_);conv=>whnf)|refine aG ?_|exact gF|with_reducible refine aD ?_ ?_|((with_reducible refine Ask.mk ?_);first|exact dw|exact dE|(intro h;simp_all[bw.cells,cD.cells]<;>fail)|(simp_all[bw.cells,cD.cells]<;>fail))|(apply aB;(·exact cR))|refine aK (hh) ?_|refine aH ?_|((with_reducible refine aA ?_ ?_)<;>intro hc<;>(try simp only[List.length_map,ne_eq,da] at hc)<;>try(exfalso;omega)))
      exact⟨t+1,by omega,cH,by omega,by omega,⟨_,bx⟩,hF⟩
  ·have:t=u.bu.length:=by omega
   subst this
   rw[List.drop_eq_nil_of_le (Nat.le_refl _),fS] at hF
   rw[←hF]
   repeat' (first|((with_reducible refine aF ?_);conv=>whnf)|refine aG ?_|exact gF|with_reducible refine aD ?_ ?_|((with_reducible refine Ask.mk ?_);first|exact dw|exact dE|(intro h;simp_all[bw.cells]<;>fail)|(simp_all[bw.cells]<;>fail))|(apply aB;(·exact cR))|refine aH ?_|((with_reducible refine aA ?_ ?_)<;>intro hc<;>(try simp only[List.length_map,ne_eq,da] at hc)<;>try(exfalso;omega)))
   exact rfl
end Go.Proofs.YtjopoheligmmoaaGreatDoor
end
