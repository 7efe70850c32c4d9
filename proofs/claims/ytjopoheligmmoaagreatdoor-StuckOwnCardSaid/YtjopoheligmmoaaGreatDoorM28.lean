import Derived.Test.YtjopoheligmmoaaGreatDoorM27
import Derived.Test.YtjopoheligmmoaaGreatDoorM24
section
/- What is so of right units, in plain data. -/
namespace Go.Proofs.YtjopoheligmmoaaGreatDoor
open Go Go.cZ Go.Proofs
set_option linter.unusedSimpArgs false
set_option linter.unusedVariables false
def iW (u:bx):Int×Int×Int:=if fY u=true then fT u u.bz 0 else(60,0,0)
structure nY (u:bx) (g:cF) (n:Node):Prop where
 kind:1≤n.kind∧n.kind<10
 origin:0≤n.origin∧n.origin<4096
 op:(n.kind=1→n.op<19)∧(n.kind≠1→n.op=0)
 slot:(kr n.kind=true→0≤n.slot∧n.slot<g.cA)∧(kr n.kind=false→n.slot=0)
 cQ:(gA n.kind=true→0≤n.cQ∧n.cQ<(if n.kind=5∨n.kind=6 then u.cE.length else u.shared.length:Nat))∧(gA n.kind=false→n.cQ=0)
 a:uE n.a (vU n.kind) g.cA=true
 b:uE n.b (decide (n.kind=1)&&eB n.op) g.cA=true
 next:(j5 n.kind=true→0≤n.next∧n.next<g.nodes.length)∧(j5 n.kind=false→n.next=0)
 sO:(n.kind=8→0≤n.sO∧n.sO<g.nodes.length)∧(n.kind≠8→n.sO=0)
theorem O8 {n most:Int} {b:Bool}:qT n b most=true↔(b=true→0≤n∧n<most)∧(b=false→n=0):=by
 unfold qT
 cases b<;>simp
theorem qS {u:bx} {g:cF} {n:Node}:mL u g n=true↔nY u g n:=by
 unfold mL
 simp only[Bool.and_eq_true,decide_eq_true_eq,O8,Bool.ite_eq_true_distrib]
 constructor
 ·rintro⟨⟨⟨⟨⟨⟨⟨⟨h1,h2,h3,h4⟩,h5⟩,h6⟩,h7⟩,h8⟩,h9⟩,h10⟩,h11⟩
  refine⟨⟨h1,h2⟩,⟨h3,h4⟩, ?_,h6, ?_,h8,h9,h10, ?_⟩
  ·by_cases h:n.kind=1
   ·rw[if_pos h] at h5;exact⟨fun _=>h5,fun e=>absurd h e⟩
   ·rw[if_neg h] at h5;exact⟨fun e=>absurd e h,fun _=>h5⟩
  ·refine⟨fun e=> ?_,h7.2⟩
   have:=h7.1 e
   split at this<;>rename_i hh
   ·rw[if_pos hh];exact this
   ·rw[if_neg hh];exact this
  ·exact⟨fun e=>h11.1 (by simp[e]),fun e=>h11.2 (by simp[e])⟩
 ·intro h
  refine⟨⟨⟨⟨⟨⟨⟨⟨h.kind.1,h.kind.2,h.origin.1,h.origin.2⟩, ?_⟩,h.slot⟩,⟨fun e=> ?_,h.cQ.2⟩⟩,h.a⟩,h.b⟩,h.next⟩, ?_⟩
  ·by_cases e:n.kind=1
   ·rw[if_pos e];exact h.op.1 e
   ·rw[if_neg e];exact h.op.2 e
  ·have:=h.cQ.1 e
   split at this<;>rename_i hh
   ·rw[if_pos hh];exact this
   ·rw[if_neg hh];exact this
  ·exact⟨fun e=>h.sO.1 (by simpa using e),fun e=>h.sO.2 (by simpa using e)⟩
theorem jb {α:Type} {p:α→Bool}:∀{l:List α} {i:Nat},fm p l i=none↔∀x∈l,p x=true
 |[],i=>by simp[fm]
 |x::l,i=>by
  rw[fm]
  by_cases h:p x=true
  ·rw[if_pos h,jb];simp[h]
  ·rw[if_neg h];simp[h]
structure eL (u:bx) (g:cF):Prop where
 locals:0≤g.locals∧g.locals≤64
 cA:g.locals≤g.cA∧g.cA≤4160
 len:1≤g.nodes.length∧g.nodes.length≤4096
 nodes:∀n∈g.nodes,nY u g n
 held:(eO g).2<0
theorem V1 {u:bx} {g:cF} {n:Node} (h:nY u g n) {k:Int} (hk:k∈n.oO):0≤k∧k<g.nodes.length:=by
 unfold Node.oO at hk
 have hkd:=h.kind
 split at hk
 ·simp at hk
 ·rename_i h9
  have hn:=h.next.1 (by unfold j5;exact decide_eq_true (by omega))
  split at hk
  ·rename_i h8
   have he:=h.sO.1 h8
   simp only[List.mem_cons,List.not_mem_nil,or_false] at hk
   rcases hk with rfl|rfl
   ·exact hn
   ·exact he
  ·simp only[List.mem_cons,List.not_mem_nil,or_false] at hk
   subst hk;exact hn
theorem BB {u:bx} {g:cF} (hl:1≤g.nodes.length∧g.nodes.length≤4096) (h:∀n∈g.nodes,nY u g n):Whole g:=
 ⟨hl.1,hl.2,fun i hi=>by
  have hn:=h _ (cR default hi)
  exact⟨hn.kind.1,hn.kind.2,fun k hk=>by have:=V1 hn hk;omega⟩⟩
theorem eL.whole {u:bx} {g:cF} (h:eL u g):Whole g:=BB h.len h.nodes
theorem eL.node {u:bx} {g:cF} (h:eL u g) {i:Nat} (hi:i<g.nodes.length):nY u g (g.nd i):=h.nodes _ (cR default hi)
theorem qg {u:bx} {g:cF}:ny u g=none↔eL u g:=by
 unfold ny
 constructor
 ·intro h
  split at h
  ·cases h
  ·rename_i h1
   cases hf:fm (mL u g) g.nodes 0 with
   |some i=>rw[hf] at h;cases h
   |none=>
    rw[hf] at h
    simp only at h
    split at h
    ·cases h
    ·rename_i h2
     exact⟨by omega,by omega,by omega,fun n hn=>qS.1 (jb.1 hf n hn),by omega⟩
 ·intro h
  have h1:=h.locals
  have h2:=h.cA
  have h3:=h.len
  have h4:=h.held
  rw[if_neg (by omega),jb.2 fun n hn=>qS.2 (h.nodes n hn)]
  simp only
  rw[if_neg (by omega)]
theorem nz {u:bx}:∀{l:List cF} {t:Nat},fT u l t=(0,0,0)↔∀g∈l,eL u g
 |[],t=>by simp[fT]
 |g::r,t=>by
  rw[fT]
  cases h:ny u g with
  |some k=>
   have:¬eL u g:=fun e=>by rw[qg.2 e] at h;cases h
   simp[this]
  |none=>
   have:=qg.1 h
   simp[nz,this]
theorem qh {u:bx}:∀{l:List cF} {t:Nat},fT u l t≠(0,0,0)→(fT u l t).1=60
 |[],t,h=>absurd rfl h
 |g::r,t,h=>by
  rw[fT] at h ⊢
  cases hg:ny u g with
  |some k=>rfl
  |none=>rw[hg] at h;exact qh h
structure cT (u:bx):Prop where
 named:fY u=true
 bz:∀g∈u.bz,eL u g
theorem kQ {u:bx}:iW u=(0,0,0)↔cT u:=by
 unfold iW
 constructor
 ·intro h
  split at h
  ·rename_i hn;exact⟨hn,nz.1 h⟩
  ·cases h
 ·intro h;rw[if_pos h.named,nz.2 h.bz]
theorem nc {u:bx} (h:¬cT u):(iW u).1=60:=by
 have h2:=mt kQ.1 h
 unfold iW at h2 ⊢
 split
 ·rename_i hn;rw[if_pos hn] at h2;exact qh h2
 ·rfl
open Classical in
noncomputable def DS (u:bx):Bool:=decide (cT u)
open Classical in
theorem oG {u:bx}:DS u=true↔cT u:=by unfold DS;rw[decide_eq_true_eq]
theorem cT.pz {u:bx} (h:cT u):u.shared.length≤64∧u.cE.length≤16∧u.bz.length≤8:=by
 have:=h.named
 unfold fY at this
 simp only[Bool.and_eq_true,decide_eq_true_eq] at this
 exact⟨this.1.1.1.1,this.1.1.1.2,this.1.1.2⟩
theorem cT.gr {u:bx} (h:cT u) {t:Nat} (ht:t<u.bz.length):eL u (u.gr t):=h.bz _ (cR default ht)
theorem YR {u:bx} {g:cF} (hg:eL u g) {lk:Nat→List Int} (hlk:QN g lk):∀i:Int,la g (-1) i→∀k∈lk i.toNat,0≤k∧k<u.cE.length:=by
 have hw:=hg.whole
 have hin:∀i:Int,la g (-1) i→0≤i∧i.toNat<g.nodes.length:=fun i hi=>by
  induction hi with
  |zero=>exact⟨by omega,by have:=hw.1;simp;omega⟩
  |@step i k _ _ hk ih=>
   exact(hw.2.2 i.toNat ih.2).2.2 k hk
 intro i hi
 induction hi with
 |zero=>intro k hk;rw[show(0:Int).toNat=0 by rfl,hlk.zero] at hk;simp at hk
 |@step i j hi hc hj ih=>
  obtain⟨now,h1,h2⟩:=hlk.on i hi
  have hn:=hg.node (hin i hi).2
  rw[h2 j hj]
  intro k hk
  unfold dj at h1
  split at h1
  ·rename_i h5
   cases h1
   rcases List.mem_append.1 hk with hk|hk
   ·exact ih k hk
   ·simp only[List.mem_cons,List.not_mem_nil,or_false] at hk
    subst hk
    have:=hn.cQ.1 (by unfold gA;exact decide_eq_true (by omega))
    rw[if_pos (.inl h5)] at this
    exact this
  ·split at h1
   ·split at h1
    ·cases h1
     exact ih k (List.dropLast_subset _ hk)
    ·cases h1
   ·split at h1
    ·split at h1
     ·cases h1;exact ih k hk
     ·cases h1
    ·cases h1;exact ih k hk
theorem FD {u:bx} {g:cF} (hg:eL u g) (i:Nat):∀k∈(eO g).1.getD i [],0≤k∧k<u.cE.length:=by
 obtain⟨h1,h2,h3,h4⟩:=kZ hg.whole hg.held
 by_cases hi:i<g.nodes.length
 ·by_cases hc:la g (-1) i
  ·exact YR hg h3 i hc
  ·rw[h4 i hi hc];intro k hk;simp at hk
 ·rw[List.getD,List.getElem?_eq_none (by omega)];intro k hk;simp at hk
end Go.Proofs.YtjopoheligmmoaaGreatDoor
end
section
/- Is a unit right? The walk. -/
namespace Go.Proofs.YtjopoheligmmoaaGreatDoor
open Go Go.cZ Go.Proofs
set_option linter.unusedSimpArgs false
set_option linter.unusedVariables false
theorem CH {α:Type} {p:α→Bool} {l:List α} (d:α) {i:Nat} (h:fm p (l.drop i) i=fm p l 0) (hi:i<l.length):fm p l 0=if p (l.getD i d)=true then fm p (l.drop (i+1)) (i+1) else some i:=by
 rw[←h,yD p l d hi]
theorem wO {u:bx} {l:List cF} {t:Nat} (h:t<l.length):fT u (l.drop t) t=match ny u (l.getD t default) with
 |some k=>(60,(t:Int),k)
 |none=>fT u (l.drop (t+1)) (t+1):=by
 rw[List.drop_eq_getElem_cons h,fT,gd h];rfl
theorem vz {u:bx} (h:fY u=false):iW u=(60,0,0):=by unfold iW;rw[if_neg (by rw[h];decide)]
abbrev vy (r:Int×Int×Int):AV:= .dK [i64 r.1,i64 r.2.1,i64 r.2.2]
set_option maxHeartbeats 4000000 in
theorem jN (u:bx) (hu:u.Wf):Pure Tryz.prog 35 [u.av] (fun r=>r=vy (iW u)):=by
 refine aJ N8 rfl ?_
 have hnp:=C6 u hu
 cases hnm:fY u with
 |false=>
  rw[hnm] at hnp
  rw[vz hnm]
  repeat' (first|((with_reducible refine aI ?_);conv=>whnf)|refine aG ?_|exact gG|with_reducible refine aD ?_ ?_|((with_reducible refine Ask.mk ?_);first|exact dz|exact dD|(intro h;simp_all[bx.cells]<;>fail)|(simp_all[bx.cells]<;>fail))|(apply aB;(·exact cS))|refine aK (hnp) ?_|refine aH ?_|((with_reducible refine aA ?_ ?_)<;>intro hc<;>(try simp only[List.length_map,ne_eq,db] at hc)<;>try(exfalso;omega)))
  exact rfl
 |true=>
  rw[hnm] at hnp
  have hck:iW u=fT u u.bz 0:=by unfold iW;rw[if_pos hnm]
  rw[hck]
  have hgl:u.bz.length≤8:=by
   have:=hnm
   unfold fY at this
   simp only[Bool.and_eq_true,decide_eq_true_eq] at this
   exact this.1.1.2
  repeat' (first|((with_reducible refine aI ?_);conv=>whnf)|refine aG ?_|exact gG|with_reducible refine aD ?_ ?_|((with_reducible refine Ask.mk ?_);first|exact dz|exact dD|(intro h;simp_all[bx.cells]<;>fail)|(simp_all[bx.cells]<;>fail))|(apply aB;(·exact cS))|refine aK (hnp) ?_|refine aH ?_|((with_reducible refine aA ?_ ?_)<;>intro hc<;>(try simp only[List.length_map,ne_eq,db] at hc)<;>try(exfalso;omega)))
  simp only[List.length_map]
  refine aN (fun t:Nat=>[(1, .pt 0 1 0 0),(15,di u.bz),(16,i64 u.bz.length),(17,i64 t)])
   (fun t H n=>t≤u.bz.length∧1≤n∧(∃d,bu H 0=some (.row 25 3 d [u.av]))∧fT u (u.bz.drop t) t=fT u u.bz 0) (fun t=>u.bz.length - t) 0 cK ⟨Nat.zero_le _,ca,⟨_,bw⟩,rfl⟩ ?_
  rintro t H n ⟨ht,hn,⟨d0,r0⟩,hF⟩
  by_cases htl:t<u.bz.length
  ·have hg:=hu.bz _ (cR default htl)
   rw[wO htl] at hF
   have eg:=fun d=>s9 htl d
   generalize hG:u.bz.getD t default=g at *
   have hl:=hg.len
   unfold ny at hF
   by_cases hb:g.locals<0∨g.locals>64∨g.cA<g.locals∨g.cA>4160∨g.nodes.length<1∨g.nodes.length>4096
   ·rw[if_pos hb] at hF
    rw[←hF]
    repeat' (first|((with_reducible refine aI ?_);conv=>whnf)|refine aG ?_|exact gG|with_reducible refine aD ?_ ?_|((with_reducible refine Ask.mk ?_);first|exact dz|exact dD|(intro h;simp_all[bx.cells,cF.cells]<;>fail)|(simp_all[bx.cells,cF.cells]<;>fail))|(apply aB;(·(first|exact eg _|exact cS)))|refine aH ?_|((with_reducible refine aA ?_ ?_)<;>intro hc<;>(try simp only[List.length_map,ne_eq,db] at hc)<;>try(exfalso;omega)))
    all_goals first|exact rfl|(exfalso;omega)
   ·rw[if_neg hb] at hF
    repeat' (first|((with_reducible refine aI ?_);conv=>whnf)|refine aG ?_|exact gG|with_reducible refine aD ?_ ?_|((with_reducible refine Ask.mk ?_);first|exact dz|exact dD|(intro h;simp_all[bx.cells,cF.cells]<;>fail)|(simp_all[bx.cells,cF.cells]<;>fail))|(apply aB;(·(first|exact eg _|exact cS)))|refine aH ?_|((with_reducible refine aA ?_ ?_)<;>intro hc<;>(try simp only[List.length_map,ne_eq,db] at hc)<;>try(exfalso;omega)))
    simp only[List.length_map]
    clear hnp
    refine aN (fun i:Nat=>[(1, .pt 0 1 0 0),(5,i64 t),(6, .pt (n+4) 1 0 0),(15,di u.bz),(16,i64 u.bz.length),(17,i64 t),(56,iz g.nodes),(57,i64 g.nodes.length),(58,i64 i)])
     (fun i H2 n2=>i≤g.nodes.length∧n+5≤n2∧(∃d,bu H2 0=some (.row 25 3 d [u.av]))∧(∃d,bu H2 (n+4)=some (.row 60 4 d [g.av]))∧fm (mL u g) (g.nodes.drop i) i=fm (mL u g) g.nodes 0) (fun i=>g.nodes.length - i) 0 cK ⟨Nat.zero_le _,ca,⟨_,bw⟩,⟨_,bw⟩,rfl⟩ ?_
    clear r0
    rintro i H2 n2 ⟨hi,hn2,⟨d02,r0⟩,⟨d4,r4⟩,hfst⟩
    by_cases hil:i<g.nodes.length
    ·have hp:=DT u g (g.nodes.getD i default) (hg.nodes _ (cR default hil))
     have en:=fun d=>jj hil d
     have hfst2:=CH default hfst hil
     cases hnb:mL u g (g.nodes.getD i default) with
     |false=>
      rw[hnb] at hp
      rw[if_neg (by rw[hnb];decide)] at hfst2
      rw[hfst2] at hF
      rw[←hF]
      repeat' (first|((with_reducible refine aI ?_);conv=>whnf)|refine aG ?_|exact gG|with_reducible refine aD ?_ ?_|((with_reducible refine Ask.mk ?_);first|exact dz|exact dD|(intro h;simp_all[bx.cells,cF.cells,Node.cells]<;>fail)|(simp_all[bx.cells,cF.cells,Node.cells]<;>fail))|(apply aB;(·(first|exact en _|exact cS)))|refine aK (hp) ?_|refine aH ?_|((with_reducible refine aA ?_ ?_)<;>intro hc<;>(try simp only[List.length_map,ne_eq,db] at hc)<;>try(exfalso;omega)))
      exact rfl
     |true=>
      rw[hnb] at hp
      rw[if_pos hnb] at hfst2
      repeat' (first|((with_reducible refine aI ?_);conv=>whnf)|refine aG ?_|exact gG|with_reducible refine aD ?_ ?_|((with_reducible refine Ask.mk ?_);first|exact dz|exact dD|(intro h;simp_all[bx.cells,cF.cells,Node.cells]<;>fail)|(simp_all[bx.cells,cF.cells,Node.cells]<;>fail))|(apply aB;(·(first|exact en _|exact cS)))|refine aK (hp) ?_|refine aH ?_|((with_reducible refine aA ?_ ?_)<;>intro hc<;>(try simp only[List.length_map,ne_eq,db] at hc)<;>try(exfalso;omega)))
      exact⟨i+1,by omega,cK,by omega,ca,⟨_,bw⟩,⟨_,bw⟩,hfst2.symm⟩
    ·have:i=g.nodes.length:=by omega
     subst this
     rw[CG _ _ (Nat.le_refl _)] at hfst
     rw[←hfst] at hF
     dsimp only at hF
     have hok:Whole g:=BB (u:=u) (by omega) fun m hm=>qS.1 (jb.1 hfst.symm m hm)
     have hh:=uy g hg hok
     unfold qE at hh
     by_cases hb2:0≤(eO g).2
     ·rw[if_pos hb2] at hF
      rw[←hF]
      repeat' (first|((with_reducible refine aI ?_);conv=>whnf)|refine aG ?_|exact gG|with_reducible refine aD ?_ ?_|((with_reducible refine Ask.mk ?_);first|exact dz|exact dD|(intro h;simp_all[bx.cells,cF.cells]<;>fail)|(simp_all[bx.cells,cF.cells]<;>fail))|(apply aB;(·exact cS))|refine aK (hh) ?_|refine aH ?_|((with_reducible refine aA ?_ ?_)<;>intro hc<;>(try simp only[List.length_map,ne_eq,db] at hc)<;>try(exfalso;omega)))
      exact rfl
     ·rw[if_neg hb2] at hF
      repeat' (first|((with_reducible refine aI ?_);conv=>whnf)|refine aG ?_|exact gG|with_reducible refine aD ?_ ?_|((with_reducible refine Ask.mk ?_);first|exact dz|exact dD|(intro h;simp_all[bx.cells,cF.cells]<;>fail)|(simp_all[bx.cells,cF.cells]<;>fail))|(apply aB;(·exact cS))|refine aK (hh) ?_|refine aH ?_|((with_reducible refine aA ?_ ?_)<;>intro hc<;>(try simp only[List.length_map,ne_eq,db] at hc)<;>try(exfalso;omega)))
      exact⟨t+1,by omega,cK,by omega,by omega,⟨_,bw⟩,hF⟩
  ·have:t=u.bz.length:=by omega
   subst this
   rw[List.drop_eq_nil_of_le (Nat.le_refl _),fT] at hF
   rw[←hF]
   repeat' (first|((with_reducible refine aI ?_);conv=>whnf)|refine aG ?_|exact gG|with_reducible refine aD ?_ ?_|((with_reducible refine Ask.mk ?_);first|exact dz|exact dD|(intro h;simp_all[bx.cells]<;>fail)|(simp_all[bx.cells]<;>fail))|(apply aB;(·exact cS))|refine aH ?_|((with_reducible refine aA ?_ ?_)<;>intro hc<;>(try simp only[List.length_map,ne_eq,db] at hc)<;>try(exfalso;omega)))
   exact rfl
end Go.Proofs.YtjopoheligmmoaaGreatDoor
end
