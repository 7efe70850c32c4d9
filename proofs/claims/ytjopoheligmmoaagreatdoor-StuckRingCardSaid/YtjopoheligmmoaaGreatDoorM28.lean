import Derived.Test.YtjopoheligmmoaaGreatDoorM27
import Derived.Test.YtjopoheligmmoaaGreatDoorM24
section
/- What is so of right units, in plain data. -/
namespace Go.Proofs.YtjopoheligmmoaaGreatDoor
open Go Go.cX Go.Proofs
set_option linter.unusedSimpArgs false
set_option linter.unusedVariables false
def iK (u:bt):Int×Int×Int:=if fR u=true then fN u u.bw 0 else(60,0,0)
structure nI (u:bt) (g:cD) (n:Node):Prop where
 kind:1≤n.kind∧n.kind<10
 origin:0≤n.origin∧n.origin<4096
 op:(n.kind=1→n.op<19)∧(n.kind≠1→n.op=0)
 slot:(kQ n.kind=true→0≤n.slot∧n.slot<g.bx)∧(kQ n.kind=false→n.slot=0)
 cO:(fp n.kind=true→0≤n.cO∧n.cO<(if n.kind=5∨n.kind=6 then u.cC.length else u.shared.length:Nat))∧(fp n.kind=false→n.cO=0)
 a:tQ n.a (uo n.kind) g.bx=true
 b:tQ n.b (decide (n.kind=1)&&dy n.op) g.bx=true
 next:(jP n.kind=true→0≤n.next∧n.next<g.nodes.length)∧(jP n.kind=false→n.next=0)
 rh:(n.kind=8→0≤n.rh∧n.rh<g.nodes.length)∧(n.kind≠8→n.rh=0)
theorem OA {n most:Int} {b:Bool}:py n b most=true↔(b=true→0≤n∧n<most)∧(b=false→n=0):=by
 unfold py
 cases b<;>simp
theorem px {u:bt} {g:cD} {n:Node}:lj u g n=true↔nI u g n:=by
 unfold lj
 simp only[Bool.and_eq_true,decide_eq_true_eq,OA,Bool.ite_eq_true_distrib]
 constructor
 ·rintro⟨⟨⟨⟨⟨⟨⟨⟨h1,h2,h3,h4⟩,h5⟩,h6⟩,h7⟩,h8⟩,h9⟩,h10⟩,h11⟩
  refine⟨⟨h1,h2⟩,⟨h3,h4⟩, ?_,h6, ?_,h8,h9,h10, ?_⟩
  ·by_cases h:n.kind=1
   ·rw[if_pos h] at h5;exact⟨fun _=>h5,fun e=>absurd h e⟩
   ·rw[if_neg h] at h5;exact⟨fun e=>absurd e h,fun _=>h5⟩
  ·refine⟨fun e=> ?_,h7.2⟩
   have:=h7.1 e
   split at this<;>rename_i hh
   ·rw[if_pos hh];exact this
   ·rw[if_neg hh];exact this
  ·exact⟨fun e=>h11.1 (by simp[e]),fun e=>h11.2 (by simp[e])⟩
 ·intro h
  refine⟨⟨⟨⟨⟨⟨⟨⟨h.kind.1,h.kind.2,h.origin.1,h.origin.2⟩, ?_⟩,h.slot⟩,⟨fun e=> ?_,h.cO.2⟩⟩,h.a⟩,h.b⟩,h.next⟩, ?_⟩
  ·by_cases e:n.kind=1
   ·rw[if_pos e];exact h.op.1 e
   ·rw[if_neg e];exact h.op.2 e
  ·have:=h.cO.1 e
   split at this<;>rename_i hh
   ·rw[if_pos hh];exact this
   ·rw[if_neg hh];exact this
  ·exact⟨fun e=>h.rh.1 (by simpa using e),fun e=>h.rh.2 (by simpa using e)⟩
theorem jV {α:Type} {p:α→Bool}:∀{l:List α} {i:Nat},fc p l i=none↔∀x∈l,p x=true
 |[],i=>by simp[fc]
 |x::l,i=>by
  rw[fc]
  by_cases h:p x=true
  ·rw[if_pos h,jV];simp[h]
  ·rw[if_neg h];simp[h]
structure eI (u:bt) (g:cD):Prop where
 locals:0≤g.locals∧g.locals≤64
 bx:g.locals≤g.bx∧g.bx≤4160
 len:1≤g.nodes.length∧g.nodes.length≤4096
 nodes:∀n∈g.nodes,nI u g n
 held:(eJ g).2<0
theorem UU {u:bt} {g:cD} {n:Node} (h:nI u g n) {k:Int} (hk:k∈n.ny):0≤k∧k<g.nodes.length:=by
 unfold Node.ny at hk
 have hkd:=h.kind
 split at hk
 ·simp at hk
 ·rename_i h9
  have hn:=h.next.1 (by unfold jP;exact decide_eq_true (by omega))
  split at hk
  ·rename_i h8
   have he:=h.rh.1 h8
   simp only[List.mem_cons,List.not_mem_nil,or_false] at hk
   rcases hk with rfl|rfl
   ·exact hn
   ·exact he
  ·simp only[List.mem_cons,List.not_mem_nil,or_false] at hk
   subst hk;exact hn
theorem zx {u:bt} {g:cD} (hl:1≤g.nodes.length∧g.nodes.length≤4096) (h:∀n∈g.nodes,nI u g n):Whole g:=
 ⟨hl.1,hl.2,fun i hi=>by
  have hn:=h _ (cQ default hi)
  exact⟨hn.kind.1,hn.kind.2,fun k hk=>by have:=UU hn hk;omega⟩⟩
theorem eI.whole {u:bt} {g:cD} (h:eI u g):Whole g:=zx h.len h.nodes
theorem eI.node {u:bt} {g:cD} (h:eI u g) {i:Nat} (hi:i<g.nodes.length):nI u g (g.nd i):=h.nodes _ (cQ default hi)
theorem qR {u:bt} {g:cD}:nY u g=none↔eI u g:=by
 unfold nY
 constructor
 ·intro h
  split at h
  ·cases h
  ·rename_i h1
   cases hf:fc (lj u g) g.nodes 0 with
   |some i=>rw[hf] at h;cases h
   |none=>
    rw[hf] at h
    simp only at h
    split at h
    ·cases h
    ·rename_i h2
     exact⟨by omega,by omega,by omega,fun n hn=>px.1 (jV.1 hf n hn),by omega⟩
 ·intro h
  have h1:=h.locals
  have h2:=h.bx
  have h3:=h.len
  have h4:=h.held
  rw[if_neg (by omega),jV.2 fun n hn=>px.2 (h.nodes n hn)]
  simp only
  rw[if_neg (by omega)]
theorem nZ {u:bt}:∀{l:List cD} {t:Nat},fN u l t=(0,0,0)↔∀g∈l,eI u g
 |[],t=>by simp[fN]
 |g::r,t=>by
  rw[fN]
  cases h:nY u g with
  |some k=>
   have:¬eI u g:=fun e=>by rw[qR.2 e] at h;cases h
   simp[this]
  |none=>
   have:=qR.1 h
   simp[nZ,this]
theorem qS {u:bt}:∀{l:List cD} {t:Nat},fN u l t≠(0,0,0)→(fN u l t).1=60
 |[],t,h=>absurd rfl h
 |g::r,t,h=>by
  rw[fN] at h ⊢
  cases hg:nY u g with
  |some k=>rfl
  |none=>rw[hg] at h;exact qS h
structure cY (u:bt):Prop where
 named:fR u=true
 bw:∀g∈u.bw,eI u g
theorem jx {u:bt}:iK u=(0,0,0)↔cY u:=by
 unfold iK
 constructor
 ·intro h
  split at h
  ·rename_i hn;exact⟨hn,nZ.1 h⟩
  ·cases h
 ·intro h;rw[if_pos h.named,nZ.2 h.bw]
theorem nM {u:bt} (h:¬cY u):(iK u).1=60:=by
 have h2:=mt jx.1 h
 unfold iK at h2 ⊢
 split
 ·rename_i hn;rw[if_pos hn] at h2;exact qS h2
 ·rfl
open Classical in
noncomputable def CU (u:bt):Bool:=decide (cY u)
open Classical in
theorem nj {u:bt}:CU u=true↔cY u:=by unfold CU;rw[decide_eq_true_eq]
theorem cY.qN {u:bt} (h:cY u):u.shared.length≤64∧u.cC.length≤16∧u.bw.length≤8:=by
 have:=h.named
 unfold fR at this
 simp only[Bool.and_eq_true,decide_eq_true_eq] at this
 exact⟨this.1.1.1.1,this.1.1.1.2,this.1.1.2⟩
theorem cY.gr {u:bt} (h:cY u) {t:Nat} (ht:t<u.bw.length):eI u (u.gr t):=h.bw _ (cQ default ht)
theorem XM {u:bt} {g:cD} (hg:eI u g) {lk:Nat→List Int} (hlk:PL g lk):∀i:Int,lN g (-1) i→∀k∈lk i.toNat,0≤k∧k<u.cC.length:=by
 have hw:=hg.whole
 have hin:∀i:Int,lN g (-1) i→0≤i∧i.toNat<g.nodes.length:=fun i hi=>by
  induction hi with
  |zero=>exact⟨by omega,by have:=hw.1;simp;omega⟩
  |@step i k _ _ hk ih=>
   exact(hw.2.2 i.toNat ih.2).2.2 k hk
 intro i hi
 induction hi with
 |zero=>intro k hk;rw[show(0:Int).toNat=0 by rfl,hlk.zero] at hk;simp at hk
 |@step i j hi hc hj ih=>
  obtain⟨now,h1,h2⟩:=hlk.on i hi
  have hn:=hg.node (hin i hi).2
  rw[h2 j hj]
  intro k hk
  unfold dj at h1
  split at h1
  ·rename_i h5
   cases h1
   rcases List.mem_append.1 hk with hk|hk
   ·exact ih k hk
   ·simp only[List.mem_cons,List.not_mem_nil,or_false] at hk
    subst hk
    have:=hn.cO.1 (by unfold fp;exact decide_eq_true (by omega))
    rw[if_pos (.inl h5)] at this
    exact this
  ·split at h1
   ·split at h1
    ·cases h1
     exact ih k (List.dropLast_subset _ hk)
    ·cases h1
   ·split at h1
    ·split at h1
     ·cases h1;exact ih k hk
     ·cases h1
    ·cases h1;exact ih k hk
theorem EC {u:bt} {g:cD} (hg:eI u g) (i:Nat):∀k∈(eJ g).1.getD i [],0≤k∧k<u.cC.length:=by
 obtain⟨h1,h2,h3,h4⟩:=kG hg.whole hg.held
 by_cases hi:i<g.nodes.length
 ·by_cases hc:lN g (-1) i
  ·exact XM hg h3 i hc
  ·rw[h4 i hi hc];intro k hk;simp at hk
 ·rw[List.getD,List.getElem?_eq_none (by omega)];intro k hk;simp at hk
end Go.Proofs.YtjopoheligmmoaaGreatDoor
end
section
/- Is a unit right? The walk. -/
namespace Go.Proofs.YtjopoheligmmoaaGreatDoor
open Go Go.cX Go.Proofs
set_option linter.unusedSimpArgs false
set_option linter.unusedVariables false
theorem BJ {α:Type} {p:α→Bool} {l:List α} (d:α) {i:Nat} (h:fc p (l.drop i) i=fc p l 0) (hi:i<l.length):fc p l 0=if p (l.getD i d)=true then fc p (l.drop (i+1)) (i+1) else some i:=by
 rw[←h,xX p l d hi]
theorem vh {u:bt} {l:List cD} {t:Nat} (h:t<l.length):fN u (l.drop t) t=match nY u (l.getD t default) with
 |some k=>(60,(t:Int),k)
 |none=>fN u (l.drop (t+1)) (t+1):=by
 rw[List.drop_eq_getElem_cons h,fN,gd h];rfl
theorem vT {u:bt} (h:fR u=false):iK u=(60,0,0):=by unfold iK;rw[if_neg (by rw[h];decide)]
abbrev vS (r:Int×Int×Int):AV:= .dP [i64 r.1,i64 r.2.1,i64 r.2.2]
set_option maxHeartbeats 4000000 in
theorem jB (u:bt) (hu:u.Wf):Pure Tryz.prog 35 [u.av] (fun r=>r=vS (iK u)):=by
 refine aI M8 rfl ?_
 have hnp:=B8 u hu
 cases hnm:fR u with
 |false=>
  rw[hnm] at hnp
  rw[vT hnm]
  repeat' (first|((with_reducible refine aF ?_);conv=>whnf)|refine aG ?_|exact gB|with_reducible refine aD ?_ ?_|((with_reducible refine Ask.mk ?_);first|exact dv|exact dA|(intro h;simp_all[bt.cells]<;>fail)|(simp_all[bt.cells]<;>fail))|(apply aB;(·exact cN))|refine aK (hnp) ?_|refine aH ?_|((with_reducible refine aA ?_ ?_)<;>intro hc<;>(try simp only[List.length_map,ne_eq,dX] at hc)<;>try(exfalso;omega)))
  exact rfl
 |true=>
  rw[hnm] at hnp
  have hck:iK u=fN u u.bw 0:=by unfold iK;rw[if_pos hnm]
  rw[hck]
  have hgl:u.bw.length≤8:=by
   have:=hnm
   unfold fR at this
   simp only[Bool.and_eq_true,decide_eq_true_eq] at this
   exact this.1.1.2
  repeat' (first|((with_reducible refine aF ?_);conv=>whnf)|refine aG ?_|exact gB|with_reducible refine aD ?_ ?_|((with_reducible refine Ask.mk ?_);first|exact dv|exact dA|(intro h;simp_all[bt.cells]<;>fail)|(simp_all[bt.cells]<;>fail))|(apply aB;(·exact cN))|refine aK (hnp) ?_|refine aH ?_|((with_reducible refine aA ?_ ?_)<;>intro hc<;>(try simp only[List.length_map,ne_eq,dX] at hc)<;>try(exfalso;omega)))
  simp only[List.length_map]
  refine aL (fun t:Nat=>[(1, .pt 0 1 0 0),(15,db u.bw),(16,i64 u.bw.length),(17,i64 t)])
   (fun t H n=>t≤u.bw.length∧1≤n∧(∃d,br H 0=some (.row 25 3 d [u.av]))∧fN u (u.bw.drop t) t=fN u u.bw 0) (fun t=>u.bw.length - t) 0 cF ⟨Nat.zero_le _,cZ,⟨_,bu⟩,rfl⟩ ?_
  rintro t H n ⟨ht,hn,⟨d0,r0⟩,hF⟩
  by_cases htl:t<u.bw.length
  ·have hg:=hu.bw _ (cQ default htl)
   rw[vh htl] at hF
   have eg:=fun d=>sC htl d
   generalize hG:u.bw.getD t default=g at *
   have hl:=hg.len
   unfold nY at hF
   by_cases hb:g.locals<0∨g.locals>64∨g.bx<g.locals∨g.bx>4160∨g.nodes.length<1∨g.nodes.length>4096
   ·rw[if_pos hb] at hF
    rw[←hF]
    repeat' (first|((with_reducible refine aF ?_);conv=>whnf)|refine aG ?_|exact gB|with_reducible refine aD ?_ ?_|((with_reducible refine Ask.mk ?_);first|exact dv|exact dA|(intro h;simp_all[bt.cells,cD.cells]<;>fail)|(simp_all[bt.cells,cD.cells]<;>fail))|(apply aB;(·(first|exact eg _|exact cN)))|refine aH ?_|((with_reducible refine aA ?_ ?_)<;>intro hc<;>(try simp only[List.length_map,ne_eq,dX] at hc)<;>try(exfalso;omega)))
    all_goals first|exact rfl|(exfalso;omega)
   ·rw[if_neg hb] at hF
    repeat' (first|((with_reducible refine aF ?_);conv=>whnf)|refine aG ?_|exact gB|with_reducible refine aD ?_ ?_|((with_reducible refine Ask.mk ?_);first|exact dv|exact dA|(intro h;simp_all[bt.cells,cD.cells]<;>fail)|(simp_all[bt.cells,cD.cells]<;>fail))|(apply aB;(·(first|exact eg _|exact cN)))|refine aH ?_|((with_reducible refine aA ?_ ?_)<;>intro hc<;>(try simp only[List.length_map,ne_eq,dX] at hc)<;>try(exfalso;omega)))
    simp only[List.length_map]
    clear hnp
    refine aL (fun i:Nat=>[(1, .pt 0 1 0 0),(5,i64 t),(6, .pt (n+4) 1 0 0),(15,db u.bw),(16,i64 u.bw.length),(17,i64 t),(56,iW g.nodes),(57,i64 g.nodes.length),(58,i64 i)])
     (fun i H2 n2=>i≤g.nodes.length∧n+5≤n2∧(∃d,br H2 0=some (.row 25 3 d [u.av]))∧(∃d,br H2 (n+4)=some (.row 60 4 d [g.av]))∧fc (lj u g) (g.nodes.drop i) i=fc (lj u g) g.nodes 0) (fun i=>g.nodes.length - i) 0 cF ⟨Nat.zero_le _,cZ,⟨_,bu⟩,⟨_,bu⟩,rfl⟩ ?_
    clear r0
    rintro i H2 n2 ⟨hi,hn2,⟨d02,r0⟩,⟨d4,r4⟩,hfst⟩
    by_cases hil:i<g.nodes.length
    ·have hp:=CV u g (g.nodes.getD i default) (hg.nodes _ (cQ default hil))
     have en:=fun d=>j4 hil d
     have hfst2:=BJ default hfst hil
     cases hnb:lj u g (g.nodes.getD i default) with
     |false=>
      rw[hnb] at hp
      rw[if_neg (by rw[hnb];decide)] at hfst2
      rw[hfst2] at hF
      rw[←hF]
      repeat' (first|((with_reducible refine aF ?_);conv=>whnf)|refine aG ?_|exact gB|with_reducible refine aD ?_ ?_|((with_reducible refine Ask.mk ?_);first|exact dv|exact dA|(intro h;simp_all[bt.cells,cD.cells,Node.cells]<;>fail)|(simp_all[bt.cells,cD.cells,Node.cells]<;>fail))|(apply aB;(·(first|exact en _|exact cN)))|refine aK (hp) ?_|refine aH ?_|((with_reducible refine aA ?_ ?_)<;>intro hc<;>(try simp only[List.length_map,ne_eq,dX] at hc)<;>try(exfalso;omega)))
      exact rfl
     |true=>
      rw[hnb] at hp
      rw[if_pos hnb] at hfst2
      repeat' (first|((with_reducible refine aF ?_);conv=>whnf)|refine aG ?_|exact gB|with_reducible refine aD ?_ ?_|((with_reducible refine Ask.mk ?_);first|exact dv|exact dA|(intro h;simp_all[bt.cells,cD.cells,Node.cells]<;>fail)|(simp_all[bt.cells,cD.cells,Node.cells]<;>fail))|(apply aB;(·(first|exact en _|exact cN)))|refine aK (hp) ?_|refine aH ?_|((with_reducible refine aA ?_ ?_)<;>intro hc<;>(try simp only[List.length_map,ne_eq,dX] at hc)<;>try(exfalso;omega)))
      exact⟨i+1,by omega,cF,by omega,cZ,⟨_,bu⟩,⟨_,bu⟩,hfst2.symm⟩
    ·have:i=g.nodes.length:=by omega
     subst this
     rw[BI _ _ (Nat.le_refl _)] at hfst
     rw[←hfst] at hF
     dsimp only at hF
     have hok:Whole g:=zx (u:=u) (by omega) fun m hm=>px.1 (jV.1 hfst.symm m hm)
     have hh:=uT g hg hok
     unfold pd at hh
     by_cases hb2:0≤(eJ g).2
     ·rw[if_pos hb2] at hF
      rw[←hF]
      repeat' (first|((with_reducible refine aF ?_);conv=>whnf)|refine aG ?_|exact gB|with_reducible refine aD ?_ ?_|((with_reducible refine Ask.mk ?_);first|exact dv|exact dA|(intro h;simp_all[bt.cells,cD.cells]<;>fail)|(simp_all[bt.cells,cD.cells]<;>fail))|(apply aB;(·exact cN))|refine aK (hh) ?_|refine aH ?_|((with_reducible refine aA ?_ ?_)<;>intro hc<;>(try simp only[List.length_map,ne_eq,dX] at hc)<;>try(exfalso;omega)))
      exact rfl
     ·rw[if_neg hb2] at hF
      repeat' (first|((with_reducible refine aF ?_);conv=>whnf)|refine aG ?_|exact gB|with_reducible refine aD ?_ ?_|((with_reducible refine Ask.mk ?_);first|exact dv|exact dA|(intro h;simp_all[bt.cells,cD.cells]<;>fail)|(simp_all[bt.cells,cD.cells]<;>fail))|(apply aB;(·exact cN))|refine aK (hh) ?_|refine aH ?_|((with_reducible refine aA ?_ ?_)<;>intro hc<;>(try simp only[List.length_map,ne_eq,dX] at hc)<;>try(exfalso;omega)))
      exact⟨t+1,by omega,cF,by omega,by omega,⟨_,bu⟩,hF⟩
  ·have:t=u.bw.length:=by omega
   subst this
   rw[List.drop_eq_nil_of_le (Nat.le_refl _),fN] at hF
   rw[←hF]
   repeat' (first|((with_reducible refine aF ?_);conv=>whnf)|refine aG ?_|exact gB|with_reducible refine aD ?_ ?_|((with_reducible refine Ask.mk ?_);first|exact dv|exact dA|(intro h;simp_all[bt.cells]<;>fail)|(simp_all[bt.cells]<;>fail))|(apply aB;(·exact cN))|refine aH ?_|((with_reducible refine aA ?_ ?_)<;>intro hc<;>(try simp only[List.length_map,ne_eq,dX] at hc)<;>try(exfalso;omega)))
   exact rfl
end Go.Proofs.YtjopoheligmmoaaGreatDoor
end
