import Derived.Test.YtjopoheligmmoaaGreatDoorM27
import Derived.Test.YtjopoheligmmoaaGreatDoorM24
section
/- What is so of right units, in plain data. -/
namespace Go.Proofs.YtjopoheligmmoaaGreatDoor
open Go Go.cY Go.Proofs
set_option linter.unusedSimpArgs false
set_option linter.unusedVariables false
def iL (u:bu):Int×Int×Int:=if fS u=true then fO u u.bx 0 else(60,0,0)
structure nJ (u:bu) (g:cE) (n:Node):Prop where
 kind:1≤n.kind∧n.kind<10
 origin:0≤n.origin∧n.origin<4096
 op:(n.kind=1→n.op<19)∧(n.kind≠1→n.op=0)
 slot:(kR n.kind=true→0≤n.slot∧n.slot<g.bz)∧(kR n.kind=false→n.slot=0)
 cP:(fq n.kind=true→0≤n.cP∧n.cP<(if n.kind=5∨n.kind=6 then u.cD.length else u.shared.length:Nat))∧(fq n.kind=false→n.cP=0)
 a:tR n.a (uq n.kind) g.bz=true
 b:tR n.b (decide (n.kind=1)&&dz n.op) g.bz=true
 next:(jQ n.kind=true→0≤n.next∧n.next<g.nodes.length)∧(jQ n.kind=false→n.next=0)
 ri:(n.kind=8→0≤n.ri∧n.ri<g.nodes.length)∧(n.kind≠8→n.ri=0)
theorem OB {n most:Int} {b:Bool}:pz n b most=true↔(b=true→0≤n∧n<most)∧(b=false→n=0):=by
 unfold pz
 cases b<;>simp
theorem py {u:bu} {g:cE} {n:Node}:ll u g n=true↔nJ u g n:=by
 unfold ll
 simp only[Bool.and_eq_true,decide_eq_true_eq,OB,Bool.ite_eq_true_distrib]
 constructor
 ·rintro⟨⟨⟨⟨⟨⟨⟨⟨h1,h2,h3,h4⟩,h5⟩,h6⟩,h7⟩,h8⟩,h9⟩,h10⟩,h11⟩
  refine⟨⟨h1,h2⟩,⟨h3,h4⟩, ?_,h6, ?_,h8,h9,h10, ?_⟩
  ·by_cases h:n.kind=1
   ·rw[if_pos h] at h5;exact⟨fun _=>h5,fun e=>absurd h e⟩
   ·rw[if_neg h] at h5;exact⟨fun e=>absurd e h,fun _=>h5⟩
  ·refine⟨fun e=> ?_,h7.2⟩
   have:=h7.1 e
   split at this<;>rename_i hh
   ·rw[if_pos hh];exact this
   ·rw[if_neg hh];exact this
  ·exact⟨fun e=>h11.1 (by simp[e]),fun e=>h11.2 (by simp[e])⟩
 ·intro h
  refine⟨⟨⟨⟨⟨⟨⟨⟨h.kind.1,h.kind.2,h.origin.1,h.origin.2⟩, ?_⟩,h.slot⟩,⟨fun e=> ?_,h.cP.2⟩⟩,h.a⟩,h.b⟩,h.next⟩, ?_⟩
  ·by_cases e:n.kind=1
   ·rw[if_pos e];exact h.op.1 e
   ·rw[if_neg e];exact h.op.2 e
  ·have:=h.cP.1 e
   split at this<;>rename_i hh
   ·rw[if_pos hh];exact this
   ·rw[if_neg hh];exact this
  ·exact⟨fun e=>h.ri.1 (by simpa using e),fun e=>h.ri.2 (by simpa using e)⟩
theorem jW {α:Type} {p:α→Bool}:∀{l:List α} {i:Nat},fe p l i=none↔∀x∈l,p x=true
 |[],i=>by simp[fe]
 |x::l,i=>by
  rw[fe]
  by_cases h:p x=true
  ·rw[if_pos h,jW];simp[h]
  ·rw[if_neg h];simp[h]
structure eJ (u:bu) (g:cE):Prop where
 locals:0≤g.locals∧g.locals≤64
 bz:g.locals≤g.bz∧g.bz≤4160
 len:1≤g.nodes.length∧g.nodes.length≤4096
 nodes:∀n∈g.nodes,nJ u g n
 held:(eK g).2<0
theorem UW {u:bu} {g:cE} {n:Node} (h:nJ u g n) {k:Int} (hk:k∈n.nz):0≤k∧k<g.nodes.length:=by
 unfold Node.nz at hk
 have hkd:=h.kind
 split at hk
 ·simp at hk
 ·rename_i h9
  have hn:=h.next.1 (by unfold jQ;exact decide_eq_true (by omega))
  split at hk
  ·rename_i h8
   have he:=h.ri.1 h8
   simp only[List.mem_cons,List.not_mem_nil,or_false] at hk
   rcases hk with rfl|rfl
   ·exact hn
   ·exact he
  ·simp only[List.mem_cons,List.not_mem_nil,or_false] at hk
   subst hk;exact hn
theorem zy {u:bu} {g:cE} (hl:1≤g.nodes.length∧g.nodes.length≤4096) (h:∀n∈g.nodes,nJ u g n):Whole g:=
 ⟨hl.1,hl.2,fun i hi=>by
  have hn:=h _ (cR default hi)
  exact⟨hn.kind.1,hn.kind.2,fun k hk=>by have:=UW hn hk;omega⟩⟩
theorem eJ.whole {u:bu} {g:cE} (h:eJ u g):Whole g:=zy h.len h.nodes
theorem eJ.node {u:bu} {g:cE} (h:eJ u g) {i:Nat} (hi:i<g.nodes.length):nJ u g (g.nd i):=h.nodes _ (cR default hi)
theorem qS {u:bu} {g:cE}:nZ u g=none↔eJ u g:=by
 unfold nZ
 constructor
 ·intro h
  split at h
  ·cases h
  ·rename_i h1
   cases hf:fe (ll u g) g.nodes 0 with
   |some i=>rw[hf] at h;cases h
   |none=>
    rw[hf] at h
    simp only at h
    split at h
    ·cases h
    ·rename_i h2
     exact⟨by omega,by omega,by omega,fun n hn=>py.1 (jW.1 hf n hn),by omega⟩
 ·intro h
  have h1:=h.locals
  have h2:=h.bz
  have h3:=h.len
  have h4:=h.held
  rw[if_neg (by omega),jW.2 fun n hn=>py.2 (h.nodes n hn)]
  simp only
  rw[if_neg (by omega)]
theorem na {u:bu}:∀{l:List cE} {t:Nat},fO u l t=(0,0,0)↔∀g∈l,eJ u g
 |[],t=>by simp[fO]
 |g::r,t=>by
  rw[fO]
  cases h:nZ u g with
  |some k=>
   have:¬eJ u g:=fun e=>by rw[qS.2 e] at h;cases h
   simp[this]
  |none=>
   have:=qS.1 h
   simp[na,this]
theorem qT {u:bu}:∀{l:List cE} {t:Nat},fO u l t≠(0,0,0)→(fO u l t).1=60
 |[],t,h=>absurd rfl h
 |g::r,t,h=>by
  rw[fO] at h ⊢
  cases hg:nZ u g with
  |some k=>rfl
  |none=>rw[hg] at h;exact qT h
structure cZ (u:bu):Prop where
 named:fS u=true
 bx:∀g∈u.bx,eJ u g
theorem jy {u:bu}:iL u=(0,0,0)↔cZ u:=by
 unfold iL
 constructor
 ·intro h
  split at h
  ·rename_i hn;exact⟨hn,na.1 h⟩
  ·cases h
 ·intro h;rw[if_pos h.named,na.2 h.bx]
theorem nN {u:bu} (h:¬cZ u):(iL u).1=60:=by
 have h2:=mt jy.1 h
 unfold iL at h2 ⊢
 split
 ·rename_i hn;rw[if_pos hn] at h2;exact qT h2
 ·rfl
open Classical in
noncomputable def CV (u:bu):Bool:=decide (cZ u)
open Classical in
theorem nk {u:bu}:CV u=true↔cZ u:=by unfold CV;rw[decide_eq_true_eq]
theorem cZ.qO {u:bu} (h:cZ u):u.shared.length≤64∧u.cD.length≤16∧u.bx.length≤8:=by
 have:=h.named
 unfold fS at this
 simp only[Bool.and_eq_true,decide_eq_true_eq] at this
 exact⟨this.1.1.1.1,this.1.1.1.2,this.1.1.2⟩
theorem cZ.gr {u:bu} (h:cZ u) {t:Nat} (ht:t<u.bx.length):eJ u (u.gr t):=h.bx _ (cR default ht)
theorem XN {u:bu} {g:cE} (hg:eJ u g) {lk:Nat→List Int} (hlk:PM g lk):∀i:Int,lO g (-1) i→∀k∈lk i.toNat,0≤k∧k<u.cD.length:=by
 have hw:=hg.whole
 have hin:∀i:Int,lO g (-1) i→0≤i∧i.toNat<g.nodes.length:=fun i hi=>by
  induction hi with
  |zero=>exact⟨by omega,by have:=hw.1;simp;omega⟩
  |@step i k _ _ hk ih=>
   exact(hw.2.2 i.toNat ih.2).2.2 k hk
 intro i hi
 induction hi with
 |zero=>intro k hk;rw[show(0:Int).toNat=0 by rfl,hlk.zero] at hk;simp at hk
 |@step i j hi hc hj ih=>
  obtain⟨now,h1,h2⟩:=hlk.on i hi
  have hn:=hg.node (hin i hi).2
  rw[h2 j hj]
  intro k hk
  unfold dn at h1
  split at h1
  ·rename_i h5
   cases h1
   rcases List.mem_append.1 hk with hk|hk
   ·exact ih k hk
   ·simp only[List.mem_cons,List.not_mem_nil,or_false] at hk
    subst hk
    have:=hn.cP.1 (by unfold fq;exact decide_eq_true (by omega))
    rw[if_pos (.inl h5)] at this
    exact this
  ·split at h1
   ·split at h1
    ·cases h1
     exact ih k (List.dropLast_subset _ hk)
    ·cases h1
   ·split at h1
    ·split at h1
     ·cases h1;exact ih k hk
     ·cases h1
    ·cases h1;exact ih k hk
theorem ED {u:bu} {g:cE} (hg:eJ u g) (i:Nat):∀k∈(eK g).1.getD i [],0≤k∧k<u.cD.length:=by
 obtain⟨h1,h2,h3,h4⟩:=kH hg.whole hg.held
 by_cases hi:i<g.nodes.length
 ·by_cases hc:lO g (-1) i
  ·exact XN hg h3 i hc
  ·rw[h4 i hi hc];intro k hk;simp at hk
 ·rw[List.getD,List.getElem?_eq_none (by omega)];intro k hk;simp at hk
end Go.Proofs.YtjopoheligmmoaaGreatDoor
end
section
/- Is a unit right? The walk. -/
namespace Go.Proofs.YtjopoheligmmoaaGreatDoor
open Go Go.cY Go.Proofs
set_option linter.unusedSimpArgs false
set_option linter.unusedVariables false
theorem BK {α:Type} {p:α→Bool} {l:List α} (d:α) {i:Nat} (h:fe p (l.drop i) i=fe p l 0) (hi:i<l.length):fe p l 0=if p (l.getD i d)=true then fe p (l.drop (i+1)) (i+1) else some i:=by
 rw[←h,xY p l d hi]
theorem vi {u:bu} {l:List cE} {t:Nat} (h:t<l.length):fO u (l.drop t) t=match nZ u (l.getD t default) with
 |some k=>(60,(t:Int),k)
 |none=>fO u (l.drop (t+1)) (t+1):=by
 rw[List.drop_eq_getElem_cons h,fO,gd h];rfl
theorem vU {u:bu} (h:fS u=false):iL u=(60,0,0):=by unfold iL;rw[if_neg (by rw[h];decide)]
abbrev vT (r:Int×Int×Int):AV:= .dQ [i64 r.1,i64 r.2.1,i64 r.2.2]
set_option maxHeartbeats 4000000 in
theorem jC (u:bu) (hu:u.Wf):Pure Tryz.prog 35 [u.av] (fun r=>r=vT (iL u)):=by
 refine aI M9 rfl ?_
 have hnp:=B9 u hu
 cases hnm:fS u with
 |false=>
  rw[hnm] at hnp
  rw[vU hnm]
  repeat' (first|((with_reducible refine aF ?_);conv=>whnf)|refine aG ?_|exact gC|with_reducible refine aD ?_ ?_|((with_reducible refine Ask.mk ?_);first|exact dw|exact dB|(intro h;simp_all[bu.cells]<;>fail)|(simp_all[bu.cells]<;>fail))|(apply aB;(·exact cO))|refine aK (hnp) ?_|refine aH ?_|((with_reducible refine aA ?_ ?_)<;>intro hc<;>(try simp only[List.length_map,ne_eq,dY] at hc)<;>try(exfalso;omega)))
  exact rfl
 |true=>
  rw[hnm] at hnp
  have hck:iL u=fO u u.bx 0:=by unfold iL;rw[if_pos hnm]
  rw[hck]
  have hgl:u.bx.length≤8:=by
   have:=hnm
   unfold fS at this
   simp only[Bool.and_eq_true,decide_eq_true_eq] at this
   exact this.1.1.2
  repeat' (first|((with_reducible refine aF ?_);conv=>whnf)|refine aG ?_|exact gC|with_reducible refine aD ?_ ?_|((with_reducible refine Ask.mk ?_);first|exact dw|exact dB|(intro h;simp_all[bu.cells]<;>fail)|(simp_all[bu.cells]<;>fail))|(apply aB;(·exact cO))|refine aK (hnp) ?_|refine aH ?_|((with_reducible refine aA ?_ ?_)<;>intro hc<;>(try simp only[List.length_map,ne_eq,dY] at hc)<;>try(exfalso;omega)))
  simp only[List.length_map]
  refine aL (fun t:Nat=>[(1, .pt 0 1 0 0),(15,dc u.bx),(16,i64 u.bx.length),(17,i64 t)])
   (fun t H n=>t≤u.bx.length∧1≤n∧(∃d,bt H 0=some (.row 25 3 d [u.av]))∧fO u (u.bx.drop t) t=fO u u.bx 0) (fun t=>u.bx.length - t) 0 cG ⟨Nat.zero_le _,c8,⟨_,bw⟩,rfl⟩ ?_
  rintro t H n ⟨ht,hn,⟨d0,r0⟩,hF⟩
  by_cases htl:t<u.bx.length
  ·have hg:=hu.bx _ (cR default htl)
   rw[vi htl] at hF
   have eg:=fun d=>sD htl d
   generalize hG:u.bx.getD t default=g at *
   have hl:=hg.len
   unfold nZ at hF
   by_cases hb:g.locals<0∨g.locals>64∨g.bz<g.locals∨g.bz>4160∨g.nodes.length<1∨g.nodes.length>4096
   ·rw[if_pos hb] at hF
    rw[←hF]
    repeat' (first|((with_reducible refine aF ?_);conv=>whnf)|refine aG ?_|exact gC|with_reducible refine aD ?_ ?_|((with_reducible refine Ask.mk ?_);first|exact dw|exact dB|(intro h;simp_all[bu.cells,cE.cells]<;>fail)|(simp_all[bu.cells,cE.cells]<;>fail))|(apply aB;(·(first|exact eg _|exact cO)))|refine aH ?_|((with_reducible refine aA ?_ ?_)<;>intro hc<;>(try simp only[List.length_map,ne_eq,dY] at hc)<;>try(exfalso;omega)))
    all_goals first|exact rfl|(exfalso;omega)
   ·rw[if_neg hb] at hF
    repeat' (first|((with_reducible refine aF ?_);conv=>whnf)|refine aG ?_|exact gC|with_reducible refine aD ?_ ?_|((with_reducible refine Ask.mk ?_);first|exact dw|exact dB|(intro h;simp_all[bu.cells,cE.cells]<;>fail)|(simp_all[bu.cells,cE.cells]<;>fail))|(apply aB;(·(first|exact eg _|exact cO)))|refine aH ?_|((with_reducible refine aA ?_ ?_)<;>intro hc<;>(try simp only[List.length_map,ne_eq,dY] at hc)<;>try(exfalso;omega)))
    simp only[List.length_map]
    clear hnp
    refine aL (fun i:Nat=>[(1, .pt 0 1 0 0),(5,i64 t),(6, .pt (n+4) 1 0 0),(15,dc u.bx),(16,i64 u.bx.length),(17,i64 t),(56,iX g.nodes),(57,i64 g.nodes.length),(58,i64 i)])
     (fun i H2 n2=>i≤g.nodes.length∧n+5≤n2∧(∃d,bt H2 0=some (.row 25 3 d [u.av]))∧(∃d,bt H2 (n+4)=some (.row 60 4 d [g.av]))∧fe (ll u g) (g.nodes.drop i) i=fe (ll u g) g.nodes 0) (fun i=>g.nodes.length - i) 0 cG ⟨Nat.zero_le _,c8,⟨_,bw⟩,⟨_,bw⟩,rfl⟩ ?_
    clear r0
    rintro i H2 n2 ⟨hi,hn2,⟨d02,r0⟩,⟨d4,r4⟩,hfst⟩
    by_cases hil:i<g.nodes.length
    ·have hp:=CW u g (g.nodes.getD i default) (hg.nodes _ (cR default hil))
     have en:=fun d=>j5 hil d
     have hfst2:=BK default hfst hil
     cases hnb:ll u g (g.nodes.getD i default) with
     |false=>
      rw[hnb] at hp
      rw[if_neg (by rw[hnb];decide)] at hfst2
      rw[hfst2] at hF
      rw[←hF]
      repeat' (first|((with_reducible refine aF ?_);conv=>whnf)|refine aG ?_|exact gC|with_reducible refine aD ?_ ?_|((with_reducible refine Ask.mk ?_);first|exact dw|exact dB|(intro h;simp_all[bu.cells,cE.cells,Node.cells]<;>fail)|(simp_all[bu.cells,cE.cells,Node.cells]<;>fail))|(apply aB;(·(first|exact en _|exact cO)))|refine aK (hp) ?_|refine aH ?_|((with_reducible refine aA ?_ ?_)<;>intro hc<;>(try simp only[List.length_map,ne_eq,dY] at hc)<;>try(exfalso;omega)))
      exact rfl
     |true=>
      rw[hnb] at hp
      rw[if_pos hnb] at hfst2
      repeat' (first|((with_reducible refine aF ?_);conv=>whnf)|refine aG ?_|exact gC|with_reducible refine aD ?_ ?_|((with_reducible refine Ask.mk ?_);first|exact dw|exact dB|(intro h;simp_all[bu.cells,cE.cells,Node.cells]<;>fail)|(simp_all[bu.cells,cE.cells,Node.cells]<;>fail))|(apply aB;(·(first|exact en _|exact cO)))|refine aK (hp) ?_|refine aH ?_|((with_reducible refine aA ?_ ?_)<;>intro hc<;>(try simp only[List.length_map,ne_eq,dY] at hc)<;>try(exfalso;omega)))
      exact⟨i+1,by omega,cG,by omega,c8,⟨_,bw⟩,⟨_,bw⟩,hfst2.symm⟩
    ·have:i=g.nodes.length:=by omega
     subst this
     rw[BJ _ _ (Nat.le_refl _)] at hfst
     rw[←hfst] at hF
     dsimp only at hF
     have hok:Whole g:=zy (u:=u) (by omega) fun m hm=>py.1 (jW.1 hfst.symm m hm)
     have hh:=uU g hg hok
     unfold pe at hh
     by_cases hb2:0≤(eK g).2
     ·rw[if_pos hb2] at hF
      rw[←hF]
      repeat' (first|((with_reducible refine aF ?_);conv=>whnf)|refine aG ?_|exact gC|with_reducible refine aD ?_ ?_|((with_reducible refine Ask.mk ?_);first|exact dw|exact dB|(intro h;simp_all[bu.cells,cE.cells]<;>fail)|(simp_all[bu.cells,cE.cells]<;>fail))|(apply aB;(·exact cO))|refine aK (hh) ?_|refine aH ?_|((with_reducible refine aA ?_ ?_)<;>intro hc<;>(try simp only[List.length_map,ne_eq,dY] at hc)<;>try(exfalso;omega)))
      exact rfl
     ·rw[if_neg hb2] at hF
      repeat' (first|((with_reducible refine aF ?_);conv=>whnf)|refine aG ?_|exact gC|with_reducible refine aD ?_ ?_|((with_reducible refine Ask.mk ?_);first|exact dw|exact dB|(intro h;simp_all[bu.cells,cE.cells]<;>fail)|(simp_all[bu.cells,cE.cells]<;>fail))|(apply aB;(·exact cO))|refine aK (hh) ?_|refine aH ?_|((with_reducible refine aA ?_ ?_)<;>intro hc<;>(try simp only[List.length_map,ne_eq,dY] at hc)<;>try(exfalso;omega)))
      exact⟨t+1,by omega,cG,by omega,by omega,⟨_,bw⟩,hF⟩
  ·have:t=u.bx.length:=by omega
   subst this
   rw[List.drop_eq_nil_of_le (Nat.le_refl _),fO] at hF
   rw[←hF]
   repeat' (first|((with_reducible refine aF ?_);conv=>whnf)|refine aG ?_|exact gC|with_reducible refine aD ?_ ?_|((with_reducible refine Ask.mk ?_);first|exact dw|exact dB|(intro h;simp_all[bu.cells]<;>fail)|(simp_all[bu.cells]<;>fail))|(apply aB;(·exact cO))|refine aH ?_|((with_reducible refine aA ?_ ?_)<;>intro hc<;>(try simp only[List.length_map,ne_eq,dY] at hc)<;>try(exfalso;omega)))
   exact rfl
end Go.Proofs.YtjopoheligmmoaaGreatDoor
end
