import Derived.Test.YtflicfkgbjmffaaGreatM28
section
/- A step of the machine, gathered. -/
namespace Go.Proofs.YtflicfkgbjmffaaGreat
open Go Go.Abs Go.Proofs V
set_option linter.unusedSimpArgs false
set_option linter.unusedVariables false
section
variable {m nc:Nat} {F:List Int} {g:GS} {τ κ:Nat→Nat} {now:Nat} {s s2:Mach} {q:Nat} {d:DidS}
def Next (m nc:Nat) (F:List Int) (g:GS) (τ κ:Nat→Nat) (now:Nat) (s2:Mach) (g2:GS) (τ2 κ2:Nat→Nat):Prop :=
 GI m nc F g2 τ2 κ2 (now + 1)∧ML m nc F s2 g2∧g.ev.length ≤ g2.ev.length∧g2.ev.length ≤ g.ev.length + 1∧(∀ i,i < g.ev.length→g2.e i = g.e i∧g2.f i = g.f i∧τ2 i = τ i)∧(∀ i,i < g.ev.length→Came g i→κ2 i = κ i) ∧
  (∀ i,i < g2.ev.length→g.ev.length ≤ i→τ2 i = now)∧(∀ i,i < g2.ev.length→Came g2 i→(i < g.ev.length∧Came g i) ∨ κ2 i = now)
theorem core_of (ml:ML m nc F s g) (hd:Does s q d s2):q < nc∧d.core.toNat = q:=⟨ml.nco ▸ hd.lt,by rw [hd.core];exact Int.toNat_natCast q⟩
theorem next_same (h:GI m nc F g τ κ now) (ml:ML m nc F s g) (hd:Does s q d s2) (hl:s2.cores.length = s.cores.length) (hk:d.kind = 1 ∨ d.kind = 7):Next m nc F g τ κ now s2 g τ κ:=by
 refine ⟨h.later (by omega),⟨?_,hl.trans ml.nco,fun c hc => ?_,fun t ht => ?_,ml.k2⟩,Nat.le_refl _,by omega,fun i _ => ⟨rfl,rfl,rfl⟩,fun _ _ _ => rfl,fun i h1 h2 => by omega,fun i h1 h2 => .inl ⟨h1,h2⟩⟩
 ·rw [hd.mem,if_neg (by omega),if_neg (by omega)];exact ml.nm
 ·by_cases hcq:c = q
  ·rw [hcq,hd.buf,if_neg (by omega),if_neg (by omega)];exact ml.buf q (hcq ▸ hc)
  ·rw [hd.other c hcq];exact ml.buf c hc
 ·rw [hd.mem,if_neg (by omega),if_neg (by omega)];exact ml.mem t ht
theorem next_add (h:GI m nc F g τ κ now) (ml:ML m nc F s g) (hd:Does s q d s2) (hl:s2.cores.length = s.cores.length) {D:Deed} {f:Int} (p:PutOk m nc F g D f) (hD:D.thread = q) (h4:d.kind ≠ 4) (h8:d.kind ≠ 8)
  (hw:D.wr = true ↔ d.kind = 3) (h3:d.kind = 3→D.thing = d.addr∧D.put = d.word∧D.kind = 2):Next m nc F g τ κ now s2 (g.add D f) (fun i => if i = g.ev.length then now else τ i) κ:=by
 obtain ⟨hq,hdc⟩:=core_of ml hd
 have hq2:D.thread.toNat < g.q.length:=by rw [h.lq];omega
 have hE:∀ i,i < g.ev.length→(g.add D f).e i = g.e i:=fun i hi => add_e hi
 have hwm:∀ c,(g.add D f).w c = if D.wr = true∧c = D.thread.toNat then g.w c ++ [(g.ev.length:Int)] else g.w c:=fun c => add_w hq2
 have hmap:∀ c,c < nc→(g.w c).map (fun k => (((g.add D f).e k.toNat).thing,((g.add D f).e k.toNat).put)) = (g.w c).map (fun k => ((g.e k.toNat).thing,(g.e k.toNat).put)):=fun c hc =>
  List.map_congr_left fun k hk => by rw [hE _ (h.q c hc k hk).2.1]
 refine ⟨h.add p,⟨?_,hl.trans ml.nco,fun c hc => ?_,fun t ht => ?_,fun c hc k hk => ?_⟩,by rw [add_len];omega,by rw [add_len];exact Nat.le_refl _,fun i hi => ⟨hE i hi,gD_app _ (by rw [h.lf];exact hi),if_neg (by omega)⟩,fun _ _ _ => rfl,fun i h1 h2 => ?_,fun i h1 h2 => ?_⟩
 ·rw [hd.mem,if_neg h4,if_neg h8];exact ml.nm
 ·rw [hwm]
  by_cases hcq:c = q
  ·subst hcq
   rw [hd.buf,if_neg h8]
   by_cases hk3:d.kind = 3
   ·obtain ⟨e1,e2,e3⟩:=h3 hk3
    rw [if_pos hk3,if_pos ⟨hw.2 hk3,by omega⟩,List.map_append,List.map_append,hmap c hc,ml.buf c hc]
    simp only [List.map_cons,List.map_nil,Int.toNat_natCast]
    rw [add_n,e1,e2]
   ·rw [if_neg hk3,if_neg (fun hx => hk3 (hw.1 hx.1)),hmap c hc,ml.buf c hc]
  ·rw [hd.other c hcq,if_neg (fun hx => hcq (by omega)),hmap c hc]
   exact ml.buf c hc
 ·rw [hd.mem,if_neg h4,if_neg h8,ml.mem t ht]
  show _ = if g.l t = -1 then _ else ((g.add D f).e (g.l t).toNat).put
  rcases h.lastIn ht with ⟨b1,_⟩|⟨b1,b2,_⟩
  ·rw [if_pos b1,if_pos b1]
  ·rw [if_neg (by omega),if_neg (by omega),hE _ (h.aft t ht _ b2).2.1]
 ·rw [hwm] at hk
  split at hk
  ·rename_i hx
   rcases List.mem_append.1 hk with hk|hk
   ·rw [hE _ (h.q c hc k hk).2.1];exact ml.k2 c hc k hk
   ·simp only [List.mem_singleton] at hk
    subst hk
    rw [Int.toNat_natCast,add_n]
    exact (h3 (hw.1 hx.1)).2.2
  ·rw [hE _ (h.q c hc k hk).2.1];exact ml.k2 c hc k hk
 ·rw [add_len] at h1
  exact if_pos (by omega)
 ·rw [add_len] at h1
  by_cases hin:i = g.ev.length
  ·subst hin;exact absurd h2 (add_new h p.ev p.kd)
  ·exact .inl ⟨by omega,(add_came h (by omega)).1 h2⟩
theorem list_set_getD {α:Type} {l:List α} {i:Nat} {d v:α} (hi:i < l.length) (h:l.getD i d = v):l.set i v = l:=by
 have:l.getD i d = l[i]:=by simp [List.getD,hi]
 rw [← h,this,List.set_getElem_self]
theorem nil_map {α β γ:Type} {f:α→γ} {g:β→γ} {l:List α} {m:List β} (h:l.map f = m.map g) (hl:l = []):m = []:=by
 rw [hl] at h
 exact List.map_eq_nil_iff.1 h.symm
theorem putRd {c a w f:Int} (h8:nc ≤ 8) (hc:0 ≤ c∧c < nc) (ha:0 ≤ a∧a < m) (hr:(∃ w':Nat,f = w'∧(w':Int) ∈ g.w c.toNat∧(g.e w').thing = a∧(g.e w').put = w∧∀ k ∈ g.w c.toNat,(g.e k.toNat).thing = a→k ≤ w') ∨ (f = g.l a.toNat∧(∀ k ∈ g.w c.toNat,(g.e k.toNat).thing ≠ a)∧w = if f = -1 then F.getD a.toNat 0 else (g.e f.toNat).put)):PutOk m nc F g ⟨1,c,a,w,0⟩ f where
 ev:=evOk_mk (show (1:Int) ≠ 0 by decide) (show (1:Int) < 5 by decide) hc.1 (show c < 8 by omega) (.inl (by simp [Deed.rd])) (.inr rfl) (fun h => absurd (show (1:Int) = 4 from h) (by decide)) (fun _ => ha)
 kd:=show (1:Int) ≤ 1 by decide
 thr:=hc.2
 wait:=fun hx => absurd (show (1:Int) = 3 ∨ (1:Int) = 4 from hx) (by decide)
 nrd:=fun hx => by simp [Deed.rd] at hx
 rd:=fun _ => hr.imp (fun hx => ⟨rfl,hx⟩) id
theorem putWr {c a w:Int} (h8:nc ≤ 8) (hc:0 ≤ c∧c < nc) (ha:0 ≤ a∧a < m):PutOk m nc F g ⟨2,c,a,0,w⟩ (-1) where
 ev:=evOk_mk (show (2:Int) ≠ 0 by decide) (show (2:Int) < 5 by decide) hc.1 (show c < 8 by omega) (.inr rfl) (.inl (by simp [Deed.wr])) (fun h => absurd (show (2:Int) = 4 from h) (by decide)) (fun _ => ha)
 kd:=show (1:Int) ≤ 2 by decide
 thr:=hc.2
 wait:=fun hx => absurd (show (2:Int) = 3 ∨ (2:Int) = 4 from hx) (by decide)
 nrd:=fun _ => rfl
 rd:=fun hx => by simp [Deed.rd] at hx
theorem putSw {c a w p:Int} (h8:nc ≤ 8) (hc:0 ≤ c∧c < nc) (ha:0 ≤ a∧a < m) (h0:g.w c.toNat = []) (hr:w = if g.l a.toNat = -1 then F.getD a.toNat 0 else (g.e (g.l a.toNat).toNat).put):PutOk m nc F g ⟨3,c,a,w,p⟩ (g.l a.toNat) where
 ev:=evOk_mk (show (3:Int) ≠ 0 by decide) (show (3:Int) < 5 by decide) hc.1 (show c < 8 by omega) (.inl (by simp [Deed.rd])) (.inl (by simp [Deed.wr])) (fun h => absurd (show (3:Int) = 4 from h) (by decide)) (fun _ => ha)
 kd:=show (1:Int) ≤ 3 by decide
 thr:=hc.2
 wait:=fun _ => h0
 nrd:=fun hx => by simp [Deed.rd] at hx
 rd:=fun _ => .inr ⟨rfl,⟨fun k (hk:k ∈ g.w c.toNat) => (by rw [h0] at hk;cases hk),hr⟩⟩
theorem putFe {c:Int} (h8:nc ≤ 8) (hc:0 ≤ c∧c < nc) (h0:g.w c.toNat = []):PutOk m nc F g ⟨4,c,0,0,0⟩ (-1) where
 ev:=evOk_mk (show (4:Int) ≠ 0 by decide) (show (4:Int) < 5 by decide) hc.1 (show c < 8 by omega) (.inr rfl) (.inr rfl) (fun _ => rfl) (fun h => absurd rfl h)
 kd:=show (1:Int) ≤ 4 by decide
 thr:=hc.2
 wait:=fun _ => h0
 nrd:=fun _ => rfl
 rd:=fun hx => by simp [Deed.rd] at hx
theorem did_next (h:GI m nc F g τ κ now) (ml:ML m nc F s g) (h8:nc ≤ 8) (hd:Does s q d s2) (hl:s2.cores.length = s.cores.length):∃ τ2 κ2,Next m nc F g τ κ now s2 (g.did d) τ2 κ2:=by
 obtain ⟨hq,hdc⟩:=core_of ml hd
 have hkd:=hd.kind
 have had:=hd.addr
 have hbq:=ml.buf q hq
 rw [ml.nm] at had
 have hcore:=hd.core
 by_cases k2:d.kind = 2
 ·have hld:=hd.load k2
  have ha:=had (by omega)
  have hat:d.addr.toNat < m:=by omega
  have e:g.did d = g.add ⟨1,d.core,d.addr,d.word,0⟩ (g.seen d):=by
   rw [GS.did,if_pos k2,GS.add,if_neg (by simp [Deed.wr])];rfl
  rw [e]
  refine ⟨_,_,next_add h ml hd hl (putRd h8 (by omega) ha ?_) hcore (by omega) (by omega) ?_ (fun hx => by omega)⟩
  ·show (∃ w:Nat,g.seen d = w∧(w:Int) ∈ g.w d.core.toNat∧(g.e w).thing = d.addr∧(g.e w).put = d.word∧∀ k ∈ g.w d.core.toNat,(g.e k.toNat).thing = d.addr→k ≤ w) ∨ (g.seen d = g.l d.addr.toNat∧(∀ k ∈ g.w d.core.toNat,(g.e k.toNat).thing ≠ d.addr)∧d.word = if g.seen d = -1 then F.getD d.addr.toNat 0 else (g.e (g.seen d).toNat).put)
   rw [hdc]
   unfold GS.seen
   rw [hdc]
   rcases seen_own g.ev d.addr (s.core q).buf (g.w q) (s.mem.getD d.addr.toNat 0) false (g.l d.addr.toNat) hbq with ⟨b1,b2,b3⟩|⟨k,hk,b1,b2,b3,b4⟩
   ·rw [b1] at hld
    obtain ⟨e1,e2⟩:=Prod.mk.inj hld
    rw [e2,if_neg (by decide)]
    refine .inr ⟨rfl,b3,?_⟩
    rw [e1];exact ml.mem _ hat
   ·rw [b1] at hld
    obtain ⟨e1,e2⟩:=Prod.mk.inj hld
    rw [e2,if_pos rfl,b2]
    have hk0:=(h.q q hq k hk).1
    refine .inl ⟨k.toNat,(Int.toNat_of_nonneg hk0).symm,by rw [Int.toNat_of_nonneg hk0];exact hk,b3,e1.symm,fun k' hk' he => ?_⟩
    rw [Int.toNat_of_nonneg hk0]
    exact b4 (h.qs q hq) k' hk' he
  ·exact ⟨fun hx => by simp [Deed.wr] at hx,fun hx => by omega⟩
 by_cases k3:d.kind = 3
 ·have ha:=had (by omega)
  have e:g.did d = g.add ⟨2,d.core,d.addr,0,d.word⟩ (-1):=by
   rw [GS.did,if_neg k2,if_pos k3,GS.add,if_pos (by simp [Deed.wr])]
  rw [e]
  exact ⟨_,_,next_add h ml hd hl (putWr h8 (by omega) ha) hcore (by omega) (by omega) ⟨fun _ => k3,fun _ => by simp [Deed.wr]⟩ (fun _ => ⟨rfl,rfl,rfl⟩)⟩
 by_cases k4:d.kind = 4
 ·have ha:=had (by omega)
  have hat:d.addr.toNat < m:=by omega
  have hw0:g.w q = []:=nil_map hbq (hd.wait (.inl k4))
  have hsw:=hd.swap k4
  have p:PutOk m nc F g ⟨3,d.core,d.addr,d.word,d.put⟩ (g.l d.addr.toNat):=putSw h8 (by omega) ha (by rw [hdc];exact hw0) (by rw [hsw];exact ml.mem _ hat)
  have hg:=h.add p
  have hq2:d.core.toNat < g.q.length:=by rw [h.lq];omega
  have hwq:(g.add ⟨3,d.core,d.addr,d.word,d.put⟩ (g.l d.addr.toNat)).w q = (g.ev.length:Int) :: []:=by
   rw [add_w hq2,if_pos ⟨by simp [Deed.wr],hdc.symm⟩,hw0];rfl
  have hN:(g.add ⟨3,d.core,d.addr,d.word,d.put⟩ (g.l d.addr.toNat)).e g.ev.length = ⟨3,d.core,d.addr,d.word,d.put⟩:=add_n
  have hL:=@add_len g ⟨3,d.core,d.addr,d.word,d.put⟩ (g.l d.addr.toNat)
  have hcs:∀ i,i < g.ev.length→(Came (g.add ⟨3,d.core,d.addr,d.word,d.put⟩ (g.l d.addr.toNat)) i ↔ Came g i):=fun i hi => add_came h hi
  have hcn:¬ Came (g.add ⟨3,d.core,d.addr,d.word,d.put⟩ (g.l d.addr.toNat)) g.ev.length:=add_new h p.ev p.kd
  obtain ⟨hp,hpc⟩:=hg.pop (c:=q) hq hwq (T:=now) (now':=now + 1) (fun i hi hc => by
    rw [hL] at hi
    by_cases hin:i = g.ev.length
    ·subst hin;exact absurd hc hcn
    ·exact (h.k1 i (by omega) ((hcs i (by omega)).1 hc)).1) (fun i hi hne => by
    rw [hL] at hi
    rw [if_neg hne]
    exact h.t2 i (by omega)) (fun hx => by rw [hN] at hx;cases hx) (fun _ => if_pos rfl) (Nat.le_refl _) (by omega)
  have e:g.did d = (g.add ⟨3,d.core,d.addr,d.word,d.put⟩ (g.l d.addr.toNat)).pop q d.addr.toNat g.ev.length:=by
   rw [GS.did,if_neg k2,if_neg k3,if_pos k4,GS.pop,hwq]
   have e2:(g.add ⟨3,d.core,d.addr,d.word,d.put⟩ (g.l d.addr.toNat)).q.set q [] = g.q:=by
    rw [GS.add,if_pos (by simp [Deed.wr])]
    show (g.q.set d.core.toNat _).set q [] = g.q
    rw [hdc,List.set_set]
    exact list_set_getD (d:=[]) (by rw [← hdc];exact hq2) hw0
   rw [List.tail_cons,e2]
   rfl
  rw [hN] at hp hpc
  rw [e]
  have hE:∀ i,i < g.ev.length→((g.add ⟨3,d.core,d.addr,d.word,d.put⟩ (g.l d.addr.toNat)).pop q d.addr.toNat g.ev.length).e i = g.e i:=fun i hi => add_e (f:=g.l d.addr.toNat) hi
  have hw:∀ c,((g.add ⟨3,d.core,d.addr,d.word,d.put⟩ (g.l d.addr.toNat)).pop q d.addr.toNat g.ev.length).w c = g.w c:=fun c => by rw [← e,GS.did,if_neg k2,if_neg k3,if_pos k4];rfl
  refine ⟨_,_,hp,⟨?_,hl.trans ml.nco,fun c hc => ?_,fun t ht => ?_,fun c hc k hk => ?_⟩,?_,?_,fun i hi => ⟨hE i hi,gD_app _ (by rw [h.lf];exact hi),if_neg (by omega)⟩,fun i hi hc => if_neg (by omega),fun i h1 h2 => ?_,fun i h1 h2 => ?_⟩
  ·rw [hd.mem,if_pos k4,List.length_set];exact ml.nm
  ·rw [hw]
   have hmap:(g.w c).map (fun k => ((((g.add ⟨3,d.core,d.addr,d.word,d.put⟩ (g.l d.addr.toNat)).pop q d.addr.toNat g.ev.length).e k.toNat).thing,(((g.add ⟨3,d.core,d.addr,d.word,d.put⟩ (g.l d.addr.toNat)).pop q d.addr.toNat g.ev.length).e k.toNat).put)) = (g.w c).map (fun k => ((g.e k.toNat).thing,(g.e k.toNat).put)) :=
    List.map_congr_left fun k hk => by rw [hE _ (h.q c hc k hk).2.1]
   rw [hmap]
   by_cases hcq:c = q
   ·rw [hcq,hd.buf,if_neg (by omega),if_neg (by omega)];exact hbq
   ·rw [hd.other c hcq];exact ml.buf c hc
  ·rw [hd.mem,if_pos k4,gD_set (by rw [ml.nm];exact hat)]
   have el:((g.add ⟨3,d.core,d.addr,d.word,d.put⟩ (g.l d.addr.toNat)).pop q d.addr.toNat g.ev.length).l t = if t = d.addr.toNat then (g.ev.length:Int) else g.l t:=gD_set (by show d.addr.toNat < g.last.length;rw [h.ll];exact hat)
   rw [el]
   by_cases htd:t = d.addr.toNat
   ·rw [if_pos htd,if_pos htd,if_neg (by omega),Int.toNat_natCast]
    show _ = ((g.add ⟨3,d.core,d.addr,d.word,d.put⟩ (g.l d.addr.toNat)).e g.ev.length).put
    rw [hN]
   ·rw [if_neg htd,if_neg htd,ml.mem t ht]
    rcases h.lastIn ht with ⟨b1,_⟩|⟨b1,b2,_⟩
    ·rw [if_pos b1,if_pos b1]
    ·rw [if_neg (by omega),if_neg (by omega),hE _ (h.aft t ht _ b2).2.1]
  ·rw [hw] at hk
   rw [hE _ (h.q c hc k hk).2.1];exact ml.k2 c hc k hk
  ·show g.ev.length ≤ (g.ev ++ [_]).length;rw [List.length_append];omega
  ·show (g.ev ++ [_]).length ≤ _;rw [List.length_append];exact Nat.le_refl _
  ·have h1:i < (g.add ⟨3,d.core,d.addr,d.word,d.put⟩ (g.l d.addr.toNat)).ev.length:=h1
   rw [hL] at h1
   exact if_pos (by omega)
  ·have h1:i < (g.add ⟨3,d.core,d.addr,d.word,d.put⟩ (g.l d.addr.toNat)).ev.length:=h1
   rw [hL] at h1
   rcases (hpc i).1 h2 with h3|h3
   ·by_cases hin:i = g.ev.length
    ·subst hin;exact absurd h3 hcn
    ·exact .inl ⟨by omega,(hcs i (by omega)).1 h3⟩
   ·exact .inr (if_pos h3)
 by_cases k5:d.kind = 5 ∨ d.kind = 6
 ·have hw0:g.w q = []:=nil_map hbq (hd.wait (.inr k5))
  have e:g.did d = g.add ⟨4,d.core,0,0,0⟩ (-1):=by
   rw [GS.did,if_neg k2,if_neg k3,if_neg k4,if_pos k5,GS.add,if_neg (by simp [Deed.wr])];rfl
  rw [e]
  exact ⟨_,_,next_add h ml hd hl (putFe h8 (by omega) (by rw [hdc];exact hw0)) hcore (by omega) (by omega) ⟨fun hx => by simp [Deed.wr] at hx,fun hx => by omega⟩ (fun hx => by omega)⟩
 by_cases k8:d.kind = 8
 ·have ha:=had (by omega)
  have hat:d.addr.toNat < m:=by omega
  have hdr:=hd.drain k8
  have hb8:=hd.buf
  rw [if_neg k3,if_pos k8] at hb8
  rw [hdr] at hbq
  cases hwq:g.w q with
  | nil => rw [hwq] at hbq;simp at hbq
  | cons k0 r =>
   rw [hwq] at hbq
   simp only [List.map_cons,List.cons.injEq,Prod.mk.injEq] at hbq
   obtain ⟨⟨e1,e2⟩,e3⟩:=hbq
   obtain ⟨q1,q2,q3,q4⟩:=h.q q hq k0 (by rw [hwq];simp)
   have q5:=ml.k2 q hq k0 (by rw [hwq];simp)
   have hk0:((k0.toNat:Nat):Int) = k0:=Int.toNat_of_nonneg q1
   obtain ⟨hp,hpc⟩:=h.pop (c:=q) (k:=k0.toNat) (r:=r) hq (by rw [hk0];exact hwq) (T:=now) (now':=now + 1) (fun i hi hc => (h.k1 i hi hc).1) (fun i hi _ => h.t2 i hi) (fun _ => h.t2 _ q2) (fun hx => by omega) (by omega) (by omega)
   have e:g.did d = g.pop q (g.e k0.toNat).thing.toNat k0.toNat:=by
    rw [GS.did,if_neg k2,if_neg k3,if_neg k4,if_neg k5,if_pos k8,GS.pop,hdc,hwq,List.headD_cons,hk0,← e1]
   rw [e]
   have hw:∀ c,(g.pop q (g.e k0.toNat).thing.toNat k0.toNat).w c = if c = q then r else g.w c:=fun c => by
    show (g.q.set q (g.w q).tail).getD c [] = _
    rw [gD_set (by rw [h.lq];exact hq),hwq,List.tail_cons]
   have hnk:¬ Came g k0.toNat:=fun hm => by
    have:=h.dis _ q2 hm
    rw [q4,Int.toNat_natCast,hk0,hwq] at this
    simp at this
   refine ⟨_,_,hp,⟨?_,hl.trans ml.nco,fun c hc => ?_,fun t ht => ?_,fun c hc k hk => ?_⟩,Nat.le_refl _,Nat.le_succ _,fun i hi => ⟨rfl,rfl,rfl⟩,fun i hi hc => if_neg (fun hx:i = k0.toNat => hnk (hx ▸ hc)),fun i h1 h2 => ?_,fun i h1 h2 => ?_⟩
   ·rw [hd.mem,if_neg k4,if_pos k8,List.length_set];exact ml.nm
   ·rw [hw]
    by_cases hcq:c = q
    ·rw [if_pos hcq,hcq,hb8];exact e3
    ·rw [if_neg hcq,hd.other c hcq];exact ml.buf c hc
   ·rw [hd.mem,if_neg k4,if_pos k8,gD_set (by rw [ml.nm];exact hat)]
    have el:(g.pop q (g.e k0.toNat).thing.toNat k0.toNat).l t = if t = (g.e k0.toNat).thing.toNat then ((k0.toNat:Nat):Int) else g.l t:=gD_set (by show (g.e k0.toNat).thing.toNat < g.last.length;rw [h.ll,← e1];exact hat)
    rw [el,← e1]
    by_cases htd:t = d.addr.toNat
    ·rw [if_pos htd,if_pos htd,if_neg (by omega),Int.toNat_natCast]
     exact e2
    ·rw [if_neg htd,if_neg htd];exact ml.mem t ht
   ·rw [hw] at hk
    split at hk
    ·exact ml.k2 q hq k (by rw [hwq];exact List.mem_cons_of_mem _ hk)
    ·exact ml.k2 c hc k hk
   ·have h1:i < g.ev.length:=h1;omega
   ·rcases (hpc i).1 h2 with h3|h3
    ·exact .inl ⟨h1,h3⟩
    ·exact .inr (if_pos h3)
 have e:g.did d = g:=by rw [GS.did,if_neg k2,if_neg k3,if_neg k4,if_neg k5,if_neg k8]
 rw [e]
 exact ⟨_,_,next_same h ml hd hl (by omega)⟩
end
end Go.Proofs.YtflicfkgbjmffaaGreat
end
section
/- What was gathered is right and tso; with stores that come at once it is plain. -/
namespace Go.Proofs.YtflicfkgbjmffaaGreat
open Go Go.Abs Go.Proofs V
set_option linter.unusedSimpArgs false
set_option linter.unusedVariables false
def iota (n:Nat):List Int:=(List.range n).map fun (k:Nat) => (k:Int)
theorem iota_mem {n:Nat} {k:Int}:k ∈ iota n ↔ 0 ≤ k∧k < n:=by
 simp only [iota,List.mem_map,List.mem_range]
 constructor
 ·rintro ⟨a,h,rfl⟩;omega
 ·intro h;exact ⟨k.toNat,by omega,by omega⟩
theorem nodup_sub:∀ {l m:List Int},l.Nodup→(∀ a ∈ l,a ∈ m)→l.length ≤ m.length
 | [],_,_,_ => by simp
 | a :: l,m,hn,hs => by
  rw [List.nodup_cons] at hn
  have ha:=hs a List.mem_cons_self
  have h1:=nodup_sub (l:=l) (m:=m.erase a) hn.2 (fun b hb => (List.mem_erase_of_ne (fun e => hn.1 (by rw [← e];exact hb))).2 (hs b (List.mem_cons_of_mem _ hb)))
  rw [List.length_erase_of_mem ha] at h1
  have:=List.length_pos_of_mem ha
  simp only [List.length_cons];omega
def GS.exec (F:List Int) (g:GS):Exec:=⟨F,g.ev,g.frm,g.aft⟩
section
variable {m nc:Nat} {F:List Int} {g:GS} {τ κ:Nat→Nat} {now:Nat}
def AllC (nc:Nat) (g:GS):Prop:=∀ c,c < nc→g.w c = []
theorem AllC.came (h:GI m nc F g τ κ now) (hc:AllC nc g) {i:Nat} (hi:i < g.ev.length) (hw:(g.e i).wr = true):Came g i:=by
 rcases h.cov i hi hw with h1|h1
 ·exact h1
 ·rw [hc _ (h.thr hi).2] at h1;cases h1
end
end Go.Proofs.YtflicfkgbjmffaaGreat
end
