import Derived.Test.YtflicfkgbjmffaaGreatM34
section
/- A step of the machine, gathered by the program. -/
namespace Go.Proofs.YtflicfkgbjmffaaGreat
open Go Go.Abs Go.Proofs V
set_option linter.unusedSimpArgs false
set_option linter.unusedVariables false
def overB (g:GS) (d:V.DidS):Bool:=decide (2 ≤ d.kind) && decide (d.kind ≤ 6) && decide (64 ≤ g.ev.length)
def GS.over (g:GS) (d:V.DidS):GS:=if d.kind = 3 then { g with q:=g.q.set d.core.toNat (g.w d.core.toNat ++ [0]) } else g
def stepG (g:GS) (r:StepX):GS × Bool:=if r.2.2 ≠ 0 then (g,false) else if overB g r.2.1 = true then (g.over r.2.1,true) else (g.did r.2.1,false)
theorem stepG_ok (g:GS) (s2:V.Mach) (d:V.DidS):stepG g (s2,d,0) = if overB g d = true then (g.over d,true) else (g.did d,false):=rfl
theorem GRow.machine {o:V.Obj} {s2:V.Mach} {m nc:Nat} {F:List Int} {g:GS} {L:GLay} {many:Bool} {H H':Hp} {nx n lo:Nat} {L':Lay} (h:GRow m nc F g L many H nx) (hM:MAt o s2 L' H' n) (hm:L'.m = L.M.m) (hids:∀ y ∈ L'.ids,y ∈ L.M.ids ∨ lo ≤ y) (hlo:nx ≤ lo) (hf:∀ y ∈ L.own,getH H' y = getH H y) (hn:nx ≤ n) :
  GRow m nc F g { L with M:=L' } many H' n:=by
 have h2:GRow m nc F g L many H' n:=h.keep hf hn
 obtain ⟨d1,h1⟩:=h2.row
 have ap:=(GLay.apart h.nodup).M
 refine ⟨⟨d1,by rw [h1];simp only [gathAv,hm]⟩,h2.fi,h2.ev,h2.fr,h2.la,h2.af,h2.w,h2.lf,h2.lF,h2.laf,h2.lla,h2.lq,fun b hb => ?_,?_⟩
 ·rcases List.mem_append.1 hb with hb|hb
  ·exact Nat.lt_of_lt_of_le (own_lt h b hb) hn
  ·exact hM.lt b hb
 ·refine List.nodup_append.2 ⟨(List.nodup_append.1 h.nodup).1,hM.nodup,fun a ha b hb he => ?_⟩
  have hb:b ∈ L'.ids:=hb
  rcases hids b hb with h3|h3
  ·exact ap a ha b h3 he
  ·have:=own_lt h a ha;omega
structure GOut (o:V.Obj) (m nc:Nat) (F:List Int) (L:GLay) (H:Hp) (nx:Nat) (s2:V.Mach) (g2:GS) (many:Bool) (L':GLay) (H':Hp) (n:Nat):Prop where
 g:L'.g = L.g
 row:GRow m nc F g2 L' many H' n
 M:MAt o s2 L'.M H' n
 le:nx ≤ n
 ids:∀ y ∈ L'.ids,y ∈ L.ids ∨ nx ≤ y
 same:∀ b,b < nx→b ∉ L.ids→getH H' b = getH H b
theorem GOut.of {o:V.Obj} {s2:V.Mach} {m nc:Nat} {F:List Int} {g2:GS} {L L2:GLay} {many:Bool} {H H2:Hp} {nx n:Nat} (hg:L2.g = L.g) (hG:GRow m nc F g2 L2 many H2 n) (hM:MAt o s2 L2.M H2 n) (hn:nx ≤ n) (ho:∀ y ∈ L2.own,y ∈ L.own ∨ nx ≤ y) (hm:∀ y ∈ L2.M.ids,y ∈ L.M.ids ∨ nx ≤ y) (hs:∀ b,b < nx→b ∉ L.ids→getH H2 b = getH H b):GOut o m nc F L H nx s2 g2 many L2 H2 n :=
 ⟨hg,hG,hM,hn,fun y hy => (List.mem_append.1 hy).elim (fun h => (ho y h).imp (List.mem_append_left _) id) (fun h => (hm y h).imp (List.mem_append_right _) id),hs⟩
structure DRaw (o:V.Obj) (m nc:Nat) (F:List Int) (L:GLay) (H:Hp) (nx:Nat) (s2:V.Mach) (g g2:GS) (q:Nat) (L':Lay) (H':Hp) (n:Nat):Prop where
 core:GCore m nc F g2 { L with M:=L' } false H' n
 M:MAt o s2 L' H' n
 le:nx ≤ n
 ids:∀ y ∈ L'.ids,y ∈ L.M.ids ∨ nx ≤ y
 same:∀ b,b < nx→b ∉ L.ids→getH H' b = getH H b
 w:∃ d es,getH H' L.w = some (.row 28 1 d es)∧es = (qRow L.ws (SI g.q)).set q (.sv (L.ws.getD q 0) (g.w q).length 1 ((g.w q).length - 1))
 ws:∀ j,j < g.q.length→getH H' (L.ws.getD j 0) = getH H (L.ws.getD j 0)
 dq:g2.q = g.q.set q ((g.w q).drop 1)
 pos:1 ≤ (g.w q).length
 qn:q < g.q.length
def GPost (o:V.Obj) (m nc:Nat) (F:List Int) (L:GLay) (g:GS) (H:Hp) (nx:Nat) (s2:V.Mach) (gm:GS × Bool):AV→Hp→Nat→Prop:=fun r H' n => r = .tup []∧((∃ L',GOut o m nc F L H nx s2 gm.1 gm.2 L' H' n) ∨ gm.2 = false∧∃ q L',DRaw o m nc F L H nx s2 g gm.1 q L' H' n)
section
variable {o:V.Obj} {s:V.Mach} {m nc:Nat} {F:List Int} {g:GS} {τ κ:Nat→Nat} {now:Nat} {L:GLay} {H:Hp} {nx:Nat}
set_option maxHeartbeats 8000000 in
set_option maxRecDepth 20000 in
theorem gstep_raw (h:GRow m nc F g L false H nx) (hM:MAt o s L.M H nx) (gd:V.Good o s) (ok:V.ObjOk o) (hpl:(s.prints.length + 1) * 16 ≤ 140737488355328) (hi:GI m nc F g τ κ now) (ml:ML m nc F s g) (hbd:g.ev.length ≤ 64) (x:V.StepV) :
  CallN Tryz.prog 11 [.pt L.g 1 0 0,x.av] H nx (GPost o m nc F L g H nx (stepS o s x.kind x.core).1 (stepG g (stepS o s x.kind x.core))):=by
 refine Go.fnL lf11 rfl ?_
 have hown:=own_lt h
 have hids:=h.lt
 have hgo:L.g ∈ L.own:=by simp [GLay.own]
 have hMl:∀ y ∈ L.M.ids,y < nx:=hM.lt
 have hap:=GLay.apart h.nodup
 repeat' (first|((with_reducible refine Go.red ?_);conv => whnf)|refine aGn ?_|exact aCn|with_reducible refine Go.and ?_ ?_|((with_reducible refine Ask.mk ?_);first|exact aAsk|exact aAsk2|(intro h;simp_all [V.StepV.cells] <;> fail)|(simp_all [V.StepV.cells] <;> fail))|(apply Go.elem;(·exact aElem))|refine aH ?_|((with_reducible refine Go.bool ?_ ?_) <;> intro hc <;> (try simp only [List.length_map,ne_eq,hcs] at hc) <;> try (exfalso;omega)))
 refine DrawnW.wildF (I:=fun D fr H' nx' => ∃ θ,VAt opsA D (valA L x.av (stepS o s x.kind x.core) θ) [(3,.pt nx 1 0 0),(0,.pt L.g 1 0 0),(1,x.av)] fr∧HpA o s (stepS o s x.kind x.core) L ((nx,some (.row 49 2 .any [x.av])) :: H) (nx + 1) θ D H' nx')
  (wildA (nb:=nx) (m:=m) (nc:=nc) (n:=g.ev.length) (many:=false) gd ok hpl (by omega) (fun hm => by have:=hMl _ hm;omega) (by have:=hown _ hgo;omega) (fun hm => hap.M _ hgo _ hm rfl) ⟨_,aRow⟩ ?_ rfl rfl) ?_ ?_
 ·obtain ⟨d1,h1⟩:=h.row
  have:=hown _ hgo
  exact ⟨d1,aRow⟩
 ·exact ⟨(L.M,0),⟨fun i _ _ _ hL => (by cases hL),fun t _ => rfl⟩,aNx,fun y hy _ => rfl,fun _ => ⟨rfl,hM.keep aKeep aNx⟩,fun hx => (by cases hx),fun hx => (by cases hx),fun hx => (by cases hx)⟩
 intro D fr' H1 n1 hall ⟨⟨L',b⟩,hv,hh⟩
 have v:=fun (j:Nat) (g':GOp) (t:Nat) (h1:opsA[j]? = some g') (h2:g'.dst = some t) (h3:j < 11) => hv.val j g' t h1 (hall j h3) h2
 have p4:getF fr' 4 = .pt b 1 0 0:=v 9 _ 4 rfl rfl (by decide)
 have p20:getF fr' 20 = i64 (stepS o s x.kind x.core).2.2:=v 8 _ 20 rfl rfl (by decide)
 have p0:getF fr' 0 = .pt L.g 1 0 0:=hv.old 0 (by decide)
 obtain ⟨b1,b2,b3,_⟩:=hh.b (hall 9 (by decide))
 obtain ⟨d4,r4⟩:=hh.c (hall 10 (by decide))
 obtain ⟨hM1,hmv⟩:=hh.m1 (hall 5 (by decide))
 have hn1:=hh.lw
 have hs1:∀ y,y < nx→y ∉ L.M.ids→getH H1 y = getH H y:=fun y hy hym => (hh.same y (by omega) hym).trans (getH_skipEq (by omega))
 have hoM:∀ y ∈ L.own,y ∉ L.M.ids:=fun y hy hm => hap.M y hy y hm rfl
 have hG1:GRow m nc F g { L with M:=L' } false H1 n1:=h.machine hM1 hmv.m hmv.ids (by omega) (fun y hy => hs1 y (hown y hy) (hoM y hy)) (by omega)
 show ∃ f',lessF (putF fr' (some 5) (getF fr' 20)) f'∧_
 refine ⟨[(0,.pt L.g 1 0 0),(4,.pt b 1 0 0),(5,i64 (stepS o s x.kind x.core).2.2)],⟨p0,p4,p20,trivial⟩,?_⟩
 have hids1:∀ y ∈ L'.ids,y ∈ L.M.ids ∨ nx + 1 ≤ y:=hmv.ids
 dsimp only at b1 b2 b3 r4
 clear p0 p4 p20 v hv hh hall hmv
 have hdo:=V.step_does gd ok x.kind x.core
 have hl2:=V.does_len gd ok x.kind x.core
 generalize stepS o s x.kind x.core = r at *
 have hno:∀ b,b ∉ L.ids→b ∉ L.own∧b ∉ L.M.ids:=fun b hb => ⟨fun h => hb (List.mem_append_left _ h),fun h => hb (List.mem_append_right _ h)⟩
 have hids2:∀ y ∈ L'.ids,y ∈ L.M.ids ∨ nx ≤ y:=fun y hy => (hids1 y hy).imp id (fun h => by omega)
 have hoM1:∀ y ∈ L.own,y ∉ L'.ids:=fun y hy hm => (hids1 y hm).elim (hoM y hy) (fun h => by have:=hown y hy;omega)
 have hMl1:=hM1.lt
 cases hdo with
 | bad e he =>
  repeat' (first|((with_reducible refine Go.red ?_);conv => whnf)|refine aG ?_|exact aC|with_reducible refine Go.and ?_ ?_|(apply Go.elem;(·exact aElem))|refine aH ?_|((with_reducible refine Go.bool ?_ ?_) <;> intro hc <;> (try simp only [List.length_map,ne_eq,hcs] at hc) <;> try (exfalso;omega)))
  have e1:stepG g (s,V.did0,e) = (g,false):=by unfold stepG;rw [if_pos (by show e ≠ 0;omega)]
  rw [e1]
  exact ⟨⟨rfl,.inl ⟨{ L with M:=L' },.of rfl (hG1.keep (fun _ _ => aSkip) aNx) (hM1.keep aKeep aNx) aNx (fun y hy => .inl hy) hids2 (fun b hb hbo => (aSkip:_ = getH H1 b).trans (hs1 b hb (hno b hbo).2))⟩⟩⟩
 | idle hk =>
  repeat' (first|((with_reducible refine Go.red ?_);conv => whnf)|refine aG ?_|exact aC|with_reducible refine Go.and ?_ ?_|(apply Go.elem;(·exact aElem))|refine aH ?_|((with_reducible refine Go.bool ?_ ?_) <;> intro hc <;> (try simp only [List.length_map,ne_eq,hcs] at hc) <;> try (exfalso;omega)))
  have e1:stepG g (s,V.did0,0) = (g,false):=by unfold stepG;rfl
  rw [e1]
  refine ⟨⟨rfl,.inl ⟨{ L with M:=L' },.of rfl (hG1.keep (fun y hy => ?_) aNx) (hM1.keep aKeep aNx) aNx (fun y hy => .inl hy) hids2 (fun b hb hbo => (aSkip:_ = getH H1 b).trans (hs1 b hb (hno b hbo).2))⟩⟩⟩
  have:=hown y hy
  exact aSkip
 | does q hq d s2 hd =>
  obtain ⟨hqn,hdc⟩:=core_of ml hd
  have hkd:=hd.kind
  have had:=hd.addr
  have hcore:=hd.core
  have hbq:=ml.buf q hqn
  rw [ml.nm] at had
  have hkeepM:∀ H2 n2,(∀ y,y < n1→y ∉ L.own→y ≠ b→getH H2 y = getH H1 y)→n1 ≤ n2→MAt o s2 L' H2 n2:=fun H2 n2 hf hn => hM1.keepIds (fun y hy => hf y (hMl1 y hy) (fun ho => hoM1 y ho hy) (fun he => b3 (he ▸ hy))) hn
  have hl:L.la ∈ L.own:=by simp [GLay.own]
  obtain ⟨dg,rg⟩:=hG1.row
  obtain ⟨dl,rl⟩:=hG1.la
  have hgl:=hown _ hgo
  have hll:=hown _ hl
  have hgla:=hap.a4
  by_cases k5:d.kind = 5 ∨ d.kind = 6
  ·have e1:(stepG g (s2,d,0)) = if 64 ≤ g.ev.length then (g,true) else (g.put ⟨4,d.core,0,0,0⟩ (-1),false):=by
    rw [stepG_ok,overB,decide_eq_true (by omega:2 ≤ d.kind),decide_eq_true (by omega:d.kind ≤ 6)]
    by_cases hm:64 ≤ g.ev.length
    ·rw [if_pos hm,if_pos (by simpa using hm),GS.over,if_neg (by omega)]
    ·rw [if_neg hm,if_neg (by simpa using hm),GS.did,if_neg (by omega),if_neg (by omega),if_neg (by omega),if_pos k5]
   rw [e1]
   clear hd
   obtain ⟨kind,cr,pc,addr,word,put,own⟩:=d
   simp only at hcore k5 ⊢
   subst hcore
   have fin:∀ (H2:Hp) (n2:Nat) (g2:GS) (mp:Bool),(∀ y,y < n1→y ≠ b→getH H2 y = getH H1 y)→n1 ≤ n2→(∀ H3 n3,Put m nc F { L with M:=L' } H2 n2 g2 mp (.tup []) (.tup []) H3 n3→True):=fun _ _ _ _ _ _ _ _ _ => trivial
   by_cases hm:64 ≤ g.ev.length
   ·rw [if_pos hm]
    rcases k5 with rfl|rfl
    all_goals
     repeat' (first|((with_reducible refine Go.red ?_);conv => whnf)|refine aG ?_|exact aC|with_reducible refine Go.and ?_ ?_|(apply Go.elem;(·exact aElem))|refine aH ?_|((with_reducible refine Go.bool ?_ ?_) <;> intro hc <;> (try simp only [List.length_map,ne_eq,hcs] at hc) <;> try (exfalso;omega)))
     refine Go.callN (put_many (L:={ L with M:=L' }) (hG1.keep (fun y hy => (by have:=hown y hy;exact aSkip)) aNx) hm ⟨4,q,0,0,0⟩ (-1)) ?_
     rintro _ H3 n3 ⟨rfl,hn3,hG3,hf3⟩
     repeat' (first|((with_reducible refine Go.red ?_);conv => whnf)|refine aG ?_|exact aC|with_reducible refine Go.and ?_ ?_|(apply Go.elem;(·exact aElem))|refine aH ?_|((with_reducible refine Go.bool ?_ ?_) <;> intro hc <;> (try simp only [List.length_map,ne_eq,hcs] at hc) <;> try (exfalso;omega)))
     refine ⟨⟨rfl,.inl ⟨{ L with M:=L' },.of rfl (hG3.keep (fun y hy => rfl) aNx) (hkeepM _ _ (fun y hy ho hne => (hf3 y aNx ho).trans aSkip) aNx) aNx (fun y hy => .inl hy) hids2 (fun y hy hyo => ?_)⟩⟩⟩
     obtain ⟨o1,o2⟩:=hno y hyo
     exact (hf3 y aNx o1).trans ((aSkip:_ = getH H1 y).trans (hs1 y hy o2))
   ·rw [if_neg hm]
    rcases k5 with rfl|rfl
    all_goals
     repeat' (first|((with_reducible refine Go.red ?_);conv => whnf)|refine aG ?_|exact aC|with_reducible refine Go.and ?_ ?_|(apply Go.elem;(·exact aElem))|refine aH ?_|((with_reducible refine Go.bool ?_ ?_) <;> intro hc <;> (try simp only [List.length_map,ne_eq,hcs] at hc) <;> try (exfalso;omega)))
     refine Go.callN (put_one (L:={ L with M:=L' }) (hG1.keep (fun y hy => (by have:=hown y hy;exact aSkip)) aNx) (by omega) ⟨4,q,0,0,0⟩ (-1)) ?_
     rintro _ H3 n3 ⟨rfl,hn3,hG3,hf3⟩
     repeat' (first|((with_reducible refine Go.red ?_);conv => whnf)|refine aG ?_|exact aC|with_reducible refine Go.and ?_ ?_|(apply Go.elem;(·exact aElem))|refine aH ?_|((with_reducible refine Go.bool ?_ ?_) <;> intro hc <;> (try simp only [List.length_map,ne_eq,hcs] at hc) <;> try (exfalso;omega)))
     refine ⟨⟨rfl,.inl ⟨{ L with M:=L' },.of rfl (hG3.keep (fun y hy => rfl) aNx) (hkeepM _ _ (fun y hy ho hne => (hf3 y aNx ho).trans aSkip) aNx) aNx (fun y hy => .inl hy) hids2 (fun y hy hyo => ?_)⟩⟩⟩
     obtain ⟨o1,o2⟩:=hno y hyo
     exact (hf3 y aNx o1).trans ((aSkip:_ = getH H1 y).trans (hs1 y hy o2))
  by_cases k1:d.kind = 1 ∨ d.kind = 7
  ·have e1:(stepG g (s2,d,0)) = (g,false):=by
    rw [stepG_ok,overB]
    have:(decide (2 ≤ d.kind) && decide (d.kind ≤ 6) && decide (64 ≤ g.ev.length)) = false:=by
     rcases k1 with h1|h1 <;> rw [h1] <;> rfl
    rw [this,if_neg (by decide),GS.did,if_neg (by omega),if_neg (by omega),if_neg (by omega),if_neg (by omega),if_neg (by omega)]
   rw [e1]
   clear hd
   obtain ⟨kind,cr,pc,addr,word,put,own⟩:=d
   simp only at hcore k1 ⊢
   rcases k1 with rfl|rfl
   all_goals
    repeat' (first|((with_reducible refine Go.red ?_);conv => whnf)|refine aG ?_|exact aC|with_reducible refine Go.and ?_ ?_|(apply Go.elem;(·exact aElem))|refine aH ?_|((with_reducible refine Go.bool ?_ ?_) <;> intro hc <;> (try simp only [List.length_map,ne_eq,hcs] at hc) <;> try (exfalso;omega)))
    refine ⟨⟨rfl,.inl ⟨{ L with M:=L' },.of rfl (hG1.keep (fun y hy => (by have:=hown y hy;exact aSkip)) aNx) (hM1.keep aKeep aNx) aNx (fun y hy => .inl hy) hids2 (fun y hy hyo => (aSkip:_ = getH H1 y).trans (hs1 y hy (hno y hyo).2))⟩⟩⟩
  have hee:∀ t:Nat,t < m→∀ e,(g.last.map i64).getD ((t:Int)).toNat e = i64 (g.l t):=fun t ht e => getD_av i64 _ _ _ (by rw [h.lla];exact ht)
  have hlm:(g.last.map i64).length = m:=by rw [List.length_map,h.lla]
  by_cases k4:d.kind = 4
  ·have ha:=had (by omega)
   have e1:(stepG g (s2,d,0)) = if 64 ≤ g.ev.length then (g,true) else ((g.put ⟨3,d.core,d.addr,d.word,d.put⟩ (g.l d.addr.toNat)).came d.addr.toNat g.ev.length,false):=by
    rw [stepG_ok,overB,decide_eq_true (by omega:2 ≤ d.kind),decide_eq_true (by omega:d.kind ≤ 6)]
    by_cases hm:64 ≤ g.ev.length
    ·rw [if_pos hm,if_pos (by simpa using hm),GS.over,if_neg (by omega)]
    ·rw [if_neg hm,if_neg (by simpa using hm),GS.did,if_neg (by omega),if_neg (by omega),if_pos k4]
   rw [e1]
   clear hd e1
   obtain ⟨kind,cr,pc,addr,word,put,own⟩:=d
   simp only at hcore k4 ha ⊢
   subst hcore k4
   obtain ⟨t,rfl⟩:∃ t:Nat,addr = t:=⟨addr.toNat,by omega⟩
   have htm:t < m:=by omega
   rw [Int.toNat_natCast]
   have hat:=hi.aLen htm
   by_cases hm:64 ≤ g.ev.length
   ·rw [if_pos hm]
    repeat' (first|((with_reducible refine Go.red ?_);conv => whnf)|refine aG ?_|exact aC|with_reducible refine Go.and ?_ ?_|(apply Go.elem;(·(first|exact hee t htm _|exact aElem)))|refine aH ?_|((with_reducible refine Go.bool ?_ ?_) <;> intro hc <;> (try simp only [List.length_map,ne_eq,hcs] at hc) <;> try (exfalso;omega)))
    refine Go.callN (put_many (L:={ L with M:=L' }) (hG1.keep (fun y hy => (by have:=hown y hy;exact aSkip)) aNx) hm ⟨3,q,t,word,put⟩ (g.l t)) ?_
    rintro _ H3 n3 ⟨rfl,hn3,hG3,hf3⟩
    obtain ⟨d3,r3⟩:=hG3.row
    dsimp only at r3
    repeat' (first|((with_reducible refine Go.red ?_);conv => whnf)|refine aG ?_|exact aC|with_reducible refine Go.and ?_ ?_|(apply Go.elem;(·exact aElem))|refine aH ?_|((with_reducible refine Go.bool ?_ ?_) <;> intro hc <;> (try simp only [List.length_map,ne_eq,hcs] at hc) <;> try (exfalso;omega)))
    refine ⟨⟨rfl,.inl ⟨{ L with M:=L' },.of rfl (hG3.keep (fun y hy => (by have h8:=own_lt hG3 y hy;exact aSkip)) aNx) (hkeepM _ _ (fun y hy ho hne => (aSkip:_ = getH H3 y).trans ((hf3 y aNx ho).trans aSkip)) aNx) aNx (fun y hy => .inl hy) hids2 (fun y hy hyo => ?_)⟩⟩⟩
    obtain ⟨o1,o2⟩:=hno y hyo
    exact (aSkip:_ = getH H3 y).trans ((hf3 y aNx o1).trans ((aSkip:_ = getH H1 y).trans (hs1 y hy o2)))
   ·rw [if_neg hm]
    repeat' (first|((with_reducible refine Go.red ?_);conv => whnf)|refine aG ?_|exact aC|with_reducible refine Go.and ?_ ?_|(apply Go.elem;(·(first|exact hee t htm _|exact aElem)))|refine aH ?_|((with_reducible refine Go.bool ?_ ?_) <;> intro hc <;> (try simp only [List.length_map,ne_eq,hcs] at hc) <;> try (exfalso;omega)))
    refine Go.callN (put_one (L:={ L with M:=L' }) (hG1.keep (fun y hy => (by have:=hown y hy;exact aSkip)) aNx) (by omega) ⟨3,q,t,word,put⟩ (g.l t)) ?_
    rintro _ H3 n3 ⟨rfl,hn3,hG3,hf3⟩
    obtain ⟨d3,r3⟩:=hG3.row
    dsimp only at r3
    have hn13:n1 ≤ n3:=Nat.le_trans aNx hn3
    have r43:=(hf3 b aNx (fun ho => (by have:=hown b ho;omega))).trans (aSkip:_ = getH H1 b) |>.trans r4
    repeat' (first|((with_reducible refine Go.red ?_);conv => whnf)|refine aG ?_|exact aC|with_reducible refine Go.and ?_ ?_|(apply Go.elem;(·exact aElem))|refine aH ?_|((with_reducible refine Go.bool ?_ ?_) <;> intro hc <;> (try simp only [List.length_map,ne_eq,hcs] at hc) <;> try (exfalso;omega)))
    refine Go.callN (came_call (L:={ L with M:=L' }) (hG3.keep (fun y hy => (by have h8:=own_lt hG3 y hy;exact aSkip)) aNx) htm g.ev.length (by show (g.aft.getD t []).length < _;have h9:(g.aft.getD t []).length ≤ g.ev.length:=hat;omega)) ?_
    rintro _ H4 n4 ⟨rfl,hn4,hG4,hf4⟩
    have hn34:n3 ≤ n4:=Nat.le_trans aNx hn4
    have hn14:n1 ≤ n4:=by omega
    repeat' (first|((with_reducible refine Go.red ?_);conv => whnf)|refine aG ?_|exact aC|with_reducible refine Go.and ?_ ?_|(apply Go.elem;(·exact aElem))|refine aH ?_|((with_reducible refine Go.bool ?_ ?_) <;> intro hc <;> (try simp only [List.length_map,ne_eq,hcs] at hc) <;> try (exfalso;omega)))
    refine ⟨⟨rfl,.inl ⟨{ L with M:=L' },.of rfl (hG4.keep (fun y hy => rfl) aNx) (hkeepM _ _ (fun y hy ho hne => (hf4 y aNx ho).trans ((aSkip:_ = getH H3 y).trans ((hf3 y aNx ho).trans aSkip))) aNx) aNx (fun y hy => .inl hy) hids2 (fun y hy hyo => ?_)⟩⟩⟩
    obtain ⟨o1,o2⟩:=hno y hyo
    exact (hf4 y aNx o1).trans ((aSkip:_ = getH H3 y).trans ((hf3 y aNx o1).trans ((aSkip:_ = getH H1 y).trans (hs1 y hy o2))))
  have hWq:(L.ws.getD q 0) ∈ L.own:=by
   have:=SI_in h.w (q:=q) (by rw [h.lq];exact hqn)
   simp only [GLay.own,List.mem_cons,List.mem_append];exact .inr (.inr (.inr (.inr (.inr (.inr (.inr this))))))
  have hwo:L.w ∈ L.own:=by simp [GLay.own]
  have hqg:q < g.q.length:=by rw [h.lq];exact hqn
  have hwl:(qRow L.ws (SI g.q)).length = nc:=by rw [h.w.len,SI_len,h.lq]
  have hwe:=SI_row h.w hqg
  have hel:∀ i:Nat,i < (g.w q).length→∀ e,((g.w q).map i64).getD ((i:Int)).toNat e = i64 ((g.w q).getD i 0):=fun i hi e => getD_av i64 _ _ _ hi
  have hqw:=hi.q q hqn
  have hwb:(g.w q).length < 1000:=by
   have h1:=gd.buf q (by rw [ml.nco];exact hqn)
   have h2:=ok.buffer
   have h3:=congrArg List.length hbq
   simp only [List.length_map] at h3
   rw [h3] at h1;omega
  by_cases k2:d.kind = 2
  ·have ha:=had (by omega)
   have e1:(stepG g (s2,d,0)) = if 64 ≤ g.ev.length then (g,true) else (g.put ⟨1,d.core,d.addr,d.word,0⟩ (g.seen d),false):=by
    rw [stepG_ok,overB,decide_eq_true (by omega:2 ≤ d.kind),decide_eq_true (by omega:d.kind ≤ 6)]
    by_cases hm:64 ≤ g.ev.length
    ·rw [if_pos hm,if_pos (by simpa using hm),GS.over,if_neg (by omega)]
    ·rw [if_neg hm,if_neg (by simpa using hm),GS.did,if_pos k2]
   rw [e1]
   clear hd e1
   obtain ⟨kind,cr,pc,addr,word,put,own⟩:=d
   simp only at hcore k2 ha ⊢
   subst hcore k2
   obtain ⟨t,rfl⟩:∃ t:Nat,addr = t:=⟨addr.toNat,by omega⟩
   have htm:t < m:=by omega
   obtain ⟨dw,rw1⟩:=hG1.w.row
   obtain ⟨dq,rq⟩:=SI_at hG1.w hqg
   have hlw:=hown _ hwo
   have hlq:=hown _ hWq
   have hev:L.ev ∈ L.own:=by simp [GLay.own]
   have hlev:=hown _ hev
   obtain ⟨de,re⟩:=hG1.ev
   dsimp only at rw1 rq re
   have hle:(g.ev.map Deed.av).length = g.ev.length:=List.length_map _
   generalize hsn:g.seen ⟨2,q,pc,t,word,put,own⟩ = sn
   repeat' (first|((with_reducible refine Go.red ?_);conv => whnf)|refine aG ?_|exact aC|with_reducible refine Go.and ?_ ?_|(apply Go.elem;(·(first|exact hee t htm _|exact hwe _|exact aElem)))|refine aH ?_|((with_reducible refine Go.bool ?_ ?_) <;> intro hc <;> (try simp only [List.length_map,ne_eq,hcs] at hc) <;> try (exfalso;omega)))
   refine Go.loop (fun p:Nat × Int => [(0,.pt L.g 1 0 0),(4,.pt b 1 0 0),(6,.pt (n1 + 8) 1 0 0),(7,i64 p.2),(51,.sl (L.ws.getD q 0) (g.w q).length),(52,i64 (g.w q).length),(53,i64 p.1)])
    (fun p H2 n2 => p.1 ≤ (g.w q).length∧n1 + 9 ≤ n2∧(∀ y,y < n1→getH H2 y = getH H1 y)∧(∃ e,getH H2 (n1 + 8) = some (.row 74 5 e [Deed.av ⟨1,q,t,word,0⟩]))∧(if own = true then ownL g.ev t ((g.w q).drop p.1) p.2 else p.2) = sn)
    (fun p => (g.w q).length - p.1) (0,g.l t) aLess ⟨Nat.zero_le _,aNx,fun y hy => aSkip,⟨_,aRow⟩,?_⟩ ?_
   ·rw [List.drop_zero,← hsn,GS.seen];rfl
   rintro ⟨i,fr⟩ H2 n2 ⟨hi2,hn2,hf2,⟨d8,r8⟩,hsn2⟩
   dsimp only at hi2 hsn2 ⊢
   have rg2:=(hf2 _ (by omega:L.g < n1)).trans rg
   have r42:=(hf2 b b2).trans r4
   have re2:=(hf2 _ (by omega:L.ev < n1)).trans re
   have rq2:=(hf2 _ (by omega:L.ws.getD q 0 < n1)).trans rq
   try dsimp only at rg2
   by_cases hil:i < (g.w q).length
   ·have hk:=hqw ((g.w q).getD i 0) (getD_mem' 0 hil)
    have hdrop:(g.w q).drop i = (g.w q).getD i 0 :: (g.w q).drop (i + 1):=by
     rw [List.drop_eq_getElem_cons hil,getD_el 0 hil]
    rw [hdrop,ownL] at hsn2
    generalize hkk:(g.w q).getD i 0 = k at *
    have hke:∀ e,(g.ev.map Deed.av).getD k.toNat e = (g.e k.toNat).av:=fun e => getD_av Deed.av _ _ _ hk.2.1
    have hel2:=hel i hil
    rw [hkk] at hel2
    cases own with
    | false =>
     repeat' (first|((with_reducible refine Go.red ?_);conv => whnf)|refine aG ?_|exact aCn|with_reducible refine Go.and ?_ ?_|((with_reducible refine Ask.mk ?_);first|exact aAsk|exact aAsk2|(intro h;simp_all [Deed.cells] <;> fail)|(simp_all [Deed.cells] <;> fail))|(apply Go.elem;(·(first|exact hel2 _|exact hke _|exact aElem)))|refine aH ?_|((with_reducible refine Go.bool ?_ ?_) <;> intro hc <;> (try simp only [List.length_map,ne_eq,hcs] at hc) <;> try (exfalso;omega)))
     exact ⟨(i + 1,fr),by dsimp only;omega,aLess,by dsimp only;omega,aNx,fun y hy => (aSkip:_ = getH H2 y).trans (hf2 y hy),⟨_,aRow⟩,hsn2⟩
    | true =>
     rw [if_pos rfl] at hsn2
     repeat' (first|((with_reducible refine Go.red ?_);conv => whnf)|refine aG ?_|exact aCn|with_reducible refine Go.and ?_ ?_|((with_reducible refine Ask.mk ?_);first|exact aAsk|exact aAsk2|(intro h;simp_all [Deed.cells] <;> fail)|(simp_all [Deed.cells] <;> fail))|(apply Go.elem;(·(first|exact hel2 _|exact hke _|exact aElem)))|refine aH ?_|((with_reducible refine Go.bool ?_ ?_) <;> intro hc <;> (try simp only [List.length_map,ne_eq,hcs] at hc) <;> try (exfalso;omega)))
     ·rw [if_pos (show (g.ev.getD k.toNat default).thing = t by simpa using hc)] at hsn2
      exact ⟨(i + 1,k),by dsimp only;omega,aLess,by dsimp only;omega,aNx,fun y hy => (aSkip:_ = getH H2 y).trans (hf2 y hy),⟨_,aRow⟩,hsn2⟩
     ·rw [if_neg (show ¬ (g.ev.getD k.toNat default).thing = t by simpa using hc)] at hsn2
      exact ⟨(i + 1,fr),by dsimp only;omega,aLess,by dsimp only;omega,aNx,fun y hy => (aSkip:_ = getH H2 y).trans (hf2 y hy),⟨_,aRow⟩,hsn2⟩
   ·have hil:i = (g.w q).length:=by omega
    subst hil
    rw [List.drop_length,ownL] at hsn2
    have hfr:fr = sn:=by rw [← hsn2];split <;> rfl
    subst hfr
    by_cases hm:64 ≤ g.ev.length
    ·rw [if_pos hm]
     repeat' (first|((with_reducible refine Go.red ?_);conv => whnf)|refine aG ?_|exact aCn|with_reducible refine Go.and ?_ ?_|((with_reducible refine Ask.mk ?_);first|exact aAsk|exact aAsk2|(intro h;simp_all [Deed.cells] <;> fail)|(simp_all [Deed.cells] <;> fail))|(apply Go.elem;(·exact aElem))|refine aH ?_|((with_reducible refine Go.bool ?_ ?_) <;> intro hc <;> (try simp only [List.length_map,ne_eq,hcs] at hc) <;> try (exfalso;omega)))
     refine Go.callN (put_many (L:={ L with M:=L' }) (hG1.keep (fun y hy => (by have:=hown y hy;exact (aSkip:_ = getH H2 y).trans (hf2 y (by omega)))) aNx) hm ⟨1,q,t,word,0⟩ fr) ?_
     rintro _ H3 n3 ⟨rfl,hn3,hG3,hf3⟩
     repeat' (first|((with_reducible refine Go.red ?_);conv => whnf)|refine aG ?_|exact aC|with_reducible refine Go.and ?_ ?_|(apply Go.elem;(·exact aElem))|refine aH ?_|((with_reducible refine Go.bool ?_ ?_) <;> intro hc <;> (try simp only [List.length_map,ne_eq,hcs] at hc) <;> try (exfalso;omega)))
     refine ⟨⟨rfl,.inl ⟨{ L with M:=L' },.of rfl (hG3.keep (fun y hy => rfl) aNx) (hkeepM _ _ (fun y hy ho hne => (hf3 y aNx ho).trans ((aSkip:_ = getH H2 y).trans (hf2 y hy))) aNx) aNx (fun y hy => .inl hy) hids2 (fun y hy hyo => ?_)⟩⟩⟩
     obtain ⟨o1,o2⟩:=hno y hyo
     exact (hf3 y aNx o1).trans ((aSkip:_ = getH H2 y).trans ((hf2 y (by omega)).trans (hs1 y hy o2)))
    ·rw [if_neg hm]
     repeat' (first|((with_reducible refine Go.red ?_);conv => whnf)|refine aG ?_|exact aCn|with_reducible refine Go.and ?_ ?_|((with_reducible refine Ask.mk ?_);first|exact aAsk|exact aAsk2|(intro h;simp_all [Deed.cells] <;> fail)|(simp_all [Deed.cells] <;> fail))|(apply Go.elem;(·exact aElem))|refine aH ?_|((with_reducible refine Go.bool ?_ ?_) <;> intro hc <;> (try simp only [List.length_map,ne_eq,hcs] at hc) <;> try (exfalso;omega)))
     refine Go.callN (put_one (L:={ L with M:=L' }) (hG1.keep (fun y hy => (by have:=hown y hy;exact (aSkip:_ = getH H2 y).trans (hf2 y (by omega)))) aNx) (by omega) ⟨1,q,t,word,0⟩ fr) ?_
     rintro _ H3 n3 ⟨rfl,hn3,hG3,hf3⟩
     repeat' (first|((with_reducible refine Go.red ?_);conv => whnf)|refine aG ?_|exact aC|with_reducible refine Go.and ?_ ?_|(apply Go.elem;(·exact aElem))|refine aH ?_|((with_reducible refine Go.bool ?_ ?_) <;> intro hc <;> (try simp only [List.length_map,ne_eq,hcs] at hc) <;> try (exfalso;omega)))
     refine ⟨⟨rfl,.inl ⟨{ L with M:=L' },.of rfl (hG3.keep (fun y hy => rfl) aNx) (hkeepM _ _ (fun y hy ho hne => (hf3 y aNx ho).trans ((aSkip:_ = getH H2 y).trans (hf2 y hy))) aNx) aNx (fun y hy => .inl hy) hids2 (fun y hy hyo => ?_)⟩⟩⟩
     obtain ⟨o1,o2⟩:=hno y hyo
     exact (hf3 y aNx o1).trans ((aSkip:_ = getH H2 y).trans ((hf2 y (by omega)).trans (hs1 y hy o2)))
  by_cases k3:d.kind = 3
  ·have ha:=had (by omega)
   have e1:(stepG g (s2,d,0)) = if 64 ≤ g.ev.length then ({ g with q:=g.q.set q (g.w q ++ [0]) },true) else ({ g.put ⟨2,d.core,d.addr,0,d.word⟩ (-1) with q:=g.q.set q (g.w q ++ [(g.ev.length:Int)]) },false):=by
    rw [stepG_ok,overB,decide_eq_true (by omega:2 ≤ d.kind),decide_eq_true (by omega:d.kind ≤ 6)]
    by_cases hm:64 ≤ g.ev.length
    ·rw [if_pos hm,if_pos (by simpa using hm),GS.over,if_pos k3,hdc]
    ·rw [if_neg hm,if_neg (by simpa using hm),GS.did,if_neg k2,if_pos k3,hdc]
   rw [e1]
   clear hd e1
   obtain ⟨kind,cr,pc,addr,word,put,own⟩:=d
   simp only at hcore k3 ha ⊢
   subst hcore k3
   repeat' (first|((with_reducible refine Go.red ?_);conv => whnf)|refine aGn ?_|exact aC|with_reducible refine Go.and ?_ ?_|(apply Go.elem;(·exact aElem))|refine aH ?_|((with_reducible refine Go.bool ?_ ?_) <;> intro hc <;> (try simp only [List.length_map,ne_eq,hcs] at hc) <;> try (exfalso;omega)))
   refine Go.drawn ?_
   repeat' (first|((with_reducible refine Go.red ?_);conv => whnf)|refine aGn ?_|exact aC|with_reducible refine Go.and ?_ ?_|(apply Go.elem;(·exact aElem))|refine aH ?_|((with_reducible refine Go.bool ?_ ?_) <;> intro hc <;> (try simp only [List.length_map,ne_eq,hcs] at hc) <;> try (exfalso;omega)))
   have hsk:∀ y,y < n1→y ≠ b→getH H1 y = getH H1 y:=fun _ _ _ => rfl
   by_cases hm:64 ≤ g.ev.length
   ·rw [if_pos hm]
    refine drawB (b4:=b) (b6:=n1 + 8) (did:=⟨3,q,pc,addr,word,put,own⟩) (d:=⟨2,q,addr,0,word⟩) (L:={ L with M:=L' }) (gp:=g) (mp:=true) (k:=0) (q:=q) (g:=g) (m:=m) (nc:=nc) (F:=F)
     (hG1.keep (fun y hy => (by have:=hown y hy;exact aSkip)) aNx) hqn rfl hwb (fun H nx hG => put_many hG hm _ _) ⟨aNx,fun ho => (by have:=hown b ho;omega)⟩ ⟨aNx,fun ho => (by have:=hown _ ho;omega)⟩ ⟨_,aRow⟩ ⟨_,aRow⟩ rfl rfl rfl rfl (fun H3 n3 hG3 hn3 hf3 => ?_)
    repeat' (first|((with_reducible refine Go.red ?_);conv => whnf)|refine aG ?_|exact aC|with_reducible refine Go.and ?_ ?_|(apply Go.elem;(·exact aElem))|refine aH ?_|((with_reducible refine Go.bool ?_ ?_) <;> intro hc <;> (try simp only [List.length_map,ne_eq,hcs] at hc) <;> try (exfalso;omega)))
    refine ⟨⟨rfl,.inl ⟨{ L with M:=L' },.of rfl (hG3.keep (fun y hy => rfl) aNx) (hkeepM _ _ (fun y hy ho hne => (hf3 y aNx ho).trans aSkip) (by have:=Nat.le_trans (aNx:n1 ≤ _) hn3;exact this)) (by have:=Nat.le_trans (aNx:nx ≤ _) hn3;exact this) (fun y hy => .inl hy) hids2 (fun y hy hyo => ?_)⟩⟩⟩
    obtain ⟨o1,o2⟩:=hno y hyo
    exact (hf3 y aNx o1).trans ((aSkip:_ = getH H1 y).trans (hs1 y hy o2))
   ·rw [if_neg hm]
    refine drawB (b4:=b) (b6:=n1 + 8) (did:=⟨3,q,pc,addr,word,put,own⟩) (d:=⟨2,q,addr,0,word⟩) (L:={ L with M:=L' }) (gp:=g.put ⟨2,q,addr,0,word⟩ (-1)) (mp:=false) (k:=g.ev.length) (q:=q) (g:=g) (m:=m) (nc:=nc) (F:=F)
     (hG1.keep (fun y hy => (by have:=hown y hy;exact aSkip)) aNx) hqn rfl hwb (fun H nx hG => put_one hG (by omega) _ _) ⟨aNx,fun ho => (by have:=hown b ho;omega)⟩ ⟨aNx,fun ho => (by have:=hown _ ho;omega)⟩ ⟨_,aRow⟩ ⟨_,aRow⟩ rfl rfl rfl rfl (fun H3 n3 hG3 hn3 hf3 => ?_)
    repeat' (first|((with_reducible refine Go.red ?_);conv => whnf)|refine aG ?_|exact aC|with_reducible refine Go.and ?_ ?_|(apply Go.elem;(·exact aElem))|refine aH ?_|((with_reducible refine Go.bool ?_ ?_) <;> intro hc <;> (try simp only [List.length_map,ne_eq,hcs] at hc) <;> try (exfalso;omega)))
    refine ⟨⟨rfl,.inl ⟨{ L with M:=L' },.of rfl (hG3.keep (fun y hy => rfl) aNx) (hkeepM _ _ (fun y hy ho hne => (hf3 y aNx ho).trans aSkip) (by have:=Nat.le_trans (aNx:n1 ≤ _) hn3;exact this)) (by have:=Nat.le_trans (aNx:nx ≤ _) hn3;exact this) (fun y hy => .inl hy) hids2 (fun y hy hyo => ?_)⟩⟩⟩
    obtain ⟨o1,o2⟩:=hno y hyo
    exact (hf3 y aNx o1).trans ((aSkip:_ = getH H1 y).trans (hs1 y hy o2))
  have k8:d.kind = 8:=by omega
  have ha:=had (by omega)
  have hdr:=hd.drain k8
  have e1:(stepG g (s2,d,0)) = (g.pop q d.addr.toNat ((g.w q).headD 0),false):=by
   rw [stepG_ok,overB,decide_eq_false (by omega:¬ d.kind ≤ 6)]
   rw [if_neg (by simp),GS.did,if_neg k2,if_neg k3,if_neg k4,if_neg k5,if_pos k8,GS.pop,hdc]
  have hlen:1 ≤ (g.w q).length:=by
   have h3:=congrArg List.length hbq
   rw [hdr] at h3
   simp only [List.map_cons,List.length_cons,List.length_map] at h3
   omega
  rw [e1]
  clear hd e1 hdr
  obtain ⟨kind,cr,pc,addr,word,put,own⟩:=d
  simp only at hcore k8 ha ⊢
  subst hcore k8
  obtain ⟨t,rfl⟩:∃ t:Nat,addr = t:=⟨addr.toNat,by omega⟩
  have htm:t < m:=by omega
  rw [Int.toNat_natCast]
  obtain ⟨dw,rw1⟩:=hG1.w.row
  obtain ⟨dq,rq⟩:=SI_at hG1.w hqg
  have hlw:=hown _ hwo
  have hlq:=hown _ hWq
  have hne:=h.w.ne (q:=q) (by rw [SI_len];exact hqg)
  have hmq:(g.w q).map i64 ≠ []:=by intro he;have:=congrArg List.length he;simp only [List.length_map,List.length_nil] at this;omega
  dsimp only at rw1 rq
  have hel0:∀ e,((g.w q).map i64).getD ((0:Int)).toNat e = i64 ((g.w q).headD 0):=fun e => by
   have:=hel 0 (by omega) e
   rw [show (((0:Nat):Int)) = 0 from rfl] at this
   rw [this]
   cases g.w q <;> rfl
  have hat:=hi.aLen htm
  have hlen2:1 ≤ (g.q.getD q []).length:=hlen
  repeat' (first|((with_reducible refine Go.red ?_);conv => whnf)|refine aG ?_|exact aC|with_reducible refine Go.and ?_ ?_|(apply Go.elem;(·(first|exact hwe _|exact hel0 _|exact aElem)))|refine aH ?_|((with_reducible refine Go.bool ?_ ?_) <;> intro hc <;> (try simp only [List.length_map,ne_eq,hcs] at hc) <;> try (exfalso;omega)))
  refine Go.callN (came_raw (m:=m) (nc:=nc) (F:=F) (L:={ L with M:=L' }) (g:={ g with q:=g.q.set q ((g.w q).tail) }) (t:=t) ?_ htm ((g.w q).headD 0) (by show (g.aft.getD t []).length < _;have h9:(g.aft.getD t []).length ≤ g.ev.length:=hat;have:=hbd;omega)) ?_
  ·obtain ⟨x2,g2⟩:=hG1.fi
   obtain ⟨x3,g3⟩:=hG1.ev
   obtain ⟨x4,g4⟩:=hG1.fr
   obtain ⟨w1,w2,w3,w4,w5⟩:=hap.w L.w (by simp)
   have l2:L.fi < nx:=hown _ (by simp [GLay.own])
   have l3:L.ev < nx:=hown _ (by simp [GLay.own])
   have l4:L.fr < nx:=hown _ (by simp [GLay.own])
   refine ⟨⟨_,aRow⟩,⟨_,aRow⟩,⟨_,aRow⟩,⟨_,aRow⟩,⟨_,aRow⟩,hG1.af.keep fun y hy => ?_,hG1.lf,hG1.lF,hG1.laf,hG1.lla,fun y hy => Nat.lt_of_lt_of_le (hG1.lt y hy) aNx,hG1.nodup⟩
   have:=hap.aw y hy L.w (by simp)
   have hy2:=hown y (by simp only [GLay.own,List.mem_cons,List.mem_append] at hy ⊢;rcases hy with hy|hy <;> simp [hy])
   exact aSkip
  rintro _ H3 n3 ⟨rfl,hn3,hC3,hf3⟩
  have hn13:n1 ≤ n3:=Nat.le_trans aNx hn3
  have haf:L.af ∈ L.own:=by simp [GLay.own]
  have hla:L.la ∈ L.own:=by simp [GLay.own]
  have hafs:∀ y ∈ L.afs,y ∈ L.own:=fun y hy => by simp only [GLay.own,List.mem_cons,List.mem_append];exact .inr (.inr (.inr (.inr (.inr (.inl (.inr hy))))))
  repeat' (first|((with_reducible refine Go.red ?_);conv => whnf)|refine aG ?_|exact aC|with_reducible refine Go.and ?_ ?_|(apply Go.elem;(·exact aElem))|refine aH ?_|((with_reducible refine Go.bool ?_ ?_) <;> intro hc <;> (try simp only [List.length_map,ne_eq,hcs] at hc) <;> try (exfalso;omega)))
  refine ⟨⟨rfl,.inr ⟨rfl,q,L',⟨hC3,hkeepM _ _ (fun y hy ho hne => (hf3 y aNx (fun e => ho (by rw [e];exact haf)) (fun e => ho (by rw [e];exact hla)) (fun hm => ho (hafs y hm))).trans ?_) hn13,by omega,hids2,fun y hy hyo => ?_,⟨_,_,(hf3 L.w aNx (fun e => hap.aw L.af (by simp) L.w (by simp) e.symm) (fun e => (hap.w L.w (by simp)).2.2.2.2 e.symm) (fun hm => hap.aw _ (List.mem_cons_of_mem _ hm) L.w (by simp) rfl)).trans aRow,?_⟩,fun j hj => ?_,by rw [List.drop_one];rfl,hlen,hqg⟩⟩⟩⟩
  ·have hyw:y ≠ L.w:=fun e => ho (by rw [e];exact hwo)
   exact aSkip
  ·obtain ⟨o1,o2⟩:=hno y hyo
   have hyw:y ≠ L.w:=fun e => o1 (by rw [e];exact hwo)
   exact (hf3 y aNx (fun e => o1 (by rw [e];exact haf)) (fun e => o1 (by rw [e];exact hla)) (fun hm => o1 (hafs y hm))).trans ((aSkip:_ = getH H1 y).trans (hs1 y hy o2))
  ·rfl
  ·have hin:=SI_in h.w hj
   have hino:L.ws.getD j 0 ∈ L.own:=by simp only [GLay.own,List.mem_cons,List.mem_append];exact .inr (.inr (.inr (.inr (.inr (.inr (.inr hin))))))
   have hyw:L.ws.getD j 0 ≠ L.w:=(h.w.ne (by rw [SI_len];exact hj)).symm
   have hlj:=hown _ hino
   refine (hf3 (L.ws.getD j 0) aNx (fun e => hap.aw L.af (by simp) _ (List.mem_cons_of_mem _ hin) e.symm) (fun e => (hap.w _ (List.mem_cons_of_mem _ hin)).2.2.2.2 e.symm) (fun hm => hap.aw _ (List.mem_cons_of_mem _ hm) _ (List.mem_cons_of_mem _ hin) rfl)).trans ((aSkip:_ = getH H1 (L.ws.getD j 0)).trans (hs1 _ hlj (hoM _ hino)))
end
end Go.Proofs.YtflicfkgbjmffaaGreat
end
section
/- A step of the machine, gathered by the program: what still waits gets its name. -/
namespace Go.Proofs.YtflicfkgbjmffaaGreat
open Go Go.Abs Go.Proofs V
set_option linter.unusedSimpArgs false
set_option linter.unusedVariables false
theorem GLay.nodup_mk {L:GLay} (ap:GApart L) (h1:(L.af :: L.afs).Nodup) (h2:(L.w :: L.ws).Nodup) (h3:L.M.ids.Nodup):L.ids.Nodup:=by
 refine List.nodup_append.2 ⟨?_,h3,fun x hx y hy => ap.M x hx y hy⟩
 have h4:((L.af :: L.afs) ++ (L.w :: L.ws)).Nodup:=List.nodup_append.2 ⟨h1,h2,fun x hx y hy => ap.aw x hx y hy⟩
 have key:∀ x ∈ (L.af :: L.afs) ++ (L.w :: L.ws),L.g ≠ x∧L.fi ≠ x∧L.ev ≠ x∧L.fr ≠ x∧L.la ≠ x:=fun x hx => (List.mem_append.1 hx).elim (ap.af x) (ap.w x)
 obtain ⟨a1,a2,a3,a4,a5,a6,a7,a8,a9,b1,_,_,_,_⟩:=ap
 unfold GLay.own
 generalize (L.af :: L.afs) ++ (L.w :: L.ws) = l at *
 show (L.g :: L.fi :: L.ev :: L.fr :: L.la :: l).Nodup
 simp only [List.nodup_cons,List.mem_cons,not_or]
 exact ⟨⟨a1,a2,a3,a4,fun h => (key _ h).1 rfl⟩,⟨a5,a6,a7,fun h => (key _ h).2.1 rfl⟩,⟨a8,a9,fun h => (key _ h).2.2.1 rfl⟩,⟨b1,fun h => (key _ h).2.2.2.1 rfl⟩,fun h => (key _ h).2.2.2.2 rfl,h4⟩
section
variable {o:V.Obj} {s:V.Mach} {m nc:Nat} {F:List Int} {g:GS} {τ κ:Nat→Nat} {now:Nat} {L:GLay} {H:Hp} {nx:Nat}
theorem gstep_tell {s2:V.Mach} {g2:GS} {q:Nat} {L':Lay} {H':Hp} {n:Nat} (h:GRow m nc F g L false H nx) (hd:DRaw o m nc F L H nx s2 g g2 q L' H' n):∃ H2 nx2,Wk .any H' n .any H2 nx2∧∃ L2,GOut o m nc F L H nx s2 g2 false L2 H2 nx2:=by
 have hown:=own_lt h
 have hap:=GLay.apart h.nodup
 have hwn:∀ x ∈ L.w :: L.ws,x ∈ L.own:=fun x hx => by
  simp only [GLay.own,List.mem_cons,List.mem_append] at hx ⊢
  rcases hx with hx|hx <;> simp [hx]
 have hn:=hd.le
 obtain ⟨dw,ew,hw1,hw2⟩:=hd.w
 have hget:(SI g.q).getD q [] = (g.w q).map i64:=SI_get _ _
 have hqs:q < (SI g.q).length:=by rw [SI_len];exact hd.qn
 refine tell_suffix (lo:=n) (q:=q) h.w hqs 1 (by rw [hget,List.length_map];exact hd.pos) ⟨dw,ew,hw1,by rw [hw2,hget,List.length_map]⟩ (fun j hj _ _ => hd.ws j (by rw [SI_len] at hj;exact hj)) (fun x hx => Nat.lt_of_lt_of_le (hown x (hwn x hx)) hn) (Nat.le_refl _) (fun H2 mm hm hQ hf => ?_)
 have hap1:=GLay.apart hd.core.nodup
 have hlt:=hd.core.lt
 have hin:=SI_in h.w hd.qn
 have hfo:∀ y,y < n→y ∉ L.w :: L.ws→getH H2 y = getH H' y:=fun y h1 h2 => hf y h1 (fun e => h2 (by rw [e];simp)) (fun e => h2 (by rw [e];exact List.mem_cons_of_mem _ hin))
 have hset:∀ x ∈ L.ws.set q mm,x ∈ L.ws ∨ x = mm:=fun x hx => List.mem_or_eq_of_mem_set hx
 have hMl:=hd.M.lt
 have hMw:∀ y ∈ L'.ids,y ∉ L.w :: L.ws:=fun y hy hm => hap1.M y (hwn y hm) y hy rfl
 have hOwn2:∀ x ∈ ({ L with M:=L',ws:=L.ws.set q mm }:GLay).own,x ∈ L.own ∨ x = mm:=fun x hx => by
  have hx:x ∈ L.g :: L.fi :: L.ev :: L.fr :: L.la :: ((L.af :: L.afs) ++ (L.w :: L.ws.set q mm)):=hx
  simp only [List.mem_cons,List.mem_append] at hx
  simp only [GLay.own,List.mem_cons,List.mem_append]
  rcases hx with hx|hx|hx|hx|hx|(hx|hx)|(hx|hx)
  ·simp [hx]
  ·simp [hx]
  ·simp [hx]
  ·simp [hx]
  ·simp [hx]
  ·simp [hx]
  ·simp [hx]
  ·simp [hx]
  ·rcases hset x hx with hx|hx <;> simp [hx]
 have ap2:GApart { L with M:=L',ws:=L.ws.set q mm }:=by
  obtain ⟨a1,a2,a3,a4,a5,a6,a7,a8,a9,b1,c1,c2,c3,c4⟩:=hap1
  have big:∀ x ∈ L.own,x ≠ mm:=fun x hx e => by have:=hown x hx;omega
  refine ⟨a1,a2,a3,a4,a5,a6,a7,a8,a9,b1,c1,fun x hx => ?_,fun x hx y hy => ?_,fun x hx y hy => ?_⟩
  ·rcases List.mem_cons.1 hx with rfl|hx
   ·exact c2 _ (by simp)
   ·rcases hset x hx with hx|rfl
    ·exact c2 x (List.mem_cons_of_mem _ hx)
    ·exact ⟨big _ (by simp [GLay.own]),big _ (by simp [GLay.own]),big _ (by simp [GLay.own]),big _ (by simp [GLay.own]),big _ (by simp [GLay.own])⟩
  ·rcases List.mem_cons.1 hy with rfl|hy
   ·exact c3 x hx _ (by simp)
   ·rcases hset y hy with hy|rfl
    ·exact c3 x hx y (List.mem_cons_of_mem _ hy)
    ·exact big x (by simp only [GLay.own,List.mem_cons,List.mem_append] at hx ⊢;rcases hx with hx|hx <;> simp [hx])
  ·have hy:y ∈ L'.ids:=hy
   rcases hOwn2 x hx with hx|hx
   ·exact c4 x hx y hy
   ·have:=hMl y hy;omega
 have hnd:({ L with M:=L',ws:=L.ws.set q mm }:GLay).ids.Nodup:=GLay.nodup_mk ap2 hd.core.af.nodup hQ.nodup hd.M.nodup
 refine ⟨{ L with M:=L',ws:=L.ws.set q mm },.of rfl ?_ (hd.M.keepIds (fun y hy => hfo y (hMl y hy) (hMw y hy)) (by omega)) (by omega) (fun y hy => ?_) hd.ids (fun y hy hyo => ?_)⟩
 ·obtain ⟨x1,k1⟩:=hd.core.row
  obtain ⟨x2,k2⟩:=hd.core.fi
  obtain ⟨x3,k3⟩:=hd.core.ev
  obtain ⟨x4,k4⟩:=hd.core.fr
  obtain ⟨x5,k5⟩:=hd.core.la
  have lo5:∀ y,y = L.g ∨ y = L.fi ∨ y = L.ev ∨ y = L.fr ∨ y = L.la→y < n∧y ∉ L.w :: L.ws:=fun y hy => by
   refine ⟨Nat.lt_of_lt_of_le (hown y (by rcases hy with rfl|rfl|rfl|rfl|rfl <;> simp [GLay.own])) hn,fun hm => ?_⟩
   have:=hap.w y hm
   rcases hy with rfl|rfl|rfl|rfl|rfl
   ·exact this.1 rfl
   ·exact this.2.1 rfl
   ·exact this.2.2.1 rfl
   ·exact this.2.2.2.1 rfl
   ·exact this.2.2.2.2 rfl
  have f5:∀ y,y = L.g ∨ y = L.fi ∨ y = L.ev ∨ y = L.fr ∨ y = L.la→getH H2 y = getH H' y:=fun y hy => hfo y (lo5 y hy).1 (lo5 y hy).2
  refine ⟨⟨x1,(f5 L.g (by simp)).trans k1⟩,⟨x2,(f5 L.fi (by simp)).trans k2⟩,⟨x3,(f5 L.ev (by simp)).trans k3⟩,⟨x4,(f5 L.fr (by simp)).trans k4⟩,⟨x5,(f5 L.la (by simp)).trans k5⟩,hd.core.af.keep (fun y hy => ?_),?_,hd.core.lf,hd.core.lF,hd.core.laf,hd.core.lla,by rw [hd.dq,List.length_set];exact h.lq,fun y hy => ?_,hnd⟩
  ·have hyo:y ∈ L.own:=by
    have hy:y ∈ L.af :: L.afs:=hy
    simp only [GLay.own,List.mem_cons,List.mem_append] at hy ⊢
    rcases hy with hy|hy <;> simp [hy]
   exact hfo y (Nat.lt_of_lt_of_le (hown y hyo) hn) (fun hm => hap.aw y hy y hm rfl)
  ·show QAt _ _ 1 _ _ (SI g2.q) _
   rw [hd.dq,SI_set,List.map_drop,← hget]
   exact hQ
  ·rcases List.mem_append.1 hy with hy|hy
   ·rcases hOwn2 y hy with hy|hy
    ·have:=hown y hy;omega
    ·omega
   ·have:=hMl y hy;omega
 ·rcases hOwn2 y hy with hy|hy
  ·exact .inl hy
  ·exact .inr (by omega)
 ·exact (hfo y (by omega) (fun hm => hyo (List.mem_append_left _ (hwn y hm)))).trans (hd.same y hy hyo)
theorem gstep_call (h:GRow m nc F g L false H nx) (hM:MAt o s L.M H nx) (gd:V.Good o s) (ok:V.ObjOk o) (hpl:(s.prints.length + 1) * 16 ≤ 140737488355328) (hi:GI m nc F g τ κ now) (ml:ML m nc F s g) (hbd:g.ev.length ≤ 64) (x:V.StepV) :
  CallN Tryz.prog 11 [.pt L.g 1 0 0,x.av] H nx (fun r H' n => r = .tup []∧∃ L',GOut o m nc F L H nx (stepS o s x.kind x.core).1 (stepG g (stepS o s x.kind x.core)).1 (stepG g (stepS o s x.kind x.core)).2 L' H' n):=by
 refine (gstep_raw h hM gd ok hpl hi ml hbd x).wk ?_
 rintro r H' n ⟨rfl,hr⟩
 rcases hr with hr|⟨hb,q,L',hd⟩
 ·exact ⟨_,_,_,Wk.refl _ _ _,rfl,hr⟩
 ·obtain ⟨H2,n2,hw,hg⟩:=gstep_tell h hd
  rw [hb]
  exact ⟨_,_,_,hw.same _,rfl,hg⟩
end
end Go.Proofs.YtflicfkgbjmffaaGreat
end
section
/- All that is gathered of a schedule, in plain data. -/
namespace Go.Proofs.YtflicfkgbjmffaaGreat
open Go Go.Abs Go.Proofs V
set_option linter.unusedSimpArgs false
set_option linter.unusedVariables false
def stepP (o:V.Obj) (p:V.Mach × GS) (x:V.StepV):V.Mach × GS:=((stepS o p.1 x.kind x.core).1,if (stepS o p.1 x.kind x.core).2.2 ≠ 0 then p.2 else p.2.did (stepS o p.1 x.kind x.core).2.1)
def g0 (o:V.Obj):GS:=⟨[],[],List.replicate o.mem.length [],List.replicate o.mem.length (-1),List.replicate o.cores.length []⟩
def atP (o:V.Obj) (l:List V.StepV) (i:Nat):V.Mach × GS:=(l.take i).foldl (stepP o) (initM o,g0 o)
theorem atP_next {o:V.Obj} {l:List V.StepV} {i:Nat} (h:i < l.length):atP o l (i + 1) = stepP o (atP o l i) (l.getD i default):=by
 rw [atP,List.take_succ_eq_append_getElem h,List.foldl_append]
 simp [atP,List.getD,h]
def GS.drain1 (g:GS) (c:Nat):GS:=g.pop c (g.e ((g.w c).headD 0).toNat).thing.toNat ((g.w c).headD 0)
def GS.drainN (c:Nat):Nat→GS→GS
 | 0,g => g
 | n + 1,g => GS.drainN c n (g.drain1 c)
def GS.finC (g:GS) (c:Nat):GS:=GS.drainN c (g.w c).length g
def GS.finTo (g:GS):Nat→GS
 | 0 => g
 | c + 1 => (g.finTo c).finC c
def gathE (o:V.Obj) (l:List V.StepV):Int:=if objOk o = false then 160 else if 1048576 < l.length then 3 else if 64 < (atP o l l.length).2.ev.length then 3 else 0
def gathG (o:V.Obj) (l:List V.StepV):GS:=(atP o l l.length).2.finTo o.cores.length
section
variable {m nc:Nat} {F:List Int} {g:GS} {τ κ:Nat→Nat} {now:Nat} {s:V.Mach}
theorem did_len (g:GS) (d:V.DidS):(g.did d).ev.length = if 2 ≤ d.kind∧d.kind ≤ 6 then g.ev.length + 1 else g.ev.length:=by
 unfold GS.did
 by_cases k2:d.kind = 2
 ·rw [if_pos k2,if_pos (by omega)];simp [GS.put]
 rw [if_neg k2]
 by_cases k3:d.kind = 3
 ·rw [if_pos k3,if_pos (by omega)];simp [GS.put]
 rw [if_neg k3]
 by_cases k4:d.kind = 4
 ·rw [if_pos k4,if_pos (by omega)];simp [GS.put,GS.came]
 rw [if_neg k4]
 by_cases k5:d.kind = 5 ∨ d.kind = 6
 ·rw [if_pos k5,if_pos (by omega)];simp [GS.put]
 have h26:¬ (2 ≤ d.kind∧d.kind ≤ 6):=by omega
 rw [if_neg k5,if_neg h26]
 split <;> rfl
theorem stepP_len (o:V.Obj) (p:V.Mach × GS) (x:V.StepV):p.2.ev.length ≤ (stepP o p x).2.ev.length:=by
 unfold stepP
 dsimp only
 split
 ·exact Nat.le_refl _
 ·rw [did_len];split <;> omega
theorem atP_mono (o:V.Obj) (l:List V.StepV) {i:Nat}:∀ k,i + k ≤ l.length→(atP o l i).2.ev.length ≤ (atP o l (i + k)).2.ev.length
 | 0,_ => Nat.le_refl _
 | k + 1,h => by
  have h1:=atP_mono o l (i:=i) k (by omega)
  rw [show i + (k + 1) = (i + k) + 1 by omega,atP_next (by omega)]
  exact Nat.le_trans h1 (stepP_len _ _ _)
theorem stepG_spec (o:V.Obj) (p:V.Mach × GS) (x:V.StepV) (hn:p.2.ev.length ≤ 64):((stepG p.2 (stepS o p.1 x.kind x.core)).2 = false∧(stepG p.2 (stepS o p.1 x.kind x.core)).1 = (stepP o p x).2∧(stepP o p x).2.ev.length ≤ 64) ∨ ((stepG p.2 (stepS o p.1 x.kind x.core)).2 = true∧64 < (stepP o p x).2.ev.length):=by
 unfold stepG stepP
 dsimp only
 generalize stepS o p.1 x.kind x.core = r
 by_cases he:r.2.2 ≠ 0
 ·rw [if_pos he,if_pos he];exact .inl ⟨rfl,rfl,hn⟩
 rw [if_neg he,if_neg he]
 by_cases ho:overB p.2 r.2.1 = true
 ·rw [if_pos ho]
  right
  simp only [overB,Bool.and_eq_true,decide_eq_true_eq] at ho
  refine ⟨rfl,?_⟩
  rw [did_len,if_pos ho.1];omega
 ·rw [if_neg ho]
  left
  refine ⟨rfl,rfl,?_⟩
  simp only [overB,Bool.and_eq_true,decide_eq_true_eq,not_and] at ho
  rw [did_len]
  split
  ·rename_i h;have:=ho h;omega
  ·exact hn
structure GM (o:V.Obj) (p:V.Mach × GS) (now:Nat):Prop where
 gd:V.Good o p.1
 gi:∃ τ κ,GI o.mem.length o.cores.length o.mem p.2 τ κ now
 ml:ML o.mem.length o.cores.length o.mem p.1 p.2
theorem GM.init {o:V.Obj} (ok:V.ObjOk o):GM o (initM o,g0 o) 0:=by
 have ha:∀ t,(g0 o).a t = []:=fun t => by
  show (List.replicate o.mem.length ([]:List Int)).getD t [] = []
  simp only [List.getD,List.getElem?_replicate];split <;> rfl
 have hw:∀ t,(g0 o).w t = []:=fun t => by
  show (List.replicate o.cores.length ([]:List Int)).getD t [] = []
  simp only [List.getD,List.getElem?_replicate];split <;> rfl
 have hl:∀ t,t < o.mem.length→(g0 o).l t = -1:=fun t ht => by
  show (List.replicate o.mem.length (-1:Int)).getD t 0 = -1
  simp [List.getD,ht]
 have n0:(g0 o).ev.length = 0:=rfl
 have hcb:∀ c,((initM o).core c).buf = []:=fun c => by
  show ((List.replicate o.cores.length core0).getD c default).buf = []
  simp only [List.getD,List.getElem?_replicate]
  split <;> rfl
 have no:∀ {i:Nat},¬ i < (g0 o).ev.length:=fun {i} h => by rw [n0] at h;omega
 have gi:GI o.mem.length o.cores.length o.mem (g0 o) (fun _ => 0) (fun _ => 0) 0 :=
  {lf:=rfl
   la:=by simp [g0]
   ll:=by simp [g0]
   lq:=by simp [g0]
   ev:=fun i h => absurd h no
   evc:=fun i h => absurd h no
   kd:=fun i h => absurd h no
   q:=fun c hc k hk => by rw [hw] at hk;cases hk
   qs:=fun c hc => by rw [hw];exact .nil
   aft:=fun t ht k hk => by rw [ha] at hk;cases hk
   srt:=fun t ht => by rw [ha];exact .nil
   cov:=fun i h => absurd h no
   dis:=fun i h => absurd h no
   last:=fun t ht => by rw [hl t ht,ha];rfl
   fr:=fun i h => absurd h no
   t1:=fun i j _ h => absurd h no
   t2:=fun i h => absurd h no
   k1:=fun i h => absurd h no
   p1:=fun i j _ h => absurd h no
   p2:=fun i j _ h => absurd h no
   r1:=fun i h => absurd h no
   r2:=fun i h => absurd h no
   co:=fun i j _ h => absurd h no }
 exact ⟨good_init ok,⟨_,_,gi⟩,⟨rfl,by simp [initM],fun c hc => by rw [hw,hcb];rfl,fun t ht => by rw [hl t ht,if_pos rfl];rfl,fun c hc k hk => by rw [hw] at hk;cases hk⟩⟩
theorem GM.step {o:V.Obj} (ok:V.ObjOk o) {p:V.Mach × GS} {now:Nat} (h:GM o p now) (x:V.StepV):GM o (stepP o p x) (now + 1):=by
 have hg:=h.gd.step ok x.kind x.core
 have hd:=V.step_does h.gd ok x.kind x.core
 have hl:=V.does_len h.gd ok x.kind x.core
 obtain ⟨τ,κ,gi⟩:=h.gi
 have ml:=h.ml
 unfold stepP
 generalize stepS o p.1 x.kind x.core = r at *
 cases hd with
 | bad e he =>
  rw [if_pos (by show e ≠ 0;omega)]
  exact ⟨hg,⟨τ,κ,gi.later (by omega)⟩,ml⟩
 | idle hk =>
  rw [if_neg (by simp)]
  exact ⟨hg,⟨τ,κ,gi.later (by omega)⟩,ml⟩
 | does q hq d s2 hd =>
  rw [if_neg (by simp)]
  obtain ⟨τ2,κ2,hn⟩:=did_next gi ml ok.cores hd hl
  exact ⟨hg,⟨τ2,κ2,hn.1⟩,hn.2.1⟩
theorem GM.at {o:V.Obj} (ok:V.ObjOk o) (l:List V.StepV):∀ i,i ≤ l.length→GM o (atP o l i) i∧(atP o l i).1.prints.length ≤ i
 | 0,_ => ⟨GM.init ok,by simp [atP,initM]⟩
 | i + 1,h => by
  have h1:=GM.at ok l i (by omega)
  rw [atP_next (by omega)]
  exact ⟨h1.1.step ok _,Nat.le_trans (V.prints_step o (atP o l i).1 (l.getD i default).kind (l.getD i default).core) (Nat.succ_le_succ h1.2)⟩
theorem GM.drain {o:V.Obj} (ok:V.ObjOk o) {p:V.Mach × GS} {now:Nat} (h:GM o p now) {c:Nat} (hc:c < o.cores.length) (hw:p.2.w c ≠ []):(stepP o p ⟨2,c⟩).2 = p.2.drain1 c∧(stepP o p ⟨2,c⟩).1.prints = p.1.prints:=by
 obtain ⟨τ,κ,gi⟩:=h.gi
 have ml:=h.ml
 have hb:=ml.buf c hc
 have hcl:c < p.1.cores.length:=by rw [ml.nco];exact hc
 have e:stepS o p.1 2 c = drainS o p.1 c:=by rw [stepS,if_neg (by decide),if_pos rfl]
 have ho:¬ out p.1 c:=by unfold out;omega
 unfold stepP
 dsimp only
 rw [e,drainS,if_neg ho,Int.toNat_natCast]
 cases hbc:(p.1.core c).buf with
 | nil => rw [hbc] at hb;exact absurd (List.map_eq_nil_iff.1 hb.symm) hw
 | cons x t =>
  cases hwc:p.2.w c with
  | nil => exact absurd hwc hw
  | cons k r =>
   rw [hbc,hwc] at hb
   simp only [List.map_cons,List.cons.injEq,Prod.mk.injEq] at hb
   refine ⟨?_,rfl⟩
   show p.2.did ⟨8,c,x.pc,x.addr,x.word,0,false⟩ = _
   rw [GS.did,if_neg (show ¬ (8:Int) = 2 by decide),if_neg (show ¬ (8:Int) = 3 by decide),if_neg (show ¬ (8:Int) = 4 by decide),if_neg (show ¬ ((8:Int) = 5 ∨ (8:Int) = 6) by decide),if_pos (show (8:Int) = 8 from rfl),GS.drain1,GS.pop]
   simp only [Int.toNat_natCast,hwc,List.headD_cons,hb.1.1]
theorem drain1_w (g:GS) (c c':Nat) (hc:c < g.q.length):(g.drain1 c).w c' = if c' = c then (g.w c).tail else g.w c':=by
 show (g.q.set c (g.w c).tail).getD c' [] = _
 exact gD_set hc
end
end Go.Proofs.YtflicfkgbjmffaaGreat
end
