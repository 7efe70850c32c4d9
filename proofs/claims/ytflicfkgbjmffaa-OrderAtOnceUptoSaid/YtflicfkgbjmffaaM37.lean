import Derived.Test.YtflicfkgbjmffaaM36
section
/- With a drain right behind each step: the plain law. -/
namespace Go.Proofs.Ytflicfkgbjmffaa
open Go Go.Abs Go.Proofs V
set_option linter.unusedSimpArgs false
set_option linter.unusedVariables false
def pairsL : List Int → List V.StepV
  | [] => []
  | c :: cs => ⟨1, c⟩ :: ⟨2, c⟩ :: pairsL cs
theorem pairsL_len : ∀ cs : List Int, (pairsL cs).length = 2 * cs.length
  | [] => rfl
  | c :: cs => by simp only [pairsL, List.length_cons, pairsL_len cs]; omega
theorem pairsL_app : ∀ (cs : List Int) (c : Int), pairsL (cs ++ [c]) = pairsL cs ++ [⟨1, c⟩, ⟨2, c⟩]
  | [], c => rfl
  | d :: cs, c => by simp only [List.cons_append, pairsL, pairsL_app cs c]
section
variable {m nc : Nat} {F : List Int} {g : GS} {τ κ : Nat → Nat} {now : Nat} {s : V.Mach}
theorem did_kind (d : V.DidS) (h : g.ev.length < (g.did d).ev.length) (hk : ((g.did d).e g.ev.length).kind = 2) : d.kind = 3 := by
  rw [did_len] at h
  by_cases h26 : 2 ≤ d.kind ∧ d.kind ≤ 6
  · by_cases k3 : d.kind = 3
    · exact k3
    exfalso
    unfold GS.did at hk
    by_cases k2 : d.kind = 2
    · rw [if_pos k2] at hk
      rw [show (g.put ⟨1, d.core, d.addr, d.word, 0⟩ (g.seen d)).e g.ev.length = ⟨1, d.core, d.addr, d.word, 0⟩ from gD_end _ _ _] at hk
      exact absurd (show (1 : Int) = 2 from hk) (by decide)
    rw [if_neg k2, if_neg k3] at hk
    by_cases k4 : d.kind = 4
    · rw [if_pos k4] at hk
      have e : ((g.put ⟨3, d.core, d.addr, d.word, d.put⟩ (g.l d.addr.toNat)).came d.addr.toNat g.ev.length).e g.ev.length = ⟨3, d.core, d.addr, d.word, d.put⟩ := gD_end _ _ _
      rw [e] at hk
      exact absurd (show (3 : Int) = 2 from hk) (by decide)
    rw [if_neg k4, if_pos (by omega)] at hk
    rw [show (g.put ⟨4, d.core, 0, 0, 0⟩ (-1)).e g.ev.length = ⟨4, d.core, 0, 0, 0⟩ from gD_end _ _ _] at hk
    exact absurd (show (4 : Int) = 2 from hk) (by decide)
  · rw [if_neg h26] at h; omega
theorem did_q (d : V.DidS) (h3 : d.kind ≠ 3) (h8 : d.kind ≠ 8) : (g.did d).q = g.q := by
  unfold GS.did
  repeat' split
  all_goals first | rfl | (exfalso; omega)
theorem mem_set_app {L : List (List Int)} {t u : Nat} {k x : Int} (h : x ∈ L.getD u []) : x ∈ (L.set t (L.getD t [] ++ [k])).getD u [] := by
  by_cases ht : t < L.length
  · rw [gD_set ht]
    split
    · rename_i e; rw [e] at h; exact List.mem_append_left _ h
    · exact h
  · rw [List.set_eq_of_length_le (by omega)]; exact h
theorem came_did {i : Nat} (hi : i < g.ev.length) (d : V.DidS) (hc : Came g i) : Came (g.did d) i := by
  unfold Came at hc ⊢
  have e : (g.did d).e i = g.e i := by
    unfold GS.did
    split
    · exact gD_app _ hi
    split
    · exact gD_app _ hi
    split
    · exact gD_app _ hi
    split
    · exact gD_app _ hi
    split
    · rfl
    · rfl
  rw [e]
  unfold GS.did
  split
  · exact hc
  split
  · exact hc
  split
  · exact mem_set_app hc
  split
  · exact hc
  split
  · exact mem_set_app hc
  · exact hc
end
structure AOM (o : V.Obj) (p : V.Mach × GS) (now : Nat) : Prop where
  gd : V.Good o p.1
  gi : ∃ τ κ, GI o.mem.length o.cores.length o.mem p.2 τ κ now ∧ AtO p.2 τ κ
  ml : ML o.mem.length o.cores.length o.mem p.1 p.2
  all : AllC o.cores.length p.2
theorem AOM.drain0 {o : V.Obj} {p : V.Mach × GS} {now : Nat} (h : AOM o p now) (c : Int) : stepP o p ⟨2, c⟩ = p := by
  have e : stepS o p.1 2 c = drainS o p.1 c := by rw [stepS, if_neg (by decide), if_pos rfl]
  unfold stepP
  dsimp only
  rw [e, drainS]
  by_cases ho : out p.1 c
  · rw [if_pos ho]; rfl
  · rw [if_neg ho]
    have hc : c.toNat < o.cores.length := by unfold out at ho; have := h.ml.nco; omega
    have hb := h.ml.buf _ hc
    rw [h.all _ hc] at hb
    rw [List.map_eq_nil_iff.1 hb]
    rfl
theorem AOM.later {o : V.Obj} {p : V.Mach × GS} {now now' : Nat} (h : AOM o p now) (hn : now ≤ now') : AOM o p now' := by
  obtain ⟨τ, κ, gi, ho⟩ := h.gi
  exact ⟨h.gd, ⟨τ, κ, gi.later hn, ho⟩, h.ml, h.all⟩
theorem AOM.pair {o : V.Obj} (ok : V.ObjOk o) {p : V.Mach × GS} {now : Nat} (h : AOM o p now) (c : Int) : AOM o (stepP o (stepP o p ⟨1, c⟩) ⟨2, c⟩) (now + 2) := by
  have hg1 := h.gd.step ok 1 c
  have hd1 := V.step_does h.gd ok 1 c
  have hl1 := V.does_len h.gd ok 1 c
  obtain ⟨τ, κ, gi, hat⟩ := h.gi
  obtain ⟨s, g⟩ := p
  have ml := h.ml
  have hall := h.all
  dsimp only at gi hat ml hall hg1 hd1 hl1
  have e1 : stepP o (s, g) ⟨1, c⟩ = ((stepS o s 1 c).1, if (stepS o s 1 c).2.2 ≠ 0 then g else g.did (stepS o s 1 c).2.1) := rfl
  rw [e1]
  generalize stepS o s 1 c = r at *
  cases hd1 with
  | bad e he =>
    rw [if_pos (by show e ≠ 0; omega)]
    have h2 : AOM o (s, g) now := h
    rw [h2.drain0]
    exact h2.later (by omega)
  | idle hk =>
    rw [if_neg (by simp)]
    have h2 : AOM o (s, g) now := h
    have e2 : g.did V.did0 = g := rfl
    show AOM o (stepP o (s, g.did V.did0) ⟨2, c⟩) (now + 2)
    rw [e2, h2.drain0]
    exact h2.later (by omega)
  | does q hq d s2 hd =>
    rw [if_neg (by simp)]
    show AOM o (stepP o (s2, g.did d) ⟨2, c⟩) (now + 2)
    obtain ⟨τ2, κ2, gi2, ml2, n1, n2, hold, hkc, hnew, hcm⟩ := did_next gi ml ok.cores hd hl1
    have hcq : ∀ i, i < g.ev.length → (g.e i).wr = true → Came g i := fun i hi hw => AllC.came gi hall hi hw
    by_cases k3 : d.kind = 3
    · obtain ⟨hqn, hdc⟩ := core_of ml hd
      have hlen : (g.did d).ev.length = g.ev.length + 1 := by rw [did_len, if_pos (by omega)]
      have hw2 : ∀ c', (g.did d).w c' = if c' = q then [(g.ev.length : Int)] else g.w c' := fun c' => by
        rw [GS.did, if_neg (by omega), if_pos k3, hdc]
        show (g.q.set q (g.w q ++ [(g.ev.length : Int)])).getD c' [] = _
        rw [gD_set (by rw [gi.lq]; exact hqn), hall q hqn]
        rfl
      have hwq : (g.did d).w q = [(g.ev.length : Int)] := by rw [hw2, if_pos rfl]
      have hg2 := hg1.step ok 2 c
      have hd2 := V.step_does hg1 ok 2 c
      have hl2 := V.does_len hg1 ok 2 c
      have hbuf := ml2.buf q hqn
      rw [hwq] at hbuf
      have e2 : stepS o s2 2 c = drainS o s2 c := by rw [stepS, if_neg (by decide), if_pos rfl]
      have hv : (stepS o s2 2 c).2.1.kind = 8 ∧ (stepS o s2 2 c).2.2 = 0 := by
        have hlt2 : q < s2.cores.length := by rw [ml2.nco]; exact hqn
        have ho : ¬ out s2 c := by unfold out; omega
        rw [e2, drainS, if_neg ho, hq, Int.toNat_natCast]
        cases hbc : (s2.core q).buf with
        | nil => rw [hbc] at hbuf; simp at hbuf
        | cons x t => exact ⟨rfl, rfl⟩
      have e3 : stepP o (s2, g.did d) ⟨2, c⟩ = ((stepS o s2 2 c).1, if (stepS o s2 2 c).2.2 ≠ 0 then g.did d else (g.did d).did (stepS o s2 2 c).2.1) := rfl
      rw [e3]
      dsimp only at hd2 hl2 hg2
      generalize stepS o s2 2 c = r2 at *
      cases hd2 with
      | bad e he => have h9 : e = 0 := hv.2; omega
      | idle hk => have h9 : V.did0.kind = 8 := hv.1; exact absurd h9 (by decide)
      | does q' hq' d' s3 hd' =>
        rw [if_neg (by simp)]
        have hqq : q' = q := by omega
        subst hqq
        obtain ⟨τ3, κ3, gi3, ml3, n3, n4, hold3, hkc3, hnew3, hcm3⟩ := did_next gi2 ml2 ok.cores hd' hl2
        have k8 : d'.kind = 8 := hv.1
        have hdc' : d'.core.toNat = q' := (core_of ml2 hd').2
        have hlen3 : ((g.did d).did d').ev.length = g.ev.length + 1 := by rw [did_len, if_neg (by omega), hlen]
        refine ⟨hg2, ⟨τ3, κ3, gi3, fun i hi hk hc => ?_⟩, ml3, fun c' hc' => ?_⟩
        · rw [hlen3] at hi
          have hi2 : i < (g.did d).ev.length := by omega
          obtain ⟨b1, b2, b3⟩ := hold3 i hi2
          rw [b3]
          by_cases hin : i < g.ev.length
          · obtain ⟨a1, a2, a3⟩ := hold i hin
            have hkg : (g.e i).kind = 2 := by rw [← a1, ← b1]; exact hk
            have hcg := hcq i hin (wr_kind.2 (.inl hkg))
            have hc2 := came_did hin d hcg
            rw [hkc3 i hi2 hc2, hkc i hin hcg, a3]
            exact hat i hin hkg hcg
          · have hin : i = g.ev.length := by omega
            subst hin
            have hn2 : ¬ Came (g.did d) g.ev.length := fun hc2 => by
              have h5 := gi2.dis _ hi2 hc2
              have h6 := (gi2.q q' hqn (g.ev.length : Int) (by rw [hwq]; simp)).2.2.2
              rw [Int.toNat_natCast] at h6
              rw [h6, Int.toNat_natCast, hwq] at h5
              simp at h5
            rcases hcm3 _ (by rw [hlen3]; omega) hc with ⟨_, h5⟩ | h5
            · exact absurd h5 hn2
            · rw [h5, hnew _ hi2 (Nat.le_refl _)]
        · rw [GS.did, if_neg (by omega), if_neg (by omega), if_neg (by omega), if_neg (by omega), if_pos k8, hdc']
          show ((g.did d).q.set q' ((g.did d).w q').tail).getD c' [] = []
          rw [gD_set (by rw [gi2.lq]; exact hqn), hwq]
          split
          · rfl
          · rename_i hne
            have := hw2 c'
            rw [if_neg hne, hall c' hc'] at this
            exact this
    · have k8 : d.kind ≠ 8 := fun k8 => by
        obtain ⟨hqn, _⟩ := core_of ml hd
        have hb := ml.buf q hqn
        rw [hall q hqn, hd.drain k8] at hb
        simp at hb
      have hq2 := did_q (g := g) d k3 k8
      have h2 : AOM o (s2, g.did d) (now + 1) := by
        refine ⟨hg1, ⟨τ2, κ2, gi2, fun i hi hk hc => ?_⟩, ml2, fun c' hc' => ?_⟩
        · have hi : i < (g.did d).ev.length := hi
          by_cases hin : i < g.ev.length
          · obtain ⟨a1, a2, a3⟩ := hold i hin
            have hk : ((g.did d).e i).kind = 2 := hk
            rw [a1] at hk
            have hcg := hcq i hin (wr_kind.2 (.inl hk))
            rw [hkc i hin hcg, a3]
            exact hat i hin hk hcg
          · have hin : i = g.ev.length := by omega
            subst hin
            exact absurd (did_kind d hi hk) k3
        · show (g.did d).q.getD c' [] = []
          rw [hq2]; exact hall c' hc'
      rw [h2.drain0]
      exact h2.later (by omega)
theorem AOM.all' {o : V.Obj} (ok : V.ObjOk o) : ∀ (cs : List Int) {p : V.Mach × GS} {now : Nat}, AOM o p now → AOM o ((pairsL cs).foldl (stepP o) p) (now + 2 * cs.length)
  | [], p, now, h => h
  | c :: cs, p, now, h => by
    have h2 := AOM.all' ok cs (h.pair ok c)
    rw [show now + 2 + 2 * cs.length = now + 2 * (c :: cs).length by simp only [List.length_cons]; omega] at h2
    exact h2
theorem AOM.init {o : V.Obj} (ok : V.ObjOk o) : AOM o (initM o, g0 o) 0 := by
  have h := GM.init ok
  obtain ⟨τ, κ, gi⟩ := h.gi
  refine ⟨h.gd, ⟨τ, κ, gi, fun i hi => absurd (show i < 0 from hi) (by omega)⟩, h.ml, fun c hc => ?_⟩
  show (List.replicate o.cores.length ([] : List Int)).getD c [] = []
  simp only [List.getD, List.getElem?_replicate]; split <;> rfl
theorem finTo_all {g : GS} {nc : Nat} (h : AllC nc g) : ∀ k, k ≤ nc → g.finTo k = g
  | 0, _ => rfl
  | k + 1, hk => by
    rw [show g.finTo (k + 1) = (g.finTo k).finC k from rfl, finTo_all h k (by omega)]
    unfold GS.finC
    rw [h k (by omega)]
    rfl
theorem gath_plain {o : V.Obj} (cs : List Int) (h : gathE o (pairsL cs) = 0) : plainB (gathX o (pairsL cs)) = true := by
  obtain ⟨_, _, _, _, _, hn⟩ := gath_fin _ h
  unfold gathE at h
  cases hok : objOk o with
  | false => rw [if_pos hok] at h; cases h
  | true =>
    have ok := objOk_ok hok
    have h2 := AOM.all' ok cs (AOM.init ok)
    have e : atP o (pairsL cs) (pairsL cs).length = (pairsL cs).foldl (stepP o) (initM o, g0 o) := by unfold atP; rw [List.take_length]
    obtain ⟨τ, κ, gi, hat⟩ := h2.gi
    have hall := h2.all
    rw [← e] at gi hat hall
    have eG : gathG o (pairsL cs) = (atP o (pairsL cs) (pairsL cs).length).2 := by unfold gathG; exact finTo_all hall _ (Nat.le_refl _)
    rw [eG] at hn
    unfold gathX
    rw [eG]
    exact gather_plain gi rfl hall hat hn
end Go.Proofs.Ytflicfkgbjmffaa
end
section
/- With a drain right behind each step: the walk. -/
namespace Go.Proofs.Ytflicfkgbjmffaa
open Go Go.Abs Go.Proofs V
set_option linter.unusedSimpArgs false
set_option linter.unusedVariables false
theorem told_list {P : Program} {f : FuncId} {b len nx : Nat} {e : TypeId} {d : AV} {es : List AV} {o : V.Obj} {H : Hp} {R : AV → Prop} (hb : getH H b = some (.row e 2 d es)) (hl : es.length = len) (h : Pure P f [o.av, .im 2 .any es] R) (hf : fitL 0 [o.av, .im 2 .any es]) :
    CallN P f [o.av, .sl b len] H nx (fun r H' n => R r ∧ n = nx ∧ ∀ y, y ≠ b → getH H' y = getH H y) := by
  refine CallN.tellArgs (args2 := [o.av, .im 2 .any es]) (H2 := goneH [(b, some (.row e 2 d es))] H) (nx2 := nx) (Pure.callN h hf fun r hr => ⟨hr, rfl, fun y hy => goneH_out (by simpa using hy)⟩) ?_
  have h1 := Wk.iceR (r := .tup [o.av, .sl b len]) (H := H) (nx := nx) [(b, some (.row e 2 d es))] 2 (fun b' q hq => by
    by_cases hbb : b' = b
    · subst hbb; rw [getH_here] at hq; rw [← hq]; exact hb
    · rw [getH_skipEq hbb] at hq; cases hq)
  have e1 : Go.Abs.ice [(b, some (.row e 2 d es))] 2 (.tup [o.av, .sl b len]) = .tup [o.av, .im 2 .any es] := by
    show AV.tup [Go.Abs.ice [(b, some (.row e 2 d es))] 1 o.av, Go.Abs.ice [(b, some (.row e 2 d es))] 1 (.sl b len)] = _
    rw [ice_sl (getH_here _ _ _) hl, ice_zero]
    rfl
  rw [e1] at h1
  exact h1
theorem told_nil {P : Program} {f : FuncId} {o : V.Obj} {R : AV → Prop} (h : Pure P f [o.av, .im 2 .any []] R) : Pure P f [o.av, .sc (.slice none 0 0)] R :=
  Pure.args h fun c => .cons (fun _ hv => hv) (.cons (Abs.AVle.nilIm c c 2 .any) .nil)
theorem pairs_take {ks : List Int} {i : Nat} (h : i < ks.length) : pairsL (ks.take (i + 1)) = pairsL (ks.take i) ++ [⟨1, ks.getD i default⟩, ⟨2, ks.getD i default⟩] := by
  rw [← pairsL_app]
  congr 1
  rw [List.take_succ_eq_append_getElem h]
  simp [List.getD, h]
set_option maxHeartbeats 2000000 in
theorem atOnce_pure {o : V.Obj} (ho : o.Wf) (ks : List Int) (hks : ks.length ≤ 1048576) : Pure Try.prog 4 [o.av, .im 1 .any (ks.map i64)] (fun r => r = bl true) := by
  refine Go.pure Try.func4 nm4 low4 res4 nt4 rfl ?_
  repeat' (first | ((with_reducible refine Go.red ?_); conv => whnf) | refine aG ?_ | exact aC | with_reducible refine Go.and ?_ ?_ | (apply Go.elem; (· exact aElem)) | ((with_reducible refine Go.callW (begins_pure) ?_ ?_); (· exact aFit)) | ((with_reducible refine Go.callJ (fun _ => begins_pure) ?_ ?_); (· exact aFit)) | ((with_reducible refine Go.callE (begins_pure) ?_ ?_); (· exact aFit)) | ((with_reducible refine Go.callF (fun _ => begins_pure) ?_ ?_); (· exact aFit)) | refine aH ?_ | ((with_reducible refine Go.bool ?_ ?_) <;> intro hc <;> (try simp only [List.length_map, ne_eq, hcs] at hc) <;> try (exfalso; omega)))
  refine Go.loop (fun p : Nat × AV => [(1, .im 1 .any (ks.map i64)), (2, .pt 0 1 0 0), (5, p.2), (6, i64 p.1)])
    (fun p H n => p.1 ≤ ks.length ∧ 1 ≤ n ∧ getH H 0 = some (.row 25 5 .any [o.av]) ∧ ((p.1 = 0 ∧ p.2 = .sc (.slice none 0 0)) ∨ ∃ fb dF, p.2 = .sl fb (2 * p.1) ∧ 1 ≤ fb ∧ fb < n ∧ getH H fb = some (.row 43 2 dF ((pairsL (ks.take p.1)).map V.StepV.av)))) (fun p => ks.length - p.1) (0, .sc (.slice none 0 0)) aLess ⟨Nat.zero_le _, aNx, aRow, .inl ⟨rfl, rfl⟩⟩ ?_
  rintro ⟨i, sf⟩ H n ⟨hi, hn, r0, hl⟩
  dsimp only at hi hl ⊢
  by_cases hik : i < ks.length
  · have hp := pairs_take hik
    rcases hl with ⟨rfl, rfl⟩ | ⟨fb, dF, rfl, h1, h2, h3⟩
    · repeat' (first | ((with_reducible refine Go.red ?_); conv => whnf) | refine aG ?_ | exact aC | with_reducible refine Go.and ?_ ?_ | (apply Go.elem; (· exact aElem)) | refine aH ?_ | ((with_reducible refine Go.bool ?_ ?_) <;> intro hc <;> (try simp only [List.length_map, ne_eq, hcs] at hc) <;> try (exfalso; omega)))
      refine ⟨(1, .sl (n + 16) 2), by dsimp only; omega, aLess, by dsimp only; omega, aNx, aRow, .inr ⟨n + 16, _, rfl, by omega, aNx, by dsimp only; rw [hp]; exact aRow⟩⟩
    · have hlen : ((pairsL (ks.take i)).map V.StepV.av).length = 2 * i := by rw [List.length_map, pairsL_len, List.length_take]; omega
      repeat' (first | ((with_reducible refine Go.red ?_); conv => whnf) | refine aG ?_ | exact aCn | with_reducible refine Go.and ?_ ?_ | ((with_reducible refine Ask.mk ?_); first | exact aAsk | (refine app_le (m := 2) rfl ?_; omega) | exact aAsk2) | (apply Go.elem; (· exact aElem)) | refine aH ?_ | ((with_reducible refine Go.bool ?_ ?_) <;> intro hc <;> (try simp only [List.length_map, ne_eq, hcs] at hc) <;> try (exfalso; omega)))
      refine ⟨(i + 1, .sl fb (2 * i + 2)), by dsimp only; omega, aLess, by dsimp only; omega, aNx, aRow, .inr ⟨fb, _, rfl, h1, aNx, by dsimp only; rw [hp, List.map_append]; exact aRow⟩⟩
  · have hie : i = ks.length := by omega
    subst hie
    rw [List.take_length] at hl
    by_cases he : gathE o (pairsL ks) = 0
    · have hx := gath_wf ho _ he
      have hpl := gath_plain ks he
      have hok := gath_ok _ he
      have h4 := plain_pure (gathX o (pairsL ks)) hx
      rw [hpl, show errN (gathX o (pairsL ks)) = 0 by simp [errN, hok]] at h4
      have h5 := gather_ok ho _ he
      rcases hl with ⟨hk0, rfl⟩ | ⟨fb, dF, rfl, h1, h2, h3⟩
      · obtain rfl : ks = [] := List.eq_nil_of_length_eq_zero hk0
        have h6 := told_nil h5
        repeat' (first | ((with_reducible refine Go.red ?_); conv => whnf) | refine aG ?_ | exact aCn | with_reducible refine Go.and ?_ ?_ | ((with_reducible refine Ask.mk ?_); first | exact aAsk | exact aAsk2 | (intro h; simp_all [Exec.cells] <;> fail) | (simp_all [Exec.cells] <;> fail)) | (apply Go.elem; (· exact aElem)) | ((with_reducible refine Go.callW (h6) ?_ ?_); (· exact aFit)) | ((with_reducible refine Go.callJ (fun _ => h6) ?_ ?_); (· exact aFit)) | ((with_reducible refine Go.callE (h6) ?_ ?_); (· exact aFit)) | ((with_reducible refine Go.callF (fun _ => h6) ?_ ?_); (· exact aFit)) | ((with_reducible refine Go.callW (h4) ?_ ?_); (· exact aFit)) | ((with_reducible refine Go.callJ (fun _ => h4) ?_ ?_); (· exact aFit)) | ((with_reducible refine Go.callE (h4) ?_ ?_); (· exact aFit)) | ((with_reducible refine Go.callF (fun _ => h4) ?_ ?_); (· exact aFit)) | refine aH ?_ | ((with_reducible refine Go.bool ?_ ?_) <;> intro hc <;> (try simp only [List.length_map, ne_eq, hcs] at hc) <;> try (exfalso; omega)))
        exact rfl
      · have hlen : ((pairsL ks).map V.StepV.av).length = 2 * ks.length := by rw [List.length_map, pairsL_len]
        repeat' (first | ((with_reducible refine Go.red ?_); conv => whnf) | refine aG ?_ | exact aC | with_reducible refine Go.and ?_ ?_ | (apply Go.elem; (· exact aElem)) | refine aH ?_ | ((with_reducible refine Go.bool ?_ ?_) <;> intro hc <;> (try simp only [List.length_map, ne_eq, hcs] at hc) <;> try (exfalso; omega)))
        refine Go.callN (told_list (es := (pairsL ks).map V.StepV.av) aRow hlen h5 aFit) ?_
        rintro _ H2 n2 ⟨rfl, hn2, hfr⟩
        repeat' (first | ((with_reducible refine Go.red ?_); conv => whnf) | refine aG ?_ | exact aCn | with_reducible refine Go.and ?_ ?_ | ((with_reducible refine Ask.mk ?_); first | exact aAsk | exact aAsk2 | (intro h; simp_all [Exec.cells] <;> fail) | (simp_all [Exec.cells] <;> fail)) | (apply Go.elem; (· exact aElem)) | ((with_reducible refine Go.callW (h4) ?_ ?_); (· exact aFit)) | ((with_reducible refine Go.callJ (fun _ => h4) ?_ ?_); (· exact aFit)) | ((with_reducible refine Go.callE (h4) ?_ ?_); (· exact aFit)) | ((with_reducible refine Go.callF (fun _ => h4) ?_ ?_); (· exact aFit)) | refine aH ?_ | ((with_reducible refine Go.bool ?_ ?_) <;> intro hc <;> (try simp only [List.length_map, ne_eq, hcs] at hc) <;> try (exfalso; omega)))
        exact rfl
    · have hd : decide (gathE o (pairsL ks) ≠ 0) = true := decide_eq_true he
      have h5 := gather_err ho _ he
      rcases hl with ⟨hk0, rfl⟩ | ⟨fb, dF, rfl, h1, h2, h3⟩
      · obtain rfl : ks = [] := List.eq_nil_of_length_eq_zero hk0
        have h6 := told_nil h5
        repeat' (first | ((with_reducible refine Go.red ?_); conv => whnf) | refine aG ?_ | exact aCn | with_reducible refine Go.and ?_ ?_ | ((with_reducible refine Ask.mk ?_); first | exact aAsk | (simp only [hd]) | exact aAsk2) | (apply Go.elem; (· exact aElem)) | ((with_reducible refine Go.callW (h6) ?_ ?_); (· exact aFit)) | ((with_reducible refine Go.callJ (fun _ => h6) ?_ ?_); (· exact aFit)) | ((with_reducible refine Go.callE (h6) ?_ ?_); (· exact aFit)) | ((with_reducible refine Go.callF (fun _ => h6) ?_ ?_); (· exact aFit)) | refine aH ?_ | ((with_reducible refine Go.bool ?_ ?_) <;> intro hc <;> (try simp only [List.length_map, ne_eq, hcs] at hc) <;> try (exfalso; omega)))
        exact rfl
      · have hlen : ((pairsL ks).map V.StepV.av).length = 2 * ks.length := by rw [List.length_map, pairsL_len]
        repeat' (first | ((with_reducible refine Go.red ?_); conv => whnf) | refine aG ?_ | exact aC | with_reducible refine Go.and ?_ ?_ | (apply Go.elem; (· exact aElem)) | refine aH ?_ | ((with_reducible refine Go.bool ?_ ?_) <;> intro hc <;> (try simp only [List.length_map, ne_eq, hcs] at hc) <;> try (exfalso; omega)))
        refine Go.callN (told_list (es := (pairsL ks).map V.StepV.av) aRow hlen h5 aFit) ?_
        rintro _ H2 n2 ⟨rfl, hn2, hfr⟩
        repeat' (first | ((with_reducible refine Go.red ?_); conv => whnf) | refine aG ?_ | exact aCn | with_reducible refine Go.and ?_ ?_ | ((with_reducible refine Ask.mk ?_); first | exact aAsk | (simp only [hd]) | exact aAsk2) | (apply Go.elem; (· exact aElem)) | refine aH ?_ | ((with_reducible refine Go.bool ?_ ?_) <;> intro hc <;> (try simp only [List.length_map, ne_eq, hcs] at hc) <;> try (exfalso; omega)))
        exact rfl
end Go.Proofs.Ytflicfkgbjmffaa
end
section
/- With a drain right behind each step what the machine does is one order: for every object and every list of cores that are together of bulk at most 1048576. -/
namespace Go.Proofs.Ytflicfkgbjmffaa
open Go Go.Abs Go.Proofs Go.RowKit Go.ChangeShapes Go.WideShapes Go.ChangeAt V
set_option linter.unusedSimpArgs false
set_option linter.unusedVariables false
theorem orderAtOnce_main (o : V.Obj) (l : List Int) (h : (o.Wf ∧ ((∀ x ∈ l, wf64 x) ∧ l.length * 8 ≤ 140737488351232) ∧ True) ∧ l.length ≤ 1048576) : Abs.Pure Try.prog 4 [o.av, .im 1 .any (l.map i64)] (fun r => r = bl true) := by
  obtain ⟨⟨h1, h2, _⟩, h3⟩ := h
  exact atOnce_pure h1 l (by omega)
theorem orderAtOnce_all (o : V.Obj) (l : List Int) (h : (o.Wf ∧ ((∀ x ∈ l, wf64 x) ∧ l.length * 8 ≤ 140737488351232) ∧ True) ∧ l.length ≤ 1048576) : Abs.Pure Try.prog 4 [o.av, .im 1 .any (l.map i64)] (fun r => r = bl true) := orderAtOnce_main o l h
set_option maxRecDepth 100000 in
theorem orderAtOnce_lifted (os : Os) (started : os.Started) (H : Type) (enc : TypeId × Value → H) (F : Stop.Interp) :
    ReturnsInHanded {} Try.checked os 4 .any ((Rows.OpenSpec.upto Rows.orderAtOnceSpec).pre6 enc Try.prog Try.f4 Rows.orderAtOnceUptoRow.domain false) (((Rows.OpenSpec.upto Rows.orderAtOnceSpec).at F).post enc Try.prog Try.f4 false true false false) := by
  refine handed_upto (C := Try.checked) (s := Rows.OpenSpec.upto Rows.orderAtOnceSpec) Rows.uptoSmall rfl own started (by kernel_rfl) Try.func4
    (OpenSpec.witness (enc := enc) (C := Try.checked) (s := Rows.OpenSpec.upto Rows.orderAtOnceSpec) (k := Rows.uptoSmall) rfl false ⟨#[], #[.agg #[.slice none 0 0, .int .i64 0, .int .i64 0, .int .i64 0, .slice none 0 0], .slice none 0 0], []⟩ 8 (by kernel_rfl) (by kernel_rfl) (by kernel_rfl)
      (x := ([.agg [.nil, .lit (.int .i64 0), .lit (.int .i64 0), .lit (.int .i64 0), .nil], .nil], [], [])) (by kernel_rfl) (by kernel_rfl) (by kernel_rfl) (by kernel_rfl)) ?_
  intro W base args ds gs before hval hW hk hr
  have hk2 : Rows.uptoBulkAll ds ≤ 1048576 := by
    have h1 : Rows.uptoBulkAll (ds ++ gs) ≤ 1048576 := of_decide_eq_true hk
    exact Nat.le_trans (bulk_append_le ds gs) h1
  refine law_contract_more (ts := [25, 29]) (tb := 4) (ok' := fun a => (a.1.Wf ∧ ((∀ x ∈ a.2.1, wf64 x) ∧ a.2.1.length * 8 ≤ 140737488351232) ∧ True) ∧ a.2.1.length ≤ 1048576) (fun ds => Rows.uptoBulkAll ds ≤ 1048576) laidOut (by kernel_rfl) rfl Try.underlying4 (by kernel_rfl) (fun ds h => ?_) (fun t ht => ?_)
    (opensAll_cons (ag := true) (by kernel_rfl) opens_obj (fun h => by cases h) (opensAll_cons (ag := false) (by kernel_rfl) (opens_ints Try.underlying29 Try.underlying3 (by kernel_rfl) (by kernel_rfl)) (fun _ _ _ => rfl) opensAll_nil)) (fun W a vs ds ps hT hV hg hok => ?_)
    (fun a h => ?_) hval hW hk2 hr
  · match ds, h with
    | [d1, d2], _ => rfl
  · have : ∀ t ∈ [25, 29], Try.prog.readableRec t = true ∧ t < Try.prog.types.size := by
      simp only [List.forall_mem_cons]
      refine ⟨⟨by kernel_rfl, of_decide_eq_true (by kernel_rfl)⟩, ⟨by kernel_rfl, of_decide_eq_true (by kernel_rfl)⟩, by simp⟩
    exact this t ht
  · refine ⟨hok, ?_⟩
    obtain ⟨v1, vs1, d1, ds1, p1, q1, rfl, rfl, rfl, t1, hT⟩ := trodAll_cons hT
    obtain ⟨v2, vs2, d2, ds2, p2, q2, rfl, rfl, rfl, t2, hT⟩ := trodAll_cons hT
    rw [VRs] at hV
    obtain ⟨_, _, he, _, hV⟩ := hV
    simp only [List.cons.injEq] at he
    obtain ⟨rfl, rfl⟩ := he
    rw [VRs] at hV
    obtain ⟨_, _, he, hV, _⟩ := hV
    simp only [List.cons.injEq] at he
    obtain ⟨rfl, rfl⟩ := he
    have h1 := bulk_list Try.underlying29 t2 hV
    have h2 := bulk_all_mem (ds := d1 :: d2 :: ds2) (d := d2) (by simp)
    simp only [List.length_map] at h1
    omega
  · exact orderAtOnce_all a.1 a.2.1 h
theorem orderAtOnce_holds : Rows.OrderAtOnceUptoSaid :=
  OpenClaim.holds_of_cond 4 Try.f4 rfl rfl rfl rfl rfl rfl rfl ⟨rfl, rfl, rfl, rfl, rfl⟩ rfl rfl rfl rfl rfl (by kernel_rfl) Try.func4 (by kernel_rfl)
    (of_decide_eq_true (by kernel_rfl)) (by unfold Func.isWrapper; first | (rw [if_pos (by decide +kernel)]; kernel_rfl) | (rw [if_neg (by decide +kernel)]; exact ⟨rfl, rfl⟩))
    (fun os started H enc _ F => by rw [OpenClaim.pre_of_none' rfl]; exact orderAtOnce_lifted os started H enc F)
end Go.Proofs.Ytflicfkgbjmffaa
end
