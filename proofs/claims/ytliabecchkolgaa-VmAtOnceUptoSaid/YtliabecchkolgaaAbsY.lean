/- From a law's own function to the given statement, with what is known of its data besides. -/
import Derived.Test.YtliabecchkolgaaAbsS
import Derived.JoinedCond
namespace Go.Abs
open Go.RowKit Go.ChangeShapes Go.WideShapes Go.ChangeAt
/-- The law's own function, run on all that its arguments can be, answers true: so the row's contract holds. -/
theorem law_contract_more {D : Type} {enc : TypeId × Value → D} {P : Program} {f : FuncId} {fn : Func} {s : ChangeSpec} {tb : TypeId} {ts : List TypeId} {α : Type} {args : α → List AV} {ok ok' : α → Prop} (good : List (DataW D) → Prop) (hl : laidOutB P = true) (hp : fn.params.toList = ts) (hvars : s.vars = []) (htb : P.underlying tb = some .bool) (hres : fn.resultTypes = #[tb])
    (hspec : ∀ ds : List (DataW D), ds.length = ts.length → s.fn D ds = { results := [.lit (.bool true)], args := ds }) (hts : ∀ t ∈ ts, P.readableRec t = true ∧ t < P.types.size) (hop : OpensAll P ts args ok)
    (hmore : ∀ (W : World) (a : α) (vs : List Value) (ds : List (DataW D)) (ps : List MemPlace), DataW.TrodAll enc P W 0 (fun _ => true) true ts vs ds ps → VRs (base W emp) (args a) vs → good ds → ok a → ok' a)
    (hpure : ∀ a, ok' a → Pure P f (args a) (fun r => r = .sc (.bool true))) {base0 : Nat} {W : World} {vs : Array Value} {ds gs : List (DataW D)} {before : List MemPlace}
    (hval : ∀ (j : Nat) t v, fn.params[j]? = some t → vs[j]? = some v → Value.okWide P W .any base0 t v) (hW : DataW.Whole enc P fn.params.toList s.vars false W vs.toList ds gs before)
    (hgood : good ds) (hr : (DataW.weightsEach P (fn.params.toList ++ s.plain.varTypes P) (ds ++ gs)).all (· ≤ reachBytes) = true) :
    Calls P f vs W fun e W' => ∃ v, e = .returned v ∧ s.post enc P fn false true false false W vs v W' := by
  have hW' := hW
  obtain ⟨p, q, hA, hV, rfl, hfz, hnd⟩ := hW
  rw [hvars] at hV
  obtain ⟨rfl, rfl⟩ := trodVars_none hV
  rw [hp] at hA
  have hlen : ds.length = ts.length := by
    have : ∀ {ts : List TypeId} {vs : List Value} {ds : List (DataW D)} {ps : List MemPlace}, DataW.TrodAll enc P W 0 (fun _ => true) true ts vs ds ps → ds.length = ts.length := by
      intro ts
      induction ts with
      | nil => intro vs ds ps h; obtain ⟨rfl, rfl, rfl⟩ := trodAll_nil h; rfl
      | cons t ts ih => intro vs ds ps h; obtain ⟨v, vs, d, ds, p, q, rfl, rfl, rfl, h1, h2⟩ := trodAll_cons h; simp [ih h2]
    exact this hA
  have hr' : reachOk (DataW.weightsEach P ts ds) := by
    intro n hn
    rw [List.all_eq_true] at hr
    have h0 : s.plain.varTypes P = [] := by
      have : s.plain.vars = [] := hvars
      simp [DataSpec.varTypes, this]
    have := hr n (by rw [hp, h0]; simpa using hn)
    simpa using this
  obtain ⟨a, ha, oa⟩ := hop D enc W vs.toList ds p hA hr' (fun j t v h1 h2 => ⟨base0, hval j t v (by rw [← hp] at h1; simpa using h1) (by simpa using h2)⟩)
  have oa := hmore W a vs.toList ds p hA ha hgood oa
  have hcall := (hpure a oa).2 emp W vs.toList (fun b hb => hb.elim) ha
  simp only [List.append_nil] at hW'
  have hlt : ∀ x ∈ p, x.block < W.heap.size := fun x hx => by simpa using hW'.lt x hx
  refine hcall.mono fun e W' hh => ?_
  obtain ⟨v, r, rfl, rfl, _, hvr, hb⟩ := hh
  rw [VR] at hvr
  subst hvr
  refine ⟨_, rfl, ?_⟩
  have hfn := hspec ds hlen
  have hargs : ∀ sp : Nat → Bool, (∀ x ∈ p, sp x.block = true) → DataW.TrodAll enc P W' 0 sp true fn.params.toList vs.toList (s.fn D (ds ++ [])).args p := fun sp hs => by
    rw [List.append_nil, hfn, hp]
    exact args_stay hl hA hts hlt hb hs
  have hresA : ∀ (b : Nat) (sp : Nat → Bool) (hd : Bool), DataW.TrodAll enc P W' b sp hd fn.resultTypes.toList ((Value.bool true).resultList fn.resultTypes.size) (s.fn D (ds ++ [])).results [] := fun b sp hd => by
    rw [List.append_nil, hfn, hres]
    exact trodAll_mk1 (shut_bool htb true)
  have hvarsA : ∀ sp : Nat → Bool, DataW.TrodVars enc P W' sp s.vars (s.fn D (ds ++ [])).vars [] := fun sp => by
    rw [List.append_nil, hfn, hvars]
    exact rfl
  refine ⟨ds, [], p, [], p, [], hW', hresA _ _ _, hargs _ (fun x hx => by simpa using hlt x hx), hvarsA _, World.keptBut_mono (fun x hx => ⟨hx, ?_⟩) (hb.frame (· ∈ p)), fun _ => ?_⟩
  · first | exact hx | exact .inl hx | exact .inr hx | (simp; exact hx)
  · refine ⟨ok_one hres rfl (okWide_bool_mk htb true), _, _, [] ++ p, ⟨[] ++ p, [], trodAll_append (hargs (fun _ => true) (fun _ _ => rfl)) (hresA _ _ _), hvarsA _, by simp, fun b off hx => ?_, fun h => by cases h⟩, fun x hx _ => by simpa using hx⟩
    have hx' : MemPlace.cell b off ∈ p := by simpa using hx
    rw [hb.frozen (hlt _ hx')]
    exact hfz b off (by simpa using hx')
/-- A law whose reading is bounded besides: its contract is asked where both bounds hold. -/
theorem handed_upto {D : Type} {enc : TypeId × Value → D} {C : Checked} {os : Os} {f : FuncId} {fn : Func} {s : OpenSpec} {F : Stop.Interp} {conds : List PathCond} (k : (D : Type) → List (DataW D) → Bool) (hk : s.cond = some k)
    (own : ownKnob C.prog.godebug = none) (started : os.Started) (noInit : C.prog.inits.idxOf? f = none) (hfn : C.prog.funcs[f]? = some fn)
    (witness : ∃ (w : World) (tape : Tape) (i : Input), w.os = os ∧ (w.forCall tape i).Shaped C.prog ∧ i.vars = [] ∧ Input.okWide C.prog (w.forCall tape i) .any w.heap.size f i ∧
      s.pre6 enc C.prog fn conds false (w.forCall tape i).memory i.args ∧ ({} : Assume).holds C.prog (lone (Frame.enter C.prog f i.args .normal) [] (w.forCall tape i)))
    (body : ∀ (W : World) (b0 : Nat) (vs : Array Value) (ds gs : List (DataW D)) (before : List MemPlace), (∀ (j : Nat) t v, fn.params[j]? = some t → vs[j]? = some v → Value.okWide C.prog W .any b0 t v) →
      DataW.Whole enc C.prog fn.params.toList s.vars false W vs.toList ds gs before → k D (ds ++ gs) = true →
      (DataW.weightsEach C.prog (fn.params.toList ++ s.bare.plain.varTypes C.prog) (ds ++ gs)).all (· ≤ reachBytes) = true →
      Calls C.prog f vs W fun e W' => ∃ v, e = .returned v ∧ (s.at F).post enc C.prog fn false true false false W vs v W') :
    ReturnsInHanded {} C os f .any (s.pre6 enc C.prog fn conds false) ((s.at F).post enc C.prog fn false true false false) := by
  refine returnsInHanded_of_calls own started noInit witness fun w tape i _ _ _ hok hpre _ => ?_
  obtain ⟨_, _, _, fn2, h2, _, _, _, _, hval⟩ := hok
  cases h2.symm.trans hfn
  obtain ⟨hp1, hp2⟩ := hpre
  obtain ⟨ds, gs, before, hw, _, hkk⟩ := (OpenSpec.pre_some hk conds false _ _).1 hp1
  refine (body _ w.heap.size i.args ds gs before hval (DataW.Whole.of_heap (w' := w.forCall tape i) (by rfl) hw) hkk (hp2.weights hw)).mono fun e W' hh => ?_
  obtain ⟨v, rfl, hp⟩ := hh
  exact ChangeSpec.post_blind hp
end Go.Abs
