import Derived.Test.YtmonponfppdgfaaGreatDoorM22
import Derived.Test.YtmonponfppdgfaaGreatDoorM43
namespace Go.Proofs.YtmonponfppdgfaaGreatDoor
open Go Go.dD Go.Proofs Go.RowKit Go.ChangeShapes Go.WideShapes Go.ChangeAt
set_option linter.unusedSimpArgs false
set_option linter.unusedVariables false
set_option maxRecDepth 100000 in
theorem rN (os:Os) (started:os.Started) (H:Type) (enc:TypeId×Value->H):
 ReturnsInHanded {} Tryz.checked os 5 .any (fun w args=>(Rows.deadOwnSpec.pre enc Tryz.prog Tryz.f5 [] false w args/\laidMetH Tryz.prog wu w)/\sizedMet enc Tryz.prog Tryz.f5 (OpenSpec.ofChange Rows.deadOwnSpec) false w args) (Rows.deadOwnSpec.post enc Tryz.prog Tryz.f5 false true false false):=by
 refine returnsInHanded_of_change_and (C:=Tryz.checked) (X:=fun w _=>laidMetH Tryz.prog wu w) (fun _ _ _ hh h=>h.of_heap hh) own started (by kernel_rfl) Tryz.func5
  (ChangeSpec.witness_shaped (enc:=enc) (C:=Tryz.checked) (os:=os) (X:=fun w _=>laidMetH Tryz.prog wu w) false (World.doorLaid Tryz.prog 400 os) #[.agg #[.slice none 0 0, .slice none 0 0, .slice none 0 0], .int .i64 0] 8 rfl (World.shaped_of_RefB (by kernel_rfl) (by kernel_rfl)) (by kernel_rfl) (by kernel_rfl) (by kernel_rfl) (ED os _)) ?_
 intro W base args ds gs before hval hW _ hr hL _
 refine vL (ts:=[25,3]) (tb:=4) laidOut (by kernel_rfl) rfl Tryz.underlying4 (by kernel_rfl) (fun ds h=> ?_) (fun t ht=> ?_)
  (nS (ag:=true) (by kernel_rfl) zX (fun h=>by cases h) (nS (ag:=false) (by kernel_rfl) (eI Tryz.underlying3) (fun _ _ _=>rfl) vQ))
  (fun a h=> ?_) hval hW hr (KP hL)
 ·match ds,h with
  |[d0,d1],_=>rfl
 ·have:∀t∈[25,3],Tryz.prog.readableRec t=true/\t<Tryz.prog.types.size:=by
   simp only[List.forall_mem_cons]
   refine⟨⟨by kernel_rfl,of_decide_eq_true (by kernel_rfl)⟩,⟨by kernel_rfl,of_decide_eq_true (by kernel_rfl)⟩,by simp⟩
  exact this t ht
 ·exact vA a.1 h.1 a.2.1 h.2.1
theorem wD:Rows.DeadOwnSaid:=
 OpenClaim.holds_of_wide 5 Tryz.f5 rfl rfl rfl rfl rfl rfl rfl ⟨rfl,rfl,rfl,rfl,rfl⟩ rfl rfl rfl rfl rfl (by kernel_rfl) Tryz.func5 (by kernel_rfl)
  (of_decide_eq_true (by kernel_rfl)) (by unfold Func.isWrapper;first|(rw[if_pos (by decide+kernel)];kernel_rfl)|(rw[if_neg (by decide+kernel)];exact⟨rfl,rfl⟩))
  (fun os started H enc _=>rN os started H enc)
set_option maxRecDepth 100000 in
theorem deadOwn_holds:Rows.DeadOwnCardSaid:=
 Claim7.holds_tied_plain_at .later [] [.data] true (true, "12af8c7818b0501ec9e10285ad2d8f59b85aa667e4dfad6624519679bdff7faf") false
  wD (fun _ h=>by cases h) (by kernel_rfl) (fun _ h=>by cases h) deadOwn_row_tie rfl ⟨rfl,rfl⟩ (by kernel_rfl) rfl
  (fun f fn hf hfn=>by
   obtain rfl:f=5:=Option.some.inj ((show Tryz.prog.funcNamed "stile/stilelaw14.DeadOwn" =some 5 by kernel_rfl).symm.trans hf)|>.symm
   obtain rfl:fn=Tryz.f5:=(Option.some.inj (Tryz.func5.symm.trans hfn)).symm
   exact⟨by kernel_rfl,fun j t ht=>by
    rw[show Tryz.f5.params=#[25,3] by kernel_rfl] at ht
    have hm:t∈[25,3]:=by simpa using Array.mem_of_getElem? ht
    have hall:([25,3].all fun u=> !Tryz.prog.wantsStandIn u)=true:=by kernel_rfl
    exact(show Tryz.prog.wantsStandIn t=false by simpa using List.all_eq_true.1 hall t hm)⟩)
  (by kernel_rfl)
end Go.Proofs.YtmonponfppdgfaaGreatDoor
