import Derived.Test.YtekfmjjmihomlaaGreatDoorM22
import Derived.Test.YtekfmjjmihomlaaGreatDoorM46
namespace Go.Proofs.YtekfmjjmihomlaaGreatDoor
open Go Go.cw Go.Proofs Go.RowKit Go.ChangeShapes Go.WideShapes Go.ChangeAt
set_option linter.unusedSimpArgs false
set_option linter.unusedVariables false
set_option maxRecDepth 100000 in
theorem sN (os:Os) (started:os.Started) (H:Type) (enc:TypeId×Value->H):
 ReturnsInHanded {} Tryz.checked os 3 .any (fun w args=>(Rows.deadSameSpec.pre enc Tryz.prog Tryz.f3 [] false w args/\laidMetH Tryz.prog zf w)/\sizedMet enc Tryz.prog Tryz.f3 (OpenSpec.ofChange Rows.deadSameSpec) false w args) (Rows.deadSameSpec.post enc Tryz.prog Tryz.f3 false true false false):=by
 refine returnsInHanded_of_change_and (C:=Tryz.checked) (X:=fun w _=>laidMetH Tryz.prog zf w) (fun _ _ _ hh h=>h.of_heap hh) own started (by kernel_rfl) Tryz.func3
  (ChangeSpec.witness_shaped (enc:=enc) (C:=Tryz.checked) (os:=os) (X:=fun w _=>laidMetH Tryz.prog zf w) false (World.doorLaid Tryz.prog 400 os) #[.agg #[.slice none 0 0, .slice none 0 0, .slice none 0 0], .int .i64 0] 8 rfl (World.shaped_of_RefB (by kernel_rfl) (by kernel_rfl)) (by kernel_rfl) (by kernel_rfl) (by kernel_rfl) (L0 os _)) ?_
 intro W base args ds gs before hval hW _ hr hL _
 refine xr (ts:=[25,3]) (tb:=4) laidOut (by kernel_rfl) rfl Tryz.underlying4 (by kernel_rfl) (fun ds h=> ?_) (fun t ht=> ?_)
  (oP (ag:=true) (by kernel_rfl) xy (fun h=>by cases h) (oP (ag:=false) (by kernel_rfl) (eY Tryz.underlying3) (fun _ _ _=>rfl) xx))
  (fun a h=> ?_) hval hW hr (S3 hL)
 ·match ds,h with
  |[d0,d1],_=>rfl
 ·have:∀t∈[25,3],Tryz.prog.readableRec t=true/\t<Tryz.prog.types.size:=by
   simp only[List.forall_mem_cons]
   refine⟨⟨by kernel_rfl,of_decide_eq_true (by kernel_rfl)⟩,⟨by kernel_rfl,of_decide_eq_true (by kernel_rfl)⟩,by simp⟩
  exact this t ht
 ·exact vQ a.1 h.1.1 a.2.1 h.2.1
theorem xb:Rows.DeadSameSaid:=
 OpenClaim.holds_of_wide 3 Tryz.f3 rfl rfl rfl rfl rfl rfl rfl ⟨rfl,rfl,rfl,rfl,rfl⟩ rfl rfl rfl rfl rfl (by kernel_rfl) Tryz.func3 (by kernel_rfl)
  (of_decide_eq_true (by kernel_rfl)) (by unfold Func.isWrapper;first|(rw[if_pos (by decide+kernel)];kernel_rfl)|(rw[if_neg (by decide+kernel)];exact⟨rfl,rfl⟩))
  (fun os started H enc _=>sN os started H enc)
set_option maxRecDepth 100000 in
theorem deadSame_holds:Rows.DeadSameCardSaid:=
 Claim7.holds_tied_plain_at .later [] [.data] true (true, "6e22ba4eb7a7bcb6e4693f596ce8721de2ddd458f0b49557468185f625108b49") false
  xb (fun _ h=>by cases h) (by kernel_rfl) (fun _ h=>by cases h) deadSame_row_tie rfl ⟨rfl,rfl⟩ (by kernel_rfl) rfl
  (fun f fn hf hfn=>by
   obtain rfl:f=3:=Option.some.inj ((show Tryz.prog.funcNamed "stile/stilelaw14.DeadSame" =some 3 by kernel_rfl).symm.trans hf)|>.symm
   obtain rfl:fn=Tryz.f3:=(Option.some.inj (Tryz.func3.symm.trans hfn)).symm
   exact⟨by kernel_rfl,fun j t ht=>by
    rw[show Tryz.f3.params=#[25,3] by kernel_rfl] at ht
    have hm:t∈[25,3]:=by simpa using Array.mem_of_getElem? ht
    have hall:([25,3].all fun u=> !Tryz.prog.wantsStandIn u)=true:=by kernel_rfl
    exact(show Tryz.prog.wantsStandIn t=false by simpa using List.all_eq_true.1 hall t hm)⟩)
  (by kernel_rfl)
end Go.Proofs.YtekfmjjmihomlaaGreatDoor
