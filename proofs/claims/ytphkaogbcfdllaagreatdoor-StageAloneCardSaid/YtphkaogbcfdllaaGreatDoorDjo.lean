import Derived.Test.YtphkaogbcfdllaaGreatDoorDj
set_option linter.unusedVariables false
set_option linter.unusedSimpArgs false
set_option maxRecDepth 100000
/- What a package is built to hangs on its archive alone, not on other packages, nor on what was built before. (The card, further.) -/
namespace Go.Proofs.YtphkaogbcfdllaaGreatDoor
open Go Go.Vc Go.ChangeShapes Go.WideShapes Go.ChangeAt Go.RowKit
namespace KC
set_option maxHeartbeats 40000000 in
theorem closed:joinedFacts Tryz.prog 9 Tryz.f9 Rows.stageAloneSpec Rows.stageAloneRow=true:=by
 unfold joinedFacts;simp only[bC]
 repeat' (with_reducible apply dx)
 all_goals as_aux_lemma=>kernel_rfl
theorem over:Rows.StageAloneSaid:=
 OpenClaim.holds_of_wide 9 Tryz.f9 rfl rfl rfl rfl rfl rfl rfl ⟨rfl,rfl,rfl,rfl,rfl⟩ rfl rfl rfl rfl rfl (by kernel_rfl) Tryz.func9 closed
  (of_decide_eq_true (by kernel_rfl)) (by unfold Func.isWrapper;first|(rw[av (by decide+kernel)];kernel_rfl)|(rw[ak (by decide+kernel)];exact⟨rfl,rfl⟩))
  (fun os started H enc _=>lifted os started H enc)
end KC
end Go.Proofs.YtphkaogbcfdllaaGreatDoor
