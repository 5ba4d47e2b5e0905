import Derived.Test.YtphkaogbcfdllaaGreatDoorDg
set_option linter.unusedVariables false
set_option linter.unusedSimpArgs false
set_option maxRecDepth 100000
/- A script knows its package, by name and version, and it touches nothing but the files of its package. (The card, further.) -/
namespace Go.Proofs.YtphkaogbcfdllaaGreatDoor
open Go Go.Vc Go.ChangeShapes Go.WideShapes Go.ChangeAt Go.RowKit
namespace Kp
set_option maxHeartbeats 40000000 in
theorem closed:joinedFacts Tryz.prog 10 Tryz.f10 Rows.stageNamesSpec Rows.stageNamesRow=true:=by
 unfold joinedFacts;simp only[bC]
 repeat' (with_reducible apply dx)
 all_goals as_aux_lemma=>kernel_rfl
theorem over:Rows.StageNamesSaid:=
 OpenClaim.holds_of_wide 10 Tryz.f10 rfl rfl rfl rfl rfl rfl rfl ⟨rfl,rfl,rfl,rfl,rfl⟩ rfl rfl rfl rfl rfl (by kernel_rfl) Tryz.func10 closed
  (of_decide_eq_true (by kernel_rfl)) (by unfold Func.isWrapper;first|(rw[av (by decide+kernel)];kernel_rfl)|(rw[ak (by decide+kernel)];exact⟨rfl,rfl⟩))
  (fun os started H enc _=>lifted os started H enc)
end Kp
end Go.Proofs.YtphkaogbcfdllaaGreatDoor
