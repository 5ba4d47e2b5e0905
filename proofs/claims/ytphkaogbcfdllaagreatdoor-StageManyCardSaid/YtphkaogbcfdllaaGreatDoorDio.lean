import Derived.Test.YtphkaogbcfdllaaGreatDoorDi
set_option linter.unusedVariables false
set_option linter.unusedSimpArgs false
set_option maxRecDepth 100000
/- As many packages as there are stand side by side, each below its name, in order. (The card, further.) -/
namespace Go.Proofs.YtphkaogbcfdllaaGreatDoor
open Go Go.Vc Go.ChangeShapes Go.WideShapes Go.ChangeAt Go.RowKit
namespace KW
set_option maxHeartbeats 40000000 in
theorem closed:joinedFacts Tryz.prog 12 Tryz.f12 Rows.stageManySpec Rows.stageManyRow=true:=by
 unfold joinedFacts;simp only[bC]
 repeat' (with_reducible apply dx)
 all_goals as_aux_lemma=>kernel_rfl
theorem over:Rows.StageManySaid:=
 OpenClaim.holds_of_wide 12 Tryz.f12 rfl rfl rfl rfl rfl rfl rfl ⟨rfl,rfl,rfl,rfl,rfl⟩ rfl rfl rfl rfl rfl (by kernel_rfl) Tryz.func12 closed
  (of_decide_eq_true (by kernel_rfl)) (by unfold Func.isWrapper;first|(rw[av (by decide+kernel)];kernel_rfl)|(rw[ak (by decide+kernel)];exact⟨rfl,rfl⟩))
  (fun os started H enc _=>lifted os started H enc)
end KW
end Go.Proofs.YtphkaogbcfdllaaGreatDoor
