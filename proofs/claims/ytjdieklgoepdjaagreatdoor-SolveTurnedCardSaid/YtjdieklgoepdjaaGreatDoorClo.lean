import Derived.Test.YtjdieklgoepdjaaGreatDoorCl
set_option linter.unusedVariables false
set_option linter.unusedSimpArgs false
set_option maxRecDepth 100000
/- It says nothing in which order rows and needs stand, nor what packages there are that nothing needs. (The card, further.) -/
namespace Go.Proofs.YtjdieklgoepdjaaGreatDoor
open Go Go.Vc Go.ChangeShapes Go.WideShapes Go.ChangeAt Go.RowKit
namespace turnedL
set_option maxHeartbeats 40000000 in
theorem closed:joinedFacts Tryz.prog 13 Tryz.f13 Rows.solveTurnedSpec Rows.solveTurnedRow=true:=by
 unfold joinedFacts
 simp only[Bool.and_eq_true]
 repeat' (with_reducible apply And.intro)
 all_goals as_aux_lemma=>kernel_rfl
theorem over:Rows.SolveTurnedSaid:=
 OpenClaim.holds_of_wide 13 Tryz.f13 rfl rfl rfl rfl rfl rfl rfl ⟨rfl,rfl,rfl,rfl,rfl⟩ rfl rfl rfl rfl rfl (by kernel_rfl) Tryz.func13 closed
  (of_decide_eq_true (by kernel_rfl)) (by unfold Func.isWrapper;first|(rw[if_pos (by decide+kernel)];kernel_rfl)|(rw[if_neg (by decide+kernel)];exact⟨rfl,rfl⟩))
  (fun os started H enc _=>lifted os started H enc)
end turnedL
end Go.Proofs.YtjdieklgoepdjaaGreatDoor
