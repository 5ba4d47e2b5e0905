import Derived.Test.YtjdieklgoepdjaaGreatDoorCp
set_option linter.unusedVariables false
set_option linter.unusedSimpArgs false
set_option maxRecDepth 100000
/- Of any solution each name has just the shortest way to it that the document has, and just its users. (The card, further.) -/
namespace Go.Proofs.YtjdieklgoepdjaaGreatDoor
open Go Go.Vc Go.ChangeShapes Go.WideShapes Go.ChangeAt Go.RowKit
namespace pathsL
set_option maxHeartbeats 40000000 in
theorem closed:joinedFacts Tryz.prog 3 Tryz.f3 Rows.whyPathsSpec Rows.whyPathsRow=true:=by
 unfold joinedFacts
 simp only[Bool.and_eq_true]
 repeat' (with_reducible apply And.intro)
 all_goals as_aux_lemma=>kernel_rfl
theorem over:Rows.WhyPathsSaid:=
 OpenClaim.holds_of_wide 3 Tryz.f3 rfl rfl rfl rfl rfl rfl rfl ⟨rfl,rfl,rfl,rfl,rfl⟩ rfl rfl rfl rfl rfl (by kernel_rfl) Tryz.func3 closed
  (of_decide_eq_true (by kernel_rfl)) (by unfold Func.isWrapper;first|(rw[if_pos (by decide+kernel)];kernel_rfl)|(rw[if_neg (by decide+kernel)];exact⟨rfl,rfl⟩))
  (fun os started H enc _=>lifted os started H enc)
end pathsL
end Go.Proofs.YtjdieklgoepdjaaGreatDoor
