import Derived.Test.YtjdieklgoepdjaaGreatDoorCb
set_option linter.unusedVariables false
set_option linter.unusedSimpArgs false
set_option maxRecDepth 100000
/- Whichever pins fit, or do not, and which of two are better, is what the document says. (The card, further.) -/
namespace Go.Proofs.YtjdieklgoepdjaaGreatDoor
open Go Go.Vc Go.ChangeShapes Go.WideShapes Go.ChangeAt Go.RowKit
namespace fitsL
set_option maxHeartbeats 40000000 in
theorem closed:joinedFacts Tryz.prog 9 Tryz.f9 Rows.solveFitsSpec Rows.solveFitsRow=true:=by
 unfold joinedFacts
 simp only[Bool.and_eq_true]
 repeat' (with_reducible apply And.intro)
 all_goals as_aux_lemma=>kernel_rfl
theorem over:Rows.SolveFitsSaid:=
 OpenClaim.holds_of_wide 9 Tryz.f9 rfl rfl rfl rfl rfl rfl rfl ⟨rfl,rfl,rfl,rfl,rfl⟩ rfl rfl rfl rfl rfl (by kernel_rfl) Tryz.func9 closed
  (of_decide_eq_true (by kernel_rfl)) (by unfold Func.isWrapper;first|(rw[if_pos (by decide+kernel)];kernel_rfl)|(rw[if_neg (by decide+kernel)];exact⟨rfl,rfl⟩))
  (fun os started H enc _=>lifted os started H enc)
end fitsL
end Go.Proofs.YtjdieklgoepdjaaGreatDoor
