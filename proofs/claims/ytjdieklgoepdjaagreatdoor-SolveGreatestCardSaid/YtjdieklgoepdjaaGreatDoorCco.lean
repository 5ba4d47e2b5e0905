import Derived.Test.YtjdieklgoepdjaaGreatDoorCc
set_option linter.unusedVariables false
set_option linter.unusedSimpArgs false
set_option maxRecDepth 100000
/- Of any index and needs just the greatest choice of versions that fits is told, or that there is none. (The card, further.) -/
namespace Go.Proofs.YtjdieklgoepdjaaGreatDoor
open Go Go.Vc Go.ChangeShapes Go.WideShapes Go.ChangeAt Go.RowKit
namespace greatestL
set_option maxHeartbeats 40000000 in
theorem closed:joinedFacts Tryz.prog 8 Tryz.f8 Rows.solveGreatestSpec Rows.solveGreatestRow=true:=by
 unfold joinedFacts
 simp only[Bool.and_eq_true]
 repeat' (with_reducible apply And.intro)
 all_goals as_aux_lemma=>kernel_rfl
theorem over:Rows.SolveGreatestSaid:=
 OpenClaim.holds_of_wide 8 Tryz.f8 rfl rfl rfl rfl rfl rfl rfl ⟨rfl,rfl,rfl,rfl,rfl⟩ rfl rfl rfl rfl rfl (by kernel_rfl) Tryz.func8 closed
  (of_decide_eq_true (by kernel_rfl)) (by unfold Func.isWrapper;first|(rw[if_pos (by decide+kernel)];kernel_rfl)|(rw[if_neg (by decide+kernel)];exact⟨rfl,rfl⟩))
  (fun os started H enc _=>lifted os started H enc)
end greatestL
end Go.Proofs.YtjdieklgoepdjaaGreatDoor
