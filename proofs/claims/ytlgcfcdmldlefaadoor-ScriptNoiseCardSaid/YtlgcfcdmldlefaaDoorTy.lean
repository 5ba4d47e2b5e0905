import Derived.Test.YtlgcfcdmldlefaaDoorTx
set_option linter.unusedVariables false
set_option linter.unusedSimpArgs false
set_option maxRecDepth 100000
/- Build scripts, the statements: words. -/
namespace Go.Proofs.YtlgcfcdmldlefaaDoor
open Go Go.Vc Go.Scr
theorem words_law (s : Bs) (hl : s.length ≤ 9223372036854775807) (H : Heap) : CallH Tryd.prog 8 [.string (mkS s)] H fun v H' => v = .bool true ∧ Ext H H' := by
  have hsz : (mkS s).size = s.length := rfl
  refine Vc.CallH.body Tryd.func8 Tryd.call8 rfl (by decide +kernel) rfl ?_
  by_cases hbig : 500 < s.length
  · ((conv => whnf); repeat (any_goals (first | ((refine (known_any _).mono ?_; rintro _ H1 ⟨rfl, hx1⟩; have hz1 := hx1.size); (conv => whnf)) | (refine Vc.stp ?_; intros; (conv => whnf)) | (refine Vc.spl ?_ ?_ <;> (intro _; (conv => whnf))))))
    exact ⟨rfl, hx1⟩
  · have c1 := fun H => words_any s (by omega) H
    have c2 := fun H => rwords_any s (by omega) H
    cases hw : wordsF s with
    | none =>
      rw [hw] at c1 c2
      have hz0 : ([] : List Bs).length = 0 := rfl
      ((conv => whnf); repeat (any_goals (first | ((refine (known_any _).mono ?_; rintro _ H1 ⟨rfl, hx1⟩; have hz1 := hx1.size); (conv => whnf)) | ((refine (c1 _).mono ?_; rintro _ H2 ⟨rfl, hx2⟩; have hz2 := hx2.size); (conv => whnf)) | ((refine (c2 _).mono ?_; rintro _ H3 ⟨rfl, hx3⟩; have hz3 := hx3.size); (conv => whnf)) | ((refine (strings_any [] [] _ _ _ _ _ _ _ (Row.nil _ _) (Row.nil _ _) rfl rfl (by decide) (by decide)).mono ?_; rintro _ _ ⟨rfl, rfl⟩; rw [decide_eq_true rfl]); (conv => whnf)) | (refine Vc.stp ?_; intros; (conv => whnf)) | (refine Vc.spl ?_ ?_ <;> (intro _; (conv => whnf))))))
      exact ⟨rfl, by (repeat (first | assumption | exact Vc.Ext.refl _ | ((with_reducible apply Vc.Ext.trans); (case k => assumption)) | ((with_reducible apply Vc.Ext.but); (case k => assumption); (case hb => omega))))⟩
    | some ws =>
      obtain ⟨hw1, hw2⟩ := wordsF_all hw
      rw [hw] at c1 c2
      ((conv => whnf); repeat (any_goals (first | ((refine (known_any _).mono ?_; rintro _ H1 ⟨rfl, hx1⟩; have hz1 := hx1.size); (conv => whnf)) | ((refine (c1 _).mono ?_; rintro _ H2 ⟨⟨a2, k2, rfl, ho2⟩, hx2⟩; have hz2 := hx2.size; have hr2 := ho2.row); (conv => whnf)) | ((refine (c2 _).mono ?_; rintro _ H3 ⟨⟨a3, k3, rfl, ho3⟩, hx3⟩; have hz3 := hx3.size; have hr3 := ho3.row); (conv => whnf)) | ((refine (strings_any ws ws _ _ _ _ _ _ _ (Row.ext hr2 (by (repeat (first | assumption | exact Vc.Ext.refl _ | ((with_reducible apply Vc.Ext.trans); (case k => assumption)) | ((with_reducible apply Vc.Ext.but); (case k => assumption); (case hb => omega)))))) (Row.ext hr3 (by (repeat (first | assumption | exact Vc.Ext.refl _ | ((with_reducible apply Vc.Ext.trans); (case k => assumption)) | ((with_reducible apply Vc.Ext.but); (case k => assumption); (case hb => omega)))))) rfl rfl (by omega) (by omega)).mono ?_; rintro _ _ ⟨rfl, rfl⟩; rw [decide_eq_true rfl]); (conv => whnf)) | (refine Vc.stp ?_; intros; (conv => whnf)) | (refine Vc.spl ?_ ?_ <;> (intro _; (conv => whnf))))))
      exact ⟨rfl, by (repeat (first | assumption | exact Vc.Ext.refl _ | ((with_reducible apply Vc.Ext.trans); (case k => assumption)) | ((with_reducible apply Vc.Ext.but); (case k => assumption); (case hb => omega))))⟩
end Go.Proofs.YtlgcfcdmldlefaaDoor
