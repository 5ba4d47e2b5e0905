import Derived.Test.YtihopeogaeinhaaGreatDoorPi
import Derived.Test.YtihopeogaeinhaaGreatDoorJn
set_option linter.unusedVariables false
set_option linter.unusedSimpArgs false
set_option maxRecDepth 100000
/- Paths, the code: what a path is cleaned to. -/
namespace Go.Pth
theorem glue_join : ∀ l : List Go.Scr.Txt, Lib.join l [47] = glue l
  | [] => rfl
  | [x] => by simp [Lib.join, List.intercalate, glue]
  | x :: y :: l => by
    have ih := glue_join (y :: l)
    rw [glue_cons x (by simp), ← ih]
    simp [Lib.join, List.intercalate, List.intersperse]
end Go.Pth
namespace Go.Proofs.YtihopeogaeinhaaGreatDoor
open Go Go.Vc Go.Scr Go.Pth
theorem walk1_any (s : Bs) (hl : s.length ≤ 1000000) (hh : s.head? = some 47) (H : Heap) : CallH Tryz.prog 117 [.slice none 0 0, .string (mkS s)] H fun v H' => v = .tuple #[.slice none 0 0, .int .i64 51] ∧ Ext H H' := by
  have hpre : ∀ H, CallH Tryz.prog 62 [.string (mkS s), .string (mkS [47])] H fun v H' => v = .bool true ∧ H = H' := fun H => (pre_any s [47] (by omega) (by decide) H).mono fun v H' ⟨h1, h2⟩ => ⟨by
    rw [h1]; congr 1
    cases s with
    | nil => cases hh
    | cons c t => have : c = 47 := by simpa using hh
                  subst this; simp [List.isPrefixOf], h2⟩
  refine Vc.CallH.bodyR Tryz.func117 Tryz.call117 rfl (by decide +kernel) (by decide +kernel) rfl ?_
  ((conv => whnf); repeat (any_goals (first | ((refine (hpre _).mono ?_; rintro _ _ ⟨rfl, rfl⟩); (conv => whnf)) | (refine Vc.stp ?_; intros; (conv => whnf)) | (refine Vc.spl ?_ ?_ <;> (intro _; (conv => whnf))))))
  exact ⟨rfl, by (repeat (first | assumption | exact Vc.Ext.refl _ | ((with_reducible apply Vc.Ext.trans); (case k => assumption)) | ((with_reducible apply Vc.Ext.but); (case k => assumption); (case hb => omega))))⟩
theorem parts0_any (H : Heap) : CallH Tryz.prog 118 [.string (mkS [])] H fun v H' => v = .slice none 0 0 ∧ H = H' := by
  have e0 : ((mkS []).toList == (⟨#[]⟩ : ByteArray).toList) = true := by rw [show (⟨#[]⟩ : ByteArray) = mkS [] from rfl]; simp
  refine Vc.CallH.body Tryz.func118 Tryz.call118 rfl (by decide +kernel) rfl ?_
  ((conv => whnf); repeat (any_goals (first | (refine Vc.stp ?_; intros; (conv => whnf)) | (refine Vc.spl ?_ ?_ <;> (intro _; (conv => whnf))))))
  exact ⟨rfl, rfl⟩
theorem join0_any (s : Bs) (H : Heap) : CallH Tryz.prog 100 [.string (mkS []), .string (mkS s)] H fun v H' => v = .tuple #[.string (mkS (cleanF s).1), .int .i64 (cleanF s).2] ∧ Ext H H' := by
  have hsz : (mkS s).size = s.length := rfl
  have e0 : ((mkS []).toList == (⟨#[]⟩ : ByteArray).toList) = true := by rw [show (⟨#[]⟩ : ByteArray) = mkS [] from rfl]; simp
  have hpa := parts0_any
  by_cases h1 : 200 < s.length
  · have hc : cleanF s = ([], 50) := by unfold cleanF joinP; rw [if_pos (rfl : ([] : Bs) = []), Nat.zero_add, if_pos h1]
    rw [hc]
    refine Vc.CallH.body Tryz.func100 Tryz.call100 rfl (by decide +kernel) rfl ?_
    ((conv => whnf); repeat (any_goals (first | (refine Vc.stp ?_; intros; (conv => whnf)) | (refine Vc.spl ?_ ?_ <;> (intro _; (conv => whnf))))))
    exact ⟨rfl, Ext.refl _⟩
  by_cases h2 : s.head? = some 47
  · have hc : cleanF s = ([], 51) := by unfold cleanF joinP; rw [if_pos (rfl : ([] : Bs) = []), Nat.zero_add, if_neg h1, if_pos h2]
    rw [hc]
    have hwk := fun H => walk1_any s (by omega) h2 H
    refine Vc.CallH.body Tryz.func100 Tryz.call100 rfl (by decide +kernel) rfl ?_
    ((conv => whnf); repeat (any_goals (first | ((refine (hpa _).mono ?_; rintro _ _ ⟨rfl, rfl⟩); (conv => whnf)) | ((refine (hwk _).mono ?_; rintro _ H2 ⟨rfl, hx2⟩); (conv => whnf)) | (refine Vc.stp ?_; intros; (conv => whnf)) | (refine Vc.spl ?_ ?_ <;> (intro _; (conv => whnf))))))
    exact ⟨rfl, hx2⟩
  · obtain ⟨w, hw⟩ : ∃ w, walkF 0 [] (splitF 47 s) = w := ⟨_, rfl⟩
    have hc : cleanF s = (glue w.1, w.2) := by
      unfold cleanF joinP; rw [if_pos (rfl : ([] : Bs) = []), Nat.zero_add, if_neg h1, if_neg h2, ← hw]; rfl
    have hok := walk_ok 0 (splitF 47 s) []
    rw [hw] at hok
    have hlen := hok.len
    rw [glen_split] at hlen
    have hgl := glue_le w.1
    have e3 : glen ([] : List Bs) = 0 := rfl
    rw [hc]
    have hwk := fun H => walk0_any s (by omega) h2 H
    rw [hw] at hwk
    by_cases h3 : w.2 = 0
    · have hdp := hok.deep
      refine Vc.CallH.body Tryz.func100 Tryz.call100 rfl (by decide +kernel) rfl ?_
      ((conv => whnf); repeat (any_goals (first | ((refine (hpa _).mono ?_; rintro _ _ ⟨rfl, rfl⟩); (conv => whnf)) | ((refine (hwk _).mono ?_; rintro _ H2 ⟨(⟨_, a, cap, rfl, ho⟩ | ⟨hne, _⟩), hx2⟩; rotate_left; exact absurd h3 hne); (conv => whnf)) | ((refine (join_any (sep := [47]) ho.row rfl ho.cap_le (by omega) (by rw [glue_join]; omega)).mono ?_; rintro _ H3 ⟨rfl, hx3⟩); (conv => whnf)) | (refine Vc.stp ?_; intros; (conv => whnf)) | (refine Vc.spl ?_ ?_ <;> (intro _; (conv => whnf))))))
      exact ⟨by rw [h3, glue_join]; rfl, hx2.trans hx3⟩
    · refine Vc.CallH.body Tryz.func100 Tryz.call100 rfl (by decide +kernel) rfl ?_
      have hg : glue w.1 = [] := by rw [hok.bad h3]; rfl
      have h4 : (w.2 : Int) ≠ 0 := by omega
      ((conv => whnf); repeat (any_goals (first | ((refine (hpa _).mono ?_; rintro _ _ ⟨rfl, rfl⟩); (conv => whnf)) | ((refine (hwk _).mono ?_; rintro _ H2 ⟨(⟨h5, _⟩ | ⟨_, rfl⟩), hx2⟩; exact absurd h5 h3); (conv => whnf)) | (refine Vc.stp ?_; intros; (conv => whnf)) | (refine Vc.spl ?_ ?_ <;> (intro _; (conv => whnf))))))
      exact ⟨by rw [hg]; rfl, hx2⟩
theorem clean_any (s : Bs) (H : Heap) : CallH Tryz.prog 70 [.string (mkS s)] H fun v H' => v = .tuple #[.string (mkS (cleanF s).1), .int .i64 (cleanF s).2] ∧ Ext H H' := by
  have hj := fun H => join0_any s H
  refine Vc.CallH.body Tryz.func70 Tryz.call70 rfl (by decide +kernel) rfl ?_
  ((conv => whnf); repeat (any_goals (first | ((refine (hj _).mono ?_; rintro _ H2 ⟨rfl, hx2⟩); (conv => whnf)) | (refine Vc.stp ?_; intros; (conv => whnf)) | (refine Vc.spl ?_ ?_ <;> (intro _; (conv => whnf))))))
  exact ⟨rfl, hx2⟩
end Go.Proofs.YtihopeogaeinhaaGreatDoor
