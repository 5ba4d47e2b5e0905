import Derived.Test.YtlgcfcdmldlefaaDoorVb
set_option linter.unusedVariables false
set_option linter.unusedSimpArgs false
set_option maxRecDepth 100000
/- Numbers' texts, as the statements write them. -/
namespace Go.Vc
theorem QuoH.neg {m c : Nat} {K : Int → Prop} (hc : 0 < c) (hm : m ≤ 9223372036854775808) (hk : K (-((m / c : Nat) : Int))) : QuoH .i64 (-(m : Int)) (c : Int) K := by
  refine ⟨by omega, ?_⟩
  have h : m / c ≤ m := Nat.div_le_self _ _
  rw [Int.neg_tdiv, Int.tdiv_eq_ediv_of_nonneg (by omega), show ((m : Int) / (c : Int)) = ((m / c : Nat) : Int) by simp]
  generalize m / c = q at *
  rw [wrap_i64 (by omega) (by omega)]
  exact hk
theorem RemH.neg {m c : Nat} {K : Int → Prop} (hc : 0 < c) (hk : K (-((m % c : Nat) : Int))) : RemH (-(m : Int)) (c : Int) K := by
  refine ⟨by omega, ?_⟩
  rw [Int.neg_tmod, Int.tmod_eq_emod_of_nonneg (by omega), show ((m : Int) % (c : Int)) = ((m % c : Nat) : Int) by simp]
  exact hk
end Go.Vc
namespace Go.Proofs.YtlgcfcdmldlefaaDoor
open Go Go.Vc Go.RowKit Go.Sort
theorem dd_small {u : Nat} (h : u < 10) : Lib.decDigits u = [UInt8.ofNat (48 + u)] := by rw [Lib.decDigits, dif_pos h]
theorem dd_big {u : Nat} (h : ¬ u < 10) : Lib.decDigits u = Lib.decDigits (u / 10) ++ Lib.decDigits (u % 10) := by
  rw [Lib.decDigits, dif_neg h, dd_small (Nat.mod_lt u (by decide))]
theorem itoa_nat (u : Nat) : Lib.itoa (u : Int) = Lib.decDigits u := by unfold Lib.itoa; rw [if_neg (by omega)]; simp
theorem itoa_neg {u : Nat} (h : 0 < u) : Lib.itoa (-(u : Int)) = 45 :: Lib.decDigits u := by unfold Lib.itoa; rw [if_pos (by omega)]; simp
def digs : Bs := [48, 49, 50, 51, 52, 53, 54, 55, 56, 57]
theorem digs_at (u : Nat) (h : u < 10) : (mkS digs).extract u (u + 1) = mkS (Lib.decDigits u) := by
  rw [dd_small h, mkS_ext, show u + 1 - u = 1 by omega]
  have : u = 0 ∨ u = 1 ∨ u = 2 ∨ u = 3 ∨ u = 4 ∨ u = 5 ∨ u = 6 ∨ u = 7 ∨ u = 8 ∨ u = 9 := by omega
  rcases this with rfl | rfl | rfl | rfl | rfl | rfl | rfl | rfl | rfl | rfl <;> rfl
set_option maxHeartbeats 2000000 in
theorem dec_ind : ∀ (k : Nat) (n : Int), I64 n → (2 * n.natAbs + if n < 0 then 1 else 0) ≤ k → ∀ H, CallH Tryd.prog 15 [.int .i64 n] H fun v H' => v = .string (mkS (Lib.itoa n)) ∧ Ext H H'
  | k, n, h, hk, H => by
    unfold I64 at h
    have hdl : (⟨#[48, 49, 50, 51, 52, 53, 54, 55, 56, 57]⟩ : ByteArray).size = 10 := rfl
    refine Vc.CallH.body Tryd.func15 Tryd.call15 rfl (by decide +kernel) rfl ?_
    by_cases hneg : n < 0
    · rw [if_pos hneg] at hk
      obtain ⟨m, rfl⟩ : ∃ m : Nat, n = -(m : Int) := ⟨n.natAbs, by omega⟩
      simp only [Int.natAbs_neg, Int.natAbs_natCast] at hk
      obtain ⟨k, rfl⟩ : ∃ k', k = k' + 1 := ⟨k - 1, by omega⟩
      by_cases h9 : -(m : Int) < -9
      · have c1 := fun H => dec_ind k (-((m / 10 : Nat) : Int)) (by unfold I64; omega) (by split <;> simp only [Int.natAbs_neg, Int.natAbs_natCast] <;> omega) H
        have c2 := fun H => dec_ind k ((m % 10 : Nat) : Int) (by unfold I64; omega) (by rw [if_neg (by omega)]; simp only [Int.natAbs_natCast]; omega) H
        rw [itoa_neg (by omega)] at c1
        rw [itoa_nat] at c2
        rw [itoa_neg (by omega), dd_big (by omega)]
        have l1 : (Lib.decDigits (m / 10)).length ≤ 20 := by have := dd_len 19 (m / 10) (by omega); omega
        have l2 : (Lib.decDigits (m % 10)).length ≤ 20 := by have := dd_len 19 (m % 10) (by omega); omega
        have s1 : (mkS (45 :: Lib.decDigits (m / 10))).size = (Lib.decDigits (m / 10)).length + 1 := rfl
        have s2 : (mkS (Lib.decDigits (m % 10))).size = (Lib.decDigits (m % 10)).length := rfl
        ((conv => whnf); repeat (any_goals (first | ((refine QuoH.neg (c := 10) (by decide) (by omega) ?_); (conv => whnf)) | ((refine RemH.neg (c := 10) (by decide) ?_); (conv => whnf)) | ((refine (c1 _).mono ?_; rintro _ H1 ⟨rfl, hx1⟩; have hz1 := hx1.size); (conv => whnf)) | ((rw [show (0 - -((m % 10 : Nat) : Int)) = ((m % 10 : Nat) : Int) by omega]; refine (c2 _).mono ?_; rintro _ H2 ⟨rfl, hx2⟩; have hz2 := hx2.size); (conv => whnf)) | (refine Vc.stp ?_; intros; (conv => whnf)) | (refine Vc.spl ?_ ?_ <;> (intro _; (conv => whnf))))))
        exact ⟨congrArg Value.string (mkS_app (45 :: Lib.decDigits (m / 10)) _), by (repeat (first | assumption | exact Vc.Ext.refl _ | ((with_reducible apply Vc.Ext.trans); (case k => assumption)) | ((with_reducible apply Vc.Ext.but); (case k => assumption); (case hb => omega))))⟩
      · have c1 := fun H => dec_ind k ((m : Nat) : Int) (by unfold I64; omega) (by rw [if_neg (by omega)]; simp only [Int.natAbs_natCast]; omega) H
        rw [itoa_nat] at c1
        rw [itoa_neg (by omega)]
        have l1 : (Lib.decDigits m).length ≤ 20 := by have := dd_len 19 m (by omega); omega
        have s1 : (mkS (Lib.decDigits m)).size = (Lib.decDigits m).length := rfl
        have s2 : (⟨#[45]⟩ : ByteArray).size = 1 := rfl
        ((conv => whnf); repeat (any_goals (first | ((rw [show (0 - -(m : Int)) = (m : Int) by omega]; refine (c1 _).mono ?_; rintro _ H1 ⟨rfl, hx1⟩; have hz1 := hx1.size); (conv => whnf)) | (refine Vc.stp ?_; intros; (conv => whnf)) | (refine Vc.spl ?_ ?_ <;> (intro _; (conv => whnf))))))
        exact ⟨congrArg Value.string (mkS_app [45] _), hx1⟩
    · rw [if_neg hneg] at hk
      obtain ⟨m, rfl⟩ : ∃ m : Nat, n = (m : Int) := ⟨n.natAbs, by omega⟩
      simp only [Int.natAbs_natCast] at hk
      rw [itoa_nat]
      by_cases h9 : m < 10
      · ((conv => whnf); repeat (any_goals (first | ((refine BndH.nat m (by omega) (by omega) ?_); (conv => whnf)) | ((refine BndH.nat (m + 1) (by omega) (by omega) ?_); (conv => whnf)) | (refine Vc.stp ?_; intros; (conv => whnf)) | (refine Vc.spl ?_ ?_ <;> (intro _; (conv => whnf))))))
        exact ⟨congrArg Value.string (digs_at m h9), Ext.refl _⟩
      · obtain ⟨k, rfl⟩ : ∃ k', k = k' + 1 := ⟨k - 1, by omega⟩
        have c1 := fun H => dec_ind k ((m / 10 : Nat) : Int) (by unfold I64; omega) (by rw [if_neg (by omega)]; simp only [Int.natAbs_natCast]; omega) H
        have c2 := fun H => dec_ind k ((m % 10 : Nat) : Int) (by unfold I64; omega) (by rw [if_neg (by omega)]; simp only [Int.natAbs_natCast]; omega) H
        rw [itoa_nat] at c1 c2
        rw [dd_big h9]
        have l1 : (Lib.decDigits (m / 10)).length ≤ 20 := by have := dd_len 19 (m / 10) (by omega); omega
        have l2 : (Lib.decDigits (m % 10)).length ≤ 20 := by have := dd_len 19 (m % 10) (by omega); omega
        have s1 : (mkS (Lib.decDigits (m / 10))).size = (Lib.decDigits (m / 10)).length := rfl
        have s2 : (mkS (Lib.decDigits (m % 10))).size = (Lib.decDigits (m % 10)).length := rfl
        ((conv => whnf); repeat (any_goals (first | ((refine (c1 _).mono ?_; rintro _ H1 ⟨rfl, hx1⟩; have hz1 := hx1.size); (conv => whnf)) | ((refine (c2 _).mono ?_; rintro _ H2 ⟨rfl, hx2⟩; have hz2 := hx2.size); (conv => whnf)) | (refine Vc.stp ?_; intros; (conv => whnf)) | (refine Vc.spl ?_ ?_ <;> (intro _; (conv => whnf))))))
        exact ⟨congrArg Value.string (mkS_app _ _), by (repeat (first | assumption | exact Vc.Ext.refl _ | ((with_reducible apply Vc.Ext.trans); (case k => assumption)) | ((with_reducible apply Vc.Ext.but); (case k => assumption); (case hb => omega))))⟩
theorem dec_any (n : Int) (h : I64 n) (H : Heap) : CallH Tryd.prog 15 [.int .i64 n] H fun v H' => v = .string (mkS (Lib.itoa n)) ∧ Ext H H' := dec_ind _ n h (Nat.le_refl _) H
end Go.Proofs.YtlgcfcdmldlefaaDoor
