import Derived.Test.YtlgcfcdmldlefaaDoorTe
set_option linter.unusedVariables false
set_option linter.unusedSimpArgs false
set_option maxRecDepth 100000
/- Build scripts, the code: a line out of its words. -/
namespace Go.Proofs.YtlgcfcdmldlefaaDoor
open Go Go.Vc Go.Scr

def readR (v : Value) : Option Ln → Prop
  | some x => v = .tuple #[.agg (lnC x), .bool true]
  | none => ∃ k a b tx n nt, v = .tuple #[.agg (lineC k a b tx n nt), .bool false]
theorem row_tail {H : Heap} {a : Option Addr} {cap : Nat} {w : Bs} {ws : List Bs} (h : Row H a (strs (w :: ws))) (hc : (w :: ws).length ≤ cap) : Row H (sliceBase a cap 1 1) (strs ws) := by
  have := h.drop cap 1 1 (fun e => by rw [strs_length]; omega)
  exact this
set_option maxHeartbeats 8000000 in
theorem asked_any (ws : List Bs) (a : Option Addr) (n cap : Nat) (H : Heap) (hr : Row H a (strs ws)) (hn : ws.length = n) (hc : n ≤ cap) (hm : n ≤ 1000000000) (hne : ∀ w ∈ ws, w ≠ []) : CallH Tryd.prog 95 [.slice a n cap] H fun v H' => readR v (askedF ws) ∧ Ext H H' := by
  subst hn
  refine Vc.CallH.body Tryd.func95 Tryd.call95 rfl (by decide +kernel) rfl ?_
  match ws, hr, hc, hm, hne with
  | [], hr, hc, hm, hne =>
    have hr1 := hr
    ((conv => whnf); repeat (any_goals (first | ((refine IdxA.strv hr rfl 0 _ rfl rfl ?_; intro _ _ _ _ _); (conv => whnf)) | ((refine IdxA.strv hr rfl 1 _ rfl rfl ?_; intro _ _ _ _ _); (conv => whnf)) | ((refine IdxA.strv hr1 rfl 0 _ rfl rfl ?_; intro _ _ _ _ _); (conv => whnf)) | ((refine IdxA.strv hr1 rfl 1 _ rfl rfl ?_; intro _ _ _ _ _); (conv => whnf)) | ((refine BndH.nat 1 rfl (by omega) ?_); (conv => whnf)) | ((refine PureH.build1 (lineC 7 [] [] [] 0 false) (by kernel_rfl) ?_); (conv => whnf)) | ((refine PureH.build0 (lineC 0 [] [] [] 0 false) (by kernel_rfl) ?_); (conv => whnf)) | ((refine (plain_any _ (by assumption) _).mono ?_; rintro _ _ ⟨rfl, rfl⟩); (conv => whnf)) | (refine Vc.stp ?_; intros; (conv => whnf)) | (refine Vc.spl ?_ ?_ <;> (intro _; (conv => whnf))))))
    exact ⟨⟨_, _, _, _, _, _, rfl⟩, by (repeat (first | assumption | exact Vc.Ext.refl _ | ((with_reducible apply Vc.Ext.trans); (case k => assumption)) | ((with_reducible apply Vc.Ext.but); (case k => assumption); (case hb => omega))))⟩
  | [p], hr, hc, hm, hne =>
    have hr1 := row_tail hr hc
    have hlen : ([p]).length = 1 := by simp
    have hlen1 : ([] : List Bs).length = 0 := by simp
    simp only [List.length_cons, List.length_nil] at hc hm
    have hnp : p ≠ [] := hne p (by simp)
    by_cases hpn : p = wNot
    · have epn : ((mkS p).toList == (⟨#[110, 111, 116]⟩ : ByteArray).toList) = true := by show ((mkS p).toList == (mkS wNot).toList) = true; rw [str_mk]; exact decide_eq_true hpn
      ((conv => whnf); repeat (any_goals (first | ((refine IdxA.strv hr rfl 0 _ rfl rfl ?_; intro _ _ _ _ _); (conv => whnf)) | ((refine IdxA.strv hr rfl 1 _ rfl rfl ?_; intro _ _ _ _ _); (conv => whnf)) | ((refine IdxA.strv hr1 rfl 0 _ rfl rfl ?_; intro _ _ _ _ _); (conv => whnf)) | ((refine IdxA.strv hr1 rfl 1 _ rfl rfl ?_; intro _ _ _ _ _); (conv => whnf)) | ((refine BndH.nat 1 rfl (by omega) ?_); (conv => whnf)) | ((refine PureH.build1 (lineC 7 [] [] [] 0 false) (by kernel_rfl) ?_); (conv => whnf)) | ((refine PureH.build0 (lineC 0 [] [] [] 0 false) (by kernel_rfl) ?_); (conv => whnf)) | ((refine (plain_any _ (by assumption) _).mono ?_; rintro _ _ ⟨rfl, rfl⟩); (conv => whnf)) | (refine Vc.stp ?_; intros; (conv => whnf)) | (refine Vc.spl ?_ ?_ <;> (intro _; (conv => whnf))))))
      exact ⟨by rw [show askedF ([p]) = none from rfl]; exact ⟨_, _, _, _, _, _, rfl⟩, by (repeat (first | assumption | exact Vc.Ext.refl _ | ((with_reducible apply Vc.Ext.trans); (case k => assumption)) | ((with_reducible apply Vc.Ext.but); (case k => assumption); (case hb => omega))))⟩
    · have epn : ((mkS p).toList == (⟨#[110, 111, 116]⟩ : ByteArray).toList) = false := by show ((mkS p).toList == (mkS wNot).toList) = false; rw [str_mk]; exact decide_eq_false hpn
      ((conv => whnf); repeat (any_goals (first | ((refine IdxA.strv hr rfl 0 _ rfl rfl ?_; intro _ _ _ _ _); (conv => whnf)) | ((refine IdxA.strv hr rfl 1 _ rfl rfl ?_; intro _ _ _ _ _); (conv => whnf)) | ((refine IdxA.strv hr1 rfl 0 _ rfl rfl ?_; intro _ _ _ _ _); (conv => whnf)) | ((refine IdxA.strv hr1 rfl 1 _ rfl rfl ?_; intro _ _ _ _ _); (conv => whnf)) | ((refine BndH.nat 1 rfl (by omega) ?_); (conv => whnf)) | ((refine PureH.build1 (lineC 7 [] [] [] 0 false) (by kernel_rfl) ?_); (conv => whnf)) | ((refine PureH.build0 (lineC 0 [] [] [] 0 false) (by kernel_rfl) ?_); (conv => whnf)) | ((refine (plain_any _ (by assumption) _).mono ?_; rintro _ _ ⟨rfl, rfl⟩); (conv => whnf)) | (refine Vc.stp ?_; intros; (conv => whnf)) | (refine Vc.spl ?_ ?_ <;> (intro _; (conv => whnf))))))
      exact ⟨by rw [show askedF ([p]) = none from rfl]; exact ⟨_, _, _, _, _, _, rfl⟩, by (repeat (first | assumption | exact Vc.Ext.refl _ | ((with_reducible apply Vc.Ext.trans); (case k => assumption)) | ((with_reducible apply Vc.Ext.but); (case k => assumption); (case hb => omega))))⟩
  | [p, q], hr, hc, hm, hne =>
    have hr1 := row_tail hr hc
    have hlen : ([p, q]).length = 2 := by simp
    have hlen1 : ([q] : List Bs).length = 1 := by simp
    simp only [List.length_cons, List.length_nil] at hc hm
    have hnp : p ≠ [] := hne p (by simp)
    have hnq : q ≠ [] := hne q (by simp)
    by_cases hpn : p = wNot
    · have epn : ((mkS p).toList == (⟨#[110, 111, 116]⟩ : ByteArray).toList) = true := by show ((mkS p).toList == (mkS wNot).toList) = true; rw [str_mk]; exact decide_eq_true hpn
      ((conv => whnf); repeat (any_goals (first | ((refine IdxA.strv hr rfl 0 _ rfl rfl ?_; intro _ _ _ _ _); (conv => whnf)) | ((refine IdxA.strv hr rfl 1 _ rfl rfl ?_; intro _ _ _ _ _); (conv => whnf)) | ((refine IdxA.strv hr1 rfl 0 _ rfl rfl ?_; intro _ _ _ _ _); (conv => whnf)) | ((refine IdxA.strv hr1 rfl 1 _ rfl rfl ?_; intro _ _ _ _ _); (conv => whnf)) | ((refine BndH.nat 1 rfl (by omega) ?_); (conv => whnf)) | ((refine PureH.build1 (lineC 7 [] [] [] 0 false) (by kernel_rfl) ?_); (conv => whnf)) | ((refine PureH.build0 (lineC 0 [] [] [] 0 false) (by kernel_rfl) ?_); (conv => whnf)) | ((refine (plain_any _ (by assumption) _).mono ?_; rintro _ _ ⟨rfl, rfl⟩); (conv => whnf)) | (refine Vc.stp ?_; intros; (conv => whnf)) | (refine Vc.spl ?_ ?_ <;> (intro _; (conv => whnf))))))
      exact ⟨by rw [show askedF ([p, q]) = none from by subst hpn; simp [askedF, wNot, wExists]]; exact ⟨_, _, _, _, _, _, rfl⟩, by (repeat (first | assumption | exact Vc.Ext.refl _ | ((with_reducible apply Vc.Ext.trans); (case k => assumption)) | ((with_reducible apply Vc.Ext.but); (case k => assumption); (case hb => omega))))⟩
    · have epn : ((mkS p).toList == (⟨#[110, 111, 116]⟩ : ByteArray).toList) = false := by show ((mkS p).toList == (mkS wNot).toList) = false; rw [str_mk]; exact decide_eq_false hpn
      by_cases hpe : p = wExists
      · have epe : ((mkS p).toList == (⟨#[101, 120, 105, 115, 116, 115]⟩ : ByteArray).toList) = true := by show ((mkS p).toList == (mkS wExists).toList) = true; rw [str_mk]; exact decide_eq_true hpe
        cases hpl : plainW q
        · ((conv => whnf); repeat (any_goals (first | ((refine IdxA.strv hr rfl 0 _ rfl rfl ?_; intro _ _ _ _ _); (conv => whnf)) | ((refine IdxA.strv hr rfl 1 _ rfl rfl ?_; intro _ _ _ _ _); (conv => whnf)) | ((refine IdxA.strv hr1 rfl 0 _ rfl rfl ?_; intro _ _ _ _ _); (conv => whnf)) | ((refine IdxA.strv hr1 rfl 1 _ rfl rfl ?_; intro _ _ _ _ _); (conv => whnf)) | ((refine BndH.nat 1 rfl (by omega) ?_); (conv => whnf)) | ((refine PureH.build1 (lineC 7 [] [] [] 0 false) (by kernel_rfl) ?_); (conv => whnf)) | ((refine PureH.build0 (lineC 0 [] [] [] 0 false) (by kernel_rfl) ?_); (conv => whnf)) | ((refine (plain_any _ (by assumption) _).mono ?_; rintro _ _ ⟨rfl, rfl⟩); (conv => whnf)) | (refine Vc.stp ?_; intros; (conv => whnf)) | (refine Vc.spl ?_ ?_ <;> (intro _; (conv => whnf))))))
          exact ⟨by rw [show askedF ([p, q]) = none from by simp [askedF, hpl]]; exact ⟨_, _, _, _, _, _, rfl⟩, by (repeat (first | assumption | exact Vc.Ext.refl _ | ((with_reducible apply Vc.Ext.trans); (case k => assumption)) | ((with_reducible apply Vc.Ext.but); (case k => assumption); (case hb => omega))))⟩
        · ((conv => whnf); repeat (any_goals (first | ((refine IdxA.strv hr rfl 0 _ rfl rfl ?_; intro _ _ _ _ _); (conv => whnf)) | ((refine IdxA.strv hr rfl 1 _ rfl rfl ?_; intro _ _ _ _ _); (conv => whnf)) | ((refine IdxA.strv hr1 rfl 0 _ rfl rfl ?_; intro _ _ _ _ _); (conv => whnf)) | ((refine IdxA.strv hr1 rfl 1 _ rfl rfl ?_; intro _ _ _ _ _); (conv => whnf)) | ((refine BndH.nat 1 rfl (by omega) ?_); (conv => whnf)) | ((refine PureH.build1 (lineC 7 [] [] [] 0 false) (by kernel_rfl) ?_); (conv => whnf)) | ((refine PureH.build0 (lineC 0 [] [] [] 0 false) (by kernel_rfl) ?_); (conv => whnf)) | ((refine (plain_any _ (by assumption) _).mono ?_; rintro _ _ ⟨rfl, rfl⟩); (conv => whnf)) | (refine Vc.stp ?_; intros; (conv => whnf)) | (refine Vc.spl ?_ ?_ <;> (intro _; (conv => whnf))))))
          exact ⟨by rw [show askedF ([p, q]) = some ⟨7, q, [], [], 0, false⟩ from by simp [askedF, hpe, hpl]]; rfl, by (repeat (first | assumption | exact Vc.Ext.refl _ | ((with_reducible apply Vc.Ext.trans); (case k => assumption)) | ((with_reducible apply Vc.Ext.but); (case k => assumption); (case hb => omega))))⟩
      · have epe : ((mkS p).toList == (⟨#[101, 120, 105, 115, 116, 115]⟩ : ByteArray).toList) = false := by show ((mkS p).toList == (mkS wExists).toList) = false; rw [str_mk]; exact decide_eq_false hpe
        ((conv => whnf); repeat (any_goals (first | ((refine IdxA.strv hr rfl 0 _ rfl rfl ?_; intro _ _ _ _ _); (conv => whnf)) | ((refine IdxA.strv hr rfl 1 _ rfl rfl ?_; intro _ _ _ _ _); (conv => whnf)) | ((refine IdxA.strv hr1 rfl 0 _ rfl rfl ?_; intro _ _ _ _ _); (conv => whnf)) | ((refine IdxA.strv hr1 rfl 1 _ rfl rfl ?_; intro _ _ _ _ _); (conv => whnf)) | ((refine BndH.nat 1 rfl (by omega) ?_); (conv => whnf)) | ((refine PureH.build1 (lineC 7 [] [] [] 0 false) (by kernel_rfl) ?_); (conv => whnf)) | ((refine PureH.build0 (lineC 0 [] [] [] 0 false) (by kernel_rfl) ?_); (conv => whnf)) | ((refine (plain_any _ (by assumption) _).mono ?_; rintro _ _ ⟨rfl, rfl⟩); (conv => whnf)) | (refine Vc.stp ?_; intros; (conv => whnf)) | (refine Vc.spl ?_ ?_ <;> (intro _; (conv => whnf))))))
        exact ⟨by rw [show askedF ([p, q]) = none from by simp [askedF, hpe]]; exact ⟨_, _, _, _, _, _, rfl⟩, by (repeat (first | assumption | exact Vc.Ext.refl _ | ((with_reducible apply Vc.Ext.trans); (case k => assumption)) | ((with_reducible apply Vc.Ext.but); (case k => assumption); (case hb => omega))))⟩
  | [p, q, r], hr, hc, hm, hne =>
    have hr1 := row_tail hr hc
    have hlen : ([p, q, r]).length = 3 := by simp
    have hlen1 : ([q, r] : List Bs).length = 2 := by simp
    simp only [List.length_cons, List.length_nil] at hc hm
    have hnp : p ≠ [] := hne p (by simp)
    have hnq : q ≠ [] := hne q (by simp)
    have hnr : r ≠ [] := hne r (by simp)
    by_cases hpn : p = wNot
    · have epn : ((mkS p).toList == (⟨#[110, 111, 116]⟩ : ByteArray).toList) = true := by show ((mkS p).toList == (mkS wNot).toList) = true; rw [str_mk]; exact decide_eq_true hpn
      by_cases hqe : q = wExists
      · have eqe : ((mkS q).toList == (⟨#[101, 120, 105, 115, 116, 115]⟩ : ByteArray).toList) = true := by show ((mkS q).toList == (mkS wExists).toList) = true; rw [str_mk]; exact decide_eq_true hqe
        cases hpl : plainW r
        · ((conv => whnf); repeat (any_goals (first | ((refine IdxA.strv hr rfl 0 _ rfl rfl ?_; intro _ _ _ _ _); (conv => whnf)) | ((refine IdxA.strv hr rfl 1 _ rfl rfl ?_; intro _ _ _ _ _); (conv => whnf)) | ((refine IdxA.strv hr1 rfl 0 _ rfl rfl ?_; intro _ _ _ _ _); (conv => whnf)) | ((refine IdxA.strv hr1 rfl 1 _ rfl rfl ?_; intro _ _ _ _ _); (conv => whnf)) | ((refine BndH.nat 1 rfl (by omega) ?_); (conv => whnf)) | ((refine PureH.build1 (lineC 7 [] [] [] 0 false) (by kernel_rfl) ?_); (conv => whnf)) | ((refine PureH.build0 (lineC 0 [] [] [] 0 false) (by kernel_rfl) ?_); (conv => whnf)) | ((refine (plain_any _ (by assumption) _).mono ?_; rintro _ _ ⟨rfl, rfl⟩); (conv => whnf)) | (refine Vc.stp ?_; intros; (conv => whnf)) | (refine Vc.spl ?_ ?_ <;> (intro _; (conv => whnf))))))
          exact ⟨by rw [show askedF ([p, q, r]) = none from by simp [askedF, hpl]]; exact ⟨_, _, _, _, _, _, rfl⟩, by (repeat (first | assumption | exact Vc.Ext.refl _ | ((with_reducible apply Vc.Ext.trans); (case k => assumption)) | ((with_reducible apply Vc.Ext.but); (case k => assumption); (case hb => omega))))⟩
        · ((conv => whnf); repeat (any_goals (first | ((refine IdxA.strv hr rfl 0 _ rfl rfl ?_; intro _ _ _ _ _); (conv => whnf)) | ((refine IdxA.strv hr rfl 1 _ rfl rfl ?_; intro _ _ _ _ _); (conv => whnf)) | ((refine IdxA.strv hr1 rfl 0 _ rfl rfl ?_; intro _ _ _ _ _); (conv => whnf)) | ((refine IdxA.strv hr1 rfl 1 _ rfl rfl ?_; intro _ _ _ _ _); (conv => whnf)) | ((refine BndH.nat 1 rfl (by omega) ?_); (conv => whnf)) | ((refine PureH.build1 (lineC 7 [] [] [] 0 false) (by kernel_rfl) ?_); (conv => whnf)) | ((refine PureH.build0 (lineC 0 [] [] [] 0 false) (by kernel_rfl) ?_); (conv => whnf)) | ((refine (plain_any _ (by assumption) _).mono ?_; rintro _ _ ⟨rfl, rfl⟩); (conv => whnf)) | (refine Vc.stp ?_; intros; (conv => whnf)) | (refine Vc.spl ?_ ?_ <;> (intro _; (conv => whnf))))))
          exact ⟨by rw [show askedF ([p, q, r]) = some ⟨7, r, [], [], 0, true⟩ from by simp [askedF, hpn, hqe, hpl]]; rfl, by (repeat (first | assumption | exact Vc.Ext.refl _ | ((with_reducible apply Vc.Ext.trans); (case k => assumption)) | ((with_reducible apply Vc.Ext.but); (case k => assumption); (case hb => omega))))⟩
      · have eqe : ((mkS q).toList == (⟨#[101, 120, 105, 115, 116, 115]⟩ : ByteArray).toList) = false := by show ((mkS q).toList == (mkS wExists).toList) = false; rw [str_mk]; exact decide_eq_false hqe
        ((conv => whnf); repeat (any_goals (first | ((refine IdxA.strv hr rfl 0 _ rfl rfl ?_; intro _ _ _ _ _); (conv => whnf)) | ((refine IdxA.strv hr rfl 1 _ rfl rfl ?_; intro _ _ _ _ _); (conv => whnf)) | ((refine IdxA.strv hr1 rfl 0 _ rfl rfl ?_; intro _ _ _ _ _); (conv => whnf)) | ((refine IdxA.strv hr1 rfl 1 _ rfl rfl ?_; intro _ _ _ _ _); (conv => whnf)) | ((refine BndH.nat 1 rfl (by omega) ?_); (conv => whnf)) | ((refine PureH.build1 (lineC 7 [] [] [] 0 false) (by kernel_rfl) ?_); (conv => whnf)) | ((refine PureH.build0 (lineC 0 [] [] [] 0 false) (by kernel_rfl) ?_); (conv => whnf)) | ((refine (plain_any _ (by assumption) _).mono ?_; rintro _ _ ⟨rfl, rfl⟩); (conv => whnf)) | (refine Vc.stp ?_; intros; (conv => whnf)) | (refine Vc.spl ?_ ?_ <;> (intro _; (conv => whnf))))))
        exact ⟨by rw [show askedF ([p, q, r]) = none from by simp [askedF, hqe]]; exact ⟨_, _, _, _, _, _, rfl⟩, by (repeat (first | assumption | exact Vc.Ext.refl _ | ((with_reducible apply Vc.Ext.trans); (case k => assumption)) | ((with_reducible apply Vc.Ext.but); (case k => assumption); (case hb => omega))))⟩
    · have epn : ((mkS p).toList == (⟨#[110, 111, 116]⟩ : ByteArray).toList) = false := by show ((mkS p).toList == (mkS wNot).toList) = false; rw [str_mk]; exact decide_eq_false hpn
      ((conv => whnf); repeat (any_goals (first | ((refine IdxA.strv hr rfl 0 _ rfl rfl ?_; intro _ _ _ _ _); (conv => whnf)) | ((refine IdxA.strv hr rfl 1 _ rfl rfl ?_; intro _ _ _ _ _); (conv => whnf)) | ((refine IdxA.strv hr1 rfl 0 _ rfl rfl ?_; intro _ _ _ _ _); (conv => whnf)) | ((refine IdxA.strv hr1 rfl 1 _ rfl rfl ?_; intro _ _ _ _ _); (conv => whnf)) | ((refine BndH.nat 1 rfl (by omega) ?_); (conv => whnf)) | ((refine PureH.build1 (lineC 7 [] [] [] 0 false) (by kernel_rfl) ?_); (conv => whnf)) | ((refine PureH.build0 (lineC 0 [] [] [] 0 false) (by kernel_rfl) ?_); (conv => whnf)) | ((refine (plain_any _ (by assumption) _).mono ?_; rintro _ _ ⟨rfl, rfl⟩); (conv => whnf)) | (refine Vc.stp ?_; intros; (conv => whnf)) | (refine Vc.spl ?_ ?_ <;> (intro _; (conv => whnf))))))
      exact ⟨by rw [show askedF ([p, q, r]) = none from by simp [askedF, hpn]]; exact ⟨_, _, _, _, _, _, rfl⟩, by (repeat (first | assumption | exact Vc.Ext.refl _ | ((with_reducible apply Vc.Ext.trans); (case k => assumption)) | ((with_reducible apply Vc.Ext.but); (case k => assumption); (case hb => omega))))⟩
  | p :: q :: r :: s :: t, hr, hc, hm, hne =>
    have hr1 := row_tail hr hc
    have hlen : (p :: q :: r :: s :: t).length = t.length + 4 := by simp
    have hlen1 : (q :: r :: s :: t : List Bs).length = t.length + 3 := by simp
    simp only [List.length_cons, List.length_nil] at hc hm
    have hnp : p ≠ [] := hne p (by simp)
    have hnq : q ≠ [] := hne q (by simp)
    have hnr : r ≠ [] := hne r (by simp)
    have hns : s ≠ [] := hne s (by simp)
    by_cases hpn : p = wNot
    · have epn : ((mkS p).toList == (⟨#[110, 111, 116]⟩ : ByteArray).toList) = true := by show ((mkS p).toList == (mkS wNot).toList) = true; rw [str_mk]; exact decide_eq_true hpn
      ((conv => whnf); repeat (any_goals (first | ((refine IdxA.strv hr rfl 0 _ rfl rfl ?_; intro _ _ _ _ _); (conv => whnf)) | ((refine IdxA.strv hr rfl 1 _ rfl rfl ?_; intro _ _ _ _ _); (conv => whnf)) | ((refine IdxA.strv hr1 rfl 0 _ rfl rfl ?_; intro _ _ _ _ _); (conv => whnf)) | ((refine IdxA.strv hr1 rfl 1 _ rfl rfl ?_; intro _ _ _ _ _); (conv => whnf)) | ((refine BndH.nat 1 rfl (by omega) ?_); (conv => whnf)) | ((refine PureH.build1 (lineC 7 [] [] [] 0 false) (by kernel_rfl) ?_); (conv => whnf)) | ((refine PureH.build0 (lineC 0 [] [] [] 0 false) (by kernel_rfl) ?_); (conv => whnf)) | ((refine (plain_any _ (by assumption) _).mono ?_; rintro _ _ ⟨rfl, rfl⟩); (conv => whnf)) | (refine Vc.stp ?_; intros; (conv => whnf)) | (refine Vc.spl ?_ ?_ <;> (intro _; (conv => whnf))))))
      exact ⟨by rw [show askedF (p :: q :: r :: s :: t) = none from rfl]; exact ⟨_, _, _, _, _, _, rfl⟩, by (repeat (first | assumption | exact Vc.Ext.refl _ | ((with_reducible apply Vc.Ext.trans); (case k => assumption)) | ((with_reducible apply Vc.Ext.but); (case k => assumption); (case hb => omega))))⟩
    · have epn : ((mkS p).toList == (⟨#[110, 111, 116]⟩ : ByteArray).toList) = false := by show ((mkS p).toList == (mkS wNot).toList) = false; rw [str_mk]; exact decide_eq_false hpn
      ((conv => whnf); repeat (any_goals (first | ((refine IdxA.strv hr rfl 0 _ rfl rfl ?_; intro _ _ _ _ _); (conv => whnf)) | ((refine IdxA.strv hr rfl 1 _ rfl rfl ?_; intro _ _ _ _ _); (conv => whnf)) | ((refine IdxA.strv hr1 rfl 0 _ rfl rfl ?_; intro _ _ _ _ _); (conv => whnf)) | ((refine IdxA.strv hr1 rfl 1 _ rfl rfl ?_; intro _ _ _ _ _); (conv => whnf)) | ((refine BndH.nat 1 rfl (by omega) ?_); (conv => whnf)) | ((refine PureH.build1 (lineC 7 [] [] [] 0 false) (by kernel_rfl) ?_); (conv => whnf)) | ((refine PureH.build0 (lineC 0 [] [] [] 0 false) (by kernel_rfl) ?_); (conv => whnf)) | ((refine (plain_any _ (by assumption) _).mono ?_; rintro _ _ ⟨rfl, rfl⟩); (conv => whnf)) | (refine Vc.stp ?_; intros; (conv => whnf)) | (refine Vc.spl ?_ ?_ <;> (intro _; (conv => whnf))))))
      exact ⟨by rw [show askedF (p :: q :: r :: s :: t) = none from rfl]; exact ⟨_, _, _, _, _, _, rfl⟩, by (repeat (first | assumption | exact Vc.Ext.refl _ | ((with_reducible apply Vc.Ext.trans); (case k => assumption)) | ((with_reducible apply Vc.Ext.but); (case k => assumption); (case hb => omega))))⟩
end Go.Proofs.YtlgcfcdmldlefaaDoor
