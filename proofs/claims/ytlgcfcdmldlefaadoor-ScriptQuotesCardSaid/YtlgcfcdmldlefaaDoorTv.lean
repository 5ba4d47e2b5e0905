import Derived.Test.YtlgcfcdmldlefaaDoorTu
set_option linter.unusedVariables false
set_option linter.unusedSimpArgs false
set_option maxRecDepth 100000
/- Build scripts, the code: a line's text (of the kinds that the statements tell). -/
namespace Go.Proofs.YtlgcfcdmldlefaaDoor
open Go Go.Vc Go.Scr
set_option maxHeartbeats 4000000 in
theorem one_any (x : Ln) (hk : x.k = 1 ∨ x.k = 7 ∨ x.k = 10) (ha : x.a.length ≤ 1000000) (ht : x.tx.length ≤ 1000000) (H : Heap) : CallH Tryd.prog 69 [.agg (lnC x)] H fun v H' => v = .string (mkS (oneText x)) ∧ Ext H H' := by
  have hlen12 : kws.length = 12 := rfl
  have he := fun H => escaped_any x.tx (by omega) H
  refine Vc.CallH.body Tryd.func69 Tryd.call69 rfl (by decide +kernel) rfl ?_
  rcases hk with hk | hk | hk
  · obtain ⟨kw, hkw0⟩ : ∃ kw : Bs, kw = [119, 114, 105, 116, 101] := ⟨_, rfl⟩
    have hkw : kws[x.k]? = some kw := by rw [hk, hkw0]; rfl
    ((conv => whnf); repeat (any_goals (first | ((refine (kws_any _).mono ?_; rintro _ Hk ⟨rfl, hrk, hxk⟩; have hzk := hxk.size); (conv => whnf)) | ((refine IdxA.strv hrk rfl x.k kw rfl hkw ?_; intro _ _ _ _ _); (conv => whnf)) | ((refine (he _).mono ?_; rintro _ H5 ⟨rfl, hx5⟩; have hz5 := hx5.size); (conv => whnf)) | (((with_reducible apply NextH.push2); (focus ((repeat (first | assumption | ((with_reducible apply Vc.Blk.ext); (case k => assumption)) | ((with_reducible apply Vc.Blk.but); (case k => assumption); (case hb => omega)))))); (focus ((repeat (first | assumption | ((with_reducible apply Vc.Own.ext); (case k => assumption)) | ((with_reducible apply Vc.Own.but); (case k => assumption); (case hb => omega)))))); (focus ((repeat (first | assumption | exact Vc.Ext.refl _ | ((with_reducible apply Vc.Ext.trans); (case k => assumption)) | ((with_reducible apply Vc.Ext.but); (case k => assumption); (case hb => omega)))))); (focus (omega)); (focus (rfl)); (focus ((exact ⟨_, rfl, fun _ h => by cases h⟩))); (focus (rfl)); (focus (rfl)); (focus (rfl)); (focus (rfl)); (focus (rfl)); (focus (rfl)); (focus (rfl)); (focus (rfl)); (focus ((intro _ _ _ _ _; (conv => whnf))))); (conv => whnf)) | (((with_reducible refine Vc.DrawH.held [0, 1, 2, 3, 4, 5, 6, 7, 8, 9] [(6, [5])] mixed (by decide +kernel) ?_)); (conv => whnf)) | (((with_reducible refine Vc.DrawH.held [1, 2, 0, 3, 4, 5, 6] [(0, [2])] mixed (by decide +kernel) ?_)); (conv => whnf)) | (refine Vc.stp ?_; intros; (conv => whnf)) | (refine Vc.spl ?_ ?_ <;> (intro _; (conv => whnf))))))
    rename_i H3 hs3 hb3 hx3 H4 hs4 hb4 hx4
    have ho4 : Own H4 Hk.size 9 1 (some ⟨Hk.size, 0, none⟩) 1 1 [.string (mkS kw)] := Own.ext (own_lit (xs := [.string (mkS kw)]) hb3 (Nat.le_refl _) rfl (Nat.le_of_ble_eq_true rfl)) hx4
    ((conv => whnf); repeat (any_goals (first | ((refine (kws_any _).mono ?_; rintro _ Hk ⟨rfl, hrk, hxk⟩; have hzk := hxk.size); (conv => whnf)) | ((refine IdxA.strv hrk rfl x.k kw rfl hkw ?_; intro _ _ _ _ _); (conv => whnf)) | ((refine (he _).mono ?_; rintro _ H5 ⟨rfl, hx5⟩; have hz5 := hx5.size); (conv => whnf)) | (((with_reducible apply NextH.push2); (focus ((repeat (first | assumption | ((with_reducible apply Vc.Blk.ext); (case k => assumption)) | ((with_reducible apply Vc.Blk.but); (case k => assumption); (case hb => omega)))))); (focus ((repeat (first | assumption | ((with_reducible apply Vc.Own.ext); (case k => assumption)) | ((with_reducible apply Vc.Own.but); (case k => assumption); (case hb => omega)))))); (focus ((repeat (first | assumption | exact Vc.Ext.refl _ | ((with_reducible apply Vc.Ext.trans); (case k => assumption)) | ((with_reducible apply Vc.Ext.but); (case k => assumption); (case hb => omega)))))); (focus (omega)); (focus (rfl)); (focus ((exact ⟨_, rfl, fun _ h => by cases h⟩))); (focus (rfl)); (focus (rfl)); (focus (rfl)); (focus (rfl)); (focus (rfl)); (focus (rfl)); (focus (rfl)); (focus (rfl)); (focus ((intro _ _ _ _ _; (conv => whnf))))); (conv => whnf)) | (refine Vc.stp ?_; intros; (conv => whnf)) | (refine Vc.spl ?_ ?_ <;> (intro _; (conv => whnf))))))
    rename_i H7 ho7 hx7 H8 hs8 hb8 hx8 a9 c9 H9 ho9 hx9
    have hj : Lib.join [kw, x.a, 34 :: (escF x.tx ++ [34])] [32] = oneText x := by rw [hkw0]; unfold oneText; rw [if_pos hk]; simp [Lib.join, List.intercalate, List.intersperse]
    have hel := escF_len x.tx
    have hrow : Row H9 a9 (strs [kw, x.a, 34 :: (escF x.tx ++ [34])]) := ho9.row
    have hcap := ho9.cap_le
    have hjl : (Lib.join [kw, x.a, 34 :: (escF x.tx ++ [34])] [32]).length ≤ 1000000000 := by rw [hj]; unfold oneText; rw [if_pos hk]; simp; omega
    have hJ := join_any (sep := [32]) hrow rfl hcap (Nat.le_of_ble_eq_true rfl) hjl
    rw [hj] at hJ
    clear hj hjl
    refine hJ.mono ?_
    rintro _ HA ⟨rfl, hxA⟩
    ((conv => whnf); repeat (any_goals (first | (refine Vc.stp ?_; intros; (conv => whnf)) | (refine Vc.spl ?_ ?_ <;> (intro _; (conv => whnf))))))
    exact ⟨rfl, by (repeat (first | assumption | exact Vc.Ext.refl _ | ((with_reducible apply Vc.Ext.trans); (case k => assumption)) | ((with_reducible apply Vc.Ext.but); (case k => assumption); (case hb => omega))))⟩
  · obtain ⟨kw, hkw0⟩ : ∃ kw : Bs, kw = [105, 102] := ⟨_, rfl⟩
    have hkw : kws[x.k]? = some kw := by rw [hk, hkw0]; rfl
    cases hnt : x.nt
    · ((conv => whnf); repeat (any_goals (first | ((refine (kws_any _).mono ?_; rintro _ Hk ⟨rfl, hrk, hxk⟩; have hzk := hxk.size); (conv => whnf)) | ((refine IdxA.strv hrk rfl x.k kw rfl hkw ?_; intro _ _ _ _ _); (conv => whnf)) | ((refine (he _).mono ?_; rintro _ H5 ⟨rfl, hx5⟩; have hz5 := hx5.size); (conv => whnf)) | (((with_reducible apply NextH.push2); (focus ((repeat (first | assumption | ((with_reducible apply Vc.Blk.ext); (case k => assumption)) | ((with_reducible apply Vc.Blk.but); (case k => assumption); (case hb => omega)))))); (focus ((repeat (first | assumption | ((with_reducible apply Vc.Own.ext); (case k => assumption)) | ((with_reducible apply Vc.Own.but); (case k => assumption); (case hb => omega)))))); (focus ((repeat (first | assumption | exact Vc.Ext.refl _ | ((with_reducible apply Vc.Ext.trans); (case k => assumption)) | ((with_reducible apply Vc.Ext.but); (case k => assumption); (case hb => omega)))))); (focus (omega)); (focus (rfl)); (focus ((exact ⟨_, rfl, fun _ h => by cases h⟩))); (focus (rfl)); (focus (rfl)); (focus (rfl)); (focus (rfl)); (focus (rfl)); (focus (rfl)); (focus (rfl)); (focus (rfl)); (focus ((intro _ _ _ _ _; (conv => whnf))))); (conv => whnf)) | (((with_reducible refine Vc.DrawH.held [0, 1, 2, 3, 4, 5, 6, 7, 8, 9] [(6, [5])] mixed (by decide +kernel) ?_)); (conv => whnf)) | (((with_reducible refine Vc.DrawH.held [1, 2, 0, 3, 4, 5, 6] [(0, [2])] mixed (by decide +kernel) ?_)); (conv => whnf)) | (refine Vc.stp ?_; intros; (conv => whnf)) | (refine Vc.spl ?_ ?_ <;> (intro _; (conv => whnf))))))
      rename_i H3 hs3 hb3 hx3 H4 hs4 hb4 hx4
      have ho4 : Own H4 Hk.size 9 1 (some ⟨Hk.size, 0, none⟩) 1 1 [.string (mkS kw)] := Own.ext (own_lit (xs := [.string (mkS kw)]) hb3 (Nat.le_refl _) rfl (Nat.le_of_ble_eq_true rfl)) hx4
      ((conv => whnf); repeat (any_goals (first | ((refine (kws_any _).mono ?_; rintro _ Hk ⟨rfl, hrk, hxk⟩; have hzk := hxk.size); (conv => whnf)) | ((refine IdxA.strv hrk rfl x.k kw rfl hkw ?_; intro _ _ _ _ _); (conv => whnf)) | ((refine (he _).mono ?_; rintro _ H5 ⟨rfl, hx5⟩; have hz5 := hx5.size); (conv => whnf)) | (((with_reducible apply NextH.push2); (focus ((repeat (first | assumption | ((with_reducible apply Vc.Blk.ext); (case k => assumption)) | ((with_reducible apply Vc.Blk.but); (case k => assumption); (case hb => omega)))))); (focus ((repeat (first | assumption | ((with_reducible apply Vc.Own.ext); (case k => assumption)) | ((with_reducible apply Vc.Own.but); (case k => assumption); (case hb => omega)))))); (focus ((repeat (first | assumption | exact Vc.Ext.refl _ | ((with_reducible apply Vc.Ext.trans); (case k => assumption)) | ((with_reducible apply Vc.Ext.but); (case k => assumption); (case hb => omega)))))); (focus (omega)); (focus (rfl)); (focus ((exact ⟨_, rfl, fun _ h => by cases h⟩))); (focus (rfl)); (focus (rfl)); (focus (rfl)); (focus (rfl)); (focus (rfl)); (focus (rfl)); (focus (rfl)); (focus (rfl)); (focus ((intro _ _ _ _ _; (conv => whnf))))); (conv => whnf)) | (refine Vc.stp ?_; intros; (conv => whnf)) | (refine Vc.spl ?_ ?_ <;> (intro _; (conv => whnf))))))
      rename_i a9 c9 H9 ho9 hx9
      have hj : Lib.join [kw, wExists, x.a] [32] = oneText x := by rw [hkw0]; unfold oneText; rw [if_neg (by omega), if_pos hk, hnt]; simp [Lib.join, List.intercalate, List.intersperse, wExists]
      have hrow : Row H9 a9 (strs [kw, wExists, x.a]) := ho9.row
      have hcap := ho9.cap_le
      have hjl : (Lib.join [kw, wExists, x.a] [32]).length ≤ 1000000000 := by rw [hj]; unfold oneText; rw [if_neg (by omega), if_pos hk, hnt]; simp; omega
      have hJ := join_any (sep := [32]) hrow rfl hcap (Nat.le_of_ble_eq_true rfl) hjl
      rw [hj] at hJ
      clear hj hjl
      refine hJ.mono ?_
      rintro _ HA ⟨rfl, hxA⟩
      ((conv => whnf); repeat (any_goals (first | (refine Vc.stp ?_; intros; (conv => whnf)) | (refine Vc.spl ?_ ?_ <;> (intro _; (conv => whnf))))))
      exact ⟨rfl, by (repeat (first | assumption | exact Vc.Ext.refl _ | ((with_reducible apply Vc.Ext.trans); (case k => assumption)) | ((with_reducible apply Vc.Ext.but); (case k => assumption); (case hb => omega))))⟩
    · ((conv => whnf); repeat (any_goals (first | ((refine (kws_any _).mono ?_; rintro _ Hk ⟨rfl, hrk, hxk⟩; have hzk := hxk.size); (conv => whnf)) | ((refine IdxA.strv hrk rfl x.k kw rfl hkw ?_; intro _ _ _ _ _); (conv => whnf)) | ((refine (he _).mono ?_; rintro _ H5 ⟨rfl, hx5⟩; have hz5 := hx5.size); (conv => whnf)) | (((with_reducible apply NextH.push2); (focus ((repeat (first | assumption | ((with_reducible apply Vc.Blk.ext); (case k => assumption)) | ((with_reducible apply Vc.Blk.but); (case k => assumption); (case hb => omega)))))); (focus ((repeat (first | assumption | ((with_reducible apply Vc.Own.ext); (case k => assumption)) | ((with_reducible apply Vc.Own.but); (case k => assumption); (case hb => omega)))))); (focus ((repeat (first | assumption | exact Vc.Ext.refl _ | ((with_reducible apply Vc.Ext.trans); (case k => assumption)) | ((with_reducible apply Vc.Ext.but); (case k => assumption); (case hb => omega)))))); (focus (omega)); (focus (rfl)); (focus ((exact ⟨_, rfl, fun _ h => by cases h⟩))); (focus (rfl)); (focus (rfl)); (focus (rfl)); (focus (rfl)); (focus (rfl)); (focus (rfl)); (focus (rfl)); (focus (rfl)); (focus ((intro _ _ _ _ _; (conv => whnf))))); (conv => whnf)) | (((with_reducible refine Vc.DrawH.held [0, 1, 2, 3, 4, 5, 6, 7, 8, 9] [(6, [5])] mixed (by decide +kernel) ?_)); (conv => whnf)) | (((with_reducible refine Vc.DrawH.held [1, 2, 0, 3, 4, 5, 6] [(0, [2])] mixed (by decide +kernel) ?_)); (conv => whnf)) | (refine Vc.stp ?_; intros; (conv => whnf)) | (refine Vc.spl ?_ ?_ <;> (intro _; (conv => whnf))))))
      rename_i H3 hs3 hb3 hx3 H4 hs4 hb4 hx4
      have ho4 : Own H4 Hk.size 9 1 (some ⟨Hk.size, 0, none⟩) 1 1 [.string (mkS kw)] := Own.ext (own_lit (xs := [.string (mkS kw)]) hb3 (Nat.le_refl _) rfl (Nat.le_of_ble_eq_true rfl)) hx4
      ((conv => whnf); repeat (any_goals (first | ((refine (kws_any _).mono ?_; rintro _ Hk ⟨rfl, hrk, hxk⟩; have hzk := hxk.size); (conv => whnf)) | ((refine IdxA.strv hrk rfl x.k kw rfl hkw ?_; intro _ _ _ _ _); (conv => whnf)) | ((refine (he _).mono ?_; rintro _ H5 ⟨rfl, hx5⟩; have hz5 := hx5.size); (conv => whnf)) | (((with_reducible apply NextH.push2); (focus ((repeat (first | assumption | ((with_reducible apply Vc.Blk.ext); (case k => assumption)) | ((with_reducible apply Vc.Blk.but); (case k => assumption); (case hb => omega)))))); (focus ((repeat (first | assumption | ((with_reducible apply Vc.Own.ext); (case k => assumption)) | ((with_reducible apply Vc.Own.but); (case k => assumption); (case hb => omega)))))); (focus ((repeat (first | assumption | exact Vc.Ext.refl _ | ((with_reducible apply Vc.Ext.trans); (case k => assumption)) | ((with_reducible apply Vc.Ext.but); (case k => assumption); (case hb => omega)))))); (focus (omega)); (focus (rfl)); (focus ((exact ⟨_, rfl, fun _ h => by cases h⟩))); (focus (rfl)); (focus (rfl)); (focus (rfl)); (focus (rfl)); (focus (rfl)); (focus (rfl)); (focus (rfl)); (focus (rfl)); (focus ((intro _ _ _ _ _; (conv => whnf))))); (conv => whnf)) | (refine Vc.stp ?_; intros; (conv => whnf)) | (refine Vc.spl ?_ ?_ <;> (intro _; (conv => whnf))))))
      rename_i a9 c9 H9 ho9 hx9
      have hj : Lib.join [kw, wNot, wExists, x.a] [32] = oneText x := by rw [hkw0]; unfold oneText; rw [if_neg (by omega), if_pos hk, hnt]; simp [Lib.join, List.intercalate, List.intersperse, wExists, wNot]
      have hrow : Row H9 a9 (strs [kw, wNot, wExists, x.a]) := ho9.row
      have hcap := ho9.cap_le
      have hjl : (Lib.join [kw, wNot, wExists, x.a] [32]).length ≤ 1000000000 := by rw [hj]; unfold oneText; rw [if_neg (by omega), if_pos hk, hnt]; simp; omega
      have hJ := join_any (sep := [32]) hrow rfl hcap (Nat.le_of_ble_eq_true rfl) hjl
      rw [hj] at hJ
      clear hj hjl
      refine hJ.mono ?_
      rintro _ HA ⟨rfl, hxA⟩
      ((conv => whnf); repeat (any_goals (first | (refine Vc.stp ?_; intros; (conv => whnf)) | (refine Vc.spl ?_ ?_ <;> (intro _; (conv => whnf))))))
      exact ⟨rfl, by (repeat (first | assumption | exact Vc.Ext.refl _ | ((with_reducible apply Vc.Ext.trans); (case k => assumption)) | ((with_reducible apply Vc.Ext.but); (case k => assumption); (case hb => omega))))⟩
  · obtain ⟨kw, hkw0⟩ : ∃ kw : Bs, kw = [101, 110, 100] := ⟨_, rfl⟩
    have hkw : kws[x.k]? = some kw := by rw [hk, hkw0]; rfl
    ((conv => whnf); repeat (any_goals (first | ((refine (kws_any _).mono ?_; rintro _ Hk ⟨rfl, hrk, hxk⟩; have hzk := hxk.size); (conv => whnf)) | ((refine IdxA.strv hrk rfl x.k kw rfl hkw ?_; intro _ _ _ _ _); (conv => whnf)) | ((refine (he _).mono ?_; rintro _ H5 ⟨rfl, hx5⟩; have hz5 := hx5.size); (conv => whnf)) | (((with_reducible apply NextH.push2); (focus ((repeat (first | assumption | ((with_reducible apply Vc.Blk.ext); (case k => assumption)) | ((with_reducible apply Vc.Blk.but); (case k => assumption); (case hb => omega)))))); (focus ((repeat (first | assumption | ((with_reducible apply Vc.Own.ext); (case k => assumption)) | ((with_reducible apply Vc.Own.but); (case k => assumption); (case hb => omega)))))); (focus ((repeat (first | assumption | exact Vc.Ext.refl _ | ((with_reducible apply Vc.Ext.trans); (case k => assumption)) | ((with_reducible apply Vc.Ext.but); (case k => assumption); (case hb => omega)))))); (focus (omega)); (focus (rfl)); (focus ((exact ⟨_, rfl, fun _ h => by cases h⟩))); (focus (rfl)); (focus (rfl)); (focus (rfl)); (focus (rfl)); (focus (rfl)); (focus (rfl)); (focus (rfl)); (focus (rfl)); (focus ((intro _ _ _ _ _; (conv => whnf))))); (conv => whnf)) | (((with_reducible refine Vc.DrawH.held [0, 1, 2, 3, 4, 5, 6, 7, 8, 9] [(6, [5])] mixed (by decide +kernel) ?_)); (conv => whnf)) | (((with_reducible refine Vc.DrawH.held [1, 2, 0, 3, 4, 5, 6] [(0, [2])] mixed (by decide +kernel) ?_)); (conv => whnf)) | (refine Vc.stp ?_; intros; (conv => whnf)) | (refine Vc.spl ?_ ?_ <;> (intro _; (conv => whnf))))))
    rename_i H3 hs3 hb3 hx3
    have hj : Lib.join [kw] [32] = oneText x := by rw [hkw0]; unfold oneText; rw [if_neg (by omega), if_neg (by omega)]; simp [Lib.join, List.intercalate, List.intersperse]
    have hrow : Row H3 _ (strs [kw]) := Blk.row (c := strs [kw]) hb3
    have hcap := (Nat.le_refl 1)
    have hjl : (Lib.join [kw] [32]).length ≤ 1000000000 := by rw [hj]; unfold oneText; rw [if_neg (by omega), if_neg (by omega)]; simp
    have hJ := join_any (sep := [32]) hrow rfl hcap (Nat.le_of_ble_eq_true rfl) hjl
    rw [hj] at hJ
    clear hj hjl
    refine hJ.mono ?_
    rintro _ HA ⟨rfl, hxA⟩
    ((conv => whnf); repeat (any_goals (first | (refine Vc.stp ?_; intros; (conv => whnf)) | (refine Vc.spl ?_ ?_ <;> (intro _; (conv => whnf))))))
    exact ⟨rfl, by (repeat (first | assumption | exact Vc.Ext.refl _ | ((with_reducible apply Vc.Ext.trans); (case k => assumption)) | ((with_reducible apply Vc.Ext.but); (case k => assumption); (case hb => omega))))⟩
end Go.Proofs.YtlgcfcdmldlefaaDoor
