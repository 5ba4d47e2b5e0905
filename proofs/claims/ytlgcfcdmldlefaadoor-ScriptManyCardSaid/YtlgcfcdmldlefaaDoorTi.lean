import Derived.Test.YtlgcfcdmldlefaaDoorTh
set_option linter.unusedVariables false
set_option linter.unusedSimpArgs false
set_option maxRecDepth 100000
/- strings.TrimLeft of blanks. -/
namespace Go.Proofs.YtlgcfcdmldlefaaDoor
open Go Go.Vc Go.Scr

/-- the set of blanks, as it grows -/
def setC (i : Nat) : Array Value := tab 256 fun j => .bool (decide (j = 32 ∧ 1 ≤ i ∨ j = 9 ∧ 2 ≤ i))
theorem setC_set0 : (setC 0).setIfInBounds 32 (.bool true) = setC 1 := tab_set 256 _ _ 32 _ (by simp) (fun i hi hne => by
  congr 1; rw [Bool.eq_iff_iff, decide_eq_true_eq, decide_eq_true_eq]; omega)
theorem setC_set1 : (setC 1).setIfInBounds 9 (.bool true) = setC 2 := tab_set 256 _ _ 9 _ (by simp) (fun i hi hne => by
  congr 1; rw [Bool.eq_iff_iff, decide_eq_true_eq, decide_eq_true_eq]; omega)
theorem setC_get (n : Nat) (h : n < 256) : (setC 2)[n]? = some (.bool (decide (n = 32 ∨ n = 9))) := by
  unfold setC
  rw [tab_get _ _ _ h]
  congr 2
  rw [Bool.eq_iff_iff, decide_eq_true_eq, decide_eq_true_eq]; omega
theorem setC_plain (i : Nat) : ∀ u ∈ (setC i).toList, plainV u = true := tab_plain _ _ fun _ => rfl
theorem setC_size (i : Nat) : (setC i).size = 256 := tab_size _ _
set_option maxHeartbeats 2000000 in
theorem makeSet_any (H : Heap) : CallH Tryd.prog 88 [.string (mkS [32, 9])] H fun v H' => v = .tuple #[.agg (setC 2), .bool true] ∧ Ext H H' := by
  have hsz : (mkS [32, 9]).size = 2 := rfl
  refine Vc.CallH.body Tryd.func88 Tryd.call88 rfl (by decide +kernel) rfl ?_
  ((conv => whnf); repeat (any_goals (first | (refine Vc.sts ?_; (conv => whnf)))))
  refine SemH.alloc rfl rfl ?_
  intro H1 hs1 hb1 hx1
  have hz : (Tryd.t160.zero.getD undef).cells = setC 0 := by kernel_rfl
  replace hb1 : Blk H1 H.size (setC 0) 160 := by rw [← hz]; exact hb1
  ((conv => whnf); repeat (any_goals (first | (refine Vc.sts ?_; (conv => whnf)))))
  refine LoopH.intro (fun (i : Nat) => [(4, .int .i64 i)]) (fun i H' => i ≤ 2 ∧ Blk H' H.size (setC i) 160 ∧ Ext H H') (fun i => 2 - i) 0 ⟨rfl, trivial⟩ ⟨Nat.zero_le _, hb1, hx1⟩ ?_
  rintro i H2 ⟨hi, hb2, hx2⟩
  obtain rfl | rfl | rfl : i = 0 ∨ i = 1 ∨ i = 2 := by omega
  · have h0 : (mkS [32, 9]).data.toList.getD 0 0 = 32 := rfl
    have h32 : (32 : UInt8).toNat = 32 := rfl
    ((conv => whnf); repeat (any_goals (first | ((refine IdxH.nat 0 rfl (by omega) ?_; (conv => whnf); rw [h0, h32]); (conv => whnf)) | ((refine IdxH.nat 32 rfl (by decide) ?_); (conv => whnf)) | (refine Vc.sts ?_; (conv => whnf)))))
    refine DoH.store1 (o := 0 + 32) hb2 rfl rfl rfl (by rw [setC_size]; decide) ?_
    intro H3 hs3 hb3 hx3
    rw [Nat.zero_add, setC_set0] at hb3
    ((conv => whnf); repeat (any_goals (first | (refine Vc.sts ?_; (conv => whnf)))))
    exact ⟨1, ⟨rfl, trivial⟩, ⟨by decide, hb3, hx2.but hx3 (Nat.le_refl _)⟩, by decide⟩
  · have h0 : (mkS [32, 9]).data.toList.getD 1 0 = 9 := rfl
    have h9 : (9 : UInt8).toNat = 9 := rfl
    ((conv => whnf); repeat (any_goals (first | ((refine IdxH.nat 1 rfl (by omega) ?_; (conv => whnf); rw [h0, h9]); (conv => whnf)) | ((refine IdxH.nat 9 rfl (by decide) ?_); (conv => whnf)) | (refine Vc.sts ?_; (conv => whnf)))))
    refine DoH.store1 (o := 0 + 9) hb2 rfl rfl rfl (by rw [setC_size]; decide) ?_
    intro H3 hs3 hb3 hx3
    rw [Nat.zero_add, setC_set1] at hb3
    ((conv => whnf); repeat (any_goals (first | (refine Vc.sts ?_; (conv => whnf)))))
    exact ⟨2, ⟨rfl, trivial⟩, ⟨by decide, hb3, hx2.but hx3 (Nat.le_refl _)⟩, by decide⟩
  · ((conv => whnf); repeat (any_goals (first | (refine Vc.sts ?_; (conv => whnf)))))
    refine SemH.load_blk hb2 rfl rfl (by rw [setC_size]; rfl) ?_
    ((conv => whnf); repeat (any_goals (first | (refine Vc.sts ?_; (conv => whnf)))))
    refine DoH.store_all hb2 rfl (by rw [setC_size]; rfl) rfl (setC_plain 2) ?_
    intro H3 hs3 hb3 hx3
    ((conv => whnf); repeat (any_goals (first | (refine Vc.sts ?_; (conv => whnf)))))
    refine SemH.load_blk hb3 rfl rfl (by rw [setC_size]; rfl) ?_
    refine NeedH.mk ⟨rfl, ?_⟩
    ((conv => whnf); repeat (any_goals (first | (refine Vc.sts ?_; (conv => whnf)))))
    exact ⟨rfl, hx2.but hx3 (Nat.le_refl _)⟩
theorem isB_dec (c : UInt8) : decide (c.toNat = 32 ∨ c.toNat = 9) = isB c := by
  rw [isB_nat, Bool.eq_iff_iff, decide_eq_true_eq, Bool.or_eq_true, beq_iff_eq, beq_iff_eq]
theorem contains_any (c : UInt8) (g : Nat) (H : Heap) (hb : Blk H g (setC 2) 160) : CallH Tryd.prog 119 [.pointer (some ⟨g, 0, none⟩), .int .u8 c.toNat] H fun v H' => v = .bool (isB c) ∧ H = H' := by
  have hc := c.toNat_lt
  refine Vc.CallH.body Tryd.func119 Tryd.call119 rfl (by decide +kernel) rfl ?_
  ((conv => whnf); repeat (any_goals (first | ((refine IdxH.nat c.toNat rfl (by omega) ?_); (conv => whnf)) | (refine Vc.sts ?_; (conv => whnf)))))
  refine SemH.load_at hb rfl (by rw [Nat.zero_add]; exact setC_get _ (by omega)) ?_
  ((conv => whnf); repeat (any_goals (first | (refine Vc.sts ?_; (conv => whnf)))))
  exact ⟨by rw [isB_dec]; rfl, rfl⟩
theorem trimA_any (l : Bs) (hl : l.length ≤ 1000000000) (g : Nat) (H : Heap) (hb : Blk H g (setC 2) 160) : CallH Tryd.prog 89 [.string (mkS l), .pointer (some ⟨g, 0, none⟩)] H fun v H' => v = .string (mkS (l.dropWhile isB)) ∧ H = H' := by
  obtain ⟨D, hD⟩ : ∃ D, l.dropWhile isB = D := ⟨_, rfl⟩
  rw [hD]
  refine Vc.CallH.body Tryd.func89 Tryd.call89 rfl (by decide +kernel) rfl ?_
  ((conv => whnf); repeat (any_goals (first | (refine Vc.sts ?_; (conv => whnf)))))
  refine LoopH.intro (fun (r : Bs) => [(0, .string (mkS r))]) (fun r H' => H = H' ∧ r.length ≤ l.length ∧ r.dropWhile isB = D) (fun r => r.length) l ⟨rfl, trivial⟩ ⟨rfl, Nat.le_refl _, hD⟩ ?_
  rintro r _ ⟨rfl, hrl, hr⟩
  cases r with
  | nil =>
    have hsz : (mkS []).size = 0 := rfl
    ((conv => whnf); repeat (any_goals (first | (refine Vc.stp ?_; intros; (conv => whnf)) | (refine Vc.spl ?_ ?_ <;> (intro _; (conv => whnf))))))
    rw [← hr]; exact ⟨rfl, rfl⟩
  | cons c t =>
    have hsz : (mkS (c :: t)).size = t.length + 1 := rfl
    have hc0 : (mkS (c :: t)).data.toList.getD 0 0 = c := rfl
    simp only [List.length_cons] at hrl
    rw [List.dropWhile_cons] at hr
    cases hbc : isB c
    · rw [hbc, if_neg (by decide)] at hr
      ((conv => whnf); repeat (any_goals (first | ((refine IdxH.nat 0 rfl (by omega) ?_; (conv => whnf); rw [hc0]); (conv => whnf)) | ((refine (contains_any _ _ _ hb).mono ?_; rintro _ _ ⟨rfl, rfl⟩); (conv => whnf)) | (refine Vc.stp ?_; intros; (conv => whnf)) | (refine Vc.spl ?_ ?_ <;> (intro _; (conv => whnf))))))
      rw [← hr]; exact ⟨rfl, rfl⟩
    · rw [hbc, if_pos rfl] at hr
      ((conv => whnf); repeat (any_goals (first | ((refine IdxH.nat 0 rfl (by omega) ?_; (conv => whnf); rw [hc0]); (conv => whnf)) | ((refine (contains_any _ _ _ hb).mono ?_; rintro _ _ ⟨rfl, rfl⟩); (conv => whnf)) | ((refine BndH.nat 1 rfl (by omega) ?_); (conv => whnf)) | (refine Vc.stp ?_; intros; (conv => whnf)) | (refine Vc.spl ?_ ?_ <;> (intro _; (conv => whnf))))))
      exact ⟨t, ⟨by rw [mkS_drop]; rfl, trivial⟩, ⟨rfl, by omega, hr⟩, by show t.length < t.length + 1; omega⟩
theorem TrimLeft_any (l : Bs) (hl : l.length ≤ 1000000000) (H : Heap) : CallH Tryd.prog 61 [.string (mkS l), .string (mkS [32, 9])] H fun v H' => v = .string (mkS (l.dropWhile isB)) ∧ Ext H H' := by
  have hne := ne_empty 32 [9]
  have hsz : (mkS [32, 9]).size = 2 := rfl
  refine Vc.CallH.body Tryd.func61 Tryd.call61 rfl (by decide +kernel) rfl ?_
  cases l with
  | nil =>
    ((conv => whnf); repeat (any_goals (first | (refine Vc.stp ?_; intros; (conv => whnf)) | (refine Vc.spl ?_ ?_ <;> (intro _; (conv => whnf))))))
    exact ⟨rfl, Ext.refl _⟩
  | cons c t =>
    have hne2 := ne_empty c t
    ((conv => whnf); repeat (any_goals (first | ((refine (makeSet_any _).mono ?_; rintro _ H1 ⟨rfl, hx1⟩; have hz1 := hx1.size); (conv => whnf)) | (refine Vc.stp ?_; intros; (conv => whnf)))))
    rename_i H2 hs2 hb2 hx2 H3 hs3 hb3 hx3
    ((conv => whnf); repeat (any_goals (first | ((refine (trimA_any (c :: t) hl _ _ hb3).mono ?_; rintro _ _ ⟨rfl, rfl⟩); (conv => whnf)) | (refine Vc.stp ?_; intros; (conv => whnf)) | (refine Vc.spl ?_ ?_ <;> (intro _; (conv => whnf))))))
    exact ⟨rfl, (hx1.trans hx2).but hx3 hz1⟩
end Go.Proofs.YtlgcfcdmldlefaaDoor
