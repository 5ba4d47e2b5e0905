import Derived.Test.YtihopeogaeinhaaGreatDoorQd
set_option linter.unusedVariables false
set_option linter.unusedSimpArgs false
set_option maxRecDepth 100000
/- Trees of files, the code: its exported functions of one path. -/
namespace Go.Tre
open Go.Pth Go.Scr
open Go.Vc (mget mput mdel mget_put mget_mem mget_of_mem mget_none)
theorem append_cut (A : Tr) (s b : Txt) (h : 65536 < b.length) : appendF A s (b.take 65537) = appendF A s b := by
  have hl : (b.take 65537).length = 65537 := by rw [List.length_take]; omega
  have key : ∀ q x c, 65536 < c.length → writeP A q (x ++ c) = if dirF A q = true ∨ fileF A q = true then (A, 54) else (A, 55) := by
    intro q x c hc
    unfold writeP
    split
    · rfl
    · rw [if_pos (.inl (by rw [List.length_append]; omega))]
  unfold appendF
  rw [key _ _ _ (by omega), key _ _ _ h]
end Go.Tre
namespace Go.Proofs.YtihopeogaeinhaaGreatDoor
open Go Go.Vc Go.Scr Go.Pth Go.Tre
theorem write_any {b mb : Nat} {A : Tr} {H : Heap} (h : TreeO H b mb A) (hA : Okay A) (p bs : Bs) (a : Option Addr) (n cap : Nat) (hr : Row H a (strV bs)) (hn : bs.length = n) (hm : n ≤ 10000000000) :
    CallH Tryz.prog 29 [.pointer (some ⟨b, 0, none⟩), .string (mkS p), .slice a n cap] H fun v H' => Did H H' b mb v (writeF A p bs) := by
  have hp := put_any h hA p bs a n cap false hr hn hm
  rw [putR_write] at hp
  refine Vc.CallH.body Tryz.func29 Tryz.call29 rfl (by decide +kernel) rfl ?_
  ((conv => whnf); repeat (any_goals (first | ((refine hp.mono ?_; rintro v2 H2 hd; obtain rfl := hd.code); (conv => whnf)) | (refine Vc.stp ?_; intros; (conv => whnf)) | (refine Vc.spl ?_ ?_ <;> (intro _; (conv => whnf))))))
  exact hd
theorem append_any {b mb : Nat} {A : Tr} {H : Heap} (h : TreeO H b mb A) (hA : Okay A) (p bs : Bs) (a : Option Addr) (n cap : Nat) (hr : Row H a (strV bs)) (hn : bs.length = n) (hc : n ≤ cap) (hm : n ≤ 10000000000) :
    CallH Tryz.prog 33 [.pointer (some ⟨b, 0, none⟩), .string (mkS p), .slice a n cap] H fun v H' => Did H H' b mb v (appendF A p bs) := by
  by_cases hb : 65536 < n
  · have hp := put_any h hA p (bs.take 65537) a 65537 cap true (by rw [← strV_take]; exact hr.take _) (by rw [List.length_take]; omega) (by omega)
    rw [putR_append, append_cut A p bs (by omega)] at hp
    refine Vc.CallH.body Tryz.func33 Tryz.call33 rfl (by decide +kernel) rfl ?_
    ((conv => whnf); repeat (any_goals (first | ((refine BndH.nat 65537 rfl (by omega) ?_); (conv => whnf)) | ((refine hp.mono ?_; rintro v2 H2 hd; obtain rfl := hd.code); (conv => whnf)) | (refine Vc.stp ?_; intros; (conv => whnf)) | (refine Vc.spl ?_ ?_ <;> (intro _; (conv => whnf))))))
    exact hd
  · have hp := put_any h hA p bs a n cap true hr hn hm
    rw [putR_append] at hp
    refine Vc.CallH.body Tryz.func33 Tryz.call33 rfl (by decide +kernel) rfl ?_
    ((conv => whnf); repeat (any_goals (first | ((refine hp.mono ?_; rintro v2 H2 hd; obtain rfl := hd.code); (conv => whnf)) | (refine Vc.stp ?_; intros; (conv => whnf)) | (refine Vc.spl ?_ ?_ <;> (intro _; (conv => whnf))))))
    exact hd
theorem size_any {b mb : Nat} {A : Tr} {H : Heap} (h : TreeO H b mb A) : CallH Tryz.prog 32 [.pointer (some ⟨b, 0, none⟩)] H fun v H' => v = .int .i64 (sizeT A) ∧ H = H' := by
  have hb := h.blk
  refine Vc.CallH.body Tryz.func32 Tryz.call32 rfl (by decide +kernel) rfl ?_
  ((conv => whnf); repeat (any_goals (first | (refine Vc.stp ?_; intros; (conv => whnf)) | (refine Vc.spl ?_ ?_ <;> (intro _; (conv => whnf))))))
  exact ⟨rfl, rfl⟩
theorem exists_any {b mb : Nat} {A : Tr} {H : Heap} (h : TreeO H b mb A) (p : Bs) : CallH Tryz.prog 36 [.pointer (some ⟨b, 0, none⟩), .string (mkS p)] H fun v H' => v = .bool (existsF A p) ∧ Ext H H' := by
  have hcl := fun H => clean_any p H
  have hat := fun H' (k : Ext H H') => at_any (h.ext k) (cleanF p).1
  unfold existsF
  by_cases h0 : (cleanF p).2 = 0
  · rw [h0] at hcl ⊢
    cases hn : nodeAt A (cleanF p).1 with
    | none =>
      rw [hn] at hat
      have e : ((cleanF p).1 == [] || (mget A (cleanF p).1).isSome) = false := by
        unfold nodeAt at hn
        split at hn
        · cases hn
        · rename_i hne; rw [hn]; simpa using hne
      rw [e]
      refine Vc.CallH.body Tryz.func36 Tryz.call36 rfl (by decide +kernel) rfl ?_
      ((conv => whnf); repeat (any_goals (first | ((refine (hcl _).mono ?_; rintro _ H1 ⟨rfl, hx1⟩; have hz1 := hx1.size); (conv => whnf)) | ((refine (hat _ (by (repeat (first | assumption | exact Vc.Ext.refl _ | ((with_reducible apply Vc.Ext.trans); (case k => assumption)) | ((with_reducible apply Vc.Ext.but); (case k => assumption); (case hb => omega)))))).mono ?_; rintro v2 H2 ⟨hv2, hx2⟩; have hz2 := hx2.size; obtain rfl := hv2); (conv => whnf)) | (refine Vc.stp ?_; intros; (conv => whnf)) | (refine Vc.spl ?_ ?_ <;> (intro _; (conv => whnf))))))
      exact ⟨rfl, by (repeat (first | assumption | exact Vc.Ext.refl _ | ((with_reducible apply Vc.Ext.trans); (case k => assumption)) | ((with_reducible apply Vc.Ext.but); (case k => assumption); (case hb => omega))))⟩
    | some n =>
      rw [hn] at hat
      have e : ((cleanF p).1 == [] || (mget A (cleanF p).1).isSome) = true := by
        unfold nodeAt at hn
        split at hn
        · rename_i h; simp [h]
        · rw [hn]; simp
      rw [e]
      refine Vc.CallH.body Tryz.func36 Tryz.call36 rfl (by decide +kernel) rfl ?_
      ((conv => whnf); repeat (any_goals (first | ((refine (hcl _).mono ?_; rintro _ H1 ⟨rfl, hx1⟩; have hz1 := hx1.size); (conv => whnf)) | ((refine (hat _ (by (repeat (first | assumption | exact Vc.Ext.refl _ | ((with_reducible apply Vc.Ext.trans); (case k => assumption)) | ((with_reducible apply Vc.Ext.but); (case k => assumption); (case hb => omega)))))).mono ?_; rintro v2 H2 ⟨hv2, hx2⟩; have hz2 := hx2.size; obtain ⟨g2, a2, c2, rfl, hb2, hr2⟩ := NodeO.out hv2; try dsimp only at hb2 hr2); (conv => whnf)) | (refine Vc.stp ?_; intros; (conv => whnf)) | (refine Vc.spl ?_ ?_ <;> (intro _; (conv => whnf))))))
      exact ⟨rfl, by (repeat (first | assumption | exact Vc.Ext.refl _ | ((with_reducible apply Vc.Ext.trans); (case k => assumption)) | ((with_reducible apply Vc.Ext.but); (case k => assumption); (case hb => omega))))⟩
  · have e : ((cleanF p).2 == 0) = false := by simpa using h0
    rw [e, Bool.false_and]
    have h0' : ¬ ((cleanF p).2 : Int) = 0 := by omega
    generalize cleanF p = c at *
    refine Vc.CallH.body Tryz.func36 Tryz.call36 rfl (by decide +kernel) rfl ?_
    ((conv => whnf); repeat (any_goals (first | ((refine (hcl _).mono ?_; rintro _ H1 ⟨rfl, hx1⟩; have hz1 := hx1.size); (conv => whnf)) | (refine Vc.stp ?_; intros; (conv => whnf)) | (refine Vc.spl ?_ ?_ <;> (intro _; (conv => whnf))))))
    exact ⟨rfl, hx1⟩
theorem read_any {b mb : Nat} {A : Tr} {H : Heap} (h : TreeO H b mb A) (hA : Okay A) (p : Bs) : CallH Tryz.prog 40 [.pointer (some ⟨b, 0, none⟩), .string (mkS p)] H fun v H' =>
    (∃ a cap, v = .tuple #[.slice a (readF A p).1.length cap, .int .i64 (readF A p).2] ∧ Own H' H.size 5 1 a (readF A p).1.length cap (strV (readF A p).1)) ∧ Ext H H' := by
  have hcl := fun H => clean_any p H
  obtain ⟨hcode, hcn⟩ := clean_code p
  unfold readF
  by_cases h0 : ¬ (cleanF p).2 = 0
  · rw [if_neg h0]
    have h0' : ¬ ((cleanF p).2 : Int) = 0 := by omega
    generalize cleanF p = c at *
    refine Vc.CallH.body Tryz.func40 Tryz.call40 rfl (by decide +kernel) rfl ?_
    ((conv => whnf); repeat (any_goals (first | ((refine (hcl _).mono ?_; rintro _ H1 ⟨rfl, hx1⟩; have hz1 := hx1.size); (conv => whnf)) | (refine Vc.stp ?_; intros; (conv => whnf)) | (refine Vc.spl ?_ ?_ <;> (intro _; (conv => whnf))))))
    exact ⟨⟨none, 0, rfl, Own.nil _ _ _ _⟩, hx1⟩
  have h0 : (cleanF p).2 = 0 := by omega
  rw [if_pos h0]
  have hq := clean_of h0
  obtain ⟨q, hqe⟩ : ∃ q, (cleanF p).1 = q := ⟨_, rfl⟩
  rw [h0, hqe] at hcl
  rw [hqe] at hq ⊢
  have hat := fun H' (k : Ext H H') => at_any (h.ext k) q
  by_cases hd : dirF A q = true
  · obtain ⟨t, ht⟩ := (dir_node A q).1 hd
    rw [ht] at hat
    rw [if_pos (.inl hd)]
    refine Vc.CallH.body Tryz.func40 Tryz.call40 rfl (by decide +kernel) rfl ?_
    ((conv => whnf); repeat (any_goals (first | ((refine (hcl _).mono ?_; rintro _ H1 ⟨rfl, hx1⟩; have hz1 := hx1.size); (conv => whnf)) | ((refine (hat _ (by (repeat (first | assumption | exact Vc.Ext.refl _ | ((with_reducible apply Vc.Ext.trans); (case k => assumption)) | ((with_reducible apply Vc.Ext.but); (case k => assumption); (case hb => omega)))))).mono ?_; rintro v2 H2 ⟨hv2, hx2⟩; have hz2 := hx2.size; obtain ⟨g2, a2, c2, rfl, hb2, hr2⟩ := NodeO.out hv2; try dsimp only at hb2 hr2); (conv => whnf)) | (refine Vc.stp ?_; intros; (conv => whnf)) | (refine Vc.spl ?_ ?_ <;> (intro _; (conv => whnf))))))
    exact ⟨⟨none, 0, rfl, Own.nil _ _ _ _⟩, by (repeat (first | assumption | exact Vc.Ext.refl _ | ((with_reducible apply Vc.Ext.trans); (case k => assumption)) | ((with_reducible apply Vc.Ext.but); (case k => assumption); (case hb => omega))))⟩
  have hqn : q ≠ [] := by rintro rfl; exact hd rfl
  have hah := fun H' (k : Ext H H') => ahead_any (h.ext k) hq
  unfold AheadV at hah
  cases hg : mget A q with
  | none =>
    rw [node_none hg hqn] at hat
    by_cases hf : fileF A q = true
    · simp only [if_pos hf] at hah
      rw [if_pos (.inr hf)]
      refine Vc.CallH.body Tryz.func40 Tryz.call40 rfl (by decide +kernel) rfl ?_
      ((conv => whnf); repeat (any_goals (first | ((refine (hcl _).mono ?_; rintro _ H1 ⟨rfl, hx1⟩; have hz1 := hx1.size); (conv => whnf)) | ((refine (hat _ (by (repeat (first | assumption | exact Vc.Ext.refl _ | ((with_reducible apply Vc.Ext.trans); (case k => assumption)) | ((with_reducible apply Vc.Ext.but); (case k => assumption); (case hb => omega)))))).mono ?_; rintro v2 H2 ⟨hv2, hx2⟩; have hz2 := hx2.size; obtain rfl := hv2); (conv => whnf)) | ((refine (hah _ (by (repeat (first | assumption | exact Vc.Ext.refl _ | ((with_reducible apply Vc.Ext.trans); (case k => assumption)) | ((with_reducible apply Vc.Ext.but); (case k => assumption); (case hb => omega)))))).mono ?_; rintro _ H3 ⟨rfl, hx3⟩; have hz3 := hx3.size); (conv => whnf)) | (refine Vc.stp ?_; intros; (conv => whnf)) | (refine Vc.spl ?_ ?_ <;> (intro _; (conv => whnf))))))
      exact ⟨⟨none, 0, rfl, Own.nil _ _ _ _⟩, by (repeat (first | assumption | exact Vc.Ext.refl _ | ((with_reducible apply Vc.Ext.trans); (case k => assumption)) | ((with_reducible apply Vc.Ext.but); (case k => assumption); (case hb => omega))))⟩
    · simp only [if_neg hf] at hah
      rw [if_neg (by rw [not_or]; exact ⟨hd, hf⟩)]
      refine Vc.CallH.body Tryz.func40 Tryz.call40 rfl (by decide +kernel) rfl ?_
      ((conv => whnf); repeat (any_goals (first | ((refine (hcl _).mono ?_; rintro _ H1 ⟨rfl, hx1⟩; have hz1 := hx1.size); (conv => whnf)) | ((refine (hat _ (by (repeat (first | assumption | exact Vc.Ext.refl _ | ((with_reducible apply Vc.Ext.trans); (case k => assumption)) | ((with_reducible apply Vc.Ext.but); (case k => assumption); (case hb => omega)))))).mono ?_; rintro v2 H2 ⟨hv2, hx2⟩; have hz2 := hx2.size; obtain rfl := hv2); (conv => whnf)) | ((refine (hah _ (by (repeat (first | assumption | exact Vc.Ext.refl _ | ((with_reducible apply Vc.Ext.trans); (case k => assumption)) | ((with_reducible apply Vc.Ext.but); (case k => assumption); (case hb => omega)))))).mono ?_; rintro _ H3 ⟨⟨a3, c3, rfl, ho3⟩, hx3⟩; have hz3 := hx3.size); (conv => whnf)) | (refine Vc.stp ?_; intros; (conv => whnf)) | (refine Vc.spl ?_ ?_ <;> (intro _; (conv => whnf))))))
      exact ⟨⟨none, 0, rfl, Own.nil _ _ _ _⟩, by (repeat (first | assumption | exact Vc.Ext.refl _ | ((with_reducible apply Vc.Ext.trans); (case k => assumption)) | ((with_reducible apply Vc.Ext.but); (case k => assumption); (case hb => omega))))⟩
  | some nd =>
    obtain ⟨dir, old⟩ := nd
    have hdir : dir = false := by
      cases dir with
      | false => rfl
      | true => exact absurd ((dir_node A q).2 ⟨old, node_some hg hqn⟩) hd
    subst hdir
    rw [node_some hg hqn] at hat
    obtain ⟨hl0, hf0⟩ := lack_nil hA hg
    have hf : ¬ fileF A q = true := by rw [hf0]; simp
    simp only [if_neg hf] at hah
    have hol := (hA.file q _ hg).1
    dsimp only at hol
    rw [if_neg (by rw [not_or]; exact ⟨hd, hf⟩)]
    dsimp only
    refine Vc.CallH.body Tryz.func40 Tryz.call40 rfl (by decide +kernel) rfl ?_
    ((conv => whnf); repeat (any_goals (first | ((refine (hcl _).mono ?_; rintro _ H1 ⟨rfl, hx1⟩; have hz1 := hx1.size); (conv => whnf)) | ((refine (hat _ (by (repeat (first | assumption | exact Vc.Ext.refl _ | ((with_reducible apply Vc.Ext.trans); (case k => assumption)) | ((with_reducible apply Vc.Ext.but); (case k => assumption); (case hb => omega)))))).mono ?_; rintro v2 H2 ⟨hv2, hx2⟩; have hz2 := hx2.size; obtain ⟨g2, a2, c2, rfl, hb2, hr2⟩ := NodeO.out hv2; try dsimp only at hb2 hr2); (conv => whnf)) | ((refine (hah _ (by (repeat (first | assumption | exact Vc.Ext.refl _ | ((with_reducible apply Vc.Ext.trans); (case k => assumption)) | ((with_reducible apply Vc.Ext.but); (case k => assumption); (case hb => omega)))))).mono ?_; rintro _ H3 ⟨⟨a3, c3, rfl, ho3⟩, hx3⟩; have hz3 := hx3.size); (conv => whnf)) | ((refine (clone_any old _ _ _ _ (hr2.ext (by (repeat (first | assumption | exact Vc.Ext.refl _ | ((with_reducible apply Vc.Ext.trans); (case k => assumption)) | ((with_reducible apply Vc.Ext.but); (case k => assumption); (case hb => omega)))))) rfl (by omega)).mono ?_; rintro _ H4 ⟨⟨a4, c4, rfl, ho4⟩, hx4⟩; have hz4 := hx4.size); (conv => whnf)) | (refine Vc.stp ?_; intros; (conv => whnf)) | (refine Vc.spl ?_ ?_ <;> (intro _; (conv => whnf))))))
    exact ⟨⟨a4, c4, rfl, ho4.base (by omega)⟩, by (repeat (first | assumption | exact Vc.Ext.refl _ | ((with_reducible apply Vc.Ext.trans); (case k => assumption)) | ((with_reducible apply Vc.Ext.but); (case k => assumption); (case hb => omega))))⟩
end Go.Proofs.YtihopeogaeinhaaGreatDoor
