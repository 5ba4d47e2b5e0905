import Derived.Test.YtlgcfcdmldlefaaDoorTm
set_option linter.unusedVariables false
set_option linter.unusedSimpArgs false
set_option maxRecDepth 100000
/- Texts' lines: the reference's Split and Lines. -/
namespace Go.Scr
def glueF (cur : Txt) : List Txt → List Txt
  | [] => [cur]
  | w :: l => (cur ++ w) :: l
theorem glueF_nil (l : List Txt) (h : l ≠ []) : glueF [] l = l := by cases l with | nil => exact absurd rfl h | cons w l => rfl
theorem glueF_step {c x : UInt8} (h : x ≠ c) (cur t : Txt) : glueF cur (splitF c (x :: t)) = glueF (cur ++ [x]) (splitF c t) := by
  rw [splitF, if_neg h]
  cases splitF c t with
  | nil => rfl
  | cons w l => simp [glueF]
theorem glueF_cut (c : UInt8) (cur t : Txt) : glueF cur (splitF c (c :: t)) = cur :: splitF c t := by
  rw [splitF, if_pos rfl]; simp [glueF]
/-- what stands from a to b -/
def mid (l : Txt) (a b : Nat) : Txt := (l.drop a).take (b - a)
theorem mid_self (l : Txt) (a : Nat) : mid l a a = [] := by simp [mid]
theorem mid_snoc {l : Txt} {a b : Nat} {c : UInt8} {t : Txt} (hab : a ≤ b) (h : l.drop b = c :: t) : mid l a (b + 1) = mid l a b ++ [c] := by
  unfold mid
  have e : b + 1 - a = (b - a) + 1 := by omega
  have h2 : (l.drop a).drop (b - a) = c :: t := by rw [List.drop_drop, show a + (b - a) = b by omega]; exact h
  rw [e, List.take_add_one]
  congr 1
  have := congrArg (·[0]?) h2
  simp only [List.getElem?_drop, List.getElem?_cons_zero] at this
  simp only [List.getElem?_drop]
  have h3 : (0 : Nat) + (a + (b - a)) = a + (b - a) := by omega
  simp at this
  simp [this]
theorem mid_len (l : Txt) (a b : Nat) : (mid l a b).length ≤ l.length := by unfold mid; rw [List.length_take, List.length_drop]; omega
end Go.Scr
namespace Go.Proofs.YtlgcfcdmldlefaaDoor
open Go Go.Vc Go.Scr
structure SSt where
  i : Nat
  fr : Nat
  out : List Bs
  a : Option Addr
  cap : Nat
def splitI (s : Bs) (c : UInt8) (x : SSt) : List Bs := if x.i ≤ s.length then x.out ++ glueF (mid s x.fr x.i) (splitF c (s.drop x.i)) else x.out
set_option maxHeartbeats 4000000 in
theorem rsplit_any (s : Bs) (c : UInt8) (hl : s.length ≤ 100000000) (H : Heap) : CallH Tryd.prog 81 [.string (mkS s), .int .u8 c.toNat] H fun v H' => (∃ a cap, v = .slice a (splitF c s).length cap ∧ Own H' H.size 9 1 a (splitF c s).length cap (strs (splitF c s))) ∧ Ext H H' := by
  obtain ⟨S, hS⟩ : ∃ S, splitF c s = S := ⟨_, rfl⟩
  rw [hS]
  have hsz : (mkS s).size = s.length := rfl
  refine Vc.CallH.body Tryd.func81 Tryd.call81 rfl (by decide +kernel) rfl ?_
  ((conv => whnf); repeat (any_goals (first | (refine Vc.sts ?_; (conv => whnf)))))
  refine LoopH.intro (fun (x : SSt) => [(7, .int .i64 x.i), (6, .int .i64 x.fr), (5, .slice x.a x.out.length x.cap)]) (fun x H' => x.i ≤ s.length + 1 ∧ x.fr ≤ x.i ∧ x.out.length ≤ x.i ∧ S = splitI s c x ∧ Own H' H.size 9 1 x.a x.out.length x.cap (strs x.out) ∧ Ext H H') (fun x => s.length + 1 - x.i) ⟨0, 0, [], none, 0⟩ ⟨rfl, rfl, rfl, trivial⟩ ⟨Nat.zero_le _, Nat.le_refl _, Nat.le_refl _, ?_, Own.nil _ _ _ _, Ext.refl _⟩ ?_
  · unfold splitI
    rw [if_pos (Nat.zero_le _)]
    show S = glueF [] (splitF c s)
    rw [glueF_nil _ (splitF_ne c s), hS]
  rintro ⟨i, fr, out, a, cap⟩ H2 ⟨hi, hfr, hol, hinv, ho2, hx2⟩
  dsimp only at hi hfr hol hinv ho2 ⊢
  unfold splitI at hinv
  dsimp only at hinv
  have hxe : (mkS s).extract fr i = mkS (mid s fr i) := mkS_ext _ _ _
  by_cases hle : i ≤ s.length
  · rw [if_pos hle] at hinv
    by_cases hlt : i < s.length
    · obtain ⟨d, hd, hdr⟩ := drop_get hlt
      rw [hdr] at hinv
      by_cases hdc : d = c
      · subst hdc
        rw [glueF_cut] at hinv
        ((conv => whnf); repeat (any_goals (first | ((refine IdxH.nat i rfl (by omega) ?_; (conv => whnf); rw [hd]); (conv => whnf)) | ((refine BndH.nat fr rfl (by omega) ?_); (conv => whnf)) | ((refine BndH.nat i rfl (by omega) ?_); (conv => whnf)) | (refine Vc.stp ?_; intros; (conv => whnf)) | (refine Vc.spl ?_ ?_ <;> (intro _; (conv => whnf))))))
        rename_i H5 hs5 hb5 hx5 a6 c6 H6 ho6 hx6
        refine ⟨⟨i + 1, i + 1, out ++ [mid s fr i], a6, c6⟩, ⟨rfl, rfl, sl_snocS _ _ _ _, trivial⟩, ⟨by show i + 1 ≤ _; omega, Nat.le_refl _, by show (out ++ [_]).length ≤ i + 1; simp; omega, ?_, own_snocS hxe ho6, hx6⟩, by show s.length + 1 - (i + 1) < s.length + 1 - i; omega⟩
        unfold splitI
        rw [if_pos (show i + 1 ≤ s.length by omega), hinv]
        show _ = (out ++ [mid s fr i]) ++ glueF (mid s (i + 1) (i + 1)) (splitF d (s.drop (i + 1)))
        rw [mid_self, glueF_nil _ (splitF_ne _ _)]; simp
      · have hne : d.toNat ≠ c.toNat := fun e => hdc (UInt8.toNat_inj.1 e)
        rw [glueF_step hdc, ← mid_snoc hfr hdr] at hinv
        ((conv => whnf); repeat (any_goals (first | ((refine IdxH.nat i rfl (by omega) ?_; (conv => whnf); rw [hd]); (conv => whnf)) | (refine Vc.stp ?_; intros; (conv => whnf)) | (refine Vc.spl ?_ ?_ <;> (intro _; (conv => whnf))))))
        refine ⟨⟨i + 1, fr, out, a, cap⟩, ⟨rfl, rfl, rfl, trivial⟩, ⟨by show i + 1 ≤ _; omega, by show fr ≤ i + 1; omega, by show out.length ≤ i + 1; omega, ?_, ho2, hx2⟩, by show s.length + 1 - (i + 1) < s.length + 1 - i; omega⟩
        unfold splitI
        rw [if_pos (show i + 1 ≤ s.length by omega), hinv]
    · have hil : i = s.length := by omega
      subst hil
      rw [List.drop_of_length_le (by omega)] at hinv
      ((conv => whnf); repeat (any_goals (first | ((refine BndH.nat fr rfl (by omega) ?_); (conv => whnf)) | ((refine BndH.nat s.length rfl (by omega) ?_); (conv => whnf)) | (refine Vc.stp ?_; intros; (conv => whnf)) | (refine Vc.spl ?_ ?_ <;> (intro _; (conv => whnf))))))
      rename_i H5 hs5 hb5 hx5 a6 c6 H6 ho6 hx6
      refine ⟨⟨s.length + 1, s.length + 1, out ++ [mid s fr s.length], a6, c6⟩, ⟨rfl, rfl, sl_snocS _ _ _ _, trivial⟩, ⟨Nat.le_refl _, Nat.le_refl _, by show (out ++ [_]).length ≤ s.length + 1; simp; omega, ?_, own_snocS hxe ho6, hx6⟩, by show s.length + 1 - (s.length + 1) < s.length + 1 - s.length; omega⟩
      unfold splitI
      rw [if_neg (show ¬ s.length + 1 ≤ s.length by omega), hinv]
      show _ = out ++ [mid s fr s.length]
      unfold splitF glueF; simp
  · rw [if_neg hle] at hinv
    ((conv => whnf); repeat (any_goals (first | (refine Vc.stp ?_; intros; (conv => whnf)) | (refine Vc.spl ?_ ?_ <;> (intro _; (conv => whnf))))))
    rw [hinv]
    exact ⟨⟨a, cap, rfl, ho2⟩, hx2⟩
theorem rlines_any (s : Bs) (hl : s.length ≤ 100000000) (H : Heap) : CallH Tryd.prog 64 [.string (mkS s)] H fun v H' => (∃ a cap, v = .slice a (linesF s).length cap ∧ Own H' H.size 9 1 a (linesF s).length cap (strs (linesF s))) ∧ Ext H H' := by
  obtain ⟨q, m, hq, hL⟩ := linesF_last s
  have hsp := fun H => rsplit_any s 10 hl H
  have hSl := (splitF_len 10 s).1
  rw [hq] at hsp hSl
  rw [List.length_append] at hSl
  have hln : (q ++ [m]).length = q.length + 1 := by simp
  simp only [List.length_cons, List.length_nil] at hSl
  rw [hL]
  refine Vc.CallH.body Tryd.func64 Tryd.call64 rfl (by decide +kernel) rfl ?_
  cases m with
  | nil =>
    rw [if_pos rfl]
    ((conv => whnf); repeat (any_goals (first | ((refine (hsp _).mono ?_; rintro _ H2 ⟨⟨al, cl, rfl, ho2⟩, hx2⟩; have hz2 := hx2.size; have hcl := ho2.cap_le); (conv => whnf)) | ((refine IdxA.strv ho2.row rfl q.length [] (by omega) (by simp) ?_; intro _ _ _ _ _); (conv => whnf)) | ((refine BndH.nat q.length (by omega) (by omega) ?_); (conv => whnf)) | (refine Vc.stp ?_; intros; (conv => whnf)) | (refine Vc.spl ?_ ?_ <;> (intro _; (conv => whnf))))))
    refine ⟨⟨al, cl, rfl, ?_⟩, hx2⟩
    have := ho2.cut q.length (by omega)
    rw [Nat.mul_one] at this
    have e : (strs (q ++ [[]])).take q.length = strs q := by rw [strs_append, List.take_left' (strs_length q)]
    rw [e] at this; exact this
  | cons c t =>
    have hne := ne_empty c t
    rw [if_neg (by simp)]
    ((conv => whnf); repeat (any_goals (first | ((refine (hsp _).mono ?_; rintro _ H2 ⟨⟨al, cl, rfl, ho2⟩, hx2⟩; have hz2 := hx2.size); (conv => whnf)) | ((refine IdxA.strv ho2.row rfl q.length (c :: t) (by omega) (by simp) ?_; intro _ _ _ _ _); (conv => whnf)) | (refine Vc.stp ?_; intros; (conv => whnf)) | (refine Vc.spl ?_ ?_ <;> (intro _; (conv => whnf))))))
    exact ⟨⟨al, cl, rfl, ho2⟩, hx2⟩
end Go.Proofs.YtlgcfcdmldlefaaDoor
