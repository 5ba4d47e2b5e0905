import Derived.Test.YtihopeogaeinhaaGreatDoorLo
import Derived.Test.YtihopeogaeinhaaGreatDoorPa
set_option linter.unusedVariables false
set_option linter.unusedSimpArgs false
set_option maxRecDepth 100000
/- Paths, the code: parts' bytes, prefixes, what stands above and below a path. -/
namespace Go.Pth
open Go.Scr
theorem split_last {c : UInt8} {b : Txt} (h : c ∉ b) : ∀ a : Txt, splitF c (a ++ c :: b) = splitF c a ++ [b]
  | [] => by show splitF c (c :: b) = [[]] ++ [b]; rw [splitF, if_pos rfl, split_none h]; rfl
  | x :: a => by
    have ih := split_last h a
    rw [List.cons_append, splitF, splitF]
    split
    · rw [ih]; rfl
    · rw [ih]
      cases hs : splitF c a with
      | nil => exact absurd hs (split_ne _ _)
      | cons w l => rfl
theorem parent_none {p : Txt} (h : (47 : UInt8) ∉ p) : parentF p = [] := by
  unfold parentF partsF
  split
  · rfl
  · rw [split_none h]; rfl
theorem parent_some {a b : Txt} (h : (47 : UInt8) ∉ b) : parentF (a ++ 47 :: b) = a := by
  unfold parentF partsF
  rw [if_neg (by simp), split_last h, List.dropLast_concat, glue_split]
end Go.Pth
namespace Go.Proofs.YtihopeogaeinhaaGreatDoor
open Go Go.Vc Go.Scr Go.Pth
theorem right_any (c : UInt8) (H : Heap) : CallH Tryz.prog 145 [.int .u8 c.toNat] H fun v H' => v = .bool (!badC c) ∧ H = H' := by
  have hc := c.toNat_lt
  have key : badC c = decide (c.toNat < 33 ∨ 126 < c.toNat ∨ c.toNat = 34 ∨ c.toNat = 92 ∨ c.toNat = 42 ∨ c.toNat = 63 ∨ c.toNat = 58) := by
    unfold badC; rw [Bool.eq_iff_iff]; simp only [Bool.or_eq_true, decide_eq_true_eq, beq_iff_eq, or_assoc]
  rw [key]
  refine Vc.CallH.body Tryz.func145 Tryz.call145 rfl (by decide +kernel) rfl ?_
  ((conv => whnf); repeat (any_goals (first | (refine Vc.stp ?_; intros; (conv => whnf)) | (refine Vc.spl ?_ ?_ <;> (intro _; (conv => whnf))))))
  all_goals (refine ⟨?_, rfl⟩; first | (rw [decide_eq_true (by omega)]; rfl) | (rw [decide_eq_false (by omega)]; rfl) | (show Value.bool _ = Value.bool _; congr 1; rw [Bool.eq_iff_iff, Bool.not_eq_true', decide_eq_true_eq, decide_eq_false_iff_not]; omega))
theorem part_any (s : Bs) (hl : s.length ≤ 1000000000) (H : Heap) : CallH Tryz.prog 128 [.string (mkS s)] H fun v H' => v = .int .i64 (if badP s = true then 50 else 0) ∧ H = H' := by
  have hsz : (mkS s).size = s.length := rfl
  refine Vc.CallH.body Tryz.func128 Tryz.call128 rfl (by decide +kernel) rfl ?_
  by_cases h32 : 32 < s.length
  · ((conv => whnf); repeat (any_goals (first | (refine Vc.stp ?_; intros; (conv => whnf)) | (refine Vc.spl ?_ ?_ <;> (intro _; (conv => whnf))))))
    exact ⟨by rw [if_pos (by unfold badP; simp [h32])]; rfl, rfl⟩
  ((conv => whnf); repeat (any_goals (first | (refine Vc.stp ?_; intros; (conv => whnf)) | (refine Vc.spl ?_ ?_ <;> (intro _; (conv => whnf))))))
  refine LoopH.intro (fun (i : Nat) => [(9, .int .i64 i)]) (fun i H' => H = H' ∧ i ≤ s.length ∧ badP s = (s.drop i).any badC) (fun i => s.length - i) 0 ⟨rfl, trivial⟩ ⟨rfl, Nat.zero_le _, by unfold badP; simp [h32]⟩ ?_
  rintro i _ ⟨rfl, hi, hb⟩
  dsimp only
  by_cases hlt : i < s.length
  · obtain ⟨c, hc, hd⟩ := drop_get hlt
    rw [hd, List.any_cons] at hb
    have hr := fun H => right_any c H
    cases hbc : badC c
    · rw [hbc] at hr hb
      ((conv => whnf); repeat (any_goals (first | ((refine IdxH.nat i rfl (by omega) ?_; (conv => whnf); rw [hc]); (conv => whnf)) | ((refine (hr _).mono ?_; rintro _ _ ⟨rfl, rfl⟩); (conv => whnf)) | (refine Vc.stp ?_; intros; (conv => whnf)) | (refine Vc.spl ?_ ?_ <;> (intro _; (conv => whnf))))))
      exact ⟨i + 1, ⟨rfl, trivial⟩, ⟨rfl, by omega, by simpa using hb⟩, by omega⟩
    · rw [hbc] at hr hb
      ((conv => whnf); repeat (any_goals (first | ((refine IdxH.nat i rfl (by omega) ?_; (conv => whnf); rw [hc]); (conv => whnf)) | ((refine (hr _).mono ?_; rintro _ _ ⟨rfl, rfl⟩); (conv => whnf)) | (refine Vc.stp ?_; intros; (conv => whnf)) | (refine Vc.spl ?_ ?_ <;> (intro _; (conv => whnf))))))
      exact ⟨by rw [if_pos (by simpa using hb)]; rfl, rfl⟩
  · rw [List.drop_of_length_le (by omega)] at hb
    ((conv => whnf); repeat (any_goals (first | (refine Vc.stp ?_; intros; (conv => whnf)) | (refine Vc.spl ?_ ?_ <;> (intro _; (conv => whnf))))))
    exact ⟨by rw [if_neg (by simpa using hb)]; rfl, rfl⟩
theorem pre0_any (s p : Bs) (hl : s.length ≤ 1000000000) (hp : p.length ≤ 1000000000) (H : Heap) : CallH Tryz.prog 92 [.string (mkS s), .string (mkS p)] H fun v H' => v = .bool (p.isPrefixOf s) ∧ H = H' := by
  have hsz : (mkS s).size = s.length := rfl
  have hpz : (mkS p).size = p.length := rfl
  refine Vc.CallH.body Tryz.func92 Tryz.call92 rfl (by decide +kernel) rfl ?_
  by_cases hle : p.length ≤ s.length
  · have e : ((mkS s).extract 0 p.length) = mkS (s.take p.length) := mkS_take _ _
    have e2 : ((mkS (s.take p.length)).toList == (mkS p).toList) = p.isPrefixOf s := by
      rw [str_beq, Bool.eq_iff_iff, decide_eq_true_eq, List.isPrefixOf_iff_prefix, List.prefix_iff_eq_take]
      exact mkS_inj.trans eq_comm
    ((conv => whnf); repeat (any_goals (first | ((refine BndH.nat p.length rfl (by omega) ?_; (conv => whnf); rw [e, e2]); (conv => whnf)) | (refine Vc.stp ?_; intros; (conv => whnf)) | (refine Vc.spl ?_ ?_ <;> (intro _; (conv => whnf))))))
    all_goals exact ⟨rfl, rfl⟩
  · have e2 : p.isPrefixOf s = false := by
      rw [Bool.eq_false_iff, Ne, List.isPrefixOf_iff_prefix]
      intro h; have := h.length_le; omega
    rw [e2]
    ((conv => whnf); repeat (any_goals (first | (refine Vc.stp ?_; intros; (conv => whnf)) | (refine Vc.spl ?_ ?_ <;> (intro _; (conv => whnf))))))
    exact ⟨rfl, rfl⟩
theorem pre_any (s p : Bs) (hl : s.length ≤ 1000000000) (hp : p.length ≤ 1000000000) (H : Heap) : CallH Tryz.prog 62 [.string (mkS s), .string (mkS p)] H fun v H' => v = .bool (p.isPrefixOf s) ∧ H = H' := by
  refine Vc.CallH.body Tryz.func62 Tryz.call62 rfl (by decide +kernel) rfl ?_
  ((conv => whnf); repeat (any_goals (first | ((refine (pre0_any s p hl hp _).mono ?_; rintro _ _ ⟨rfl, rfl⟩); (conv => whnf)) | (refine Vc.stp ?_; intros; (conv => whnf)) | (refine Vc.spl ?_ ?_ <;> (intro _; (conv => whnf))))))
  exact ⟨rfl, rfl⟩
theorem last0_any (s : Bs) (c : UInt8) (hl : s.length ≤ 1000000000) (H : Heap) : CallH Tryz.prog 142 [.string (mkS s), .int .u8 c.toNat] H fun v H' => ((c ∉ s ∧ v = .int .i64 (-1)) ∨ ∃ a b, s = a ++ c :: b ∧ c ∉ b ∧ v = .int .i64 a.length) ∧ H = H' := by
  have hsz : (mkS s).size = s.length := rfl
  have hc := c.toNat_lt
  refine Vc.CallH.body Tryz.func142 Tryz.call142 rfl (by decide +kernel) rfl ?_
  ((conv => whnf); repeat (any_goals (first | (refine Vc.stp ?_; intros; (conv => whnf)) | (refine Vc.spl ?_ ?_ <;> (intro _; (conv => whnf))))))
  refine LoopH.intro (fun (i : Nat) => [(5, .int .i64 ((i : Int) - 1))]) (fun i H' => H = H' ∧ i ≤ s.length ∧ c ∉ s.drop i) (fun i => i) s.length ⟨rfl, trivial⟩ ⟨rfl, Nat.le_refl _, by simp⟩ ?_
  rintro i _ ⟨rfl, hi, hb⟩
  dsimp only
  by_cases hlt : 0 < i
  · obtain ⟨d, hd, he⟩ := drop_get (l := s) (i := i - 1) (by omega)
    rw [show i - 1 + 1 = i by omega] at he
    have hdn := d.toNat_lt
    by_cases hcd : c = d
    · subst hcd
      ((conv => whnf); repeat (any_goals (first | ((refine IdxH.nat (i - 1) (by omega) (by omega) ?_; (conv => whnf); rw [hd]); (conv => whnf)) | (refine Vc.stp ?_; intros; (conv => whnf)) | (refine Vc.spl ?_ ?_ <;> (intro _; (conv => whnf))))))
      refine ⟨.inr ⟨s.take (i - 1), s.drop i, ?_, hb, ?_⟩, rfl⟩
      · rw [← he, List.take_append_drop]
      · have e3 : (s.take (i - 1)).length = i - 1 := by rw [List.length_take]; omega
        rw [e3]; show Value.int .i64 ((i : Int) - 1) = _; congr 1; omega
    · have hne : d.toNat ≠ c.toNat := fun e => hcd (UInt8.toNat_inj.1 e.symm)
      ((conv => whnf); repeat (any_goals (first | ((refine IdxH.nat (i - 1) (by omega) (by omega) ?_; (conv => whnf); rw [hd]); (conv => whnf)) | (refine Vc.stp ?_; intros; (conv => whnf)) | (refine Vc.spl ?_ ?_ <;> (intro _; (conv => whnf))))))
      refine ⟨i - 1, ⟨by (show Value.int .i64 ((i : Int) - 1 - 1) = .int .i64 (((i - 1 : Nat) : Int) - 1); congr 1; omega), trivial⟩, ⟨rfl, by omega, ?_⟩, by omega⟩
      rw [he]; simp [hcd, hb]
  · obtain rfl : i = 0 := by omega
    ((conv => whnf); repeat (any_goals (first | (refine Vc.stp ?_; intros; (conv => whnf)) | (refine Vc.spl ?_ ?_ <;> (intro _; (conv => whnf))))))
    exact ⟨.inl ⟨by simpa using hb, rfl⟩, rfl⟩
theorem last_any (s : Bs) (c : UInt8) (hl : s.length ≤ 1000000000) (H : Heap) : CallH Tryz.prog 121 [.string (mkS s), .int .u8 c.toNat] H fun v H' => ((c ∉ s ∧ v = .int .i64 (-1)) ∨ ∃ a b, s = a ++ c :: b ∧ c ∉ b ∧ v = .int .i64 a.length) ∧ H = H' := by
  refine Vc.CallH.body Tryz.func121 Tryz.call121 rfl (by decide +kernel) rfl ?_
  ((conv => whnf); repeat (any_goals (first | ((refine (last0_any s c hl _).mono ?_; rintro v _ ⟨hv, rfl⟩); (conv => whnf)) | (refine Vc.stp ?_; intros; (conv => whnf)) | (refine Vc.spl ?_ ?_ <;> (intro _; (conv => whnf))))))
  exact ⟨hv, rfl⟩
theorem parent_any (p : Bs) (hl : p.length ≤ 1000000000) (H : Heap) : CallH Tryz.prog 103 [.string (mkS p)] H fun v H' => v = .string (mkS (parentF p)) ∧ H = H' := by
  have hsz : (mkS p).size = p.length := rfl
  have hla : ∀ H, CallH Tryz.prog 121 [.string (mkS p), .int .u8 47] H _ := fun H => last_any p 47 hl H
  refine Vc.CallH.body Tryz.func103 Tryz.call103 rfl (by decide +kernel) rfl ?_
  by_cases hm : (47 : UInt8) ∈ p
  · obtain ⟨a, b, h1, h2⟩ : ∃ a b, p = a ++ 47 :: b ∧ (47 : UInt8) ∉ b := by
      have := List.append_of_mem (List.mem_reverse.2 hm)
      obtain ⟨s, t, h, hn⟩ := List.eq_append_cons_of_mem (List.mem_reverse.2 hm)
      refine ⟨t.reverse, s.reverse, ?_, by simpa using hn⟩
      have := congrArg List.reverse h
      simpa using this
    have hlen : p.length = a.length + 1 + b.length := by rw [h1]; simp; omega
    have huq : ∀ a' b', p = a' ++ 47 :: b' → (47 : UInt8) ∉ b' → a' = a := by
      intro a' b' e hn
      have e1 := split_last hn a'
      have e2 := split_last h2 a
      rw [← e] at e1
      rw [← h1] at e2
      rw [e1] at e2
      have := List.append_inj_left' e2 rfl
      rw [← glue_split a', this, glue_split]
    ((conv => whnf); repeat (any_goals (first | ((refine (hla _).mono ?_; rintro v _ ⟨hv, rfl⟩; obtain rfl : v = Value.int .i64 a.length := by (rcases hv with ⟨g, _⟩ | ⟨a', b', g1, g2, rfl⟩; exact absurd hm g; rw [huq a' b' g1 g2])); (conv => whnf)) | ((refine BndH.nat a.length (by omega) (by omega) ?_); (conv => whnf)) | (refine Vc.stp ?_; intros; (conv => whnf)) | (refine Vc.spl ?_ ?_ <;> (intro _; (conv => whnf))))))
    refine ⟨?_, rfl⟩
    show Value.string ((mkS p).extract 0 a.length) = _
    rw [mkS_take, h1, parent_some h2]; simp
  · ((conv => whnf); repeat (any_goals (first | ((refine (hla _).mono ?_; rintro v _ ⟨hv, rfl⟩; obtain rfl : v = Value.int .i64 (-1) := by (rcases hv with ⟨_, g⟩ | ⟨a', b', g1, g2, rfl⟩; exact g; exact absurd (by rw [g1]; simp) hm)); (conv => whnf)) | ((refine BndH.nat 0 (by omega) (by omega) ?_); (conv => whnf)) | (refine Vc.stp ?_; intros; (conv => whnf)) | (refine Vc.spl ?_ ?_ <;> (intro _; (conv => whnf))))))
    refine ⟨?_, rfl⟩
    show Value.string ((mkS p).extract 0 0) = _
    rw [mkS_take, parent_none hm]; simp
theorem within_any (p d : Bs) (hl : p.length ≤ 100000000) (hd : d.length ≤ 100000000) (H : Heap) : CallH Tryz.prog 101 [.string (mkS p), .string (mkS d)] H fun v H' => v = .bool (withinF p d) ∧ H = H' := by
  have hsz : (mkS p).size = p.length := rfl
  have hdz : (mkS d).size = d.length := rfl
  have h1z : (⟨#[47]⟩ : ByteArray).size = 1 := rfl
  have hpr := fun H => pre_any p (d ++ [47]) (by omega) (by simp; omega) H
  have e : mkS d ++ (⟨#[47]⟩ : ByteArray) = mkS (d ++ [47]) := mkS_app d [47]
  refine Vc.CallH.body Tryz.func101 Tryz.call101 rfl (by decide +kernel) rfl ?_
  unfold withinF
  by_cases h0 : d = []
  · have e0 : ((mkS d).toList == (⟨#[]⟩ : ByteArray).toList) = true := by rw [show (⟨#[]⟩ : ByteArray) = mkS [] from rfl, h0]; simp
    ((conv => whnf); repeat (any_goals (first | (refine Vc.stp ?_; intros; (conv => whnf)) | (refine Vc.spl ?_ ?_ <;> (intro _; (conv => whnf))))))
    exact ⟨by subst h0; rfl, rfl⟩
  have e0 : ((mkS d).toList == (⟨#[]⟩ : ByteArray).toList) = false := by
    rw [show (⟨#[]⟩ : ByteArray) = mkS [] from rfl, str_beq, decide_eq_false_iff_not]; exact fun e => h0 (mkS_inj.1 e)
  have d0 : (d == []) = false := by simpa using h0
  rw [d0]
  by_cases h1 : p = d
  · have e1 : ((mkS p).toList == (mkS d).toList) = true := by rw [h1]; simp
    ((conv => whnf); repeat (any_goals (first | (refine Vc.stp ?_; intros; (conv => whnf)) | (refine Vc.spl ?_ ?_ <;> (intro _; (conv => whnf))))))
    exact ⟨by subst h1; simp; rfl, rfl⟩
  have e1 : ((mkS p).toList == (mkS d).toList) = false := by rw [str_beq, decide_eq_false_iff_not]; exact fun e => h1 (mkS_inj.1 e)
  have d1 : (p == d) = false := by simpa using h1
  rw [d1]
  ((conv => whnf); repeat (any_goals (first | ((refine NeedH.mk ⟨by (simp only [ByteArray.size_append]; omega), ?_⟩; (conv => whnf); rw [e]); (conv => whnf)) | ((refine (hpr _).mono ?_; rintro _ _ ⟨rfl, rfl⟩); (conv => whnf)) | (refine Vc.stp ?_; intros; (conv => whnf)) | (refine Vc.spl ?_ ?_ <;> (intro _; (conv => whnf))))))
  all_goals exact ⟨rfl, rfl⟩
end Go.Proofs.YtihopeogaeinhaaGreatDoor
