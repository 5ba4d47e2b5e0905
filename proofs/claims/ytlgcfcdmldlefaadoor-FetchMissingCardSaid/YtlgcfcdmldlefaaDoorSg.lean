import Derived.Test.YtlgcfcdmldlefaaDoorSf
import Derived.Test.YtlgcfcdmldlefaaDoorVo
set_option linter.unusedVariables false
set_option linter.unusedSimpArgs false
set_option maxRecDepth 100000
/- Sums: the document's sum: how a text is filled up. -/
namespace Go.Proofs.YtlgcfcdmldlefaaDoor
open Go Go.Vc Go.Sha

def len8B (n : Int) : List UInt8 := (len8 n).map fun x => UInt8.ofNat (x % 256).toNat
theorem len8B_length (n : Int) : (len8B n).length = 8 := rfl
theorem len8_small (n : Int) : ∀ x ∈ len8 n, x % 256 = x := by
  intro x hx
  simp only [len8, List.mem_cons, List.not_mem_nil, or_false] at hx
  rcases hx with h | h | h | h | h | h | h | h <;> (subst h; omega)
theorem ints_len8 (n : Int) : ints (len8B n) = len8 n := by
  unfold ints len8B
  rw [List.map_map]
  conv => rhs; rw [← List.map_id (len8 n)]
  refine List.map_congr_left fun x hx => ?_
  show ((UInt8.ofNat (x % 256).toNat).toNat : Int) = id x
  rw [byte_int, len8_small n x hx]; rfl
theorem len8B_next (n : Int) (k : Nat) (h : k < 8) : (len8B n).take k ++ [UInt8.ofNat (n / 2 ^ (8 * (7 - k)) % 256).toNat] = (len8B n).take (k + 1) := by
  rw [List.take_add_one]
  congr 1
  unfold len8B
  rw [List.getElem?_map, len8_at n k h]
  simp only [Option.map_some, Option.toList_some]
  rw [Int.emod_emod_of_dvd _ (Int.dvd_refl 256)]
def padL (l : List UInt8) : List UInt8 := l ++ [128] ++ List.replicate (zc l.length) 0 ++ len8B ((l.length : Int) * 8)
theorem ints_pad (l : List UInt8) : ints (padL l) = pad (ints l) := by
  unfold padL pad
  rw [ints_append, ints_append, ints_append, ints_len8, ints_length]
  congr 2
  simp [ints]
theorem padL_length (l : List UInt8) : (padL l).length = l.length + 1 + zc l.length + 8 := by simp [padL, len8B_length]; omega

theorem Own.wr_new {H : Heap} {base : Nat} {e : TypeId} {size : Nat} {a : Option Addr} {n cap : Nat} {xs : List Value} (h : Own H base e size a n cap xs) : ∀ b, (∃ p, a = some p ∧ p.block = b) → base ≤ b := fun b ⟨p, hp, e⟩ => by have := (h.block p hp).1; omega

set_option maxHeartbeats 400000 in
theorem pad_any (l : List UInt8) (a : Option Addr) (n cap : Nat) (H : Heap) (hr : Row H a (strV l)) (hn : l.length = n) (hm : n ≤ 70368744177664) :
    CallH Tryd.prog 114 [.slice a n cap] H fun v H' => (∃ a' cap', v = .slice a' (padL l).length cap' ∧ Own H' H.size 5 1 a' (padL l).length cap' (strV (padL l))) ∧ Ext H H' := by
  refine Vc.CallH.body Tryd.func114 Tryd.call114 rfl (by decide +kernel) rfl ?_
  ((conv => whnf); repeat (any_goals (first | (refine Vc.sts ?_; (conv => whnf)))))
  refine NextH.append (i := Tryd.t5) (z := .int .u8 0) (base := H.size) rfl ⟨_, rfl, fun _ h => by cases h⟩ rfl rfl rfl (Own.nil _ _ _ _) (Src.row hr (by rw [strV_length, hn]; exact (Nat.mul_one _).symm) (strV_plain _)) (by unfold maxLen; omega) (by show (0 + n) * 1 ≤ _; omega) (Nat.le_refl _) ?_
  intro a1 cap1 H1 ho1 hw1 _
  ((conv => whnf); repeat (any_goals (first | (refine Vc.sts ?_; (conv => whnf)))))
  refine SemH.lit (vs := [_]) rfl rfl rfl rfl rfl rfl rfl ?_
  intro H2 hs2 hb2 hx2
  have hx1 : Ext H H1 := ⟨hw1.size, fun b hb _ => hw1.same b hb fun ⟨p, hp, _⟩ => by cases hp⟩
  have hr2 : Row H2 (some ⟨Array.size H1, 0, none⟩) (strV [128]) := hb2.row
  ((conv => whnf); repeat (any_goals (first | (refine Vc.sts ?_; (conv => whnf)))))
  refine NextH.append (i := Tryd.t5) (z := .int .u8 0) rfl ⟨_, rfl, fun _ h => by cases h⟩ rfl rfl rfl (ho1.ext hx2) (Src.row hr2 rfl (strV_plain _)) (by unfold maxLen; omega) (by show (0 + n + 1) * 1 ≤ _; omega) (by have := hx1.size; omega) ?_
  intro a3 cap3 H3 ho3 hw3 _
  have hx3 : Ext H H3 := Only.trans (hx1.trans hx2) hw3 fun b hb h => by have := Own.wr_new ho1 b h; omega
  clear hx2 hr2 hb2
  ((conv => whnf); repeat (any_goals (first | (refine Vc.sts ?_; (conv => whnf)))))
  have hz := zc_lt n
  refine LoopH.intro (fun (s : Nat × Option Addr × Nat) => [(3, .slice s.2.1 (n + 1 + s.1) s.2.2)]) (fun s H' => s.1 ≤ zc n ∧ Own H' H.size 5 1 s.2.1 (n + 1 + s.1) s.2.2 (strV (l ++ [128] ++ List.replicate s.1 0)) ∧ Ext H H') (fun s => zc n - s.1) (0, a3, cap3) ⟨by show Value.slice _ _ _ = Value.slice _ _ _; rw [show 0 + n + 1 = n + 1 + 0 by omega], trivial⟩ ⟨by omega, ?_, hx3⟩ ?_
  · have h3 : Own H3 H.size 5 1 a3 (0 + n + 1) cap3 ([] ++ strV l ++ strV [128]) := ho3
    rw [List.nil_append, ← strV_append] at h3
    simpa using h3
  rintro ⟨j, a4, cap4⟩ H4 ⟨hj, ho4, hx4⟩
  dsimp only at hj ho4 hx4 ⊢
  have hze := zc_end n
  by_cases hlt : j < zc n
  · have hzf := zc_first n j hlt
    ((conv => whnf); repeat (any_goals (first | (refine Vc.sts ?_; (conv => whnf)))))
    refine SemH.lit (vs := [_]) rfl rfl rfl rfl rfl rfl rfl ?_
    intro H5 hs5 hb5 hx5
    have hr5 : Row H5 (some ⟨Array.size H4, 0, none⟩) (strV [0]) := hb5.row
    ((conv => whnf); repeat (any_goals (first | (refine Vc.sts ?_; (conv => whnf)))))
    refine NextH.append (i := Tryd.t5) (z := .int .u8 0) rfl ⟨_, rfl, fun _ h => by cases h⟩ rfl rfl rfl (ho4.ext hx5) (Src.row hr5 rfl (strV_plain _)) (by unfold maxLen; omega) (by show (n + 1 + j + 1) * 1 ≤ _; omega) (by have := hx4.size; omega) ?_
    intro a6 cap6 H6 ho6 hw6 _
    ((conv => whnf); repeat (any_goals (first | (refine Vc.sts ?_; (conv => whnf)))))
    refine ⟨(j + 1, a6, cap6), ⟨rfl, trivial⟩, ⟨by omega, ?_, Only.trans (hx4.trans hx5) hw6 fun b hb h => by have := Own.wr_new ho4 b h; omega⟩, by show zc n - (j + 1) < zc n - j; omega⟩
    have := ho6
    rw [← strV_append, List.append_assoc, ← List.replicate_succ'] at this
    exact this
  · obtain rfl : j = zc n := by omega
    clear ho3 hw3 hx3
    ((conv => whnf); repeat (any_goals (first | (refine Vc.sts ?_; (conv => whnf)))))
    refine LoopH.intro (fun (s : Nat × Option Addr × Nat) => [(5, .int .i64 (7 - s.1)), (3, .slice s.2.1 (n + 1 + zc n + s.1) s.2.2)]) (fun s H' => s.1 ≤ 8 ∧ Own H' H.size 5 1 s.2.1 (n + 1 + zc n + s.1) s.2.2 (strV (l ++ [128] ++ List.replicate (zc n) 0 ++ (len8B ((n : Int) * 8)).take s.1)) ∧ Ext H H') (fun s => 8 - s.1) (0, a4, cap4) ⟨rfl, rfl, trivial⟩ ⟨by omega, by simpa using ho4, hx4⟩ ?_
    rintro ⟨k, a7, cap7⟩ H7 ⟨hk, ho7, hx7⟩
    dsimp only at hk ho7 hx7 ⊢
    by_cases hk8 : k < 8
    · ((conv => whnf); repeat (any_goals (first | ((refine ArithH.u8m ?_); (conv => whnf)) | (refine Vc.sts ?_; (conv => whnf)))))
      refine SemH.lit (vs := [_]) rfl rfl rfl rfl rfl rfl rfl ?_
      intro H8 hs8 hb8 hx8
      have e1 : shrB .u64 ((n : Int) * 8) (8 * (7 - (k : Int))) % 256 = ((UInt8.ofNat (((n : Int) * 8) / 2 ^ (8 * (7 - k)) % 256).toNat).toNat : Int) := by
        rw [byte_int, shr_u64 _ _ (by omega) (by omega), show (8 * (7 - (k : Int))).toNat = 8 * (7 - k) by omega]
      rw [e1] at hb8
      have hr8 : Row H8 (some ⟨Array.size H7, 0, none⟩) (strV [UInt8.ofNat (((n : Int) * 8) / 2 ^ (8 * (7 - k)) % 256).toNat]) := hb8.row
      ((conv => whnf); repeat (any_goals (first | (refine Vc.sts ?_; (conv => whnf)))))
      refine NextH.append (i := Tryd.t5) (z := .int .u8 0) rfl ⟨_, rfl, fun _ h => by cases h⟩ rfl rfl rfl (ho7.ext hx8) (Src.row hr8 rfl (strV_plain _)) (by unfold maxLen; omega) (by show (n + 1 + zc n + k + 1) * 1 ≤ _; omega) (by have := hx7.size; omega) ?_
      intro a9 cap9 H9 ho9 hw9 _
      ((conv => whnf); repeat (any_goals (first | (refine Vc.sts ?_; (conv => whnf)))))
      refine ⟨(k + 1, a9, cap9), ⟨?_, rfl, trivial⟩, ⟨by omega, ?_, Only.trans (hx7.trans hx8) hw9 fun b hb h => by have := Own.wr_new ho7 b h; omega⟩, by show 8 - (k + 1) < 8 - k; omega⟩
      · show Value.int _ _ = Value.int _ _
        rw [show (7 : Int) - (k : Int) - 1 = 7 - ((k + 1 : Nat) : Int) by omega]
      · have := ho9
        rw [← strV_append, List.append_assoc, len8B_next _ _ hk8] at this
        exact this
    · obtain rfl : k = 8 := by omega
      ((conv => whnf); repeat (any_goals (first | (refine Vc.sts ?_; (conv => whnf)))))
      have hpl : (padL l).length = n + 1 + zc n + 8 := by rw [padL_length, hn]
      refine ⟨⟨a7, cap7, ?_, ?_⟩, hx7⟩
      · rw [hpl]; rfl
      · rw [hpl]
        have := ho7
        rw [List.take_of_length_le (by rw [len8B_length]; omega)] at this
        unfold padL
        rw [hn]
        exact this
end Go.Proofs.YtlgcfcdmldlefaaDoor
