import Derived.Test.YtlgcfcdmldlefaaDoorRows
import Derived.Test.YtlgcfcdmldlefaaDoorLo
import Derived.Test.YtlgcfcdmldlefaaDoorShaMath
import Derived.KernelRfl
set_option linter.unusedVariables false
set_option linter.unusedSimpArgs false
set_option maxRecDepth 100000
/- Sums: the small functions, and the turn of a block. -/
namespace Go.Proofs.YtlgcfcdmldlefaaDoor
open Go Go.Vc Go.Sha

theorem begin_any (H : Heap) : CallH Tryd.prog 109 [] H fun v H' => v = .agg b8 ∧ Ext H H' := by
  refine Vc.CallH.body Tryd.func109 Tryd.call109 rfl (by decide +kernel) rfl ?_
  ((conv => whnf); repeat (any_goals (first | (refine Vc.sts ?_; (conv => whnf)))))
  refine SemH.alloc rfl rfl ?_
  intro H1 hs1 hb1 hx1
  ((conv => whnf); repeat (any_goals (first | (refine Vc.sts ?_; (conv => whnf)))))
  refine ⟨⟨.agg b8, fun w => by kernel_rfl, ?_⟩⟩
  ((conv => whnf); repeat (any_goals (first | (refine Vc.sts ?_; (conv => whnf)))))
  refine DoH.store_all hb1 rfl rfl rfl (by decide +kernel) ?_
  intro H2 hs2 hb2 hx2
  ((conv => whnf); repeat (any_goals (first | (refine Vc.sts ?_; (conv => whnf)))))
  refine SemH.load_blk hb2 rfl rfl rfl ?_
  ((conv => whnf); repeat (any_goals (first | (refine Vc.sts ?_; (conv => whnf)))))
  exact ⟨rfl, rfl, hx1.but hx2 (Nat.le_refl _)⟩
theorem round_any (H : Heap) : CallH Tryd.prog 110 [] H fun v H' => v = .agg r64 ∧ Ext H H' := by
  refine Vc.CallH.body Tryd.func110 Tryd.call110 rfl (by decide +kernel) rfl ?_
  ((conv => whnf); repeat (any_goals (first | (refine Vc.sts ?_; (conv => whnf)))))
  refine SemH.alloc rfl rfl ?_
  intro H1 hs1 hb1 hx1
  ((conv => whnf); repeat (any_goals (first | (refine Vc.sts ?_; (conv => whnf)))))
  refine ⟨⟨.agg r64, fun w => by kernel_rfl, ?_⟩⟩
  ((conv => whnf); repeat (any_goals (first | (refine Vc.sts ?_; (conv => whnf)))))
  refine DoH.store_all hb1 rfl rfl rfl (by decide +kernel) ?_
  intro H2 hs2 hb2 hx2
  ((conv => whnf); repeat (any_goals (first | (refine Vc.sts ?_; (conv => whnf)))))
  refine SemH.load_blk hb2 rfl rfl rfl ?_
  ((conv => whnf); repeat (any_goals (first | (refine Vc.sts ?_; (conv => whnf)))))
  exact ⟨rfl, rfl, hx1.but hx2 (Nat.le_refl _)⟩
theorem table_any (H : Heap) : CallH Tryd.prog 113 [] H fun v H' => v = .agg r64 ∧ Ext H H' := by
  refine Vc.CallH.body Tryd.func113 Tryd.call113 rfl (by decide +kernel) rfl ?_
  ((conv => whnf); repeat (any_goals (first | (refine Vc.sts ?_; (conv => whnf)))))
  refine SemH.alloc rfl rfl ?_
  intro H1 hs1 hb1 hx1
  ((conv => whnf); repeat (any_goals (first | (refine Vc.sts ?_; (conv => whnf)))))
  refine ⟨⟨.agg r64, fun w => by kernel_rfl, ?_⟩⟩
  ((conv => whnf); repeat (any_goals (first | (refine Vc.sts ?_; (conv => whnf)))))
  refine DoH.store_all hb1 rfl rfl rfl (by decide +kernel) ?_
  intro H2 hs2 hb2 hx2
  ((conv => whnf); repeat (any_goals (first | (refine Vc.sts ?_; (conv => whnf)))))
  refine SemH.load_blk hb2 rfl rfl rfl ?_
  ((conv => whnf); repeat (any_goals (first | (refine Vc.sts ?_; (conv => whnf)))))
  exact ⟨rfl, rfl, hx1.but hx2 (Nat.le_refl _)⟩

theorem shr_nat (k : Nat) (hk : k ≤ 32) (x : Int) : shrB .u32 x k = x / 2 ^ k := by
  unfold shrB
  rw [Int.toNat_natCast, Nat.min_eq_left (by simpa [IntKind.bits] using hk)]
  exact Int.fdiv_eq_ediv_of_nonneg _ (Int.pow_nonneg (by decide))
theorem wrap32 (x : Int) : IntKind.u32.wrap x = x % 4294967296 := by
  simp [IntKind.wrap, IntKind.bits, IntKind.signed]
theorem shl_nat (k : Nat) (hk : k ≤ 32) (x : Int) : shlB .u32 x k = x * 2 ^ k % 4294967296 := by
  unfold shlB
  rw [Int.toNat_natCast, Nat.min_eq_left (by simpa [IntKind.bits] using hk), wrap32]
theorem bitB_or (a b : Int) : bitB .u32 .or a b = bits .or .u32 a b := rfl
theorem bitB_xor (a b : Int) : bitB .u32 .xor a b = bits .xor .u32 a b := rfl
theorem bitB_and (a b : Int) : bitB .u32 .and a b = bits .and .u32 a b := rfl

theorem turn_any (x : Int) (m : Int) (h0 : 0 ≤ m) (h1 : m ≤ 32) (H : Heap) : CallH Tryd.prog 115 [.int .u32 x, .int .i64 m] H fun v H' => v = .int .u32 (rr m.toNat x) ∧ H = H' := by
  refine Vc.CallH.body Tryd.func115 Tryd.call115 rfl (by decide +kernel) rfl ?_
  ((conv => whnf); repeat (any_goals (first | (refine Vc.sts ?_; (conv => whnf)))))
  refine ⟨?_, rfl⟩
  obtain ⟨k, rfl⟩ := Int.eq_ofNat_of_zero_le h0
  show one [.int .u32 _] = _
  simp only [one, bitB_or]
  rw [shr_nat k (by omega), show (32 : Int) - (k : Int) = ((32 - k : Nat) : Int) by omega, shl_nat _ (by omega)]
  rfl
theorem rotl_any (x : Int) (m : Int) (h0 : m < 0) (h1 : -32 < m) (H : Heap) : CallH Tryd.prog 128 [.int .u32 x, .int .i64 m] H fun v H' => v = .int .u32 (rr (-m).toNat x) ∧ H = H' := by
  obtain ⟨k, hk'⟩ := Int.eq_ofNat_of_zero_le (show 0 ≤ -m by omega)
  obtain rfl : m = -(k : Int) := by omega
  have e1 : bitB .u64 .and (IntKind.u64.wrap (-(k : Int))) 31 = ((32 - k : Nat) : Int) := (and31 ⟨k, by omega⟩ (by show 0 < k; omega)).trans (by show (32 : Int) - (k : Int) = _; omega)
  refine Vc.CallH.body Tryd.func128 Tryd.call128 rfl (by decide +kernel) rfl ?_
  ((conv => whnf); repeat (any_goals (first | (refine Vc.sts ?_; (conv => whnf)))))
  refine ⟨?_⟩
  (conv => whnf)
  rw [e1]
  ((conv => whnf); repeat (any_goals (first | (refine Vc.sts ?_; (conv => whnf)))))
  refine ⟨?_, rfl⟩
  simp only [one, bitB_or]
  rw [show (32 : Int) - ((32 - k : Nat) : Int) = (k : Int) by omega, shr_nat k (by omega), shl_nat _ (by omega), bits_or_comm]
  rw [show (- -(k : Int)).toNat = k by omega]
  rfl

theorem shl_byte (x : UInt8) : shlB .u32 x.toNat 24 = x.toNat * 16777216 ∧ shlB .u32 x.toNat 16 = x.toNat * 65536 ∧ shlB .u32 x.toNat 8 = x.toNat * 256 := by
  have := x.toNat_lt
  refine ⟨?_, ?_, ?_⟩
  · have := shl_nat 24 (by omega) (x.toNat : Int); rw [show ((24 : Nat) : Int) = 24 from rfl] at this; rw [this]; omega
  · have := shl_nat 16 (by omega) (x.toNat : Int); rw [show ((16 : Nat) : Int) = 16 from rfl] at this; rw [this]; omega
  · have := shl_nat 8 (by omega) (x.toNat : Int); rw [show ((8 : Nat) : Int) = 8 from rfl] at this; rw [this]; omega
theorem shr_lit (x : Int) : shrB .u32 x 3 = x / 8 ∧ shrB .u32 x 10 = x / 1024 := by
  refine ⟨?_, ?_⟩
  · have := shr_nat 3 (by omega) x; exact this
  · have := shr_nat 10 (by omega) x; exact this

/-- the bytes as numbers -/
def ints (l : List UInt8) : List Int := l.map fun b => (b.toNat : Int)
theorem ints_get (l : List UInt8) (i : Nat) : (ints l).getD i 0 = ((l.getD i 0).toNat : Int) := by
  unfold ints
  rw [List.getD_eq_getElem?_getD, List.getD_eq_getElem?_getD, List.getElem?_map]
  cases l[i]? <;> simp
theorem ints_length (l : List UInt8) : (ints l).length = l.length := by simp [ints]
end Go.Proofs.YtlgcfcdmldlefaaDoor
