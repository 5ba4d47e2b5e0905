import Derived.Test.YtihopeogaeinhaaGreatDoorKl
import Derived.Test.YtihopeogaeinhaaGreatDoorKg
set_option linter.unusedVariables false
set_option linter.unusedSimpArgs false
set_option maxRecDepth 100000
/- Law 13: ArchiveLengths, the walk. -/
namespace Go.Arc
open Go.Scr
def lenB (K : UInt8) (P N i : Nat) : Txt := [80, 65, 75, 49] ++ [K, UInt8.ofNat (P / 256 % 256), UInt8.ofNat (P % 256), 97] ++ (numB N 8).take i
theorem lenB_len (K : UInt8) (P N i : Nat) (h : i ≤ 8) : (lenB K P N i).length = 8 + i := by
  unfold lenB; simp [List.length_append, List.length_take, numB_len]; omega
theorem lenB_zero (K : UInt8) (P N : Nat) : lenB K P N 0 = [80, 65, 75, 49] ++ [K, UInt8.ofNat (P / 256 % 256), UInt8.ofNat (P % 256), 97] := by unfold lenB; simp
theorem lenB_snoc (K : UInt8) (P N i : Nat) (h : i < 8) : lenB K P N (i + 1) = lenB K P N i ++ [byteB N 8 i] := by
  unfold lenB; rw [numB_take N 8 i h]; simp
end Go.Arc
namespace Go.Proofs.YtihopeogaeinhaaGreatDoor
open Go Go.Vc Go.Scr Go.Pth Go.Tre Go.Arc Go.Sha
theorem shr16 (P : Nat) : shrB .u16 (P : Int) 8 % 256 = ((UInt8.ofNat (P / 256 % 256)).toNat : Int) := by
  unfold shrB
  rw [show min (8 : Int).toNat IntKind.u16.bits = 8 from rfl, Int.fdiv_eq_ediv_of_nonneg _ (by decide), UInt8.toNat_ofNat']
  omega
structure LnS where
  i : Nat
  a : Option Addr
  cap : Nat
set_option maxHeartbeats 2000000 in
theorem lengths_walk (N P : Nat) (dir : Bool) (b : Bs) (a : Option Addr) (n cap : Nat) (H : Heap) (hr : Row H a (strV b)) (hn : b.length = n) (hc : n ≤ cap) (hm : cap ≤ maxLen) (hN : N < 18446744073709551616) (hP : P < 65536) :
    CallH Tryz.prog 5 [.int .u64 N, .int .u16 P, .slice a n cap, .bool dir] H fun v H' => v = .bool true ∧ Ext H H' := by
  refine Vc.CallH.body Tryz.func5 Tryz.call5 rfl (by decide +kernel) rfl ?_
  by_cases h5 : 500 < n
  · ((conv => whnf); repeat (any_goals (first | ((refine (known13_any _).mono ?_; rintro _ H1 ⟨rfl, hx1⟩; have hz1 := hx1.size); (conv => whnf)) | (refine Vc.stp ?_; intros; (conv => whnf)) | (refine Vc.spl ?_ ?_ <;> (intro _; (conv => whnf))))))
    exact ⟨rfl, hx1⟩
  obtain ⟨K, hK⟩ : ∃ K : UInt8, (if dir = true then 1 else 0 : UInt8) = K := ⟨_, rfl⟩
  have hw1 := shr16 P
  have hw2 : ((P : Int) % 256) = ((UInt8.ofNat (P % 256)).toNat : Int) := by rw [UInt8.toNat_ofNat']; omega
  cases dir with
  | true =>
    rw [if_pos rfl] at hK
    ((conv => whnf); repeat (any_goals (first | ((refine (known13_any _).mono ?_; rintro _ H1 ⟨rfl, hx1⟩; have hz1 := hx1.size); (conv => whnf)) | (((with_reducible apply SemH.lit0 [.int .u8 80, .int .u8 65, .int .u8 75, .int .u8 49]); (focus (rfl)); (focus (rfl)); (focus (rfl)); (focus (rfl)); (focus (rfl)); (focus (rfl)); (focus (rfl)); (focus ((intro H2 hz2 hb2 hx2; (conv => whnf))))); (conv => whnf)) | ((refine SemH.mark0 rfl rfl hb2 hx2 (Nat.le_refl _) ?_; intro H3 hz3 hb3 hx3); (conv => whnf)) | ((refine ArithH.u8m ?_; first | rw [hw1] | rw [hw2]); (conv => whnf)) | ((have := hx3; rename_i Hl zl bl xl; have ho3 : Own H3 H1.size 5 1 (some ⟨H1.size, 0, none⟩) 4 4 (strV [80, 65, 75, 49]) := own_lit hb3 (Nat.le_refl _) rfl (by decide); refine NextH.appB (y := [K, UInt8.ofNat (P / 256 % 256), UInt8.ofNat (P % 256), 97]) (ho3.ext xl) (Src.row (Blk.row (c := strV [K, UInt8.ofNat (P / 256 % 256), UInt8.ofNat (P % 256), 97]) (by rw [← hK]; exact bl)) rfl (strV_plain _)) (by decide) (by decide) (by omega) ⟨_, rfl, fun _ h => by cases h⟩ ?_; intro a4 c4 H4 ho4 hw4; have hx14 : Ext H1 H4 := (hx3.trans xl).wr (ho3.ext xl) (Nat.le_refl _) hw4; have hz4 := hx14.size); (conv => whnf)) | (refine Vc.stp ?_; intros; (conv => whnf)))))
    refine LoopH.intro (fun (s : LnS) => [(11, .int .i64 (7 - (s.i : Int))), (10, .slice s.a (8 + s.i) s.cap)]) (fun s H' => s.i ≤ 8 ∧ Own H' H1.size 5 1 s.a (8 + s.i) s.cap (strV (lenB K P N s.i)) ∧ Ext H1 H') (fun s => 8 - s.i) ⟨0, a4, c4⟩ ⟨rfl, rfl, trivial⟩ ⟨Nat.zero_le _, by rw [lenB_zero]; exact ho4, hx14⟩ ?_
    rintro ⟨i, sa, sc⟩ H5 ⟨hi, ho5, hx5⟩
    dsimp only at hi ho5 ⊢
    have hz5 := hx5.size
    have hll := lenB_len K P N i hi
    by_cases hlt : i < 8
    · have hsh : shrB .u64 (N : Int) (8 * (7 - (i : Int))) % 256 = ((byteB N 8 i).toNat : Int) := by
        have := shr_byte N 8 i hlt (by decide)
        rwa [show (8 * (((8 : Nat) : Int) - 1 - (i : Int))) = 8 * (7 - (i : Int)) by omega] at this
      ((conv => whnf); repeat (any_goals (first | ((refine ArithH.u8m ?_; rw [hsh]); (conv => whnf)) | ((rename_i Hl zl bl xl; refine NextH.push1b bl (ho5.ext xl) (by omega) (by omega) rfl ⟨_, rfl, fun _ h => by cases h⟩ rfl rfl rfl rfl rfl rfl rfl ?_; intro a6 c6 H6 ho6 hz6 hw6; have hx16 : Ext H1 H6 := (hx5.trans xl).wr (ho5.ext xl) (Nat.le_refl _) hw6); (conv => whnf)) | (refine Vc.stp ?_; intros; (conv => whnf)))))
      refine ⟨⟨i + 1, a6, c6⟩, ⟨by show Value.int .i64 (7 - (i : Int) - 1) = .int .i64 (7 - ((i + 1 : Nat) : Int)); congr 1; omega, rfl, trivial⟩, ⟨by show i + 1 ≤ 8; omega, ?_, hx16⟩, by show 8 - (i + 1) < 8 - i; omega⟩
      dsimp only
      rw [lenB_snoc K P N i hlt, strV_append]; exact ho6
    · obtain rfl : i = 8 := by omega
      ((conv => whnf); repeat (any_goals (first | ((have := hx9; refine (hfiles_any _ _ a8 a9 _ _ c8 c9 H9 (hf8.ext hx9) hf9 rfl rfl (by omega) (by omega)).mono ?_; rintro _ _ ⟨rfl, rfl⟩; rw [decide_eq_true rfl]); (conv => whnf)) | ((have := hx8; refine (ropenA_any Y a7 _ c7 H8 (ho7.row.ext hx8) hly ho7.cap_le (own_max ho7) (by omega)).mono ?_; rintro _ H9 ⟨⟨a9, c9, rfl, hf9, hl9⟩, hx9⟩; have hz9 := hx9.size); (conv => whnf)) | ((have := ho7; refine (openA_any Y a7 _ c7 H7 ho7.row hly ho7.cap_le (own_max ho7) (by omega)).mono ?_; rintro _ H8 ⟨⟨a8, c8, rfl, hf8, hl8⟩, hx8⟩; have hz8 := hx8.size); (conv => whnf)) | ((have := ho6; rename_i Hl zl bl xl; refine NextH.appB (y := [255]) (ho6.ext xl) (Src.row (Blk.row (c := strV [255]) bl) rfl (strV_plain _)) (by omega) (by decide) (by omega) ⟨_, rfl, fun _ h => by cases h⟩ ?_; intro a7 c7 H7 ho7 hw7; have hx17 : Ext H1 H7 := (hx16.trans xl).wr (ho6.ext xl) (Nat.le_refl _) hw7; have hz7 := hx17.size; obtain ⟨Y, hY⟩ : ∃ Y, lenB K P N 8 ++ b ++ [255] = Y := ⟨_, rfl⟩; rw [hY] at ho7; have hly : Y.length = 8 + 8 + n + 1 := (by rw [← hY, List.length_append, List.length_append, hll, hn]; rfl)); (conv => whnf)) | ((refine NextH.appB (y := b) (m := n) ho5 (Src.row (hr.ext (by (repeat (first | assumption | exact Vc.Ext.refl _ | ((with_reducible apply Vc.Ext.trans); (case k => assumption)) | ((with_reducible apply Vc.Ext.but); (case k => assumption); (case hb => omega)))))) (by rw [strV_length]; omega) (strV_plain _)) (by omega) (by omega) (by omega) ⟨_, rfl, fun _ h => by cases h⟩ ?_; intro a6 c6 H6 ho6 hw6; have hx16 : Ext H1 H6 := hx5.wr ho5 (Nat.le_refl _) hw6; have hz6 := hx16.size); (conv => whnf)) | (refine Vc.stp ?_; intros; (conv => whnf)))))
      exact ⟨rfl, by (repeat (first | assumption | exact Vc.Ext.refl _ | ((with_reducible apply Vc.Ext.trans); (case k => assumption)) | ((with_reducible apply Vc.Ext.but); (case k => assumption); (case hb => omega))))⟩
  | false =>
    rw [if_neg (by decide)] at hK
    ((conv => whnf); repeat (any_goals (first | ((refine (known13_any _).mono ?_; rintro _ H1 ⟨rfl, hx1⟩; have hz1 := hx1.size); (conv => whnf)) | (((with_reducible apply SemH.lit0 [.int .u8 80, .int .u8 65, .int .u8 75, .int .u8 49]); (focus (rfl)); (focus (rfl)); (focus (rfl)); (focus (rfl)); (focus (rfl)); (focus (rfl)); (focus (rfl)); (focus ((intro H2 hz2 hb2 hx2; (conv => whnf))))); (conv => whnf)) | ((refine SemH.mark0 rfl rfl hb2 hx2 (Nat.le_refl _) ?_; intro H3 hz3 hb3 hx3); (conv => whnf)) | ((refine ArithH.u8m ?_; first | rw [hw1] | rw [hw2]); (conv => whnf)) | ((have := hx3; rename_i Hl zl bl xl; have ho3 : Own H3 H1.size 5 1 (some ⟨H1.size, 0, none⟩) 4 4 (strV [80, 65, 75, 49]) := own_lit hb3 (Nat.le_refl _) rfl (by decide); refine NextH.appB (y := [K, UInt8.ofNat (P / 256 % 256), UInt8.ofNat (P % 256), 97]) (ho3.ext xl) (Src.row (Blk.row (c := strV [K, UInt8.ofNat (P / 256 % 256), UInt8.ofNat (P % 256), 97]) (by rw [← hK]; exact bl)) rfl (strV_plain _)) (by decide) (by decide) (by omega) ⟨_, rfl, fun _ h => by cases h⟩ ?_; intro a4 c4 H4 ho4 hw4; have hx14 : Ext H1 H4 := (hx3.trans xl).wr (ho3.ext xl) (Nat.le_refl _) hw4; have hz4 := hx14.size); (conv => whnf)) | (refine Vc.stp ?_; intros; (conv => whnf)))))
    refine LoopH.intro (fun (s : LnS) => [(11, .int .i64 (7 - (s.i : Int))), (10, .slice s.a (8 + s.i) s.cap)]) (fun s H' => s.i ≤ 8 ∧ Own H' H1.size 5 1 s.a (8 + s.i) s.cap (strV (lenB K P N s.i)) ∧ Ext H1 H') (fun s => 8 - s.i) ⟨0, a4, c4⟩ ⟨rfl, rfl, trivial⟩ ⟨Nat.zero_le _, by rw [lenB_zero]; exact ho4, hx14⟩ ?_
    rintro ⟨i, sa, sc⟩ H5 ⟨hi, ho5, hx5⟩
    dsimp only at hi ho5 ⊢
    have hz5 := hx5.size
    have hll := lenB_len K P N i hi
    by_cases hlt : i < 8
    · have hsh : shrB .u64 (N : Int) (8 * (7 - (i : Int))) % 256 = ((byteB N 8 i).toNat : Int) := by
        have := shr_byte N 8 i hlt (by decide)
        rwa [show (8 * (((8 : Nat) : Int) - 1 - (i : Int))) = 8 * (7 - (i : Int)) by omega] at this
      ((conv => whnf); repeat (any_goals (first | ((refine ArithH.u8m ?_; rw [hsh]); (conv => whnf)) | ((rename_i Hl zl bl xl; refine NextH.push1b bl (ho5.ext xl) (by omega) (by omega) rfl ⟨_, rfl, fun _ h => by cases h⟩ rfl rfl rfl rfl rfl rfl rfl ?_; intro a6 c6 H6 ho6 hz6 hw6; have hx16 : Ext H1 H6 := (hx5.trans xl).wr (ho5.ext xl) (Nat.le_refl _) hw6); (conv => whnf)) | (refine Vc.stp ?_; intros; (conv => whnf)))))
      refine ⟨⟨i + 1, a6, c6⟩, ⟨by show Value.int .i64 (7 - (i : Int) - 1) = .int .i64 (7 - ((i + 1 : Nat) : Int)); congr 1; omega, rfl, trivial⟩, ⟨by show i + 1 ≤ 8; omega, ?_, hx16⟩, by show 8 - (i + 1) < 8 - i; omega⟩
      dsimp only
      rw [lenB_snoc K P N i hlt, strV_append]; exact ho6
    · obtain rfl : i = 8 := by omega
      ((conv => whnf); repeat (any_goals (first | ((have := hx9; refine (hfiles_any _ _ a8 a9 _ _ c8 c9 H9 (hf8.ext hx9) hf9 rfl rfl (by omega) (by omega)).mono ?_; rintro _ _ ⟨rfl, rfl⟩; rw [decide_eq_true rfl]); (conv => whnf)) | ((have := hx8; refine (ropenA_any Y a7 _ c7 H8 (ho7.row.ext hx8) hly ho7.cap_le (own_max ho7) (by omega)).mono ?_; rintro _ H9 ⟨⟨a9, c9, rfl, hf9, hl9⟩, hx9⟩; have hz9 := hx9.size); (conv => whnf)) | ((have := ho7; refine (openA_any Y a7 _ c7 H7 ho7.row hly ho7.cap_le (own_max ho7) (by omega)).mono ?_; rintro _ H8 ⟨⟨a8, c8, rfl, hf8, hl8⟩, hx8⟩; have hz8 := hx8.size); (conv => whnf)) | ((have := ho6; rename_i Hl zl bl xl; refine NextH.appB (y := [255]) (ho6.ext xl) (Src.row (Blk.row (c := strV [255]) bl) rfl (strV_plain _)) (by omega) (by decide) (by omega) ⟨_, rfl, fun _ h => by cases h⟩ ?_; intro a7 c7 H7 ho7 hw7; have hx17 : Ext H1 H7 := (hx16.trans xl).wr (ho6.ext xl) (Nat.le_refl _) hw7; have hz7 := hx17.size; obtain ⟨Y, hY⟩ : ∃ Y, lenB K P N 8 ++ b ++ [255] = Y := ⟨_, rfl⟩; rw [hY] at ho7; have hly : Y.length = 8 + 8 + n + 1 := (by rw [← hY, List.length_append, List.length_append, hll, hn]; rfl)); (conv => whnf)) | ((refine NextH.appB (y := b) (m := n) ho5 (Src.row (hr.ext (by (repeat (first | assumption | exact Vc.Ext.refl _ | ((with_reducible apply Vc.Ext.trans); (case k => assumption)) | ((with_reducible apply Vc.Ext.but); (case k => assumption); (case hb => omega)))))) (by rw [strV_length]; omega) (strV_plain _)) (by omega) (by omega) (by omega) ⟨_, rfl, fun _ h => by cases h⟩ ?_; intro a6 c6 H6 ho6 hw6; have hx16 : Ext H1 H6 := hx5.wr ho5 (Nat.le_refl _) hw6; have hz6 := hx16.size); (conv => whnf)) | (refine Vc.stp ?_; intros; (conv => whnf)))))
      exact ⟨rfl, by (repeat (first | assumption | exact Vc.Ext.refl _ | ((with_reducible apply Vc.Ext.trans); (case k => assumption)) | ((with_reducible apply Vc.Ext.but); (case k => assumption); (case hb => omega))))⟩
end Go.Proofs.YtihopeogaeinhaaGreatDoor
