import Derived.Test.YtlgcfcdmldlefaaDoorTd
set_option linter.unusedVariables false
set_option linter.unusedSimpArgs false
set_option maxRecDepth 100000
/- Build scripts: small functions of lines. -/
namespace Go.Proofs.YtlgcfcdmldlefaaDoor
open Go Go.Vc Go.Scr

def lineC (k : Int) (a b tx : Bs) (n : Int) (nt : Bool) : Array Value := #[.int .i64 k, .string (mkS a), .string (mkS b), .string (mkS tx), .int .i64 n, .bool nt]
def lnC (x : Ln) : Array Value := lineC x.k x.a x.b x.tx x.n x.nt
theorem plain_cons (c : UInt8) (t : Bs) : plainW (c :: t) = !((c.toNat : Int) == 34) := by
  unfold plainW
  rw [Bool.eq_iff_iff]
  simp only [List.head?_cons, bne_iff_ne, ne_eq, Option.some.injEq, Bool.not_eq_true', beq_eq_false_iff_ne]
  constructor
  · intro h e; exact h (UInt8.toNat_inj.1 (by show c.toNat = 34; omega))
  · intro h e; exact h (by rw [e]; rfl)
theorem plain_any (w : Bs) (hw : w ≠ []) (H : Heap) : CallH Tryd.prog 93 [.string (mkS w)] H fun v H' => v = .bool (plainW w) ∧ H = H' := by
  cases w with
  | nil => exact absurd rfl hw
  | cons c t =>
    have hsz : (mkS (c :: t)).size = t.length + 1 := rfl
    refine Vc.CallH.body Tryd.func93 Tryd.call93 rfl (by decide +kernel) rfl ?_
    ((conv => whnf); repeat (any_goals (first | ((refine IdxH.nat 0 rfl (by omega) ?_); (conv => whnf)) | (refine Vc.stp ?_; intros; (conv => whnf)) | (refine Vc.spl ?_ ?_ <;> (intro _; (conv => whnf))))))
    exact ⟨by rw [plain_cons]; rfl, rfl⟩
theorem text_any (w : Bs) (hw : w ≠ []) (hl : w.length ≤ 1000000000000) (H : Heap) : CallH Tryd.prog 94 [.string (mkS w)] H fun v H' => v = .tuple #[.string (mkS w.tail), .bool (!plainW w)] ∧ H = H' := by
  have hsz : (mkS w).size = w.length := rfl
  have h0 : 0 < w.length := List.length_pos_iff.2 hw
  refine Vc.CallH.body Tryd.func94 Tryd.call94 rfl (by decide +kernel) rfl ?_
  ((conv => whnf); repeat (any_goals (first | ((refine BndH.nat 1 rfl (by omega) ?_); (conv => whnf)) | ((refine (plain_any w hw _).mono ?_; rintro _ _ ⟨rfl, rfl⟩); (conv => whnf)) | (refine Vc.stp ?_; intros; (conv => whnf)) | (refine Vc.spl ?_ ?_ <;> (intro _; (conv => whnf))))))
  refine ⟨?_, rfl⟩
  show Value.tuple #[.string ((mkS w).extract 1 (mkS w).size), _] = _
  rw [mkS_drop, List.drop_one]
theorem numL_le : ∀ (k : Nat) (l : Bs) (n m : Nat), l.length ≤ k → numL n l = some m → m < (n + 1) * 10 ^ k
  | k, [], n, m, _, h => by
    cases h
    have : 1 ≤ 10 ^ k := Nat.one_le_pow _ _ (by decide)
    calc n < n + 1 := Nat.lt_succ_self n
      _ = (n + 1) * 1 := (Nat.mul_one _).symm
      _ ≤ _ := Nat.mul_le_mul_left _ this
  | 0, c :: t, n, m, h, _ => by simp at h
  | k + 1, c :: t, n, m, hl, h => by
    unfold numL at h
    split at h
    · rename_i hc
      have := numL_le k t _ m (by simp only [List.length_cons] at hl; omega) h
      rw [Nat.pow_succ]
      have e : (n + 1) * (10 ^ k * 10) = (10 * (n + 1)) * 10 ^ k := by rw [Nat.mul_comm (10 ^ k) 10, ← Nat.mul_assoc, Nat.mul_comm (n + 1) 10]
      rw [e]
      exact Nat.lt_of_lt_of_le this (Nat.mul_le_mul_right _ (by omega))
    · cases h
def capN : Option Nat → Option Nat
  | none => none
  | some n => if n ≤ 1000 then some n else none
theorem number_any (w : Bs) (hl : w.length ≤ 1000000000) (H : Heap) : CallH Tryd.prog 96 [.string (mkS w)] H fun v H' => (∃ n : Int, v = .tuple #[.int .i64 n, .bool (numberF w).isSome] ∧ ∀ m, numberF w = some m → n = m) ∧ H = H' := by
  have hsz : (mkS w).size = w.length := rfl
  refine Vc.CallH.body Tryd.func96 Tryd.call96 rfl (by decide +kernel) rfl ?_
  by_cases h9 : 9 < w.length
  · have hn : numberF w = none := by unfold numberF; rw [if_pos h9]
    ((conv => whnf); repeat (any_goals (first | (refine Vc.stp ?_; intros; (conv => whnf)) | (refine Vc.spl ?_ ?_ <;> (intro _; (conv => whnf))))))
    rw [hn]
    exact ⟨⟨0, rfl, fun m h => by cases h⟩, rfl⟩
  · obtain ⟨R, hR⟩ : ∃ R, numL 0 w = R := ⟨_, rfl⟩
    have hnf : numberF w = capN R := by unfold numberF; rw [if_neg h9, hR]; cases R <;> rfl
    ((conv => whnf); repeat (any_goals (first | (refine Vc.stp ?_; intros; (conv => whnf)) | (refine Vc.spl ?_ ?_ <;> (intro _; (conv => whnf))))))
    refine LoopH.intro (fun (x : Nat × Nat) => [(11, .int .i64 x.1), (4, .int .i64 x.2)]) (fun x H' => H = H' ∧ x.1 ≤ w.length ∧ x.2 < 10 ^ x.1 ∧ R = numL x.2 (w.drop x.1)) (fun x => w.length - x.1) (0, 0) ⟨rfl, rfl, trivial⟩ ⟨rfl, Nat.zero_le _, by decide, hR.symm⟩ ?_
    rintro ⟨i, n⟩ _ ⟨rfl, hi, hn, hinv⟩
    dsimp only at hi hn hinv ⊢
    have hn9 : n < 1000000000 := Nat.lt_of_lt_of_le hn (Nat.le_trans (Nat.pow_le_pow_right (by decide) (show i ≤ 9 by omega)) (by decide))
    by_cases hlt : i < w.length
    · obtain ⟨c, hc, hdr⟩ := drop_get hlt
      have hc8 := c.toNat_lt
      rw [hdr] at hinv
      unfold numL at hinv
      by_cases hdig : 48 ≤ c.toNat ∧ c.toNat ≤ 57
      · rw [if_pos hdig] at hinv
        ((conv => whnf); repeat (any_goals (first | ((refine IdxH.nat i rfl (by omega) ?_; (conv => whnf); rw [hc]); (conv => whnf)) | (refine Vc.stp ?_; intros; (conv => whnf)) | (refine Vc.spl ?_ ?_ <;> (intro _; (conv => whnf))))))
        refine ⟨(i + 1, 10 * n + (c.toNat - 48)), ⟨rfl, by show Value.int .i64 _ = Value.int .i64 _; congr 1; omega, trivial⟩, ⟨rfl, by show i + 1 ≤ _; omega, ?_, hinv⟩, by show w.length - (i + 1) < w.length - i; omega⟩
        show 10 * n + (c.toNat - 48) < 10 ^ (i + 1)
        rw [Nat.pow_succ]; omega
      · rw [if_neg hdig] at hinv
        rw [hinv] at hnf
        by_cases h48 : c.toNat < 48
        · ((conv => whnf); repeat (any_goals (first | ((refine IdxH.nat i rfl (by omega) ?_; (conv => whnf); rw [hc]); (conv => whnf)) | (refine Vc.stp ?_; intros; (conv => whnf)) | (refine Vc.spl ?_ ?_ <;> (intro _; (conv => whnf))))))
          rw [hnf]; exact ⟨⟨0, rfl, fun m h => (by cases h)⟩, rfl⟩
        · ((conv => whnf); repeat (any_goals (first | ((refine IdxH.nat i rfl (by omega) ?_; (conv => whnf); rw [hc]); (conv => whnf)) | (refine Vc.stp ?_; intros; (conv => whnf)) | (refine Vc.spl ?_ ?_ <;> (intro _; (conv => whnf))))))
          rw [hnf]; exact ⟨⟨0, rfl, fun m h => (by cases h)⟩, rfl⟩
    · rw [List.drop_of_length_le (by omega)] at hinv
      rw [hinv] at hnf
      rw [show capN (numL n []) = if n ≤ 1000 then some n else none from rfl] at hnf
      ((conv => whnf); repeat (any_goals (first | (refine Vc.stp ?_; intros; (conv => whnf)) | (refine Vc.spl ?_ ?_ <;> (intro _; (conv => whnf))))))
      rw [hnf]
      refine ⟨⟨n, ?_, ?_⟩, rfl⟩
      · show Value.tuple #[_, .bool (decide ((n : Int) ≤ 1000))] = _
        by_cases h : n ≤ 1000
        · rw [if_pos h, decide_eq_true (by omega)]; rfl
        · rw [if_neg h, decide_eq_false (by omega)]; rfl
      · intro m hm
        split at hm
        · cases hm; rfl
        · cases hm
/-- slices.Index over strings -/
theorem index_any (L : List Bs) (w : Bs) (a : Option Addr) (n cap : Nat) (H : Heap) (hr : Row H a (strs L)) (hn : L.length = n) (hm : n ≤ 1000000000) : CallH Tryd.prog 91 [.slice a n cap, .string (mkS w)] H fun v H' => v = .int .i64 (if L.findIdx (· == w) < n then (L.findIdx (· == w) : Int) else -1) ∧ H = H' := by
  obtain ⟨F, hF⟩ : ∃ F, L.findIdx (· == w) = F := ⟨_, rfl⟩
  rw [hF]
  refine Vc.CallH.body Tryd.func91 Tryd.call91 rfl (by decide +kernel) rfl ?_
  ((conv => whnf); repeat (any_goals (first | (refine Vc.stp ?_; intros; (conv => whnf)) | (refine Vc.spl ?_ ?_ <;> (intro _; (conv => whnf))))))
  refine LoopH.intro (fun (i : Nat) => [(8, .int .i64 i)]) (fun i H' => H = H' ∧ i ≤ n ∧ F = i + (L.drop i).findIdx (· == w)) (fun i => n - i) 0 ⟨rfl, trivial⟩ ⟨rfl, Nat.zero_le _, by rw [← hF]; simp⟩ ?_
  rintro i _ ⟨rfl, hi, hinv⟩
  by_cases hlt : i < n
  · have hd : L.drop i = L.getD i [] :: L.drop (i + 1) := by
      rw [List.drop_eq_getElem_cons (by omega), List.getD_eq_getElem?_getD, List.getElem?_eq_getElem (by omega)]; rfl
    rw [hd, List.findIdx_cons] at hinv
    by_cases he : w = L.getD i []
    · have hq : (L.getD i [] == w) = true := by rw [beq_iff_eq]; exact he.symm
      rw [hq] at hinv
      dsimp only [cond_true] at hinv
      have hs : ((mkS w).toList == (mkS (L.getD i [])).toList) = true := by rw [str_beq, decide_eq_true_eq, ← he]
      ((conv => whnf); repeat (any_goals (first | ((refine IdxA.strD hr hn i rfl hlt ?_; intro _ _ _ _ _); (conv => whnf)) | (refine Vc.stp ?_; intros; (conv => whnf)) | (refine Vc.spl ?_ ?_ <;> (intro _; (conv => whnf))))))
      refine ⟨?_, rfl⟩
      rw [show F = i by omega, if_pos hlt]; rfl
    · have hq : (L.getD i [] == w) = false := by rw [beq_eq_false_iff_ne]; exact fun e => he e.symm
      rw [hq] at hinv
      dsimp only [cond_false] at hinv
      have hs : ((mkS w).toList == (mkS (L.getD i [])).toList) = false := by rw [str_beq, decide_eq_false_iff_not, mkS_inj]; exact he
      ((conv => whnf); repeat (any_goals (first | ((refine IdxA.strD hr hn i rfl hlt ?_; intro _ _ _ _ _); (conv => whnf)) | (refine Vc.stp ?_; intros; (conv => whnf)) | (refine Vc.spl ?_ ?_ <;> (intro _; (conv => whnf))))))
      exact ⟨i + 1, ⟨rfl, trivial⟩, ⟨rfl, by omega, by omega⟩, by omega⟩
  · rw [List.drop_of_length_le (by omega)] at hinv
    have h0 : F = n := by rw [hinv]; simp; omega
    ((conv => whnf); repeat (any_goals (first | (refine Vc.stp ?_; intros; (conv => whnf)) | (refine Vc.spl ?_ ?_ <;> (intro _; (conv => whnf))))))
    rw [h0, if_neg (by omega)]
    exact ⟨rfl, rfl⟩
theorem kws_any (H : Heap) : CallH Tryd.prog 92 [] H fun v H' => v = .slice (some ⟨H.size, 0, none⟩) 12 12 ∧ Row H' (some ⟨H.size, 0, none⟩) (strs kws) ∧ Ext H H' := by
  refine Vc.CallH.body Tryd.func92 Tryd.call92 rfl (by decide +kernel) rfl ?_
  ((conv => whnf); repeat (any_goals (first | (refine Vc.sts ?_; (conv => whnf)))))
  refine SemH.lit (vs := [_, _, _, _, _, _, _, _, _, _, _, _]) rfl rfl rfl rfl rfl rfl rfl ?_
  intro H1 hs1 hb1 hx1
  ((conv => whnf); repeat (any_goals (first | (refine Vc.sts ?_; (conv => whnf)))))
  exact ⟨rfl, Blk.row (c := strs kws) hb1, hx1⟩
end Go.Proofs.YtlgcfcdmldlefaaDoor
