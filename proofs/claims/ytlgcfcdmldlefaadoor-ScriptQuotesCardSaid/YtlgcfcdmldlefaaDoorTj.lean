import Derived.Test.YtlgcfcdmldlefaaDoorTi
set_option linter.unusedVariables false
set_option linter.unusedSimpArgs false
set_option maxRecDepth 100000
/- Build scripts, the code: what is open. -/
namespace Go.Proofs.YtlgcfcdmldlefaaDoor
open Go Go.Vc Go.Scr

def natV (l : List Nat) : List Value := l.map fun (n : Nat) => Value.int .i64 (n : Int)
theorem natV_length (l : List Nat) : (natV l).length = l.length := by simp [natV]
theorem natV_append (l m : List Nat) : natV (l ++ m) = natV l ++ natV m := by simp [natV]
/-- what an object g and the slice in it take up -/
def foot (g : Nat) (a : Option Addr) (x : Nat) : Prop := x = g ∨ ∃ p, a = some p ∧ p.block = x
def Fresh (H : Heap) (a a' : Option Addr) : Prop := ∀ p, a' = some p → a' = a ∨ H.size ≤ p.block
/-- a shape: what is open -/
structure ShO (H : Heap) (base g : Nat) (o : List Nat) (a : Option Addr) (cap : Nat) : Prop where
  blk : Blk H g #[.slice a o.length cap] 120
  own : Own H base 3 1 a o.length cap (natV o)
  apart : ∀ p, a = some p → p.block ≠ g
  low : base ≤ g
theorem ShO.ext {H H' : Heap} {base g : Nat} {o : List Nat} {a : Option Addr} {cap : Nat} (h : ShO H base g o a cap) (k : Ext H H') : ShO H' base g o a cap := ⟨h.blk.ext k, h.own.ext k, h.apart, h.low⟩
set_option maxHeartbeats 4000000 in
theorem take_any {H : Heap} {base g : Nat} {o : List Nat} {a : Option Addr} {cap k : Nat} (h : ShO H base g o a cap) (hl : o.length ≤ 8) (hbase : base ≤ H.size) : CallH Tryd.prog 63 [.pointer (some ⟨g, 0, none⟩), .int .i64 k] H fun v H' => v = .bool (takeF o k).isSome ∧ (∀ o', takeF o k = some o' → ∃ a' cap', ShO H' base g o' a' cap' ∧ Fresh H a a') ∧ Only (foot g a) H H' := by
  have hb := h.blk
  refine Vc.CallH.body Tryd.func63 Tryd.call63 rfl (by decide +kernel) rfl ?_
  by_cases h78 : k = 7 ∨ k = 8
  · have ht : takeF o k = if o.length = 8 then none else some (o ++ [k]) := by unfold takeF; rw [if_pos h78]
    by_cases h8 : o.length = 8
    · rw [ht, if_pos h8]
      rcases h78 with rfl | rfl
      · ((conv => whnf); repeat (any_goals (first | (refine Vc.stp ?_; intros; (conv => whnf)) | (refine Vc.spl ?_ ?_ <;> (intro _; (conv => whnf))))))
        exact ⟨rfl, fun _ h => (by cases h), Only.refl _ _⟩
      · ((conv => whnf); repeat (any_goals (first | (refine Vc.stp ?_; intros; (conv => whnf)) | (refine Vc.spl ?_ ?_ <;> (intro _; (conv => whnf))))))
        exact ⟨rfl, fun _ h => (by cases h), Only.refl _ _⟩
    · rw [ht, if_neg h8]
      have hown := h.own
      have app : ∀ {H1 : Heap} {g1 : Nat} {ty : TypeId} {cb : Array Bool} {K : Value → Heap → Prop}, Ext H H1 → Blk H1 g1 #[.int .i64 (k : Int)] 3 → g1 ≠ g → (∀ a' cap' H', Own H' base 3 1 a' (o.length + 1) cap' (natV (o ++ [k])) → Blk H' g #[.slice a o.length cap] 120 → (∀ p, a' = some p → p.block ≠ g) → Fresh H a a' → Only (foot g a) H H' → K (.slice a' (o.length + 1) cap') H') → NextH Tryd.prog (builtin .append #[46, 46] ty cb #[.slice a o.length cap, .slice (some ⟨g1, 0, none⟩) 1 1]) H1 K := by
        intro H1 g1 ty cb K hx hb1 hg1 hk
        have hg := hb.lt
        refine NextH.append (i := Tryd.t3) (z := .int .i64 0) (base := base) rfl ⟨_, rfl, fun _ h => by cases h⟩ rfl rfl rfl (hown.ext hx) (Src.row (c := 1) (Blk.row (c := [.int .i64 (k : Int)]) hb1) rfl (by simp [plainV])) (by unfold maxLen; omega) (by show (o.length + 1) * 8 ≤ _; omega) (by have := hx.size; omega) ?_
        intro a' cap' H' ho hw hnew
        have hz := hx.size
        refine hk a' cap' H' (by rw [natV_append]; exact ho) ((hb.ext hx).keep hw fun ⟨p, hp, e⟩ => h.apart p hp e) (fun p hp e => ?_) (fun p hp => (hnew p hp).imp id fun h => by omega) (Only.trans hx.only (hw.mono fun b h => .inr h) fun _ _ => id)
        rcases hnew p hp with h1 | h1
        · exact h.apart p (h1 ▸ hp) e
        · omega
      have hg := hb.lt
      have fin : ∀ {H4 H5 : Heap} {a' : Option Addr} {c' : Nat}, Own H4 base 3 1 a' (o.length + 1) c' (natV (o ++ [k])) → (∀ p, a' = some p → p.block ≠ g) → Fresh H a a' → Only (foot g a) H H4 → Blk H5 g #[.slice a' (o.length + 1) c'] 120 → But g H4 H5 → (∀ o', some (o ++ [k]) = some o' → ∃ a' cap', ShO H5 base g o' a' cap' ∧ Fresh H a a') ∧ Only (foot g a) H H5 := by
        intro H4 H5 a' c' ho hap hn hx hb5 hx5
        refine ⟨fun o' e => ?_, hx.trans hx5 fun _ _ e => .inl e⟩
        cases e
        exact ⟨a', c', ⟨by rw [List.length_append]; exact hb5, by rw [List.length_append]; exact ho.keep hx5 hap, hap, h.low⟩, hn⟩
      rcases h78 with rfl | rfl
      · ((conv => whnf); repeat (any_goals (first | (refine Vc.stp ?_; intros; (conv => whnf)))))
        rename_i H1 hs1 hb1 hx1
        refine app hx1 hb1 (by omega) ?_
        intro a' c' H4 ho4 hb4 hap hn hx4
        ((conv => whnf); repeat (any_goals (first | (refine Vc.stp ?_; intros; (conv => whnf)))))
        rename_i H5 hs5 hb5 hx5
        exact ⟨rfl, fin ho4 hap hn hx4 hb5 hx5⟩
      · ((conv => whnf); repeat (any_goals (first | (refine Vc.stp ?_; intros; (conv => whnf)))))
        rename_i H1 hs1 hb1 hx1
        refine app hx1 hb1 (by omega) ?_
        intro a' c' H4 ho4 hb4 hap hn hx4
        ((conv => whnf); repeat (any_goals (first | (refine Vc.stp ?_; intros; (conv => whnf)))))
        rename_i H5 hs5 hb5 hx5
        exact ⟨rfl, fin ho4 hap hn hx4 hb5 hx5⟩
  · have k7 : k ≠ 7 := fun e => h78 (.inl e)
    have k8 : k ≠ 8 := fun e => h78 (.inr e)
    by_cases k9 : k = 9
    · subst k9
      have ht : takeF o 9 = if o.getLast? = some 7 then some (o.dropLast ++ [9]) else none := by unfold takeF; rw [if_neg (by decide), if_pos rfl]
      rw [ht]
      rcases List.eq_nil_or_concat o with rfl | ⟨q, m, rfl⟩
      · have hz : ([] : List Nat).length = 0 := rfl
        ((conv => whnf); repeat (any_goals (first | (refine Vc.stp ?_; intros; (conv => whnf)))))
        exact ⟨rfl, fun _ h => (by cases h), Only.refl _ _⟩
      · have hln : (q ++ [m]).length = q.length + 1 := by simp
        have hlast : (q ++ [m]).getLast? = some m := by simp
        simp only [List.concat_eq_append] at h hl hb ht ⊢
        rw [hlast]
        obtain ⟨gb, ha⟩ : ∃ gb, a = some ⟨gb, 0, none⟩ := by
          rcases h.own.out with ⟨_, h0, _⟩ | ⟨gb, cur, ha, _⟩
          · omega
          · exact ⟨gb, ha⟩
        subst ha
        have hcl := Own.hcell h.own (i := q.length) (v := .int .i64 (m : Int)) (by simp [natV])
        by_cases hm : m = 7
        · subst hm
          rw [if_pos rfl]
          ((conv => whnf); repeat (any_goals (first | ((refine IdxA.at1 q.length (by omega) (by omega) ?_); (conv => whnf)) | (refine Vc.stp ?_; intros; (conv => whnf)))))
          refine DoH.store_own (o := 0 + q.length) h.own rfl rfl rfl (by omega) ?_
          intro H5 hs5 ho5 hx5
          have hap := h.apart _ rfl
          ((conv => whnf); repeat (any_goals (first | (refine Vc.stp ?_; intros; (conv => whnf)))))
          refine ⟨rfl, fun o' e => ?_, hx5.mono fun x e => .inr ⟨_, rfl, e.symm⟩⟩
          cases e
          have e1 : (q ++ [7]).dropLast ++ [9] = q ++ [9] := by simp
          rw [e1]
          have hb5 : Blk H5 g #[.slice (some ⟨gb, 0, none⟩) (q ++ [7]).length cap] 120 := hb.but hx5 (fun e => hap e.symm)
          rw [hln] at hb5
          refine ⟨_, cap, ⟨by rw [List.length_append]; exact hb5, ?_, h.apart, h.low⟩, fun p hp => .inl rfl⟩
          have e2 : (natV (q ++ [7])).set (0 + q.length) (.int .i64 ((9 : Nat) : Int)) = natV (q ++ [9]) := by rw [Nat.zero_add, natV_append, natV_append, List.set_append_right _ _ (by rw [natV_length]; exact Nat.le_refl _), natV_length, Nat.sub_self]; rfl
          rw [e2, hln] at ho5
          rw [List.length_append]; exact ho5
        · rw [if_neg (by intro e; cases e; exact hm rfl)]
          ((conv => whnf); repeat (any_goals (first | ((refine IdxA.at1 q.length (by omega) (by omega) ?_); (conv => whnf)) | (refine Vc.stp ?_; intros; (conv => whnf)))))
          exact ⟨rfl, fun _ h => (by cases h), Only.refl _ _⟩
    · by_cases k10 : k = 10
      · subst k10
        have ht : takeF o 10 = if o = [] then none else some o.dropLast := by unfold takeF; rw [if_neg (by decide), if_neg (by decide), if_pos rfl]
        by_cases h0 : o = []
        · rw [ht, if_pos h0]
          subst h0
          have hz : ([] : List Nat).length = 0 := rfl
          ((conv => whnf); repeat (any_goals (first | (refine Vc.stp ?_; intros; (conv => whnf)))))
          exact ⟨rfl, fun _ h => (by cases h), Only.refl _ _⟩
        · rw [ht, if_neg h0]
          have hpos := List.length_pos_iff.2 h0
          have hcap := h.own.cap_le
          ((conv => whnf); repeat (any_goals (first | ((refine BndH.nat (o.length - 1) (by omega) (by omega) ?_); (conv => whnf)) | (refine Vc.stp ?_; intros; (conv => whnf)))))
          rename_i H5 hs5 hb5 hx5
          refine ⟨rfl, fun o' e => ?_, hx5.mono fun x e => .inl e⟩
          cases e
          have hc := (h.own.cut (o.length - 1) (by omega)).keep hx5 fun p hp e => h.apart p hp e
          refine ⟨a, cap, ⟨by rw [List.length_dropLast]; exact hb5, ?_, h.apart, h.low⟩, fun p hp => .inl rfl⟩
          rw [List.length_dropLast]
          have e : natV o.dropLast = (natV o).take ((o.length - 1) * 1) := by rw [Nat.mul_one, List.dropLast_eq_take]; simp [natV, List.map_take]
          rw [e]; exact hc
      · have ht : takeF o k = some o := by unfold takeF; rw [if_neg h78, if_neg k9, if_neg k10]
        rw [ht]
        ((conv => whnf); repeat (any_goals (first | (refine Vc.stp ?_; intros; (conv => whnf)))))
        exact ⟨rfl, fun o' e => (by cases e; exact ⟨a, cap, h, fun p hp => .inl rfl⟩), Only.refl _ _⟩
end Go.Proofs.YtlgcfcdmldlefaaDoor
