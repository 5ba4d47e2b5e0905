import Derived.Test.YtlgcfcdmldlefaaDoorSa
set_option linter.unusedVariables false
set_option linter.unusedSimpArgs false
set_option maxRecDepth 100000
/- Sums: the turn of a block. -/
namespace Go.Proofs.YtlgcfcdmldlefaaDoor
open Go Go.Vc Go.Sha

theorem grow_eq (a16 a15 a7 a2 : Int) : (((a16 + bitB .u32 .xor (bitB .u32 .xor (rr (- -7 : Int).toNat a15) (rr (- -18 : Int).toNat a15)) (shrB .u32 a15 3)) % 4294967296 + a7) % 4294967296 +
    bitB .u32 .xor (bitB .u32 .xor (rr (- -17 : Int).toNat a2) (rr (- -19 : Int).toNat a2)) (shrB .u32 a2 10)) % 4294967296 = grow a16 a15 a7 a2 := by
  rw [(shr_lit a15).1, (shr_lit a2).2]
  show (((a16 + sg0 a15) % 4294967296 + a7) % 4294967296 + sg1 a2) % 4294967296 = _
  unfold grow
  omega
theorem s7_plain (f : Nat → Int) : ∀ u ∈ s7 f, plainV u = true := by
  intro v hv; simp [s7] at hv; rcases hv with h | h | h | h | h | h | h <;> subst h <;> rfl
theorem over_s8 (f : Nat → Int) : over (s8 f) (0 + 1 * 1) (s7 f) = s8 (sh f) := by kernel_rfl
theorem s8_two (f g : Nat → Int) (x y : Int) (h0 : x = g 0) (h1 : sh f 1 = g 1) (h2 : sh f 2 = g 2) (h3 : sh f 3 = g 3) (h4 : y = g 4) (h5 : sh f 5 = g 5) (h6 : sh f 6 = g 6) (h7 : sh f 7 = g 7) :
    ((s8 (sh f)).setIfInBounds 0 (.int .u32 x)).setIfInBounds 4 (.int .u32 y) = s8 g := by
  unfold s8
  rw [← h0, ← h1, ← h2, ← h3, ← h4, ← h5, ← h6, ← h7]
  rfl
theorem s8_nx (f : Nat → Int) (r x : Int) :
    ((s8 (sh f)).setIfInBounds 0 (.int .u32 (((((((f 7 + bitB .u32 .xor (bitB .u32 .xor (rr (- -6 : Int).toNat (f 4)) (rr (- -11 : Int).toNat (f 4))) (rr (- -25 : Int).toNat (f 4))) % 4294967296 +
      bitB .u32 .xor (bitB .u32 .and (f 4) (f 5)) (bitB .u32 .and (bitB .u32 .xor (if IntKind.u32.signed then -1 else IntKind.u32.max) (f 4)) (f 6))) % 4294967296 + r) % 4294967296 + x) % 4294967296) +
      ((bitB .u32 .xor (bitB .u32 .xor (rr (- -2 : Int).toNat (f 0)) (rr (- -13 : Int).toNat (f 0))) (rr (- -22 : Int).toNat (f 0)) +
        bitB .u32 .xor (bitB .u32 .xor (bitB .u32 .and (f 0) (f 1)) (bitB .u32 .and (f 0) (f 2))) (bitB .u32 .and (f 1) (f 2))) % 4294967296)) % 4294967296))).setIfInBounds 4
      (.int .u32 ((f 3 + (((((f 7 + bitB .u32 .xor (bitB .u32 .xor (rr (- -6 : Int).toNat (f 4)) (rr (- -11 : Int).toNat (f 4))) (rr (- -25 : Int).toNat (f 4))) % 4294967296 +
      bitB .u32 .xor (bitB .u32 .and (f 4) (f 5)) (bitB .u32 .and (bitB .u32 .xor (if IntKind.u32.signed then -1 else IntKind.u32.max) (f 4)) (f 6))) % 4294967296 + r) % 4294967296 + x) % 4294967296)) % 4294967296)) = s8 (nx f r x) := by
  refine s8_two f (nx f r x) _ _ ?_ rfl rfl rfl ?_ rfl rfl rfl
  · show _ = (t1 f r x + t2 f) % 4294967296
    unfold t1 t2
    show _ = (f 7 + bitB .u32 .xor (bitB .u32 .xor (rr (- -6 : Int).toNat (f 4)) (rr (- -11 : Int).toNat (f 4))) (rr (- -25 : Int).toNat (f 4)) + bitB .u32 .xor (bitB .u32 .and (f 4) (f 5)) (bitB .u32 .and (bitB .u32 .xor (if IntKind.u32.signed then -1 else IntKind.u32.max) (f 4)) (f 6)) + r + x + (bitB .u32 .xor (bitB .u32 .xor (rr (- -2 : Int).toNat (f 0)) (rr (- -13 : Int).toNat (f 0))) (rr (- -22 : Int).toNat (f 0)) +
        bitB .u32 .xor (bitB .u32 .xor (bitB .u32 .and (f 0) (f 1)) (bitB .u32 .and (f 0) (f 2))) (bitB .u32 .and (f 1) (f 2)))) % 4294967296
    generalize bitB .u32 .xor (bitB .u32 .xor (rr (- -6 : Int).toNat (f 4)) (rr (- -11 : Int).toNat (f 4))) (rr (- -25 : Int).toNat (f 4)) = A
    generalize bitB .u32 .xor (bitB .u32 .and (f 4) (f 5)) (bitB .u32 .and (bitB .u32 .xor (if IntKind.u32.signed then -1 else IntKind.u32.max) (f 4)) (f 6)) = B
    generalize bitB .u32 .xor (bitB .u32 .xor (rr (- -2 : Int).toNat (f 0)) (rr (- -13 : Int).toNat (f 0))) (rr (- -22 : Int).toNat (f 0)) = C
    generalize bitB .u32 .xor (bitB .u32 .xor (bitB .u32 .and (f 0) (f 1)) (bitB .u32 .and (f 0) (f 2))) (bitB .u32 .and (f 1) (f 2)) = D
    omega
  · show _ = (f 3 + t1 f r x) % 4294967296
    unfold t1
    show _ = (f 3 + (f 7 + bitB .u32 .xor (bitB .u32 .xor (rr (- -6 : Int).toNat (f 4)) (rr (- -11 : Int).toNat (f 4))) (rr (- -25 : Int).toNat (f 4)) + bitB .u32 .xor (bitB .u32 .and (f 4) (f 5)) (bitB .u32 .and (bitB .u32 .xor (if IntKind.u32.signed then -1 else IntKind.u32.max) (f 4)) (f 6)) + r + x)) % 4294967296
    generalize bitB .u32 .xor (bitB .u32 .xor (rr (- -6 : Int).toNat (f 4)) (rr (- -11 : Int).toNat (f 4))) (rr (- -25 : Int).toNat (f 4)) = A
    generalize bitB .u32 .xor (bitB .u32 .and (f 4) (f 5)) (bitB .u32 .and (bitB .u32 .xor (if IntKind.u32.signed then -1 else IntKind.u32.max) (f 4)) (f 6)) = B
    omega
theorem stc_lo0 (f : Nat → Int) (i : Nat) (h : i < 8) : (stc f)[0 + 0 + i]? = some (.int .u32 (f i)) := by rw [Nat.zero_add]; exact stc_lo f i h
theorem stc_hi0 (f : Nat → Int) (i : Nat) (h : i < 64) : (stc f)[0 + 8 + i]? = some (.int .u32 (rc i)) := by rw [Nat.zero_add]; exact stc_hi f i h
theorem s8_get0 (f : Nat → Int) (i : Nat) (h : i < 8) : (s8 f)[0 + i]? = some (.int .u32 (f i)) := by rw [Nat.zero_add]; exact s8_get f i h
theorem fillA_lo0 (n : Nat) (f : Nat → Value) (z : Value) (k i : Nat) (h : i < n) (hk : i < k) : (Vc.fillA n f z k)[0 + i]? = some (f i) := by rw [Nat.zero_add]; exact Vc.fillA_lo n f z k i h hk
theorem stc_size (f : Nat → Int) : (stc f).size = 72 := by
  unfold stc
  rw [Array.size_append]
  have : r64.size = 64 := by decide +kernel
  rw [this]
  rfl
theorem stc_plain (f : Nat → Int) : ∀ u ∈ (s8 f).toList, plainV u = true := by
  intro v hv; simp [s8] at hv; rcases hv with h | h | h | h | h | h | h | h <;> subst h <;> rfl
set_option maxHeartbeats 2000000 in
theorem sturn_any (F : Nat → Int) (l : List UInt8) (hl : 64 ≤ l.length) (H : Heap) (bt : Nat) (hst : Blk H bt (stc F) 198) (a : Option Addr) (n cap : Nat) (hn : l.length = n) (hr : Row H a (strV l)) (hmx : n ≤ 140737488355328) :
    CallH Tryd.prog 111 [.pointer (some ⟨bt, 0, none⟩), .slice a n cap] H fun v H' => v = .tuple #[] ∧ Blk H' bt (stc (blk F (ints l))) 198 ∧ But bt H H' := by
  obtain ⟨W, hW⟩ : ∃ W, W = wd (fun i => (ints l).getD i 0) 64 := ⟨_, rfl⟩
  have hwd : Words (fun i => (ints l).getD i 0) W := hW ▸ wd_words _
  obtain ⟨hlo, hhi, hrg⟩ := hwd
  have hbt := hst.lt
  refine Vc.CallH.body Tryd.func111 Tryd.call111 rfl (by decide +kernel) rfl ?_
  ((conv => whnf); repeat (any_goals (first | (refine Vc.sts ?_; (conv => whnf)))))
  refine SemH.alloc rfl rfl ?_
  intro H1 hs1 hb1 hx1
  ((conv => whnf); repeat (any_goals (first | (refine Vc.sts ?_; (conv => whnf)))))
  refine LoopH.intro (fun (k : Nat) => [(16, .int .i64 k)]) (fun k H' => k ≤ 64 ∧ Blk H' H.size (Vc.fillA 64 (c32 W) z32 k) 195 ∧ Ext H H') (fun k => 64 - k) 0 ⟨rfl, trivial⟩ ⟨by omega, by rw [Vc.fillA_zero]; exact hb1, hx1⟩ ?_
  intro k H2 ⟨hk, hb2, hx2⟩
  by_cases h16 : k < 16
  · have hr2 := hr.ext hx2
    ((conv => whnf); repeat (any_goals (first | ((refine IdxA.bytes hr2 hn (by omega) (by omega) ?_; intro _ _ _ hc); (conv => whnf)) | ((refine SemH.load rfl (by assumption) ?_); (conv => whnf)) | ((refine ArithH.byte32 ?_); (conv => whnf)) | ((refine IdxH.nat k rfl (by omega) ?_); (conv => whnf)) | (refine Vc.sts ?_; (conv => whnf)))))
    refine DoH.store1 hb2 rfl rfl rfl (by rw [Vc.fillA_size]; omega) ?_
    intro H3 hs3 hb3 hx3
    ((conv => whnf); repeat (any_goals (first | (refine Vc.sts ?_; (conv => whnf)))))
    refine ⟨k + 1, ⟨rfl, trivial⟩, ⟨by omega, ?_, hx2.but hx3 (Nat.le_refl _)⟩, by omega⟩
    have e : bitB .u32 .or (bitB .u32 .or (bitB .u32 .or (shlB .u32 (l.getD (4 * (k : Int)).toNat 0).toNat 24) (shlB .u32 (l.getD (4 * (k : Int) + 1).toNat 0).toNat 16)) (shlB .u32 (l.getD (4 * (k : Int) + 2).toNat 0).toNat 8)) (l.getD (4 * (k : Int) + 3).toNat 0).toNat = W k := by
      rw [(shl_byte _).1, (shl_byte _).2.1, (shl_byte _).2.2, hlo k h16]
      simp only [word, ints_get, bitB_or]
      rw [show (4 * (k : Int)).toNat = 4 * k by omega, show (4 * (k : Int) + 1).toNat = 4 * k + 1 by omega, show (4 * (k : Int) + 2).toNat = 4 * k + 2 by omega, show (4 * (k : Int) + 3).toNat = 4 * k + 3 by omega]
    rw [Nat.zero_add] at hb3
    have := Vc.fillA_set 64 (c32 W) z32 k (by omega)
    rw [← this]
    rw [e] at hb3
    exact hb3
  · by_cases h64 : k < 64
    · have hc : ∀ j, j < k → (Vc.fillA 64 (c32 W) z32 k)[0 + j]? = some (.int .u32 (W j)) := fun j hj => by rw [Nat.zero_add, Vc.fillA_lo _ _ _ _ _ (by omega) hj]; rfl
      have q := fun j => hrg j
      ((conv => whnf); repeat (any_goals (first | ((refine ArithH.u32m ?_); (conv => whnf)) | ((refine IdxH.nat (k - 15) (by omega) (by omega) ?_); (conv => whnf)) | ((refine IdxH.nat (k - 2) (by omega) (by omega) ?_); (conv => whnf)) | ((refine IdxH.nat (k - 16) (by omega) (by omega) ?_); (conv => whnf)) | ((refine IdxH.nat (k - 7) (by omega) (by omega) ?_); (conv => whnf)) | ((refine IdxH.nat k rfl (by omega) ?_); (conv => whnf)) | (((with_reducible apply SemH.load_at hb2); (focus (rfl)); (focus (exact hc _ (by omega)))); (conv => whnf)) | ((refine (rotl_any _ _ (by omega) (by omega) _).mono ?_; rintro _ _ ⟨rfl, rfl⟩); (conv => whnf)) | (refine Vc.sts ?_; (conv => whnf)))))
      refine DoH.store1 hb2 rfl rfl rfl (by rw [Vc.fillA_size]; omega) ?_
      intro H3 hs3 hb3 hx3
      ((conv => whnf); repeat (any_goals (first | (refine Vc.sts ?_; (conv => whnf)))))
      refine ⟨k + 1, ⟨rfl, trivial⟩, ⟨by omega, ?_, hx2.but hx3 (Nat.le_refl _)⟩, by omega⟩
      rw [Nat.zero_add] at hb3
      have := Vc.fillA_set 64 (c32 W) z32 k (by omega)
      rw [← this]
      have e : W k = _ := hhi k (by omega) h64
      rw [show c32 W k = .int .u32 (W k) from rfl, e]
      rw [grow_eq] at hb3
      exact hb3
    · obtain rfl : k = 64 := by omega
      clear hb1 hx1
      have hst2 := hst.ext hx2
      ((conv => whnf); repeat (any_goals (first | (refine Vc.sts ?_; (conv => whnf)))))
      refine SemH.load_sub (cs := s8 F) hst2 rfl rfl rfl (fun j v hv => ?_) ?_
      · have hj : j < 8 := (Array.getElem?_eq_some_iff.1 hv).1
        rw [show 0 + 0 + j = j by omega, stc_lo F j hj, ← hv, s8_get F j hj]
      ((conv => whnf); repeat (any_goals (first | (refine Vc.sts ?_; (conv => whnf)))))
      refine SemH.alloc rfl rfl ?_
      intro H3 hs3 hb3 hx3
      ((conv => whnf); repeat (any_goals (first | (refine Vc.sts ?_; (conv => whnf)))))
      refine DoH.store_all hb3 rfl rfl rfl (stc_plain F) ?_
      intro H4 hs4 hb4 hx4
      ((conv => whnf); repeat (any_goals (first | (refine Vc.sts ?_; (conv => whnf)))))
      have hgl := hb2.lt
      have hne : H.size ≠ H2.size := by omega
      have hw4 := (hb2.ext hx3).but hx4 hne
      have hst4 := (hst2.ext hx3).but hx4 (by omega)
      refine LoopH.intro (fun (k : Nat) => [(100, .int .i64 k)]) (fun k H' => k ≤ 64 ∧ Blk H' H2.size (s8 (rounds F W k)) 193 ∧ But H2.size H4 H') (fun k => 64 - k) 0 ⟨rfl, trivial⟩ ⟨by omega, hb4, Only.refl _ _⟩ ?_
      intro k H5 ⟨hk, hb5, hx5⟩
      by_cases h64 : k < 64
      · have hw5 := hw4.but hx5 hne
        have hst5 := hst4.but hx5 (by omega)
        generalize hR : rounds F W k = R at hb5
        have hrc := rc_in k
        have hWk := hrg k
        ((conv => whnf); repeat (any_goals (first | ((refine ArithH.u32m ?_); (conv => whnf)) | ((refine IdxH.nat _ rfl (by decide) ?_); (conv => whnf)) | ((refine IdxH.nat k rfl (by omega) ?_); (conv => whnf)) | (((with_reducible apply SemH.load_at hb5); (focus (rfl)); (focus (rfl))); (conv => whnf)) | ((refine (rotl_any _ _ (by omega) (by omega) _).mono ?_; rintro _ _ ⟨rfl, rfl⟩); (conv => whnf)) | (((with_reducible apply SemH.load_at hst5); (focus (rfl)); (focus (exact stc_hi0 F k h64))); (conv => whnf)) | (((with_reducible apply SemH.load_at hw5); (focus (rfl)); (focus (exact fillA_lo0 _ _ _ _ _ h64 h64))); (conv => whnf)) | ((refine BndH.nat 1 rfl (by decide) ?_); (conv => whnf)) | ((refine BndH.nat 7 rfl (by decide) ?_); (conv => whnf)) | (refine Vc.sts ?_; (conv => whnf)))))
        have hrow : Row H5 (some ⟨Array.size H2, 0, none⟩) (s7 R) := ⟨.inr ⟨_, _, rfl, fun j v hj => by
          have h7 : j < 7 := (List.getElem?_eq_some_iff.1 hj).1
          rw [Nat.zero_add, hb5.cell, s8_get R j (by omega), ← hj]
          match j, h7 with
          | 0, _ => rfl
          | 1, _ => rfl
          | 2, _ => rfl
          | 3, _ => rfl
          | 4, _ => rfl
          | 5, _ => rfl
          | 6, _ => rfl⟩⟩
        refine NextH.copy (i := Tryd.t192) (k := 7) (cs := s7 R) rfl rfl (fun w => rfl) rfl rfl (fun w hw => run_firstRow hrow rfl w hw) (fun _ => rfl) hb5 (by show 0 + 1 * 1 + 7 ≤ 8; omega) (s7_plain R) ?_
        intro H6 hs6 hb6 hx6
        rw [over_s8] at hb6
        ((conv => whnf); repeat (any_goals (first | ((refine ArithH.u32m ?_); (conv => whnf)) | ((refine IdxH.nat _ rfl (by decide) ?_); (conv => whnf)) | (((with_reducible apply SemH.load_at hb6); (focus (rfl)); (focus (rfl))); (conv => whnf)) | (refine Vc.sts ?_; (conv => whnf)))))
        refine DoH.store1 hb6 rfl rfl rfl (by show 0 + 0 < 8; omega) ?_
        intro H7 hs7 hb7 hx7
        ((conv => whnf); repeat (any_goals (first | ((refine IdxH.nat _ rfl (by decide) ?_); (conv => whnf)) | (refine Vc.sts ?_; (conv => whnf)))))
        refine DoH.store1 hb7 rfl rfl rfl (by rw [Array.size_setIfInBounds]; show 0 + 4 < 8; omega) ?_
        intro H8 hs8 hb8 hx8
        ((conv => whnf); repeat (any_goals (first | (refine Vc.sts ?_; (conv => whnf)))))
        refine ⟨k + 1, ⟨rfl, trivial⟩, ⟨by omega, ?_, ((hx5.trans hx6 fun _ _ => id).trans hx7 fun _ _ => id).trans hx8 fun _ _ => id⟩, by omega⟩
        have := s8_nx R (rc k) (W k)
        show Blk H8 _ (s8 (nx (rounds F W k) (rc k) (W k))) _
        rw [hR, ← this]
        exact hb8
      · obtain rfl : k = 64 := by omega
        have hst5 := hst4.but hx5 (by omega)
        ((conv => whnf); repeat (any_goals (first | (refine Vc.sts ?_; (conv => whnf)))))
        refine LoopH.intro (fun (k : Nat) => [(179, .int .i64 k)]) (fun k H' => k ≤ 8 ∧ Blk H' bt (stc (fin F (rounds F W 64) k)) 198 ∧ But bt H5 H') (fun k => 8 - k) 0 ⟨rfl, trivial⟩ ⟨by omega, by rw [fin_zero]; exact hst5, Only.refl _ _⟩ ?_
        intro j H6 ⟨hj, hst6, hx6⟩
        by_cases h8 : j < 8
        · have hb6 := hb5.but hx6 (by omega)
          ((conv => whnf); repeat (any_goals (first | ((refine ArithH.u32m ?_); (conv => whnf)) | ((refine IdxH.nat j rfl (by omega) ?_); (conv => whnf)) | (((with_reducible apply SemH.load_at hst6); (focus (rfl)); (focus (exact stc_lo0 _ _ h8))); (conv => whnf)) | (((with_reducible apply SemH.load_at hb6); (focus (rfl)); (focus (exact s8_get0 _ _ h8))); (conv => whnf)) | (refine Vc.sts ?_; (conv => whnf)))))
          refine DoH.store1 (o := 0 + 0 + j) hst6 rfl rfl rfl (by rw [stc_size]; omega) ?_
          intro H7 hs7 hst7 hx7
          ((conv => whnf); repeat (any_goals (first | (refine Vc.sts ?_; (conv => whnf)))))
          refine ⟨j + 1, ⟨rfl, trivial⟩, ⟨by omega, ?_, hx6.trans hx7 fun _ _ => id⟩, by omega⟩
          rw [← fin_set F _ j h8, ← fin_hi F (rounds F W 64) j j (Nat.le_refl _)]
          rw [Nat.zero_add] at hst7
          rw [fin_hi F (rounds F W 64) j j (Nat.le_refl _)] at hst7 ⊢
          exact hst7
        · obtain rfl : j = 8 := by omega
          ((conv => whnf); repeat (any_goals (first | (refine Vc.sts ?_; (conv => whnf)))))
          refine ⟨rfl, ?_, ?_⟩
          · have : stc (blk F (ints l)) = stc (fin F (rounds F W 64) 8) := stc_congr _ _ fun i hi => by rw [fin_lo _ _ _ _ hi, hW]; rfl
            rw [this]
            exact hst6
          · have e4 : Ext H H4 := (hx2.trans hx3).but hx4 (by omega)
            have e5 : Ext H H5 := e4.but hx5 (by omega)
            exact e5.only.trans hx6 fun _ _ => id
end Go.Proofs.YtlgcfcdmldlefaaDoor
