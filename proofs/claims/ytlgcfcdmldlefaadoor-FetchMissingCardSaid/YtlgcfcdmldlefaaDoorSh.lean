import Derived.Test.YtlgcfcdmldlefaaDoorSg
set_option linter.unusedVariables false
set_option linter.unusedSimpArgs false
set_option maxRecDepth 100000
/- Sums: the document's sum. -/
namespace Go.Proofs.YtlgcfcdmldlefaaDoor
open Go Go.Vc Go.Sha

theorem grow_eq2 (a16 a15 a7 a2 : Int) : (((a16 + bitB .u32 .xor (bitB .u32 .xor (rr (7 : Int).toNat a15) (rr (18 : Int).toNat a15)) (shrB .u32 a15 3)) % 4294967296 + a7) % 4294967296 +
    bitB .u32 .xor (bitB .u32 .xor (rr (17 : Int).toNat a2) (rr (19 : Int).toNat a2)) (shrB .u32 a2 10)) % 4294967296 = grow a16 a15 a7 a2 := grow_eq a16 a15 a7 a2
def one1 (f : Nat → Int) (r x : Int) : Int := ((((f 7 + bitB .u32 .xor (bitB .u32 .xor (rr (6 : Int).toNat (f 4)) (rr (11 : Int).toNat (f 4))) (rr (25 : Int).toNat (f 4))) % 4294967296 +
      bitB .u32 .xor (bitB .u32 .and (f 4) (f 5)) (bitB .u32 .and (bitB .u32 .xor (if IntKind.u32.signed then -1 else IntKind.u32.max) (f 4)) (f 6))) % 4294967296 + r) % 4294967296 + x) % 4294967296
def two1 (f : Nat → Int) : Int := (bitB .u32 .xor (bitB .u32 .xor (rr (2 : Int).toNat (f 0)) (rr (13 : Int).toNat (f 0))) (rr (22 : Int).toNat (f 0)) +
        bitB .u32 .xor (bitB .u32 .xor (bitB .u32 .and (f 0) (f 1)) (bitB .u32 .and (f 0) (f 2))) (bitB .u32 .and (f 1) (f 2))) % 4294967296
theorem s8_at {f g : Nat → Int} (h : s8 f = s8 g) (i : Nat) (hi : i < 8) : f i = g i := by
  have h1 := s8_get f i hi
  have h2 := s8_get g i hi
  rw [h, h2] at h1
  injection h1 with h1
  injection h1 with _ h1
  exact h1.symm
theorem nx_four (f : Nat → Int) (r x : Int) : (f 3 + one1 f r x) % 4294967296 = nx f r x 4 := by
  have h := s8_nx f r x
  have h4 := congrArg (fun a : Array Value => a[4]?) h
  rw [s8_get _ 4 (by omega)] at h4
  have e : ((s8 (sh f)).setIfInBounds 0 (.int .u32 (one1 f r x))).setIfInBounds 4 (.int .u32 ((f 3 + one1 f r x) % 4294967296)) = ((s8 (sh f)).setIfInBounds 0 (.int .u32 (one1 f r x))).setIfInBounds 4 (.int .u32 ((f 3 + one1 f r x) % 4294967296)) := rfl
  have h5 : some (Value.int .u32 ((f 3 + one1 f r x) % 4294967296)) = some (Value.int .u32 (nx f r x 4)) := h4
  injection h5 with h5
  injection h5
theorem nx_zero (f : Nat → Int) (r x : Int) : (one1 f r x + two1 f) % 4294967296 = nx f r x 0 := by
  have h := s8_nx f r x
  have h4 := congrArg (fun a : Array Value => a[0]?) h
  rw [s8_get _ 0 (by omega)] at h4
  have h5 : some (Value.int .u32 ((one1 f r x + two1 f) % 4294967296)) = some (Value.int .u32 (nx f r x 0)) := h4
  injection h5 with h5
  injection h5
theorem s8_set8 (F x : Nat → Int) : ((((((((s8 F).setIfInBounds (0 + 0) (.int .u32 (x 0))).setIfInBounds (0 + 1) (.int .u32 (x 1))).setIfInBounds (0 + 2) (.int .u32 (x 2))).setIfInBounds (0 + 3) (.int .u32 (x 3))).setIfInBounds (0 + 4) (.int .u32 (x 4))).setIfInBounds (0 + 5) (.int .u32 (x 5))).setIfInBounds (0 + 6) (.int .u32 (x 6))).setIfInBounds (0 + 7) (.int .u32 (x 7)) = s8 x := by kernel_rfl
theorem r64_get (k : Nat) (h : k < 64) : r64[0 + k]? = some (.int .u32 (rc k)) := by
  have := stc_hi h0 k h
  unfold stc at this
  rw [Array.getElem?_append_right (show (s8 h0).size ≤ 8 + k by show 8 ≤ _; omega)] at this
  rw [Nat.zero_add, ← this]
  congr 1
  show k = 8 + k - 8
  omega

theorem val_out {K : Value → Heap → Prop} {e : Int} {H : Heap} (h : ∀ x, e = x → K (.int .u32 x) H) : ∀ v H', v = .int .u32 e ∧ H = H' → K v H' := by
  rintro _ _ ⟨rfl, rfl⟩; exact h e rfl
theorem u32v {e : Int} {K : Int → Prop} (h : ∀ x, e % 4294967296 = x → K x) : ArithH .u32 e K := ⟨h _ rfl⟩
set_option maxRecDepth 100000 in
set_option maxHeartbeats 2000000 in
theorem rsum_any (l : List UInt8) (a : Option Addr) (n cap : Nat) (H : Heap) (hr : Row H a (strV l)) (hn : l.length = n) (hm : n ≤ 70368744177664) :
    CallH Tryd.prog 84 [.slice a n cap] H fun v H' => v = .agg (strV (sumL l)).toArray ∧ Ext H H' := by
  refine Vc.CallH.body Tryd.func84 Tryd.call84 rfl (by decide +kernel) rfl ?_
  ((conv => whnf); repeat (any_goals (first | (refine Vc.sts ?_; (conv => whnf)))))
  refine SemH.alloc rfl rfl ?_
  intro H1 hs1 hb1 hx1
  ((conv => whnf); repeat (any_goals (first | (refine Vc.sts ?_; (conv => whnf)))))
  refine ⟨⟨.agg b8, fun w => by kernel_rfl, ?_⟩⟩
  ((conv => whnf); repeat (any_goals (first | (refine Vc.sts ?_; (conv => whnf)))))
  refine SemH.alloc rfl rfl ?_
  intro H2 hs2 hb2 hx2
  have hz2 := hb1.ext hx2
  ((conv => whnf); repeat (any_goals (first | (refine Vc.sts ?_; (conv => whnf)))))
  refine DoH.store_all hb2 rfl rfl rfl (by decide +kernel) ?_
  intro H3 hs3 hb3 hx3
  have hz3 := hz2.but hx3 (by omega)
  clear hb1 hb2 hz2
  ((conv => whnf); repeat (any_goals (first | ((refine (table_any _).mono ?_; rintro _ H4 ⟨rfl, hx4⟩); (conv => whnf)) | (refine Vc.sts ?_; (conv => whnf)))))
  refine SemH.alloc rfl rfl ?_
  intro H5 hs5 hb5 hx5
  have hz5 := (hz3.ext hx4).ext hx5
  have hst5 := (hb3.ext hx4).ext hx5
  have hsz4 := hx4.size
  ((conv => whnf); repeat (any_goals (first | (refine Vc.sts ?_; (conv => whnf)))))
  refine DoH.store_all hb5 rfl rfl rfl (by decide +kernel) ?_
  intro H6 hs6 hb6 hx6
  have hz6 := hz5.but hx6 (by omega)
  have hst6 := hst5.but hx6 (by omega)
  have hx06 : Ext H H6 := ((((hx1.trans hx2).but hx3 (by omega)).trans hx4).trans hx5).but hx6 (by omega)
  clear hz5 hst5 hz3 hb3 hb5
  ((conv => whnf); repeat (any_goals (first | ((refine (pad_any l a n cap _ (hr.ext hx06) hn hm).mono ?_; rintro _ H7 ⟨⟨a', cap', rfl, ho7⟩, hx7⟩); (conv => whnf)) | (refine Vc.sts ?_; (conv => whnf)))))
  have hpl := padL_length l
  have hzl := zc_lt l.length
  have hpb : (padL l).length % 64 = 0 := by have := zc_end l.length; omega
  have hst7 : Blk H7 H1.size (s8 (absorb 0 h0 (ints (padL l)))) 193 := hst6.ext hx7
  have hz7 := hz6.ext hx7
  have hk7 := hb6.ext hx7
  have hrow7 := ho7.row
  have hx07 : Ext H H7 := hx06.trans hx7
  have hsz6 := hx7.size
  generalize hPL : padL l = PL at *
  generalize hst : H1.size = st at *
  generalize htb : H4.size = tb at *
  have hst_lt : H.size < st := by omega
  have htb_lt : st < tb := by omega
  have htb7 : tb < H7.size := by omega
  have ha' : ∀ p, a' = some p → p.block ≠ st ∧ p.block ≠ tb ∧ p.block < H7.size := fun p hp => by have := ho7.block p hp; omega
  clear hx1 hx2 hx3 hx4 hx5 hx6 hx7 hs1 hs2 hs3 hs5 hs6 hst6 hz6 hb6 hx06
  refine LoopH.intro (fun (b : Nat) => [(6, .int .i64 (64 * b : Nat))]) (fun b H' => 64 * b ≤ PL.length ∧ Blk H' H.size (Array.replicate 32 (.int .u8 0)) 59 ∧ Blk H' st (s8 (absorb b h0 (ints PL))) 193 ∧ Blk H' tb r64 195 ∧ Row H' a' (strV PL) ∧ Ext H H' ∧ H7.size ≤ H'.size) (fun b => PL.length - 64 * b) 0 ⟨rfl, trivial⟩ ⟨by omega, hz7, hst7, hk7, hrow7, hx07, Nat.le_refl _⟩ ?_
  intro b H8 ⟨hb, hz8, hst8, hk8, hr8, hx8, hsz8⟩
  clear hz7 hst7 hk7 hrow7 hx07 ho7
  by_cases hlt : 64 * b < PL.length
  · as_aux_lemma =>
    have hdl : 64 ≤ (PL.drop (64 * b)).length := by rw [List.length_drop]; omega
    obtain ⟨W, hW⟩ : ∃ W, W = wd (fun i => (ints (PL.drop (64 * b))).getD i 0) 64 := ⟨_, rfl⟩
    obtain ⟨hlo, hhi, hrg⟩ : Words (fun i => (ints (PL.drop (64 * b))).getD i 0) W := hW ▸ wd_words _
    generalize hF : absorb b h0 (ints PL) = F at hst8
    ((conv => whnf); repeat (any_goals (first | (refine Vc.sts ?_; (conv => whnf)))))
    refine SemH.alloc rfl rfl ?_
    intro H9 hs9 hb9 hx9
    have hb9' : Blk H9 H8.size (Vc.fillA 64 (c32 W) z32 0) 195 := by rw [Vc.fillA_zero]; exact hb9
    clear hb9
    have hst9 := hst8.ext hx9
    have hz9 := hz8.ext hx9
    have hk9 := hk8.ext hx9
    have hr9 := hr8.ext hx9
    have hx9' := hx8.trans hx9
    generalize hw : H8.size = wb at *
    ((conv => whnf); repeat (any_goals (first | (refine Vc.sts ?_; (conv => whnf)))))
    refine LoopH.intro (fun (k : Nat) => [(8, .int .i64 k)]) (fun k H' => k ≤ 16 ∧ Blk H' wb (Vc.fillA 64 (c32 W) z32 k) 195 ∧ But wb H9 H') (fun k => 16 - k) 0 ⟨rfl, trivial⟩ ⟨by omega, hb9', Only.refl _ _⟩ ?_
    intro k H10 ⟨hk, hb10, hx10⟩
    by_cases hk16 : k < 16
    · as_aux_lemma =>
      have hr10 := hr9.keep hx10 fun p hp => by have := ha' p hp; omega
      ((conv => whnf); repeat (any_goals (first | ((refine IdxA.bytes hr10 rfl (by omega) (by omega) ?_; intro _ _ _ hc); (conv => whnf)) | (((with_reducible apply SemH.load); (focus (rfl)); (focus (exact hc))); (conv => whnf)) | ((refine ArithH.byte32 ?_); (conv => whnf)) | ((refine IdxH.nat k rfl (by omega) ?_); (conv => whnf)) | (refine Vc.sts ?_; (conv => whnf)))))
      refine DoH.store1 hb10 rfl rfl rfl (by rw [Vc.fillA_size]; omega) ?_
      intro H11 hs11 hb11 hx11
      ((conv => whnf); repeat (any_goals (first | (refine Vc.sts ?_; (conv => whnf)))))
      refine ⟨k + 1, ⟨rfl, trivial⟩, ⟨by omega, ?_, hx10.trans hx11 fun _ _ => id⟩, by omega⟩
      have e : bitB .u32 .or (bitB .u32 .or (bitB .u32 .or (shlB .u32 (PL.getD (((64 * b : Nat) : Int) + 4 * (k : Int)).toNat 0).toNat 24) (shlB .u32 (PL.getD (((64 * b : Nat) : Int) + 4 * (k : Int) + 1).toNat 0).toNat 16)) (shlB .u32 (PL.getD (((64 * b : Nat) : Int) + 4 * (k : Int) + 2).toNat 0).toNat 8)) (PL.getD (((64 * b : Nat) : Int) + 4 * (k : Int) + 3).toNat 0).toNat = W k := by
        have hd : ∀ i, (PL.drop (64 * b)).getD i 0 = PL.getD (64 * b + i) 0 := fun i => by simp [List.getD_eq_getElem?_getD]
        rw [(shl_byte _).1, (shl_byte _).2.1, (shl_byte _).2.2, hlo k hk16]
        simp only [word, ints_get, bitB_or, hd]
        rw [show (((64 * b : Nat) : Int) + 4 * (k : Int)).toNat = 64 * b + 4 * k by omega, show (((64 * b : Nat) : Int) + 4 * (k : Int) + 1).toNat = 64 * b + (4 * k + 1) by omega, show (((64 * b : Nat) : Int) + 4 * (k : Int) + 2).toNat = 64 * b + (4 * k + 2) by omega, show (((64 * b : Nat) : Int) + 4 * (k : Int) + 3).toNat = 64 * b + (4 * k + 3) by omega]
      rw [Nat.zero_add, e] at hb11
      rw [← Vc.fillA_set 64 (c32 W) z32 k (by omega)]
      exact hb11
    · as_aux_lemma =>
      obtain rfl : k = 16 := by omega
      ((conv => whnf); repeat (any_goals (first | (refine Vc.sts ?_; (conv => whnf)))))
      refine LoopH.intro (fun (k : Nat) => [(9, .int .i64 k)]) (fun k H' => 16 ≤ k ∧ k ≤ 64 ∧ Blk H' wb (Vc.fillA 64 (c32 W) z32 k) 195 ∧ But wb H9 H') (fun k => 64 - k) 16 ⟨rfl, trivial⟩ ⟨by omega, by omega, hb10, hx10⟩ ?_
      intro k H12 ⟨hk1, hk2, hb12, hx12⟩
      by_cases hk64 : k < 64
      · as_aux_lemma =>
        have hc : ∀ j, j < k → (Vc.fillA 64 (c32 W) z32 k)[0 + j]? = some (.int .u32 (W j)) := fun j hj => by rw [Nat.zero_add, Vc.fillA_lo _ _ _ _ _ (by omega) hj]; rfl
        ((conv => whnf); repeat (any_goals (first | ((refine ArithH.u32m ?_); (conv => whnf)) | ((refine IdxH.nat (k - 15) (by omega) (by omega) ?_); (conv => whnf)) | ((refine IdxH.nat (k - 2) (by omega) (by omega) ?_); (conv => whnf)) | ((refine IdxH.nat (k - 16) (by omega) (by omega) ?_); (conv => whnf)) | ((refine IdxH.nat (k - 7) (by omega) (by omega) ?_); (conv => whnf)) | ((refine IdxH.nat k rfl (by omega) ?_); (conv => whnf)) | (((with_reducible apply SemH.load_at hb12); (focus (rfl)); (focus (exact hc _ (by omega)))); (conv => whnf)) | ((refine (turn_any _ _ (by omega) (by omega) _).mono ?_; rintro _ _ ⟨rfl, rfl⟩); (conv => whnf)) | (((with_reducible refine Vc.DrawH.held [0, 1, 2, 3, 4, 5, 7, 10, 11, 14, 15, 16, 17, 19, 21, 24, 25, 6, 8, 9, 12, 13, 18, 20, 22, 23, 26, 27, 28, 29] [(6, [4, 17]), (8, [4, 17]), (20, [4, 17]), (22, [4, 17])] mixed (by decide +kernel) ?_)); (conv => whnf)) | ((refine StillsH.load rfl rfl rfl rfl rfl rfl (SemH.load_at hb12 rfl (hc _ (by omega)) rfl) ?_); (conv => whnf)) | (refine Vc.sts ?_; (conv => whnf)))))
        refine DoH.store1 hb12 rfl rfl rfl (by rw [Vc.fillA_size]; omega) ?_
        intro H13 hs13 hb13 hx13
        ((conv => whnf); repeat (any_goals (first | (refine Vc.sts ?_; (conv => whnf)))))
        refine ⟨k + 1, ⟨rfl, trivial⟩, ⟨by omega, by omega, ?_, hx12.trans hx13 fun _ _ => id⟩, by omega⟩
        rw [Nat.zero_add, grow_eq2, ← hhi k hk1 hk64] at hb13
        rw [← Vc.fillA_set 64 (c32 W) z32 k (by omega)]
        exact hb13
      · as_aux_lemma =>
        obtain rfl : k = 64 := by omega
        clear hb10 hx10 hb9'
        have hst12 := hst9.but hx12 (by omega)
        have hz12 := hz9.but hx12 (by omega)
        have hk12 := hk9.but hx12 (by omega)
        have hr12 := hr9.keep hx12 fun p hp => by have := ha' p hp; omega
        have hx12' : Ext H H12 := hx9'.but hx12 (by omega)
        have hsz12 := hx12.size
        ((conv => whnf); repeat (any_goals (first | ((refine IdxH.nat _ rfl (by decide) ?_); (conv => whnf)) | (((with_reducible apply SemH.load_at hst12); (focus (rfl)); (focus (rfl))); (conv => whnf)) | (refine Vc.sts ?_; (conv => whnf)))))
        refine LoopH.intro (fun (k : Nat) => [(20, .int .i64 k), (12, .int .u32 (rounds F W k 0)), (13, .int .u32 (rounds F W k 1)), (14, .int .u32 (rounds F W k 2)), (15, .int .u32 (rounds F W k 3)), (16, .int .u32 (rounds F W k 4)), (17, .int .u32 (rounds F W k 5)), (18, .int .u32 (rounds F W k 6)), (19, .int .u32 (rounds F W k 7))])
          (fun k H' => k ≤ 64 ∧ H' = H12) (fun k => 64 - k) 0 ⟨rfl, rfl, rfl, rfl, rfl, rfl, rfl, rfl, rfl, trivial⟩ ⟨by omega, rfl⟩ ?_
        rintro k _ ⟨hk, rfl⟩
        by_cases hk64 : k < 64
        · as_aux_lemma =>
          have hrc := rc_in k
          have hWk := hrg k
          have hcW := fillA_lo0 64 (c32 W) z32 64 k hk64 hk64
          have hcR := r64_get k hk64
          replace hcW : (fillA 64 (c32 W) z32 64)[0 + k]? = some (.int .u32 (W k)) := hcW
          generalize hrk : rc k = rk at hcR hrc
          generalize hwk : W k = wk at hcW hWk
          generalize hR : rounds F W k = R
          ((conv => whnf); repeat (any_goals (first | ((with_reducible refine u32v ?_; intro x hx); (conv => whnf)) | ((refine IdxH.nat k rfl (by omega) ?_); (conv => whnf)) | ((refine (turn_any _ _ (by omega) (by omega) _).mono ?_; with_reducible refine val_out ?_; intro x hx); (conv => whnf)) | (((with_reducible apply SemH.load_at hb12); (focus (rfl)); (focus (exact hcW))); (conv => whnf)) | (((with_reducible apply SemH.load_at hk12); (focus (rfl)); (focus (exact hcR))); (conv => whnf)) | (((with_reducible refine Vc.DrawH.held [0, 1, 3, 6, 10, 11, 12, 13, 14, 15, 16, 17, 19, 20, 21, 23, 24, 25, 2, 4, 5, 7, 8, 9, 18, 22, 26, 27] [(2, [21, 25]), (4, [21, 25]), (7, [21, 25])] mixed (by decide +kernel) ?_)); (conv => whnf)) | ((refine StillsH.load rfl rfl rfl rfl rfl rfl (SemH.load_at hk12 rfl hcR rfl) ?_); (conv => whnf)) | ((refine StillsH.load rfl rfl rfl rfl rfl rfl (SemH.load_at hb12 rfl hcW rfl) ?_); (conv => whnf)) | (refine Vc.sts ?_; (conv => whnf)))))
          rename_i y1 e1 y2 e2 y3 e3 y4 e4 y5 e5 y6 e6 y7 e7 y8 e8 y9 e9 y10 e10 y11 e11 y12 e12
          have hnx : rounds F W (k + 1) = nx R rk wk := by show nx (rounds F W k) (rc k) (W k) = _; rw [hR, hrk, hwk]
          have q4 : x = nx R rk wk 4 := by rw [← nx_four]; unfold one1; rw [e1, e2, e3, e4, e5, e6, e7, hx]
          have q0 : y12 = nx R rk wk 0 := by rw [← nx_zero]; unfold one1 two1; rw [e1, e2, e3, e4, e5, e6, e7, e8, e9, e10, e11, e12]
          refine ⟨k + 1, ?_, ⟨by omega, rfl⟩, by omega⟩
          dsimp only
          rw [hnx, ← q4, ← q0]
          exact ⟨rfl, rfl, rfl, rfl, rfl, rfl, rfl, rfl, rfl, trivial⟩
        · as_aux_lemma =>
          obtain rfl : k = 64 := by omega
          generalize hR : rounds F W 64 = R
          ((conv => whnf); repeat (any_goals (first | ((refine ArithH.u32m ?_); (conv => whnf)) | ((refine IdxH.nat _ rfl (by decide) ?_); (conv => whnf)) | (((with_reducible apply SemH.load_at hst12); (focus (rfl)); (focus (rfl))); (conv => whnf)) | (refine Vc.sts ?_; (conv => whnf)))))
          refine DoH.store1 (o := 0 + 0) hst12 rfl rfl rfl (by show 0 + 0 < 8; omega) ?_
          intro K1 hs1 hk1 hy1
          ((conv => whnf); repeat (any_goals (first | ((refine IdxH.nat _ rfl (by decide) ?_); (conv => whnf)) | (refine Vc.sts ?_; (conv => whnf)))))
          refine DoH.store1 (o := 0 + 1) hk1 rfl rfl rfl (by simp only [Array.size_setIfInBounds]; show 0 + 1 < 8; omega) ?_
          intro K2 hs2 hk2 hy2
          ((conv => whnf); repeat (any_goals (first | ((refine IdxH.nat _ rfl (by decide) ?_); (conv => whnf)) | (refine Vc.sts ?_; (conv => whnf)))))
          refine DoH.store1 (o := 0 + 2) hk2 rfl rfl rfl (by simp only [Array.size_setIfInBounds]; show 0 + 2 < 8; omega) ?_
          intro K3 hs3 hk3 hy3
          ((conv => whnf); repeat (any_goals (first | ((refine IdxH.nat _ rfl (by decide) ?_); (conv => whnf)) | (refine Vc.sts ?_; (conv => whnf)))))
          refine DoH.store1 (o := 0 + 3) hk3 rfl rfl rfl (by simp only [Array.size_setIfInBounds]; show 0 + 3 < 8; omega) ?_
          intro K4 hs4 hk4 hy4
          ((conv => whnf); repeat (any_goals (first | ((refine ArithH.u32m ?_); (conv => whnf)) | ((refine IdxH.nat _ rfl (by decide) ?_); (conv => whnf)) | (((with_reducible apply SemH.load_at hk4); (focus (rfl)); (focus (rfl))); (conv => whnf)) | (refine Vc.sts ?_; (conv => whnf)))))
          refine DoH.store1 (o := 0 + 4) hk4 rfl rfl rfl (by simp only [Array.size_setIfInBounds]; show 0 + 4 < 8; omega) ?_
          intro K5 hs5 hk5 hy5
          ((conv => whnf); repeat (any_goals (first | ((refine IdxH.nat _ rfl (by decide) ?_); (conv => whnf)) | (refine Vc.sts ?_; (conv => whnf)))))
          refine DoH.store1 (o := 0 + 5) hk5 rfl rfl rfl (by simp only [Array.size_setIfInBounds]; show 0 + 5 < 8; omega) ?_
          intro K6 hs6 hk6 hy6
          ((conv => whnf); repeat (any_goals (first | ((refine IdxH.nat _ rfl (by decide) ?_); (conv => whnf)) | (refine Vc.sts ?_; (conv => whnf)))))
          refine DoH.store1 (o := 0 + 6) hk6 rfl rfl rfl (by simp only [Array.size_setIfInBounds]; show 0 + 6 < 8; omega) ?_
          intro K7 hs7 hk7 hy7
          ((conv => whnf); repeat (any_goals (first | ((refine IdxH.nat _ rfl (by decide) ?_); (conv => whnf)) | (refine Vc.sts ?_; (conv => whnf)))))
          refine DoH.store1 (o := 0 + 7) hk7 rfl rfl rfl (by simp only [Array.size_setIfInBounds]; show 0 + 7 < 8; omega) ?_
          intro K8 hs8 hk8 hy8
          ((conv => whnf); repeat (any_goals (first | (refine Vc.sts ?_; (conv => whnf)))))
          rename_i H12
          have hy : But st H12 K8 := (((((((hy1.trans hy2 fun _ _ => id).trans hy3 fun _ _ => id).trans hy4 fun _ _ => id).trans hy5 fun _ _ => id).trans hy6 fun _ _ => id).trans hy7 fun _ _ => id).trans hy8 fun _ _ => id)
          have hs := hy.size
          refine ⟨b + 1, ⟨?_, trivial⟩, ⟨by omega, hz12.but hy (by omega), ?_, hk12.but hy (by omega), hr12.keep hy fun p hp => (by have := ha' p hp; omega), hx12'.but hy (by omega), by omega⟩, by omega⟩
          · show Value.int _ _ = Value.int _ _
            rw [show ((64 * b : Nat) : Int) + 64 = (64 * (b + 1) : Nat) by omega]
          · have e8 := s8_set8 F (sumF F R)
            have hfin : absorb (b + 1) h0 (ints PL) = sumF F R := by
              rw [absorb_succ, blk_take, hF, ints_drop]
              unfold blk
              rw [← hW, hR]
            rw [hfin, ← e8]
            exact hk8
  · as_aux_lemma =>
    have hbe : b = PL.length / 64 := by omega
    subst hbe
    have hdone : absorb (PL.length / 64) h0 (ints PL) = shaH (ints l) := by
      unfold shaH
      rw [← hPL, ints_pad, ← ints_pad, ints_length]
    rw [hdone] at hst8
    have hlt8 := hst8.lt
    ((conv => whnf); repeat (any_goals (first | (refine Vc.sts ?_; (conv => whnf)))))
    refine SemH.alloc rfl rfl ?_
    intro H11 hs11 hb11 hx11
    ((conv => whnf); repeat (any_goals (first | (refine Vc.sts ?_; (conv => whnf)))))
    refine LoopH.intro (fun (i : Nat) => [(24, .int .i64 i)]) (fun i H' => i ≤ 32 ∧ Blk H' H8.size (tab 32 (sumV (shaH (ints l)) i)) 59 ∧ Blk H' st (s8 (shaH (ints l))) 193 ∧ Blk H' H.size (Array.replicate 32 (.int .u8 0)) 59 ∧ Ext H H') (fun i => 32 - i) 0 ⟨rfl, trivial⟩ ⟨by omega, by rw [sumV_zero]; exact hb11, hst8.ext hx11, hz8.ext hx11, hx8.trans hx11⟩ ?_
    intro i H12 ⟨hi, hb12, hst12, hz12, hx12⟩
    by_cases hi32 : i < 32
    · as_aux_lemma =>
      have hv := s8_get0 (shaH (ints l)) (i / 4) (by omega)
      ((conv => whnf); repeat (any_goals (first | ((refine IdxH.nat (i / 4) (by omega) (by omega) ?_); (conv => whnf)) | ((refine IdxH.nat i rfl (by omega) ?_); (conv => whnf)) | (((with_reducible apply SemH.load_at hst12); (focus (rfl)); (focus (exact hv))); (conv => whnf)) | ((refine ArithH.u8m ?_); (conv => whnf)) | (refine Vc.sts ?_; (conv => whnf)))))
      refine DoH.store1 (o := 0 + i) hb12 rfl rfl rfl (by rw [tab_size]; omega) ?_
      intro H13 hs13 hb13 hx13
      ((conv => whnf); repeat (any_goals (first | (refine Vc.sts ?_; (conv => whnf)))))
      refine ⟨i + 1, ⟨rfl, trivial⟩, ⟨by omega, ?_, hst12.but hx13 (by omega), hz12.but hx13 (by omega), hx12.but hx13 (by omega)⟩, by omega⟩
      have e1 : shrB .u32 (shaH (ints l) (i / 4)) (24 - 8 * ((i : Int) % 4)) % 256 = shaH (ints l) (i / 4) / 2 ^ (24 - 8 * (i % 4)) % 256 := by
        rw [show (24 - 8 * ((i : Int) % 4)) = ((24 - 8 * (i % 4) : Nat) : Int) by omega, shr_nat _ (by omega)]
      rw [Nat.zero_add, e1, sumV_set] at hb13
      exact hb13
    · as_aux_lemma =>
      obtain rfl : i = 32 := by omega
      ((conv => whnf); repeat (any_goals (first | (refine Vc.sts ?_; (conv => whnf)))))
      refine SemH.load_blk hb12 rfl rfl (by rw [tab_size]; rfl) ?_
      ((conv => whnf); repeat (any_goals (first | (refine Vc.sts ?_; (conv => whnf)))))
      refine DoH.store_all hz12 rfl (by rw [tab_size]; rfl) (by rw [tab_size]; rfl) (sumV_plain _ _) ?_
      intro H13 hs13 hb13 hx13
      ((conv => whnf); repeat (any_goals (first | (refine Vc.sts ?_; (conv => whnf)))))
      refine SemH.load_blk hb13 rfl rfl (by rw [tab_size]; rfl) ?_
      ((conv => whnf); repeat (any_goals (first | (refine Vc.sts ?_; (conv => whnf)))))
      refine ⟨rfl, ?_⟩
      (conv => whnf)
      refine ⟨?_, hx12.but hx13 (by omega)⟩
      rw [sumV_done]; rfl
end Go.Proofs.YtlgcfcdmldlefaaDoor
