import Derived.WalkKit
import Derived.KernelRfl
import Derived.Test.YtjcmcmogbkdjcaaDoorRows
import Derived.Test.YtjcmcmogbkdjcaaDoorKb
import Derived.Test.YtjcmcmogbkdjcaaDoorKh
set_option linter.unusedVariables false
set_option linter.unusedSimpArgs false
set_option maxRecDepth 100000
/-
  Plain words for SHA-256, in the walk's own spelling of sums, shifts and bits.
-/
namespace Go.Sha
def H0 : List Int := [1779033703, 3144134277, 1013904242, 2773480762, 1359893119, 2600822924, 528734635, 1541459225]
def RC : List Int := [1116352408, 1899447441, 3049323471, 3921009573, 961987163, 1508970993, 2453635748, 2870763221, 3624381080, 310598401, 607225278, 1426881987, 1925078388, 2162078206, 2614888103, 3248222580, 3835390401, 4022224774, 264347078, 604807628, 770255983, 1249150122, 1555081692, 1996064986, 2554220882, 2821834349, 2952996808, 3210313671, 3336571891, 3584528711, 113926993, 338241895, 666307205, 773529912, 1294757372, 1396182291, 1695183700, 1986661051, 2177026350, 2456956037, 2730485921, 2820302411, 3259730800, 3345764771, 3516065817, 3600352804, 4094571909, 275423344, 430227734, 506948616, 659060556, 883997877, 958139571, 1322822218, 1537002063, 1747873779, 1955562222, 2024104815, 2227730452, 2361852424, 2428436474, 2756734187, 3204031479, 3329325298]
def u32s (l : List Int) : Array Value := (l.map (Value.int .u32)).toArray
def b8 : Array Value := u32s H0
def r64 : Array Value := u32s RC

/-- rotated to the right by k -/
def rr (k : Nat) (x : Int) : Int := bits .or .u32 (x / 2 ^ k) (x * 2 ^ (32 - k) % 4294967296)

def In (x : Int) : Prop := 0 ≤ x ∧ x ≤ 4294967295

theorem bits_or_comm (a b : Int) : bits .or .u32 a b = bits .or .u32 b a := by
  simp only [bits, BitVec.or_comm]

theorem bits_in (op : BinOp) (a b : Int) : In (bits op .u32 a b) := by
  have hw : ∀ n : Int, In (IntKind.u32.wrap n) := fun n => by
    simp only [IntKind.wrap, IntKind.bits, IntKind.signed, In]
    simp
    omega
  unfold bits
  cases op <;> first | exact hw _ | (simp [In])
theorem and31 : ∀ k : Fin 32, 0 < k.val → bits .and .u64 (IntKind.u64.wrap (-(k.val : Int))) 31 = 32 - k.val := by decide +kernel

def c32 (f : Nat → Int) (i : Nat) : Value := .int .u32 (f i)
def z32 : Value := .int .u32 0
/-- the block's words -/
def word (B : Nat → Int) (k : Nat) : Int := bits .or .u32 (bits .or .u32 (bits .or .u32 (B (4 * k) * 16777216) (B (4 * k + 1) * 65536)) (B (4 * k + 2) * 256)) (B (4 * k + 3))
def sg0 (x : Int) : Int := bits .xor .u32 (bits .xor .u32 (rr 7 x) (rr 18 x)) (x / 8)
def sg1 (y : Int) : Int := bits .xor .u32 (bits .xor .u32 (rr 17 y) (rr 19 y)) (y / 1024)
def grow (a16 a15 a7 a2 : Int) : Int := (a16 + sg0 a15 + a7 + sg1 a2) % 4294967296

structure Words (B W : Nat → Int) : Prop where
  lo : ∀ k, k < 16 → W k = word B k
  hi : ∀ k, 16 ≤ k → k < 64 → W k = grow (W (k - 16)) (W (k - 15)) (W (k - 7)) (W (k - 2))
  rng : ∀ k, 0 ≤ W k ∧ W k ≤ 4294967295

def s8 (f : Nat → Int) : Array Value := #[.int .u32 (f 0), .int .u32 (f 1), .int .u32 (f 2), .int .u32 (f 3), .int .u32 (f 4), .int .u32 (f 5), .int .u32 (f 6), .int .u32 (f 7)]
def z8 : Array Value := #[z32, z32, z32, z32, z32, z32, z32, z32]
def rc (k : Nat) : Int := RC.getD k 0
/-- the state's block: eight words, the words of the rounds -/
def stc (f : Nat → Int) : Array Value := s8 f ++ r64
theorem s8_get (f : Nat → Int) (i : Nat) (h : i < 8) : (s8 f)[i]? = some (.int .u32 (f i)) := by
  match i, h with
  | 0, _ => rfl
  | 1, _ => rfl
  | 2, _ => rfl
  | 3, _ => rfl
  | 4, _ => rfl
  | 5, _ => rfl
  | 6, _ => rfl
  | 7, _ => rfl
theorem stc_lo (f : Nat → Int) (i : Nat) (h : i < 8) : (stc f)[i]? = some (.int .u32 (f i)) := by
  unfold stc
  rw [Array.getElem?_append_left (show i < (s8 f).size from h), s8_get f i h]
theorem stc_hi (f : Nat → Int) (k : Nat) (h : k < 64) : (stc f)[8 + k]? = some (.int .u32 (rc k)) := by
  unfold stc
  rw [Array.getElem?_append_right (by simp [s8])]
  have : (s8 f).size = 8 := rfl
  rw [this, show 8 + k - 8 = k by omega]
  have hl : RC.length = 64 := by decide +kernel
  have hk : k < RC.length := by omega
  simp [r64, u32s, rc, hk]
theorem rc_in (k : Nat) : 0 ≤ rc k ∧ rc k ≤ 4294967295 := by
  unfold rc
  by_cases hk : k < RC.length
  · have : ∀ x ∈ RC, 0 ≤ x ∧ x ≤ 4294967295 := by decide +kernel
    have := this RC[k] (List.getElem_mem hk)
    simpa [hk] using this
  · have : RC[k]? = none := by simp; omega
    simp [this]

def sh (f : Nat → Int) : Nat → Int
  | 0 => f 0
  | i + 1 => f i
def s7 (f : Nat → Int) : List Value := [.int .u32 (f 0), .int .u32 (f 1), .int .u32 (f 2), .int .u32 (f 3), .int .u32 (f 4), .int .u32 (f 5), .int .u32 (f 6)]
theorem s7_src (f : Nat → Int) (w : World) (g : Nat) (t : TypeId) (fr : Nat × Nat) (h : w.heap[g]? = some (.cells (s8 f) t fr)) (j : Nat) (v : Value) (hj : (s7 f)[j]? = some v) :
    w.cell? ((⟨g, 0, none⟩ : Addr).add j) = some v := by
  have hadd : (⟨g, 0, none⟩ : Addr).add j = ⟨g, j, none⟩ := by unfold Addr.add; split <;> simp_all
  rw [hadd, show w.cell? ⟨g, j, none⟩ = (s8 f)[j]? by simp [World.cell?, h]]
  match j, hj with
  | 0, hj => exact hj
  | 1, hj => exact hj
  | 2, hj => exact hj
  | 3, hj => exact hj
  | 4, hj => exact hj
  | 5, hj => exact hj
  | 6, hj => exact hj
theorem s7_one (f : Nat → Int) : ∀ v ∈ s7 f, v.oneCell' = true := by
  intro v hv; simp [s7] at hv; rcases hv with h | h | h | h | h | h | h <;> subst h <;> rfl
theorem s8_one (f : Nat → Int) : ∀ v ∈ (s8 f).toList, v.oneCell' = true := by
  intro v hv; simp [s8] at hv; rcases hv with h | h | h | h | h | h | h | h <;> subst h <;> rfl

def t1 (f : Nat → Int) (r x : Int) : Int :=
  f 7 + bits .xor .u32 (bits .xor .u32 (rr 6 (f 4)) (rr 11 (f 4))) (rr 25 (f 4)) + bits .xor .u32 (bits .and .u32 (f 4) (f 5)) (bits .and .u32 (bits .xor .u32 IntKind.u32.max (f 4)) (f 6)) + r + x
def t2 (f : Nat → Int) : Int :=
  bits .xor .u32 (bits .xor .u32 (rr 2 (f 0)) (rr 13 (f 0))) (rr 22 (f 0)) + bits .xor .u32 (bits .xor .u32 (bits .and .u32 (f 0) (f 1)) (bits .and .u32 (f 0) (f 2))) (bits .and .u32 (f 1) (f 2))
/-- one round -/
def nx (f : Nat → Int) (r x : Int) : Nat → Int
  | 0 => (t1 f r x + t2 f) % 4294967296
  | 1 => f 0
  | 2 => f 1
  | 3 => f 2
  | 4 => (f 3 + t1 f r x) % 4294967296
  | 5 => f 4
  | 6 => f 5
  | 7 => f 6
  | _ => 0
/-- what is left of a block: k of the eight words summed up -/
def fin (H R : Nat → Int) (k i : Nat) : Int := if i < k then (H i + R i) % 4294967296 else H i
theorem fin_lo (H R : Nat → Int) (k i : Nat) (h : i < k) : fin H R k i = (H i + R i) % 4294967296 := by unfold fin; rw [if_pos h]
theorem fin_hi (H R : Nat → Int) (k i : Nat) (h : k ≤ i) : fin H R k i = H i := by unfold fin; rw [if_neg (by omega)]
theorem fin_zero (H R : Nat → Int) : fin H R 0 = H := by funext i; exact fin_hi H R 0 i (by omega)
theorem stc_set (f g : Nat → Int) (k : Nat) (hk : k < 8) (h : ∀ i, i ≠ k → f i = g i) : (stc f).setIfInBounds k (.int .u32 (g k)) = stc g := by
  apply Array.ext_getElem?
  intro i
  have hsz : ∀ f, (stc f).size = 8 + r64.size := fun f => by simp [stc, s8]
  by_cases hi : k = i
  · subst hi
    rw [Array.getElem?_setIfInBounds_self_of_lt (by rw [hsz]; omega), stc_lo g k hk]
  · rw [Array.getElem?_setIfInBounds_ne hi]
    by_cases h8 : i < 8
    · rw [stc_lo f i h8, stc_lo g i h8, h i (Ne.symm hi)]
    · unfold stc
      rw [Array.getElem?_append_right (show (s8 f).size ≤ i by show 8 ≤ i; omega), Array.getElem?_append_right (show (s8 g).size ≤ i by show 8 ≤ i; omega)]
      rfl
theorem fin_set (H R : Nat → Int) (k : Nat) (hk : k < 8) : (stc (fin H R k)).setIfInBounds k (.int .u32 ((H k + R k) % 4294967296)) = stc (fin H R (k + 1)) := by
  have := stc_set (fin H R k) (fin H R (k + 1)) k hk (fun i hi => by
    unfold fin
    by_cases h : i < k
    · rw [if_pos h, if_pos (by omega)]
    · rw [if_neg h, if_neg (by omega)])
  rw [fin_lo _ _ _ _ (by omega)] at this
  exact this
/-- the state behind a block -/
def sumF (H R : Nat → Int) (i : Nat) : Int := (H i + R i) % 4294967296
theorem stc_congr (f g : Nat → Int) (h : ∀ i, i < 8 → f i = g i) : stc f = stc g := by
  unfold stc s8
  rw [h 0 (by omega), h 1 (by omega), h 2 (by omega), h 3 (by omega), h 4 (by omega), h 5 (by omega), h 6 (by omega), h 7 (by omega)]
end Go.Sha
/-
  Plain law: the sum of a text, block by block; cut into parts or not.
-/
namespace Go.Sha

/-- the words of a block's rounds, the first n of them -/
def wd (B : Nat → Int) : Nat → Nat → Int
  | 0, _ => 0
  | n + 1, i => if i = n then (if n < 16 then word B n else grow (wd B n (n - 16)) (wd B n (n - 15)) (wd B n (n - 7)) (wd B n (n - 2))) else wd B n i
theorem wd_stay (B : Nat → Int) (i : Nat) : ∀ n, i < n → wd B n i = wd B (i + 1) i
  | 0, h => by omega
  | n + 1, h => by
    by_cases hi : i = n
    · rw [hi]
    · have : wd B (n + 1) i = wd B n i := by show (if i = n then _ else wd B n i) = _; rw [if_neg hi]
      rw [this, wd_stay B i n (by omega)]
theorem wd_out (B : Nat → Int) (i : Nat) : ∀ n, n ≤ i → wd B n i = 0
  | 0, _ => rfl
  | n + 1, h => by
    show (if i = n then _ else wd B n i) = 0
    rw [if_neg (by omega), wd_out B i n (by omega)]
theorem wd_words (B : Nat → Int) : Words B (wd B 64) := by
  have step : ∀ k, k < 64 → wd B 64 k = if k < 16 then word B k else grow (wd B k (k - 16)) (wd B k (k - 15)) (wd B k (k - 7)) (wd B k (k - 2)) := fun k hk => by
    rw [wd_stay B k 64 hk]
    show (if k = k then _ else _) = _
    rw [if_pos rfl]
  refine ⟨fun k hk => by rw [step k (by omega), if_pos hk], fun k h16 h64 => ?_, fun k => ?_⟩
  · rw [step k h64, if_neg (by omega)]
    have e : ∀ j, 0 < j → j ≤ 16 → wd B k (k - j) = wd B 64 (k - j) := fun j h0 hj => by rw [wd_stay B (k - j) k (by omega), wd_stay B (k - j) 64 (by omega)]
    rw [e 16 (by omega) (by omega), e 15 (by omega) (by omega), e 7 (by omega) (by omega), e 2 (by omega) (by omega)]
  · by_cases hk : k < 64
    · rw [step k hk]
      split
      · exact bits_in _ _ _
      · unfold grow; omega
    · rw [wd_out B k 64 (by omega)]; omega

def rounds (H W : Nat → Int) : Nat → Nat → Int
  | 0 => H
  | k + 1 => nx (rounds H W k) (rc k) (W k)

/-- one block -/
def blk (H : Nat → Int) (l : List Int) : Nat → Int := sumF H (rounds H (wd (fun i => l.getD i 0) 64) 64)

/-- k blocks -/
def absorb : Nat → (Nat → Int) → List Int → (Nat → Int)
  | 0, H, _ => H
  | k + 1, H, l => absorb k (blk H (l.take 64)) (l.drop 64)

theorem absorb_add (a : Nat) : ∀ (b : Nat) (H : Nat → Int) (l : List Int), absorb (a + b) H l = absorb b (absorb a H l) (l.drop (64 * a)) := by
  induction a with
  | zero => intro b H l; simp [absorb]
  | succ a ih =>
    intro b H l
    rw [show a + 1 + b = (a + b) + 1 by omega]
    simp only [absorb]
    rw [ih, List.drop_drop, show 64 + 64 * a = 64 * (a + 1) by omega]
theorem absorb_one (H : Nat → Int) (l : List Int) : absorb 1 H l = blk H (l.take 64) := rfl
theorem absorb_succ (k : Nat) (H : Nat → Int) (l : List Int) : absorb (k + 1) H l = blk (absorb k H l) ((l.drop (64 * k)).take 64) := by
  rw [absorb_add k 1, absorb_one]
theorem absorb_append (k : Nat) : ∀ (H : Nat → Int) (l m : List Int), 64 * k ≤ l.length → absorb k H (l ++ m) = absorb k H l := by
  induction k with
  | zero => intros; rfl
  | succ k ih =>
    intro H l m h
    simp only [absorb]
    rw [List.take_append_of_le_length (by omega), List.drop_append_of_le_length (by omega), ih _ _ _ (by rw [List.length_drop]; omega)]
theorem absorb_two (q e : Nat) (H : Nat → Int) (l m : List Int) (h : l.length = 64 * q) : absorb (q + e) H (l ++ m) = absorb e (absorb q H l) m := by
  rw [absorb_add, absorb_append q H l m (by omega)]
  congr 1
  rw [← h]; simp

def h0 (i : Nat) : Int := H0.getD i 0
theorem s8_h0 : s8 h0 = b8 := by kernel_rfl

def zc (n : Nat) : Nat := (119 - n % 64) % 64
theorem zc_end (n : Nat) : (n + 1 + zc n) % 64 = 56 := by unfold zc; omega
theorem zc_first (n k : Nat) (h : k < zc n) : (n + 1 + k) % 64 ≠ 56 := by unfold zc at h; omega
theorem zc_lt (n : Nat) : zc n < 64 := by unfold zc; omega

/-- a length's eight bytes -/
def len8 (n : Int) : List Int := [n / 72057594037927936 % 256, n / 281474976710656 % 256, n / 1099511627776 % 256, n / 4294967296 % 256, n / 16777216 % 256, n / 65536 % 256, n / 256 % 256, n % 256]
def pad (l : List Int) : List Int := l ++ [128] ++ List.replicate (zc l.length) 0 ++ len8 ((l.length : Int) * 8)
theorem len8_at (n : Int) (k : Nat) (h : k < 8) : (len8 n)[k]? = some (n / 2 ^ (8 * (7 - k)) % 256) := by
  match k, h with
  | 0, _ => rfl
  | 1, _ => rfl
  | 2, _ => rfl
  | 3, _ => rfl
  | 4, _ => rfl
  | 5, _ => rfl
  | 6, _ => rfl
  | 7, _ => simp [len8]
theorem len8_take (n : Int) (k : Nat) (h : k < 8) : (len8 n).take k ++ [n / 2 ^ (8 * (7 - k)) % 256] = (len8 n).take (k + 1) := by
  rw [List.take_add_one, len8_at n k h]; rfl
theorem len8_length (n : Int) : (len8 n).length = 8 := rfl
theorem pad_length (l : List Int) : (pad l).length = l.length + 1 + zc l.length + 8 := by simp [pad, len8_length]; omega
theorem pad_of {l : List Int} {n : Nat} (h : l.length = n) : pad l = l ++ [128] ++ List.replicate (zc n) 0 ++ len8 ((n : Int) * 8) ∧ (pad l).length = n + 1 + zc n + 8 := by
  rw [pad_length, h]; unfold pad; rw [h]; exact ⟨rfl, rfl⟩
theorem pad_blocks (l : List Int) : (pad l).length % 64 = 0 := by rw [pad_length]; have := zc_end l.length; omega

/-- the words behind all blocks -/
def shaH (l : List Int) : Nat → Int := absorb ((pad l).length / 64) h0 (pad l)

/-- what is left at the end, filled up -/
def lastB (rest : List Int) (total : Nat) : List Int := rest ++ [128] ++ List.replicate (zc rest.length) 0 ++ len8 ((total : Int) * 8)
theorem lastB_length (rest : List Int) (total : Nat) (h : rest.length < 64) : (lastB rest total).length = if rest.length + 9 ≤ 64 then 64 else 128 := by
  unfold lastB
  simp only [List.length_append, List.length_cons, List.length_nil, List.length_replicate, len8_length]
  unfold zc
  split <;> omega
theorem shaH_split (X rest : List Int) (q : Nat) (hX : X.length = 64 * q) (hr : rest.length < 64) :
    shaH (X ++ rest) = absorb ((lastB rest (X ++ rest).length).length / 64) (absorb q h0 X) (lastB rest (X ++ rest).length) := by
  have hz : zc (X ++ rest).length = zc rest.length := by unfold zc; rw [List.length_append, hX]; omega
  have hp : pad (X ++ rest) = X ++ lastB rest (X ++ rest).length := by
    unfold pad lastB
    rw [hz]
    simp [List.append_assoc]
  unfold shaH
  rw [hp, List.length_append, hX, show (64 * q + (lastB rest (X ++ rest).length).length) / 64 = q + (lastB rest (X ++ rest).length).length / 64 by omega, absorb_two q _ h0 X _ hX]
end Go.Sha
/- Sums: the small functions, and the turn of a block. -/
namespace Go.Proofs.YtjcmcmogbkdjcaaDoor
open Go Go.Vc Go.Sha

theorem begin_any (H : Heap) : CallH Tryd.prog 32 [] H fun v H' => v = .agg b8 ∧ Ext H H' := by
  refine Vc.CallH.body Tryd.func32 Tryd.call32 rfl (by decide +kernel) rfl ?_
  ((conv => whnf); repeat (any_goals (first | (refine Vc.sts ?_; (conv => whnf)))))
  refine SemH.alloc rfl rfl ?_
  intro H1 hs1 hb1 hx1
  ((conv => whnf); repeat (any_goals (first | (refine Vc.sts ?_; (conv => whnf)))))
  refine ⟨⟨.agg b8, fun w => by kernel_rfl, ?_⟩⟩
  ((conv => whnf); repeat (any_goals (first | (refine Vc.sts ?_; (conv => whnf)))))
  refine DoH.store_all hb1 rfl rfl rfl (by decide +kernel) ?_
  intro H2 hs2 hb2 hx2
  ((conv => whnf); repeat (any_goals (first | (refine Vc.sts ?_; (conv => whnf)))))
  refine SemH.load_blk hb2 rfl rfl rfl ?_
  ((conv => whnf); repeat (any_goals (first | (refine Vc.sts ?_; (conv => whnf)))))
  exact ⟨rfl, rfl, hx1.but hx2 (Nat.le_refl _)⟩
theorem round_any (H : Heap) : CallH Tryd.prog 33 [] H fun v H' => v = .agg r64 ∧ Ext H H' := by
  refine Vc.CallH.body Tryd.func33 Tryd.call33 rfl (by decide +kernel) rfl ?_
  ((conv => whnf); repeat (any_goals (first | (refine Vc.sts ?_; (conv => whnf)))))
  refine SemH.alloc rfl rfl ?_
  intro H1 hs1 hb1 hx1
  ((conv => whnf); repeat (any_goals (first | (refine Vc.sts ?_; (conv => whnf)))))
  refine ⟨⟨.agg r64, fun w => by kernel_rfl, ?_⟩⟩
  ((conv => whnf); repeat (any_goals (first | (refine Vc.sts ?_; (conv => whnf)))))
  refine DoH.store_all hb1 rfl rfl rfl (by decide +kernel) ?_
  intro H2 hs2 hb2 hx2
  ((conv => whnf); repeat (any_goals (first | (refine Vc.sts ?_; (conv => whnf)))))
  refine SemH.load_blk hb2 rfl rfl rfl ?_
  ((conv => whnf); repeat (any_goals (first | (refine Vc.sts ?_; (conv => whnf)))))
  exact ⟨rfl, rfl, hx1.but hx2 (Nat.le_refl _)⟩
theorem table_any (H : Heap) : CallH Tryd.prog 35 [] H fun v H' => v = .agg r64 ∧ Ext H H' := by
  refine Vc.CallH.body Tryd.func35 Tryd.call35 rfl (by decide +kernel) rfl ?_
  ((conv => whnf); repeat (any_goals (first | (refine Vc.sts ?_; (conv => whnf)))))
  refine SemH.alloc rfl rfl ?_
  intro H1 hs1 hb1 hx1
  ((conv => whnf); repeat (any_goals (first | (refine Vc.sts ?_; (conv => whnf)))))
  refine ⟨⟨.agg r64, fun w => by kernel_rfl, ?_⟩⟩
  ((conv => whnf); repeat (any_goals (first | (refine Vc.sts ?_; (conv => whnf)))))
  refine DoH.store_all hb1 rfl rfl rfl (by decide +kernel) ?_
  intro H2 hs2 hb2 hx2
  ((conv => whnf); repeat (any_goals (first | (refine Vc.sts ?_; (conv => whnf)))))
  refine SemH.load_blk hb2 rfl rfl rfl ?_
  ((conv => whnf); repeat (any_goals (first | (refine Vc.sts ?_; (conv => whnf)))))
  exact ⟨rfl, rfl, hx1.but hx2 (Nat.le_refl _)⟩

theorem shr_nat (k : Nat) (hk : k ≤ 32) (x : Int) : shrB .u32 x k = x / 2 ^ k := by
  unfold shrB
  rw [Int.toNat_natCast, Nat.min_eq_left (by simpa [IntKind.bits] using hk)]
  exact Int.fdiv_eq_ediv_of_nonneg _ (Int.pow_nonneg (by decide))
theorem wrap32 (x : Int) : IntKind.u32.wrap x = x % 4294967296 := by
  simp [IntKind.wrap, IntKind.bits, IntKind.signed]
theorem shl_nat (k : Nat) (hk : k ≤ 32) (x : Int) : shlB .u32 x k = x * 2 ^ k % 4294967296 := by
  unfold shlB
  rw [Int.toNat_natCast, Nat.min_eq_left (by simpa [IntKind.bits] using hk), wrap32]
theorem bitB_or (a b : Int) : bitB .u32 .or a b = bits .or .u32 a b := rfl
theorem bitB_xor (a b : Int) : bitB .u32 .xor a b = bits .xor .u32 a b := rfl
theorem bitB_and (a b : Int) : bitB .u32 .and a b = bits .and .u32 a b := rfl

theorem turn_any (x : Int) (m : Int) (h0 : 0 ≤ m) (h1 : m ≤ 32) (H : Heap) : CallH Tryd.prog 37 [.int .u32 x, .int .i64 m] H fun v H' => v = .int .u32 (rr m.toNat x) ∧ H = H' := by
  refine Vc.CallH.body Tryd.func37 Tryd.call37 rfl (by decide +kernel) rfl ?_
  ((conv => whnf); repeat (any_goals (first | (refine Vc.sts ?_; (conv => whnf)))))
  refine ⟨?_, rfl⟩
  obtain ⟨k, rfl⟩ := Int.eq_ofNat_of_zero_le h0
  show Vc.one [.int .u32 _] = _
  simp only [one, bitB_or]
  rw [shr_nat k (by omega), show (32 : Int) - (k : Int) = ((32 - k : Nat) : Int) by omega, shl_nat _ (by omega)]
  rfl
theorem rotl_any (x : Int) (m : Int) (h0 : m < 0) (h1 : -32 < m) (H : Heap) : CallH Tryd.prog 46 [.int .u32 x, .int .i64 m] H fun v H' => v = .int .u32 (rr (-m).toNat x) ∧ H = H' := by
  obtain ⟨k, hk'⟩ := Int.eq_ofNat_of_zero_le (show 0 ≤ -m by omega)
  obtain rfl : m = -(k : Int) := by omega
  have e1 : bitB .u64 .and (IntKind.u64.wrap (-(k : Int))) 31 = ((32 - k : Nat) : Int) := (and31 ⟨k, by omega⟩ (by show 0 < k; omega)).trans (by show (32 : Int) - (k : Int) = _; omega)
  refine Vc.CallH.body Tryd.func46 Tryd.call46 rfl (by decide +kernel) rfl ?_
  ((conv => whnf); repeat (any_goals (first | (refine Vc.sts ?_; (conv => whnf)))))
  refine ⟨?_⟩
  (conv => whnf)
  rw [e1]
  ((conv => whnf); repeat (any_goals (first | (refine Vc.sts ?_; (conv => whnf)))))
  refine ⟨?_, rfl⟩
  simp only [one, bitB_or]
  rw [show (32 : Int) - ((32 - k : Nat) : Int) = (k : Int) by omega, shr_nat k (by omega), shl_nat _ (by omega), bits_or_comm]
  rw [show (- -(k : Int)).toNat = k by omega]
  rfl

theorem shl_byte (x : UInt8) : shlB .u32 x.toNat 24 = x.toNat * 16777216 ∧ shlB .u32 x.toNat 16 = x.toNat * 65536 ∧ shlB .u32 x.toNat 8 = x.toNat * 256 := by
  have := x.toNat_lt
  refine ⟨?_, ?_, ?_⟩
  · have := shl_nat 24 (by omega) (x.toNat : Int); rw [show ((24 : Nat) : Int) = 24 from rfl] at this; rw [this]; omega
  · have := shl_nat 16 (by omega) (x.toNat : Int); rw [show ((16 : Nat) : Int) = 16 from rfl] at this; rw [this]; omega
  · have := shl_nat 8 (by omega) (x.toNat : Int); rw [show ((8 : Nat) : Int) = 8 from rfl] at this; rw [this]; omega
theorem shr_lit (x : Int) : shrB .u32 x 3 = x / 8 ∧ shrB .u32 x 10 = x / 1024 := by
  refine ⟨?_, ?_⟩
  · have := shr_nat 3 (by omega) x; exact this
  · have := shr_nat 10 (by omega) x; exact this

/-- the bytes as numbers -/
def ints (l : List UInt8) : List Int := l.map fun b => (b.toNat : Int)
theorem ints_get (l : List UInt8) (i : Nat) : (ints l).getD i 0 = ((l.getD i 0).toNat : Int) := by
  unfold ints
  rw [List.getD_eq_getElem?_getD, List.getD_eq_getElem?_getD, List.getElem?_map]
  cases l[i]? <;> simp
theorem ints_length (l : List UInt8) : (ints l).length = l.length := by simp [ints]
end Go.Proofs.YtjcmcmogbkdjcaaDoor
/- Sums: the turn of a block. -/
namespace Go.Proofs.YtjcmcmogbkdjcaaDoor
open Go Go.Vc Go.Sha

theorem grow_eq (a16 a15 a7 a2 : Int) : (((a16 + bitB .u32 .xor (bitB .u32 .xor (rr (- -7 : Int).toNat a15) (rr (- -18 : Int).toNat a15)) (shrB .u32 a15 3)) % 4294967296 + a7) % 4294967296 +
    bitB .u32 .xor (bitB .u32 .xor (rr (- -17 : Int).toNat a2) (rr (- -19 : Int).toNat a2)) (shrB .u32 a2 10)) % 4294967296 = grow a16 a15 a7 a2 := by
  rw [(shr_lit a15).1, (shr_lit a2).2]
  show (((a16 + sg0 a15) % 4294967296 + a7) % 4294967296 + sg1 a2) % 4294967296 = _
  unfold grow
  omega
theorem s7_plain (f : Nat → Int) : ∀ u ∈ s7 f, plainV u = true := by
  intro v hv; simp [s7] at hv; rcases hv with h | h | h | h | h | h | h <;> subst h <;> rfl
theorem over_s8 (f : Nat → Int) : over (s8 f) (0 + 1 * 1) (s7 f) = s8 (sh f) := by kernel_rfl
theorem s8_two (f g : Nat → Int) (x y : Int) (h0 : x = g 0) (h1 : sh f 1 = g 1) (h2 : sh f 2 = g 2) (h3 : sh f 3 = g 3) (h4 : y = g 4) (h5 : sh f 5 = g 5) (h6 : sh f 6 = g 6) (h7 : sh f 7 = g 7) :
    ((s8 (sh f)).setIfInBounds 0 (.int .u32 x)).setIfInBounds 4 (.int .u32 y) = s8 g := by
  unfold s8
  rw [← h0, ← h1, ← h2, ← h3, ← h4, ← h5, ← h6, ← h7]
  rfl
theorem s8_nx (f : Nat → Int) (r x : Int) :
    ((s8 (sh f)).setIfInBounds 0 (.int .u32 (((((((f 7 + bitB .u32 .xor (bitB .u32 .xor (rr (- -6 : Int).toNat (f 4)) (rr (- -11 : Int).toNat (f 4))) (rr (- -25 : Int).toNat (f 4))) % 4294967296 +
      bitB .u32 .xor (bitB .u32 .and (f 4) (f 5)) (bitB .u32 .and (bitB .u32 .xor (if IntKind.u32.signed then -1 else IntKind.u32.max) (f 4)) (f 6))) % 4294967296 + r) % 4294967296 + x) % 4294967296) +
      ((bitB .u32 .xor (bitB .u32 .xor (rr (- -2 : Int).toNat (f 0)) (rr (- -13 : Int).toNat (f 0))) (rr (- -22 : Int).toNat (f 0)) +
        bitB .u32 .xor (bitB .u32 .xor (bitB .u32 .and (f 0) (f 1)) (bitB .u32 .and (f 0) (f 2))) (bitB .u32 .and (f 1) (f 2))) % 4294967296)) % 4294967296))).setIfInBounds 4
      (.int .u32 ((f 3 + (((((f 7 + bitB .u32 .xor (bitB .u32 .xor (rr (- -6 : Int).toNat (f 4)) (rr (- -11 : Int).toNat (f 4))) (rr (- -25 : Int).toNat (f 4))) % 4294967296 +
      bitB .u32 .xor (bitB .u32 .and (f 4) (f 5)) (bitB .u32 .and (bitB .u32 .xor (if IntKind.u32.signed then -1 else IntKind.u32.max) (f 4)) (f 6))) % 4294967296 + r) % 4294967296 + x) % 4294967296)) % 4294967296)) = s8 (nx f r x) := by
  refine s8_two f (nx f r x) _ _ ?_ rfl rfl rfl ?_ rfl rfl rfl
  · show _ = (t1 f r x + t2 f) % 4294967296
    unfold t1 t2
    show _ = (f 7 + bitB .u32 .xor (bitB .u32 .xor (rr (- -6 : Int).toNat (f 4)) (rr (- -11 : Int).toNat (f 4))) (rr (- -25 : Int).toNat (f 4)) + bitB .u32 .xor (bitB .u32 .and (f 4) (f 5)) (bitB .u32 .and (bitB .u32 .xor (if IntKind.u32.signed then -1 else IntKind.u32.max) (f 4)) (f 6)) + r + x + (bitB .u32 .xor (bitB .u32 .xor (rr (- -2 : Int).toNat (f 0)) (rr (- -13 : Int).toNat (f 0))) (rr (- -22 : Int).toNat (f 0)) +
        bitB .u32 .xor (bitB .u32 .xor (bitB .u32 .and (f 0) (f 1)) (bitB .u32 .and (f 0) (f 2))) (bitB .u32 .and (f 1) (f 2)))) % 4294967296
    generalize bitB .u32 .xor (bitB .u32 .xor (rr (- -6 : Int).toNat (f 4)) (rr (- -11 : Int).toNat (f 4))) (rr (- -25 : Int).toNat (f 4)) = A
    generalize bitB .u32 .xor (bitB .u32 .and (f 4) (f 5)) (bitB .u32 .and (bitB .u32 .xor (if IntKind.u32.signed then -1 else IntKind.u32.max) (f 4)) (f 6)) = B
    generalize bitB .u32 .xor (bitB .u32 .xor (rr (- -2 : Int).toNat (f 0)) (rr (- -13 : Int).toNat (f 0))) (rr (- -22 : Int).toNat (f 0)) = C
    generalize bitB .u32 .xor (bitB .u32 .xor (bitB .u32 .and (f 0) (f 1)) (bitB .u32 .and (f 0) (f 2))) (bitB .u32 .and (f 1) (f 2)) = D
    omega
  · show _ = (f 3 + t1 f r x) % 4294967296
    unfold t1
    show _ = (f 3 + (f 7 + bitB .u32 .xor (bitB .u32 .xor (rr (- -6 : Int).toNat (f 4)) (rr (- -11 : Int).toNat (f 4))) (rr (- -25 : Int).toNat (f 4)) + bitB .u32 .xor (bitB .u32 .and (f 4) (f 5)) (bitB .u32 .and (bitB .u32 .xor (if IntKind.u32.signed then -1 else IntKind.u32.max) (f 4)) (f 6)) + r + x)) % 4294967296
    generalize bitB .u32 .xor (bitB .u32 .xor (rr (- -6 : Int).toNat (f 4)) (rr (- -11 : Int).toNat (f 4))) (rr (- -25 : Int).toNat (f 4)) = A
    generalize bitB .u32 .xor (bitB .u32 .and (f 4) (f 5)) (bitB .u32 .and (bitB .u32 .xor (if IntKind.u32.signed then -1 else IntKind.u32.max) (f 4)) (f 6)) = B
    omega
theorem stc_lo0 (f : Nat → Int) (i : Nat) (h : i < 8) : (stc f)[0 + 0 + i]? = some (.int .u32 (f i)) := by rw [Nat.zero_add]; exact stc_lo f i h
theorem stc_hi0 (f : Nat → Int) (i : Nat) (h : i < 64) : (stc f)[0 + 8 + i]? = some (.int .u32 (rc i)) := by rw [Nat.zero_add]; exact stc_hi f i h
theorem s8_get0 (f : Nat → Int) (i : Nat) (h : i < 8) : (s8 f)[0 + i]? = some (.int .u32 (f i)) := by rw [Nat.zero_add]; exact s8_get f i h
theorem fillA_lo0 (n : Nat) (f : Nat → Value) (z : Value) (k i : Nat) (h : i < n) (hk : i < k) : (Vc.fillA n f z k)[0 + i]? = some (f i) := by rw [Nat.zero_add]; exact Vc.fillA_lo n f z k i h hk
theorem stc_size (f : Nat → Int) : (stc f).size = 72 := by
  unfold stc
  rw [Array.size_append]
  have : r64.size = 64 := by decide +kernel
  rw [this]
  rfl
theorem stc_plain (f : Nat → Int) : ∀ u ∈ (s8 f).toList, plainV u = true := by
  intro v hv; simp [s8] at hv; rcases hv with h | h | h | h | h | h | h | h <;> subst h <;> rfl
set_option maxHeartbeats 2000000 in
theorem sturn_any (F : Nat → Int) (l : List UInt8) (hl : 64 ≤ l.length) (H : Heap) (bt : Nat) (hst : Blk H bt (stc F) 81) (a : Option Addr) (n cap : Nat) (hn : l.length = n) (hr : Row H a (strV l)) (hmx : n ≤ 140737488355328) :
    CallH Tryd.prog 34 [.pointer (some ⟨bt, 0, none⟩), .slice a n cap] H fun v H' => v = .tuple #[] ∧ Blk H' bt (stc (blk F (ints l))) 81 ∧ But bt H H' := by
  obtain ⟨W, hW⟩ : ∃ W, W = wd (fun i => (ints l).getD i 0) 64 := ⟨_, rfl⟩
  have hwd : Words (fun i => (ints l).getD i 0) W := hW ▸ wd_words _
  obtain ⟨hlo, hhi, hrg⟩ := hwd
  have hbt := hst.lt
  refine Vc.CallH.body Tryd.func34 Tryd.call34 rfl (by decide +kernel) rfl ?_
  ((conv => whnf); repeat (any_goals (first | (refine Vc.sts ?_; (conv => whnf)))))
  refine SemH.alloc rfl rfl ?_
  intro H1 hs1 hb1 hx1
  ((conv => whnf); repeat (any_goals (first | (refine Vc.sts ?_; (conv => whnf)))))
  refine LoopH.intro (fun (k : Nat) => [(16, .int .i64 k)]) (fun k H' => k ≤ 64 ∧ Blk H' H.size (Vc.fillA 64 (c32 W) z32 k) 78 ∧ Ext H H') (fun k => 64 - k) 0 ⟨rfl, trivial⟩ ⟨by omega, by rw [Vc.fillA_zero]; exact hb1, hx1⟩ ?_
  intro k H2 ⟨hk, hb2, hx2⟩
  by_cases h16 : k < 16
  · have hr2 := hr.ext hx2
    ((conv => whnf); repeat (any_goals (first | ((refine IdxA.bytes hr2 hn (by omega) (by omega) ?_; intro _ _ _ hc); (conv => whnf)) | ((refine SemH.load rfl (by assumption) ?_); (conv => whnf)) | ((refine ArithH.byte32 ?_); (conv => whnf)) | ((refine IdxH.nat k rfl (by omega) ?_); (conv => whnf)) | (refine Vc.sts ?_; (conv => whnf)))))
    refine DoH.store1 hb2 rfl rfl rfl (by rw [Vc.fillA_size]; omega) ?_
    intro H3 hs3 hb3 hx3
    ((conv => whnf); repeat (any_goals (first | (refine Vc.sts ?_; (conv => whnf)))))
    refine ⟨k + 1, ⟨rfl, trivial⟩, ⟨by omega, ?_, hx2.but hx3 (Nat.le_refl _)⟩, by omega⟩
    have e : bitB .u32 .or (bitB .u32 .or (bitB .u32 .or (shlB .u32 (l.getD (4 * (k : Int)).toNat 0).toNat 24) (shlB .u32 (l.getD (4 * (k : Int) + 1).toNat 0).toNat 16)) (shlB .u32 (l.getD (4 * (k : Int) + 2).toNat 0).toNat 8)) (l.getD (4 * (k : Int) + 3).toNat 0).toNat = W k := by
      rw [(shl_byte _).1, (shl_byte _).2.1, (shl_byte _).2.2, hlo k h16]
      simp only [word, ints_get, bitB_or]
      rw [show (4 * (k : Int)).toNat = 4 * k by omega, show (4 * (k : Int) + 1).toNat = 4 * k + 1 by omega, show (4 * (k : Int) + 2).toNat = 4 * k + 2 by omega, show (4 * (k : Int) + 3).toNat = 4 * k + 3 by omega]
    rw [Nat.zero_add] at hb3
    have := Vc.fillA_set 64 (c32 W) z32 k (by omega)
    rw [← this]
    rw [e] at hb3
    exact hb3
  · by_cases h64 : k < 64
    · have hc : ∀ j, j < k → (Vc.fillA 64 (c32 W) z32 k)[0 + j]? = some (.int .u32 (W j)) := fun j hj => by rw [Nat.zero_add, Vc.fillA_lo _ _ _ _ _ (by omega) hj]; rfl
      have q := fun j => hrg j
      ((conv => whnf); repeat (any_goals (first | ((refine ArithH.u32m ?_); (conv => whnf)) | ((refine IdxH.nat (k - 15) (by omega) (by omega) ?_); (conv => whnf)) | ((refine IdxH.nat (k - 2) (by omega) (by omega) ?_); (conv => whnf)) | ((refine IdxH.nat (k - 16) (by omega) (by omega) ?_); (conv => whnf)) | ((refine IdxH.nat (k - 7) (by omega) (by omega) ?_); (conv => whnf)) | ((refine IdxH.nat k rfl (by omega) ?_); (conv => whnf)) | (((with_reducible apply SemH.load_at hb2); (focus (rfl)); (focus (exact hc _ (by omega)))); (conv => whnf)) | ((refine (rotl_any _ _ (by omega) (by omega) _).mono ?_; rintro _ _ ⟨rfl, rfl⟩); (conv => whnf)) | (refine Vc.sts ?_; (conv => whnf)))))
      refine DoH.store1 hb2 rfl rfl rfl (by rw [Vc.fillA_size]; omega) ?_
      intro H3 hs3 hb3 hx3
      ((conv => whnf); repeat (any_goals (first | (refine Vc.sts ?_; (conv => whnf)))))
      refine ⟨k + 1, ⟨rfl, trivial⟩, ⟨by omega, ?_, hx2.but hx3 (Nat.le_refl _)⟩, by omega⟩
      rw [Nat.zero_add] at hb3
      have := Vc.fillA_set 64 (c32 W) z32 k (by omega)
      rw [← this]
      have e : W k = _ := hhi k (by omega) h64
      rw [show c32 W k = .int .u32 (W k) from rfl, e]
      rw [grow_eq] at hb3
      exact hb3
    · obtain rfl : k = 64 := by omega
      clear hb1 hx1
      have hst2 := hst.ext hx2
      ((conv => whnf); repeat (any_goals (first | (refine Vc.sts ?_; (conv => whnf)))))
      refine SemH.load_sub (cs := s8 F) hst2 rfl rfl rfl (fun j v hv => ?_) ?_
      · have hj : j < 8 := (Array.getElem?_eq_some_iff.1 hv).1
        rw [show 0 + 0 + j = j by omega, stc_lo F j hj, ← hv, s8_get F j hj]
      ((conv => whnf); repeat (any_goals (first | (refine Vc.sts ?_; (conv => whnf)))))
      refine SemH.alloc rfl rfl ?_
      intro H3 hs3 hb3 hx3
      ((conv => whnf); repeat (any_goals (first | (refine Vc.sts ?_; (conv => whnf)))))
      refine DoH.store_all hb3 rfl rfl rfl (stc_plain F) ?_
      intro H4 hs4 hb4 hx4
      ((conv => whnf); repeat (any_goals (first | (refine Vc.sts ?_; (conv => whnf)))))
      have hgl := hb2.lt
      have hne : H.size ≠ H2.size := by omega
      have hw4 := (hb2.ext hx3).but hx4 hne
      have hst4 := (hst2.ext hx3).but hx4 (by omega)
      refine LoopH.intro (fun (k : Nat) => [(100, .int .i64 k)]) (fun k H' => k ≤ 64 ∧ Blk H' H2.size (s8 (rounds F W k)) 76 ∧ But H2.size H4 H') (fun k => 64 - k) 0 ⟨rfl, trivial⟩ ⟨by omega, hb4, Only.refl _ _⟩ ?_
      intro k H5 ⟨hk, hb5, hx5⟩
      by_cases h64 : k < 64
      · have hw5 := hw4.but hx5 hne
        have hst5 := hst4.but hx5 (by omega)
        generalize hR : rounds F W k = R at hb5
        have hrc := rc_in k
        have hWk := hrg k
        ((conv => whnf); repeat (any_goals (first | ((refine ArithH.u32m ?_); (conv => whnf)) | ((refine IdxH.nat _ rfl (by decide) ?_); (conv => whnf)) | ((refine IdxH.nat k rfl (by omega) ?_); (conv => whnf)) | (((with_reducible apply SemH.load_at hb5); (focus (rfl)); (focus (rfl))); (conv => whnf)) | ((refine (rotl_any _ _ (by omega) (by omega) _).mono ?_; rintro _ _ ⟨rfl, rfl⟩); (conv => whnf)) | (((with_reducible apply SemH.load_at hst5); (focus (rfl)); (focus (exact stc_hi0 F k h64))); (conv => whnf)) | (((with_reducible apply SemH.load_at hw5); (focus (rfl)); (focus (exact fillA_lo0 _ _ _ _ _ h64 h64))); (conv => whnf)) | ((refine BndH.nat 1 rfl (by decide) ?_); (conv => whnf)) | ((refine BndH.nat 7 rfl (by decide) ?_); (conv => whnf)) | (refine Vc.sts ?_; (conv => whnf)))))
        have hrow : Row H5 (some ⟨Array.size H2, 0, none⟩) (s7 R) := ⟨.inr ⟨_, _, rfl, fun j v hj => by
          have h7 : j < 7 := (List.getElem?_eq_some_iff.1 hj).1
          rw [Nat.zero_add, hb5.cell, s8_get R j (by omega), ← hj]
          match j, h7 with
          | 0, _ => rfl
          | 1, _ => rfl
          | 2, _ => rfl
          | 3, _ => rfl
          | 4, _ => rfl
          | 5, _ => rfl
          | 6, _ => rfl⟩⟩
        refine NextH.copy (i := Tryd.t75) (k := 7) (cs := s7 R) rfl rfl (fun w => rfl) rfl rfl (fun w hw => run_firstRow hrow rfl w hw) (fun _ => rfl) hb5 (by show 0 + 1 * 1 + 7 ≤ 8; omega) (s7_plain R) ?_
        intro H6 hs6 hb6 hx6
        rw [over_s8] at hb6
        ((conv => whnf); repeat (any_goals (first | ((refine ArithH.u32m ?_); (conv => whnf)) | ((refine IdxH.nat _ rfl (by decide) ?_); (conv => whnf)) | (((with_reducible apply SemH.load_at hb6); (focus (rfl)); (focus (rfl))); (conv => whnf)) | (refine Vc.sts ?_; (conv => whnf)))))
        refine DoH.store1 hb6 rfl rfl rfl (by show 0 + 0 < 8; omega) ?_
        intro H7 hs7 hb7 hx7
        ((conv => whnf); repeat (any_goals (first | ((refine IdxH.nat _ rfl (by decide) ?_); (conv => whnf)) | (refine Vc.sts ?_; (conv => whnf)))))
        refine DoH.store1 hb7 rfl rfl rfl (by rw [Array.size_setIfInBounds]; show 0 + 4 < 8; omega) ?_
        intro H8 hs8 hb8 hx8
        ((conv => whnf); repeat (any_goals (first | (refine Vc.sts ?_; (conv => whnf)))))
        refine ⟨k + 1, ⟨rfl, trivial⟩, ⟨by omega, ?_, ((hx5.trans hx6 fun _ _ => id).trans hx7 fun _ _ => id).trans hx8 fun _ _ => id⟩, by omega⟩
        have := s8_nx R (rc k) (W k)
        show Blk H8 _ (s8 (nx (rounds F W k) (rc k) (W k))) _
        rw [hR, ← this]
        exact hb8
      · obtain rfl : k = 64 := by omega
        have hst5 := hst4.but hx5 (by omega)
        ((conv => whnf); repeat (any_goals (first | (refine Vc.sts ?_; (conv => whnf)))))
        refine LoopH.intro (fun (k : Nat) => [(179, .int .i64 k)]) (fun k H' => k ≤ 8 ∧ Blk H' bt (stc (fin F (rounds F W 64) k)) 81 ∧ But bt H5 H') (fun k => 8 - k) 0 ⟨rfl, trivial⟩ ⟨by omega, by rw [fin_zero]; exact hst5, Only.refl _ _⟩ ?_
        intro j H6 ⟨hj, hst6, hx6⟩
        by_cases h8 : j < 8
        · have hb6 := hb5.but hx6 (by omega)
          ((conv => whnf); repeat (any_goals (first | ((refine ArithH.u32m ?_); (conv => whnf)) | ((refine IdxH.nat j rfl (by omega) ?_); (conv => whnf)) | (((with_reducible apply SemH.load_at hst6); (focus (rfl)); (focus (exact stc_lo0 _ _ h8))); (conv => whnf)) | (((with_reducible apply SemH.load_at hb6); (focus (rfl)); (focus (exact s8_get0 _ _ h8))); (conv => whnf)) | (refine Vc.sts ?_; (conv => whnf)))))
          refine DoH.store1 (o := 0 + 0 + j) hst6 rfl rfl rfl (by rw [stc_size]; omega) ?_
          intro H7 hs7 hst7 hx7
          ((conv => whnf); repeat (any_goals (first | (refine Vc.sts ?_; (conv => whnf)))))
          refine ⟨j + 1, ⟨rfl, trivial⟩, ⟨by omega, ?_, hx6.trans hx7 fun _ _ => id⟩, by omega⟩
          rw [← fin_set F _ j h8, ← fin_hi F (rounds F W 64) j j (Nat.le_refl _)]
          rw [Nat.zero_add] at hst7
          rw [fin_hi F (rounds F W 64) j j (Nat.le_refl _)] at hst7 ⊢
          exact hst7
        · obtain rfl : j = 8 := by omega
          ((conv => whnf); repeat (any_goals (first | (refine Vc.sts ?_; (conv => whnf)))))
          refine ⟨rfl, ?_, ?_⟩
          · have : stc (blk F (ints l)) = stc (fin F (rounds F W 64) 8) := stc_congr _ _ fun i hi => by rw [fin_lo _ _ _ _ hi, hW]; rfl
            rw [this]
            exact hst6
          · have e4 : Ext H H4 := (hx2.trans hx3).but hx4 (by omega)
            have e5 : Ext H H5 := e4.but hx5 (by omega)
            exact e5.only.trans hx6 fun _ _ => id
end Go.Proofs.YtjcmcmogbkdjcaaDoor
/- Sums: plain laws for the sum over parts. -/
namespace Go.Proofs.YtjcmcmogbkdjcaaDoor
open Go Go.Vc Go.Sha

def sumL (l : List UInt8) : List UInt8 := (List.range 32).map fun i => UInt8.ofNat (shaH (ints l) (i / 4) / 2 ^ (24 - 8 * (i % 4)) % 256).toNat
theorem sumL_length (l : List UInt8) : (sumL l).length = 32 := by simp [sumL]
theorem ints_append (a b : List UInt8) : ints (a ++ b) = ints a ++ ints b := by simp [ints]
theorem ints_take (a : List UInt8) (k : Nat) : (ints a).take k = ints (a.take k) := by simp [ints]
theorem ints_drop (a : List UInt8) (k : Nat) : (ints a).drop k = ints (a.drop k) := by simp [ints]

theorem word_congr {B B' : Nat → Int} (h : ∀ i, i < 64 → B i = B' i) {k : Nat} (hk : k < 16) : word B k = word B' k := by
  unfold word
  rw [h _ (by omega), h _ (by omega), h _ (by omega), h _ (by omega)]
theorem wd_congr {B B' : Nat → Int} (h : ∀ i, i < 64 → B i = B' i) : ∀ n, wd B n = wd B' n
  | 0 => rfl
  | n + 1 => by
    have ih := wd_congr h n
    funext i
    show (if i = n then (if n < 16 then word B n else grow (wd B n (n - 16)) (wd B n (n - 15)) (wd B n (n - 7)) (wd B n (n - 2))) else wd B n i) = (if i = n then (if n < 16 then word B' n else grow (wd B' n (n - 16)) (wd B' n (n - 15)) (wd B' n (n - 7)) (wd B' n (n - 2))) else wd B' n i)
    rw [ih]
    by_cases hn : n < 16
    · rw [word_congr h hn]
    · simp only [if_neg hn]
theorem blk_congr (F : Nat → Int) {l m : List Int} (h : ∀ i, i < 64 → l.getD i 0 = m.getD i 0) : blk F l = blk F m := by
  unfold blk
  rw [wd_congr h]
theorem blk_take (F : Nat → Int) (l : List Int) : blk F (l.take 64) = blk F l := by
  refine blk_congr F fun i hi => ?_
  rw [List.getD_eq_getElem?_getD, List.getD_eq_getElem?_getD, List.getElem?_take, if_pos hi]

def allL (ps : List Part) : List UInt8 := ps.flatMap (·.l)
theorem allL_snoc (ps : List Part) (k : Nat) (h : k < ps.length) : allL (ps.take (k + 1)) = allL (ps.take k) ++ ps[k].l := by
  rw [List.take_succ_eq_append_getElem h]
  unfold allL
  rw [List.flatMap_append, List.flatMap_cons, List.flatMap_nil, List.append_nil]
theorem allL_take_le (ps : List Part) (k : Nat) : (allL (ps.take k)).length ≤ (allL ps).length := by
  have : allL ps = allL (ps.take k) ++ allL (ps.drop k) := by
    unfold allL; rw [← List.flatMap_append, List.take_append_drop]
  rw [this, List.length_append]; omega
/- ---------- the last block ---------- -/
/-- the 128 places of what is left: r bytes, a one, noughts; j bytes of the length from place e - 8 on -/
def lastF (rest : List UInt8) (n : Int) (e j i : Nat) : UInt8 :=
  if e - 8 ≤ i ∧ i < e - 8 + j then UInt8.ofNat (n / 2 ^ (8 * (7 - (i - (e - 8)))) % 256).toNat
  else if i < rest.length then rest.getD i 0 else if i = rest.length then 128 else 0
def endOf (r : Nat) : Nat := if r + 9 > 64 then 128 else 64
theorem last_get (rest : List UInt8) (total : Nat) (hr : rest.length < 64) (i : Nat) (hi : i < endOf rest.length) :
    ((lastF rest ((total : Int) * 8) (endOf rest.length) 8 i).toNat : Int) = (lastB (ints rest) total).getD i 0 := by
  have hl : (lastB (ints rest) total).length = endOf rest.length := by
    rw [lastB_length _ _ (by rw [ints_length]; exact hr), ints_length]
    unfold endOf; split <;> split <;> omega
  have he : endOf rest.length = rest.length + 1 + zc rest.length + 8 := by
    have : (lastB (ints rest) total).length = rest.length + 1 + zc rest.length + 8 := by
      unfold lastB
      simp only [List.length_append, List.length_cons, List.length_nil, List.length_replicate, len8_length, ints_length]
    omega
  rw [List.getD_eq_getElem?_getD]
  unfold lastF lastB
  rw [ints_length]
  by_cases h1 : endOf rest.length - 8 ≤ i
  · rw [if_pos (by omega), List.getElem?_append_right (by simp [ints_length]; omega)]
    have e1 : i - (ints rest ++ [128] ++ List.replicate (zc rest.length) 0).length = i - (endOf rest.length - 8) := by simp [ints_length]; omega
    rw [e1, len8_at _ _ (by omega), Option.getD_some]
    generalize ((total : Int) * 8 / 2 ^ (8 * (7 - (i - (endOf rest.length - 8))))) = y
    have h1 : 0 ≤ y % 256 := by omega
    have h2 : y % 256 < 256 := by omega
    generalize y % 256 = z at h1 h2 ⊢
    have := Nat.mod_eq_of_lt (show z.toNat < 256 by omega)
    simp only [UInt8.toNat_ofNat']
    omega
  · rw [if_neg (by omega), List.getElem?_append_left (by simp [ints_length]; omega)]
    by_cases h2 : i < rest.length
    · rw [if_pos h2, List.append_assoc, List.getElem?_append_left (by rw [ints_length]; exact h2), ← List.getD_eq_getElem?_getD, ints_get]
    · rw [if_neg h2]
      by_cases h3 : i = rest.length
      · rw [if_pos h3, List.append_assoc, List.getElem?_append_right (by rw [ints_length]; omega), ints_length, h3, Nat.sub_self]
        rfl
      · rw [if_neg h3, List.getElem?_append_right (by simp [ints_length]; omega)]
        have : i - (ints rest ++ [128]).length < zc rest.length := by simp [ints_length]; omega
        rw [List.getElem?_replicate, if_pos this]
        rfl
theorem lastF_first (rest : List UInt8) (n : Int) (e i : Nat) : lastF rest n e 0 i = if i < rest.length then rest.getD i 0 else if i = rest.length then 128 else 0 := by
  unfold lastF; rw [if_neg (by omega)]
theorem lastF_step (rest : List UInt8) (n : Int) (e j i : Nat) (h : i ≠ e - 8 + j) : lastF rest n e j i = lastF rest n e (j + 1) i := by
  unfold lastF
  by_cases h1 : e - 8 ≤ i ∧ i < e - 8 + j
  · rw [if_pos h1, if_pos (by omega)]
  · rw [if_neg h1, if_neg (show ¬ (e - 8 ≤ i ∧ i < e - 8 + (j + 1)) by omega)]
theorem lastF_new (rest : List UInt8) (n : Int) (e j : Nat) : lastF rest n e (j + 1) (e - 8 + j) = UInt8.ofNat (n / 2 ^ (8 * (7 - j)) % 256).toNat := by
  unfold lastF
  rw [if_pos (by omega), show e - 8 + j - (e - 8) = j by omega]
theorem byte_int (z : Int) : (((UInt8.ofNat (z % 256).toNat).toNat : Nat) : Int) = z % 256 := by
  have h1 : 0 ≤ z % 256 := by omega
  have h2 : z % 256 < 256 := by omega
  generalize z % 256 = z at h1 h2 ⊢
  have := Nat.mod_eq_of_lt (show z.toNat < 256 by omega)
  simp only [UInt8.toNat_ofNat']
  omega
theorem absorb_last (rest : List UInt8) (total : Nat) (hr : rest.length < 64) (F : Nat → Int) (G : List UInt8) (b : Nat) (hG : ∀ i, i < 64 → G.getD i 0 = lastF rest ((total : Int) * 8) (endOf rest.length) 8 (64 * b + i)) (hb : b < endOf rest.length / 64) :
    absorb (b + 1) F (lastB (ints rest) total) = blk (absorb b F (lastB (ints rest) total)) (ints G) := by
  rw [absorb_succ, blk_take]
  refine blk_congr _ fun i hi => ?_
  have h64 : 64 * b + i < endOf rest.length := by unfold endOf at *; split at hb <;> (rename_i h; first | rw [if_pos h] | rw [if_neg h]) <;> omega
  have e := last_get rest total hr (64 * b + i) h64
  rw [ints_get, hG i hi, e, List.getD_eq_getElem?_getD, List.getD_eq_getElem?_getD, List.getElem?_drop]
theorem sha_done (X rest : List UInt8) (q : Nat) (hX : X.length = 64 * q) (hr : rest.length < 64) :
    absorb (endOf rest.length / 64) (absorb q h0 (ints X)) (lastB (ints rest) (X ++ rest).length) = shaH (ints (X ++ rest)) := by
  rw [ints_append, shaH_split (ints X) (ints rest) q (by rw [ints_length]; exact hX) (by rw [ints_length]; exact hr)]
  have hlen : (ints X ++ ints rest).length = (X ++ rest).length := by simp [ints]
  have hl : (lastB (ints rest) (X ++ rest).length).length = endOf rest.length := by
    rw [lastB_length _ _ (by rw [ints_length]; exact hr), ints_length]
    unfold endOf; split <;> split <;> omega
  rw [hlen, hl]

def lastV (rest : List UInt8) (n : Int) (e j : Nat) : Nat → Value := fun i => .int .u8 (lastF rest n e j i).toNat
theorem last_start (rest : List UInt8) (n : Int) (e : Nat) (hr : rest.length < 64) :
    (over (Array.replicate 128 (.int .u8 0)) 0 (strV rest)).setIfInBounds (0 + rest.length) (.int .u8 128) = tab 128 (lastV rest n e 0) := by
  have e0 : over (Array.replicate 128 (.int .u8 0)) 0 (strV rest) = tab 128 (fun i => .int .u8 (if i < rest.length then rest.getD i 0 else 0).toNat) := by
    apply Array.ext_getElem?
    intro i
    rw [over_get _ _ _ _ (by rw [strV_length]; simp; omega), strV_length]
    by_cases hi : i < 128
    · rw [tab_get _ _ _ hi]
      by_cases h : i < rest.length
      · rw [if_pos (by omega), if_pos h, Nat.sub_zero, strV_get h]
      · rw [if_neg (by omega), if_neg h]; simp [hi]
    · rw [if_neg (by omega), Array.getElem?_eq_none (by simp; omega), Array.getElem?_eq_none (by rw [tab_size]; omega)]
  rw [e0, Nat.zero_add]
  refine tab_set 128 _ _ _ _ ?_ ?_
  · show Value.int _ _ = _
    rw [lastF_first, if_neg (by omega), if_pos rfl]; rfl
  · intro i _ hne
    show Value.int _ _ = Value.int _ _
    rw [lastF_first]
    by_cases h : i < rest.length
    · rw [if_pos h, if_pos h]
    · rw [if_neg h, if_neg h, if_neg hne]
theorem last_set (rest : List UInt8) (n : Int) (e j : Nat) (x : Int) (hx : x = n / 2 ^ (8 * (7 - j)) % 256) : (tab 128 (lastV rest n e j)).setIfInBounds (e - 8 + j) (.int .u8 x) = tab 128 (lastV rest n e (j + 1)) := by
  refine tab_set 128 _ _ _ _ ?_ ?_
  · show Value.int _ _ = _
    rw [lastF_new, byte_int, hx]
  · intro i _ hne
    show Value.int _ _ = Value.int _ _
    rw [lastF_step _ _ _ _ _ hne]
theorem tab_row {H : Heap} {g n : Nat} {f : Nat → Value} {t : TypeId} (h : Blk H g (tab n f) t) (o : Nat) (cs : List Value) (hc : ∀ j, j < cs.length → o + j < n ∧ cs[j]? = some (f (o + j))) : Row H (some ⟨g, o, none⟩) cs :=
  ⟨.inr ⟨g, o, rfl, fun j v hv => by
    have hj : j < cs.length := (List.getElem?_eq_some_iff.1 hv).1
    obtain ⟨h1, h2⟩ := hc j hj
    rw [h.cell, tab_get _ _ _ h1, ← h2, hv]⟩⟩
def sumV (F : Nat → Int) (k : Nat) : Nat → Value := fun i => if i < k then .int .u8 (F (i / 4) / 2 ^ (24 - 8 * (i % 4)) % 256) else .int .u8 0
theorem sumV_set (F : Nat → Int) (k : Nat) : (tab 32 (sumV F k)).setIfInBounds k (.int .u8 (F (k / 4) / 2 ^ (24 - 8 * (k % 4)) % 256)) = tab 32 (sumV F (k + 1)) := by
  refine tab_set 32 _ _ _ _ ?_ ?_
  · unfold sumV; rw [if_pos (by omega)]
  · intro i _ hne
    unfold sumV
    by_cases h : i < k
    · rw [if_pos h, if_pos (by omega)]
    · rw [if_neg h, if_neg (by omega)]
theorem sumV_zero (F : Nat → Int) : tab 32 (sumV F 0) = Array.replicate 32 (.int .u8 0) := by
  rw [← tab_replicate]; exact tab_congr _ _ _ fun i _ => by unfold sumV; rw [if_neg (by omega)]
theorem sumV_done (l : List UInt8) : tab 32 (sumV (shaH (ints l)) 32) = (strV (sumL l)).toArray := by
  unfold sumL
  rw [← tab_strV]
  refine tab_congr _ _ _ fun i hi => ?_
  unfold sumV
  rw [if_pos hi, byte_int]
theorem sumV_plain (F : Nat → Int) (k : Nat) : ∀ u ∈ (tab 32 (sumV F k)).toList, plainV u = true := tab_plain _ _ fun i => by unfold sumV; split <;> rfl
end Go.Proofs.YtjcmcmogbkdjcaaDoor
/- Sums: the walk of the sum over parts. -/
namespace Go.Proofs.YtjcmcmogbkdjcaaDoor
open Go Go.Vc Go.Sha

/-- what is known in the midst of the parts: the state's block bt, q blocks done, what is left over (own), what of the part is still to come -/
structure Mid (H0 H : Heap) (bt : Nat) (C : List UInt8) (q : Nat) (X rest rem : List UInt8) (ra : Option Addr) (rn rcap : Nat) (a : Option Addr) (n cap : Nat) : Prop where
  all : C = X ++ rest ++ rem
  blocks : X.length = 64 * q
  st : Blk H bt (stc (absorb q h0 (ints X))) 81
  own : Own H (bt + 1) 5 1 ra rn rcap (strV rest)
  rlen : rest.length = rn
  row : Row H a (strV rem)
  len : rem.length = n
  hcap : n ≤ cap
  ext : Ext H0 H
  new : H0.size ≤ bt
  in0 : rem ≠ [] → ∀ p, a = some p → p.block < H0.size

/-- a step that writes the state's block, or the own slice's, or none that was there -/
theorem Mid.step {H0 H H' : Heap} {bt : Nat} {C : List UInt8} {q q' : Nat} {X X' rest rest' rem rem' : List UInt8} {ra ra' : Option Addr} {rn rcap rn' rcap' : Nat} {a a' : Option Addr} {n cap n' cap' : Nat} (h : Mid H0 H bt C q X rest rem ra rn rcap a n cap)
    {F : Nat → Prop} (hF : ∀ b, F b → bt ≤ b) (k : Only F H H') (hall : C = X' ++ rest' ++ rem') (hX : X'.length = 64 * q') (hst : Blk H' bt (stc (absorb q' h0 (ints X'))) 81) (hown : Own H' (bt + 1) 5 1 ra' rn' rcap' (strV rest')) (hrl : rest'.length = rn')
    (hrow : Row H a' (strV rem')) (hlen : rem'.length = n') (hcap : n' ≤ cap') (hin : rem' ≠ [] → ∀ p, a' = some p → p.block < H0.size) : Mid H0 H' bt C q' X' rest' rem' ra' rn' rcap' a' n' cap' :=
  ⟨hall, hX, hst, hown, hrl, hrow.keep' k fun h0 p hp hb => by
    have h1 := hin (fun e => h0 (by rw [e]; rfl)) p hp
    have h2 := hF _ hb
    have := h.new
    omega, hlen, hcap, Only.trans h.ext k fun b hb hFb => (by have := hF b hFb; have := h.new; omega), h.new, hin⟩
theorem absorb_more (q : Nat) (X b : List UInt8) (hX : X.length = 64 * q) (hb : 64 ≤ b.length) : blk (absorb q h0 (ints X)) (ints b) = absorb (q + 1) h0 (ints (X ++ b.take 64)) := by
  rw [absorb_succ, ints_append, absorb_append q h0 (ints X) _ (by rw [ints_length, hX]; omega)]
  rw [List.drop_append_of_le_length (by rw [ints_length, hX]; omega), List.drop_eq_nil_of_le (by rw [ints_length, hX]; omega), List.nil_append, ← ints_take, List.take_take, Nat.min_self, blk_take]

theorem PartOk.in0 {H : Heap} {p : Part} (h : PartOk H p) : ∀ q, p.a = some q → p.l ≠ [] → q.block < H.size := by
  intro q hq hl
  obtain ⟨b, o, ha, hb, _⟩ := h.row.at (by rw [strV_length]; exact List.length_pos_iff.2 hl)
  rw [ha] at hq; cases hq; exact hb
theorem shr_u64 (x : Int) (k : Int) (h0 : 0 ≤ k) (h1 : k ≤ 64) : shrB .u64 x k = x / 2 ^ k.toNat := by
  unfold shrB
  rw [Nat.min_eq_left (by simp [IntKind.bits]; omega)]
  exact Int.fdiv_eq_ediv_of_nonneg _ (Int.pow_nonneg (by decide))

set_option maxHeartbeats 1000000 in
theorem sum_any (ps : List Part) (pa : Option Addr) (pn pcap : Nat) (H : Heap) (hp : Parts H pa ps) (hn : ps.length = pn) (hpn : pn ≤ 140737488355328) (htot : (allL ps).length ≤ 70368744177664) :
    CallH Tryd.prog 18 [.slice pa pn pcap] H fun v H' => v = .agg (strV (sumL (allL ps))).toArray ∧ Ext H H' := by
  refine Vc.CallH.body Tryd.func18 Tryd.call18 rfl (by decide +kernel) rfl ?_
  ((conv => whnf); repeat (any_goals (first | (refine Vc.sts ?_; (conv => whnf)))))
  refine SemH.alloc rfl rfl ?_
  intro H1 hs1 hb1 hx1
  ((conv => whnf); repeat (any_goals (first | ((refine (begin_any _).mono ?_; rintro _ H2 ⟨rfl, hx2⟩); (conv => whnf)) | ((refine (round_any _).mono ?_; rintro _ H3 ⟨rfl, hx3⟩); (conv => whnf)) | (refine Vc.sts ?_; (conv => whnf)))))
  refine ⟨⟨.agg (stc h0), fun w => by kernel_rfl, ?_⟩⟩
  ((conv => whnf); repeat (any_goals (first | (refine Vc.sts ?_; (conv => whnf)))))
  refine SemH.box ?_
  intro H4 hs4 hb4 hx4
  have hz := ((hb1.ext hx2).ext hx3).ext hx4
  clear hb1
  ((conv => whnf); repeat (any_goals (first | (refine Vc.sts ?_; (conv => whnf)))))
  have hb4' : Blk H4 H3.size (stc h0) 81 := hb4
  clear hb4
  have hx : Ext H H4 := ((hx1.trans hx2).trans hx3).trans hx4
  have hsz : H.size + 1 ≤ H3.size := by have := hx2.size; have := hx3.size; omega
  generalize hbt : H3.size = bt at *
  refine LoopH.intro (fun (s : Nat × Nat × List UInt8 × List UInt8 × Option Addr × Nat × Nat) => [(22, .int .i64 s.1), (4, .slice s.2.2.2.2.1 s.2.2.2.2.2.1 s.2.2.2.2.2.2), (5, .int .u64 (8 * (allL (ps.take s.1)).length : Nat))])
    (fun s H' => s.1 ≤ ps.length ∧ s.2.2.2.1.length < 64 ∧ Blk H' H.size (Array.replicate 32 (.int .u8 0)) 33 ∧ Mid H H' bt (allL (ps.take s.1)) s.2.1 s.2.2.1 s.2.2.2.1 [] s.2.2.2.2.1 s.2.2.2.2.2.1 s.2.2.2.2.2.2 none 0 0) (fun s => ps.length - s.1) (0, 0, [], [], none, 0, 0) ⟨rfl, rfl, rfl, trivial⟩
    ⟨Nat.zero_le _, by decide, hz, rfl, rfl, hb4', Own.nil _ _ _ _, rfl, Row.nil _ _, rfl, Nat.le_refl _, hx, by omega, fun h => absurd rfl h⟩ ?_
  intro ⟨k, q, X, rest, ra, rn, rcap⟩ H5 ⟨hk, hr64, hz5, hM⟩
  dsimp only at hk hr64 hz5 hM ⊢
  by_cases hlt : k < ps.length
  · have hP := hp.each ps[k] (List.getElem_mem hlt)
    have hpx := hp.ext hM.ext
    have hsn := allL_snoc ps k hlt
    have htk := allL_take_le ps (k + 1)
    have hlen : (allL (ps.take (k + 1))).length = (allL (ps.take k)).length + ps[k].l.length := by rw [hsn, List.length_append]
    have hPn := hP.len
    have hPc := hP.cap
    have hrl := hM.rlen
    have hC := hM.all
    generalize hCk : allL (ps.take k) = C at *
    generalize hPk : ps[k] = p at *
    obtain ⟨a, n, cap, l⟩ := p
    dsimp only at hPn hPc
    ((conv => whnf); repeat (any_goals (first | (refine Vc.stt ?_; (conv => whnf)))))
    refine SeqH.go ?_
    ((conv => whnf); repeat (any_goals (first | (refine Vc.stt ?_; (conv => whnf)))))
    refine SeqH.go ?_
    have hlen' : (allL (ps.take (k + 1))).length = C.length + l.length := hlen
    have hcl : C.length + n ≤ 70368744177664 := by omega
    ((conv => whnf); repeat (any_goals (first | ((refine IdxA.part hpx hn k rfl hlt ?_; intro _ _ _ hc; rw [hPk] at hc; replace hc : hcell _ _ = some (.slice a n cap) := hc); (conv => whnf)) | (((with_reducible apply SemH.load); (focus (rfl)); (focus (exact hc))); (conv => whnf)) | (refine Vc.stt ?_; (conv => whnf)))))
    have hMp : Mid H H5 bt (C ++ l) q X rest l ra rn rcap a n cap := ⟨by rw [hC]; simp, hM.blocks, hM.st, hM.own, hM.rlen, (hP.ext hM.ext).row, hPn, hPc, hM.ext, hM.new, fun h0 p hp => hP.in0 p hp h0⟩
    have hln : (allL (ps.take (k + 1))).length = C.length + n := by rw [hlen, ← hPn]
    refine SeqH.cut (fun (s : List UInt8 × List UInt8 × Option Addr × Nat × Nat × Option Addr × Nat × Nat) => [(4, .slice s.2.2.1 s.2.2.2.1 s.2.2.2.2.1), (7, .slice s.2.2.2.2.2.1 s.2.2.2.2.2.2.1 s.2.2.2.2.2.2.2), (5, .int .u64 (8 * (C.length + n) : Nat))])
      (fun s H' => Mid H H' bt (C ++ l) q X s.1 s.2.1 s.2.2.1 s.2.2.2.1 s.2.2.2.2.1 s.2.2.2.2.2.1 s.2.2.2.2.2.2.1 s.2.2.2.2.2.2.2 ∧ s.1.length ≤ 64 ∧ (s.1.length = 0 ∨ s.1.length = 64 ∨ s.2.1 = []) ∧ Blk H' H.size (Array.replicate 32 (.int .u8 0)) 33) ?_ ?_
    · by_cases h0 : 0 < rn
      · have e5 : (8 * C.length : Nat) + (n : Int) * 8 = (8 * (C.length + n) : Nat) := by omega
        ((conv => whnf); repeat (any_goals (first | ((refine BndH.nat (min (64 - rn) n) (by omega) (by omega) ?_); (conv => whnf)) | (refine Vc.sts ?_; (conv => whnf)))))
        have hkr : (l.take (min (64 - rn) n)).length = min (64 - rn) n := by rw [List.length_take, hPn]; omega
        have hrowk : Row H5 a (strV (l.take (min (64 - rn) n))) := by rw [← strV_take]; exact hMp.row.take _
        refine NextH.append (i := Tryd.t5) (z := .int .u8 0) rfl ⟨_, rfl, fun _ h => by cases h⟩ rfl rfl rfl hMp.own (Src.row hrowk (by rw [strV_length, hkr]; exact (Nat.mul_one _).symm) (strV_plain _)) (by unfold maxLen; omega) (by show (rn + min (64 - rn) n) * 1 ≤ _; omega) (by have := hMp.st.lt; omega) ?_
        intro ra' rcap' H6 ho6 hw6 _
        ((conv => whnf); repeat (any_goals (first | ((refine BndH.nat (min (64 - rn) n) (by omega) (by omega) ?_); (conv => whnf)) | (refine Vc.sts ?_; (conv => whnf)))))
        have hF : ∀ b, (∃ p, ra = some p ∧ p.block = b) → bt + 1 ≤ b := fun b ⟨p, hp, e⟩ => by have := (hMp.own.block p hp).1; omega
        refine ⟨(rest ++ l.take (min (64 - rn) n), l.drop (min (64 - rn) n), ra', rn + min (64 - rn) n, rcap', sliceBase a cap (min (64 - rn) n) 1, n - min (64 - rn) n, cap - min (64 - rn) n), ⟨rfl, rfl, ?_, trivial⟩, ?_, ?_, ?_, ?_⟩
        · show Value.int _ _ = Value.int _ _
          rw [← e5]
        · refine hMp.step (F := fun b => bt + 1 ≤ b) (fun b hb => by omega) (hw6.mono hF) (by rw [hC]; simp) hMp.blocks (hMp.st.keep hw6 fun h => by have := hF _ h; omega) ?_ (by rw [List.length_append, hkr, hrl]) ?_ (by rw [List.length_drop, hPn]) (by show n - _ ≤ cap - _; omega) ?_
          · rw [strV_append]; exact ho6
          · have := hMp.row.drop cap (min (64 - rn) n) 1 (fun e => by rw [strV_length]; omega)
            rw [Nat.mul_one, strV_drop] at this
            exact this
          · intro hne p hp
            have hl0 : l ≠ [] := fun e => hne (by rw [e]; simp)
            unfold sliceBase at hp
            split at hp
            · exact hP.in0 p hp hl0
            · obtain ⟨b, o, ha, hb, _⟩ := hP.row.at (by rw [strV_length]; exact List.length_pos_iff.2 hl0)
              subst ha
              rw [Option.map_some, addk] at hp
              cases hp
              exact hb
        · show (rest ++ l.take _).length ≤ 64
          rw [List.length_append, hkr]; omega
        · rcases Nat.le_total (64 - rn) n with h | h
          · refine .inr (.inl ?_)
            show (rest ++ l.take _).length = 64
            rw [List.length_append, hkr]; omega
          · refine .inr (.inr ?_)
            show l.drop _ = []
            exact List.drop_eq_nil_of_le (by omega)
        · exact hz5.keep hw6 fun h => by have := hF _ h; omega
      · ((conv => whnf); repeat (any_goals (first | (refine Vc.sts ?_; (conv => whnf)))))
        refine ⟨(rest, l, ra, rn, rcap, a, n, cap), ⟨rfl, rfl, ?_, trivial⟩, hMp, by show rest.length ≤ 64; omega, .inl (by show rest.length = 0; omega), hz5⟩
        show Value.int _ _ = Value.int _ _
        rw [show ((8 * C.length : Nat) : Int) + (n : Int) * 8 = (8 * (C.length + n) : Nat) by omega]
    · rintro ⟨rest1, rem1, ra1, rn1, rcap1, a1, n1, cap1⟩ H6 ⟨hM6, hr1, hd1, hz6⟩
      dsimp only at hM6 hr1 hd1 hz6 ⊢
      clear hMp hM hpx hc hrl
      ((conv => whnf); repeat (any_goals (first | (refine Vc.stt ?_; (conv => whnf)))))
      refine SeqH.cut (fun (s : Nat × List UInt8 × List UInt8 × Nat) => [(4, .slice ra1 s.2.2.2 rcap1), (7, .slice a1 n1 cap1), (5, .int .u64 (8 * (C.length + n) : Nat))])
        (fun s H' => Mid H H' bt (C ++ l) s.1 s.2.1 s.2.2.1 rem1 ra1 s.2.2.2 rcap1 a1 n1 cap1 ∧ s.2.2.1.length < 64 ∧ (s.2.2.1.length = 0 ∨ rem1 = []) ∧ Blk H' H.size (Array.replicate 32 (.int .u8 0)) 33) ?_ ?_
      · ((conv => whnf); repeat (any_goals (first | (refine Vc.sts ?_; (conv => whnf)))))
        refine LoopH.intro (fun (s : Nat × List UInt8 × List UInt8 × Nat) => [(4, .slice ra1 s.2.2.2 rcap1), (7, .slice a1 n1 cap1), (5, .int .u64 (8 * (C.length + n) : Nat))])
          (fun s H' => Mid H H' bt (C ++ l) s.1 s.2.1 s.2.2.1 rem1 ra1 s.2.2.2 rcap1 a1 n1 cap1 ∧ s.2.2.1.length ≤ 64 ∧ (s.2.2.1.length = 0 ∨ s.2.2.1.length = 64 ∨ rem1 = []) ∧ Blk H' H.size (Array.replicate 32 (.int .u8 0)) 33) (fun s => s.2.2.1.length) (q, X, rest1, rn1) ⟨rfl, rfl, rfl, trivial⟩ ⟨hM6, hr1, hd1, hz6⟩ ?_
        rintro ⟨q2, X2, rest2, rn2⟩ H7 ⟨hM7, hr2, hd2, hz7⟩
        dsimp only at hM7 hr2 hd2 hz7 ⊢
        have hrl2 := hM7.rlen
        by_cases h64 : rn2 = 64
        · subst h64
          ((conv => whnf); repeat (any_goals (first | ((refine (sturn_any (absorb q2 h0 (ints X2)) rest2 (by omega) _ bt hM7.st ra1 64 rcap1 (by omega) hM7.own.row (by omega)).mono ?_; rintro _ H8 ⟨rfl, hst8, hb8⟩); (conv => whnf)) | ((refine BndH.nat 0 rfl (by omega) ?_); (conv => whnf)) | (refine Vc.sts ?_; (conv => whnf)))))
          have hoc := hM7.own.cut 0 (by omega)
          rw [Nat.zero_mul, List.take_zero] at hoc
          refine ⟨(q2 + 1, X2 ++ rest2, [], 0), ⟨rfl, rfl, rfl, trivial⟩, ⟨?_, by show ([] : List UInt8).length ≤ 64; decide, .inl rfl, hz7.but hb8 (by have := hM7.new; omega)⟩, by show 0 < rest2.length; omega⟩
          refine hM7.step (F := fun b => b = bt) (fun b hb => by omega) hb8 (by rw [hM7.all]; simp) (by rw [List.length_append, hM7.blocks]; omega) ?_ (hoc.keep hb8 fun p hp => by have := (hM7.own.block p hp).1; omega) rfl hM7.row hM7.len hM7.hcap hM7.in0
          have := absorb_more q2 X2 rest2 hM7.blocks (by omega)
          rw [List.take_of_length_le (by omega)] at this
          rw [← this]
          exact hst8
        · ((conv => whnf); repeat (any_goals (first | (refine Vc.sts ?_; (conv => whnf)))))
          refine ⟨(q2, X2, rest2, rn2), ⟨rfl, rfl, rfl, trivial⟩, hM7, by show rest2.length < 64; omega, ?_, hz7⟩
          rcases hd2 with h | h | h
          · exact .inl h
          · omega
          · exact .inr h
      · rintro ⟨q2, X2, rest2, rn2⟩ H7 ⟨hM7, hr2, hd2, hz7⟩
        dsimp only at hM7 hr2 hd2 hz7 ⊢
        have hrl2 := hM7.rlen
        clear hM6 hz6
        ((conv => whnf); repeat (any_goals (first | (refine Vc.stt ?_; (conv => whnf)))))
        refine SeqH.cut (fun (s : Nat × List UInt8 × List UInt8 × Option Addr × Nat × Nat) => [(4, .slice ra1 rn2 rcap1), (7, .slice s.2.2.2.1 s.2.2.2.2.1 s.2.2.2.2.2), (5, .int .u64 (8 * (C.length + n) : Nat))])
          (fun s H' => Mid H H' bt (C ++ l) s.1 s.2.1 rest2 s.2.2.1 ra1 rn2 rcap1 s.2.2.2.1 s.2.2.2.2.1 s.2.2.2.2.2 ∧ s.2.2.1.length < 64 ∧ (rest2.length = 0 ∨ s.2.2.1 = []) ∧ Blk H' H.size (Array.replicate 32 (.int .u8 0)) 33) ?_ ?_
        · ((conv => whnf); repeat (any_goals (first | (refine Vc.sts ?_; (conv => whnf)))))
          refine LoopH.intro (fun (s : Nat × List UInt8 × List UInt8 × Option Addr × Nat × Nat) => [(4, .slice ra1 rn2 rcap1), (7, .slice s.2.2.2.1 s.2.2.2.2.1 s.2.2.2.2.2), (5, .int .u64 (8 * (C.length + n) : Nat))])
            (fun s H' => Mid H H' bt (C ++ l) s.1 s.2.1 rest2 s.2.2.1 ra1 rn2 rcap1 s.2.2.2.1 s.2.2.2.2.1 s.2.2.2.2.2 ∧ (rest2.length = 0 ∨ s.2.2.1 = []) ∧ Blk H' H.size (Array.replicate 32 (.int .u8 0)) 33) (fun s => s.2.2.1.length) (q2, X2, rem1, a1, n1, cap1) ⟨rfl, rfl, rfl, trivial⟩ ⟨hM7, hd2, hz7⟩ ?_
          rintro ⟨q3, X3, rem3, a3, n3, cap3⟩ H8 ⟨hM8, hd3, hz8⟩
          dsimp only at hM8 hd3 hz8 ⊢
          have hl3 := hM8.len
          have hc3 := hM8.hcap
          have htl := congrArg List.length hM8.all
          simp only [List.length_append] at htl
          by_cases h64 : 64 ≤ n3
          · have hr0 : rest2 = [] := by
              rcases hd3 with h | h
              · exact List.eq_nil_of_length_eq_zero h
              · rw [h] at hl3; simp at hl3; omega
            ((conv => whnf); repeat (any_goals (first | ((refine (sturn_any (absorb q3 h0 (ints X3)) rem3 (by omega) _ bt hM8.st a3 n3 cap3 hl3 hM8.row (by omega)).mono ?_; rintro _ H9 ⟨rfl, hst9, hb9⟩); (conv => whnf)) | ((refine BndH.nat 64 rfl (by omega) ?_); (conv => whnf)) | (refine Vc.sts ?_; (conv => whnf)))))
            refine ⟨(q3 + 1, X3 ++ rem3.take 64, rem3.drop 64, sliceBase a3 cap3 64 1, n3 - 64, cap3 - 64), ⟨rfl, rfl, rfl, trivial⟩, ⟨?_, ?_, hz8.but hb9 (by have := hM8.new; omega)⟩, by show (rem3.drop 64).length < rem3.length; rw [List.length_drop]; omega⟩
            · refine hM8.step (F := fun b => b = bt) (fun b hb => by omega) hb9 (by rw [hM8.all, hr0]; simp) (by rw [List.length_append, hM8.blocks, List.length_take]; omega) ?_ (hM8.own.keep hb9 fun p hp => by have := (hM8.own.block p hp).1; omega) hM8.rlen ?_ (by rw [List.length_drop, hl3]) (by show n3 - 64 ≤ cap3 - 64; omega) ?_
              · rw [← absorb_more q3 X3 rem3 hM8.blocks (by omega)]
                exact hst9
              · have := hM8.row.drop cap3 64 1 (fun e => by rw [strV_length]; omega)
                rw [Nat.mul_one, strV_drop] at this
                exact this
              · intro hne p hp
                have hl0 : rem3 ≠ [] := fun e => hne (by rw [e]; simp)
                unfold sliceBase at hp
                split at hp
                · exact hM8.in0 hl0 p hp
                · obtain ⟨b, o, ha, hb, _⟩ := hM8.row.at (by rw [strV_length]; exact List.length_pos_iff.2 hl0)
                  have := hM8.in0 hl0 _ ha
                  subst ha
                  rw [Option.map_some, addk] at hp
                  cases hp
                  exact this
            · exact .inl (by rw [hr0]; rfl)
          · ((conv => whnf); repeat (any_goals (first | (refine Vc.sts ?_; (conv => whnf)))))
            exact ⟨(q3, X3, rem3, a3, n3, cap3), ⟨rfl, rfl, rfl, trivial⟩, hM8, by show rem3.length < 64; omega, hd3, hz8⟩
        · rintro ⟨q3, X3, rem3, a3, n3, cap3⟩ H8 ⟨hM8, hr3, hd3, hz8⟩
          dsimp only at hM8 hr3 hd3 hz8 ⊢
          have hl3 := hM8.len
          have hfin : C ++ l = allL (ps.take (k + 1)) := by rw [hsn]
          by_cases h0 : 0 < n3
          · have hr0 : rest2 = [] := by
              rcases hd3 with h | h
              · exact List.eq_nil_of_length_eq_zero h
              · rw [h] at hl3; simp at hl3; omega
            have hrn : rn2 = 0 := by rw [← hrl2, hr0]; rfl
            ((conv => whnf); repeat (any_goals (first | (refine Vc.sts ?_; (conv => whnf)))))
            refine NextH.append (i := Tryd.t5) (z := .int .u8 0) rfl ⟨_, rfl, fun _ h => by cases h⟩ rfl rfl rfl hM8.own (Src.row hM8.row (by rw [strV_length, hl3]; exact (Nat.mul_one _).symm) (strV_plain _)) (by unfold maxLen; omega) (by show (rn2 + n3) * 1 ≤ _; omega) (by have := hM8.st.lt; omega) ?_
            intro ra' rcap' H9 ho9 hw9 _
            ((conv => whnf); repeat (any_goals (first | (refine Vc.sts ?_; (conv => whnf)))))
            have hF : ∀ b, (∃ p, ra1 = some p ∧ p.block = b) → bt + 1 ≤ b := fun b ⟨p, hp, e⟩ => by have := (hM8.own.block p hp).1; omega
            refine ⟨(k + 1, q3, X3, rest2 ++ rem3, ra', rn2 + n3, rcap'), ⟨rfl, rfl, ?_, trivial⟩, ⟨by omega, by show (rest2 ++ rem3).length < 64; rw [hr0]; simpa using hr3, hz8.keep hw9 (fun h => by have := hF _ h; have := hM8.new; omega), ?_⟩, by show ps.length - (k + 1) < ps.length - k; omega⟩
            · show Value.int _ _ = Value.int _ _
              rw [hln]
            · show Mid H H9 bt (allL (ps.take (k + 1))) q3 X3 (rest2 ++ rem3) [] ra' (rn2 + n3) rcap' none 0 0
              rw [← hfin]
              exact hM8.step (F := fun b => bt + 1 ≤ b) (fun b hb => by omega) (hw9.mono hF) (by rw [hM8.all]; simp) hM8.blocks (hM8.st.keep hw9 fun h => by have := hF _ h; omega) (by rw [strV_append]; exact ho9) (by rw [List.length_append, hl3, hrl2]) (Row.nil _ _) rfl (Nat.le_refl _) (fun h => absurd rfl h)
          · have hrem : rem3 = [] := List.eq_nil_of_length_eq_zero (by omega)
            ((conv => whnf); repeat (any_goals (first | (refine Vc.sts ?_; (conv => whnf)))))
            refine ⟨(k + 1, q3, X3, rest2, ra1, rn2, rcap1), ⟨rfl, rfl, ?_, trivial⟩, ⟨by omega, hr2, hz8, ?_⟩, by show ps.length - (k + 1) < ps.length - k; omega⟩
            · show Value.int _ _ = Value.int _ _
              rw [hln]
            · show Mid H H8 bt (allL (ps.take (k + 1))) q3 X3 rest2 [] ra1 rn2 rcap1 none 0 0
              rw [← hfin]
              exact hM8.step (F := fun _ => False) (fun b hb => hb.elim) (Ext.refl _) (by rw [hM8.all, hrem]) hM8.blocks hM8.st hM8.own hrl2 (Row.nil _ _) rfl (Nat.le_refl _) (fun h => absurd rfl h)
  · obtain rfl : k = ps.length := by omega
    rw [List.take_length] at *
    have hC := hM.all
    have hrl := hM.rlen
    have hXq := hM.blocks
    rw [List.append_nil] at hC
    ((conv => whnf); repeat (any_goals (first | (refine Vc.sts ?_; (conv => whnf)))))
    refine SemH.alloc rfl rfl ?_
    intro H6 hs6 hb6 hx6
    have hst6 := hM.st.ext hx6
    have hz6 := hz5.ext hx6
    have hrow6 := hM.own.row.ext hx6
    have hlt5 := hM.st.lt
    have hnew := hM.new
    have hown6 := hM.own.ext hx6
    have hx6' : Ext H H6 := hM.ext.trans hx6
    generalize hg : H5.size = g at *
    ((conv => whnf); repeat (any_goals (first | (refine Vc.sts ?_; (conv => whnf)))))
    have hb6' : Blk H6 g (Array.replicate 128 (.int .u8 0)) 83 := hb6
    clear hb6
    refine NextH.copy (i := Tryd.t5) (k := rn) (m := rn) (cs := strV rest) rfl rfl (fun w => rfl) (by show rn = min rn 128; omega) (by rw [strV_length, hrl]; exact (Nat.mul_one _).symm) (fun w hw => run_firstRow hrow6 (by rw [strV_length, hrl]; exact (Nat.mul_one _).symm) w hw) (fun _ => rfl) hb6' (by rw [strV_length]; simp; omega) (strV_plain _) ?_
    intro H7 hs7 hb7 hx7
    ((conv => whnf); repeat (any_goals (first | ((refine IdxH.nat rn rfl (by omega) ?_); (conv => whnf)) | (refine Vc.sts ?_; (conv => whnf)))))
    refine DoH.store1 hb7 rfl rfl rfl (by rw [over_size]; simp; omega) ?_
    intro H8 hs8 hb8 hx8
    have hst8 := (hst6.but hx7 (by omega)).but hx8 (by omega)
    have hz8 := (hz6.but hx7 (by omega)).but hx8 (by omega)
    have hx8' : Ext H H8 := (hx6'.but hx7 (by omega)).but hx8 (by omega)
    have hb8' : Blk H8 g (tab 128 (lastV rest ((allL ps).length * 8) (endOf rest.length) 0)) 83 := by
      have := last_start rest ((allL ps).length * 8) (endOf rest.length) hr64
      rw [hrl] at this ⊢
      rw [← this]
      exact hb8
    clear hb8 hb7 hst6 hz6 hz5 hM hown6 hrow6
    have hend : endOf rest.length = 64 ∨ endOf rest.length = 128 := by unfold endOf; split <;> omega
    ((conv => whnf); repeat (any_goals (first | (refine Vc.stt ?_; (conv => whnf)))))
    refine SeqH.cut (fun (_ : Unit) => [(11, .int .i64 (endOf rest.length : Nat))]) (fun _ H' => H' = H8) ?_ ?_
    · by_cases h9 : rn + 9 > 64
      · have : endOf rest.length = 128 := by unfold endOf; rw [hrl, if_pos h9]
        rw [this]
        ((conv => whnf); repeat (any_goals (first | (refine Vc.sts ?_; (conv => whnf)))))
        exact ⟨(), ⟨rfl, trivial⟩, rfl⟩
      · have : endOf rest.length = 64 := by unfold endOf; rw [hrl, if_neg h9]
        rw [this]
        ((conv => whnf); repeat (any_goals (first | (refine Vc.sts ?_; (conv => whnf)))))
        exact ⟨(), ⟨rfl, trivial⟩, rfl⟩
    rintro _ _ rfl
    generalize he : endOf rest.length = e at *
    ((conv => whnf); repeat (any_goals (first | (refine Vc.sts ?_; (conv => whnf)))))
    refine LoopH.intro (fun (j : Nat) => [(80, .int .i64 j)]) (fun j H' => j ≤ 8 ∧ Blk H' g (tab 128 (lastV rest ((allL ps).length * 8) e j)) 83 ∧ Blk H' bt (stc (absorb q h0 (ints X))) 81 ∧ Blk H' H.size (Array.replicate 32 (.int .u8 0)) 33 ∧ Ext H H') (fun j => 8 - j) 0 ⟨rfl, trivial⟩ ⟨by omega, hb8', hst8, hz8, hx8'⟩ ?_
    intro j H9 ⟨hj, hb9, hst9, hz9, hx9⟩
    by_cases hj8 : j < 8
    · ((conv => whnf); repeat (any_goals (first | ((refine IdxH.nat (e - 8 + j) (by omega) (by omega) ?_); (conv => whnf)) | ((refine ArithH.u8m ?_); (conv => whnf)) | (refine Vc.sts ?_; (conv => whnf)))))
      refine DoH.store1 hb9 rfl rfl rfl (by rw [tab_size]; omega) ?_
      intro H10 hs10 hb10 hx10
      ((conv => whnf); repeat (any_goals (first | (refine Vc.sts ?_; (conv => whnf)))))
      refine ⟨j + 1, ⟨rfl, trivial⟩, ⟨by omega, ?_, hst9.but hx10 (by omega), hz9.but hx10 (by omega), hx9.but hx10 (by omega)⟩, by omega⟩
      rw [Nat.zero_add] at hb10
      have e1 : shrB .u64 ((8 * (allL ps).length : Nat) : Int) (56 - 8 * (j : Int)) % 256 = ((allL ps).length * 8 : Int) / 2 ^ (8 * (7 - j)) % 256 := by
        rw [shr_u64 _ _ (by omega) (by omega), show (56 - 8 * (j : Int)).toNat = 8 * (7 - j) by omega, show ((8 * (allL ps).length : Nat) : Int) = (allL ps).length * 8 by omega]
      rw [last_set _ _ _ _ _ e1] at hb10
      exact hb10
    · obtain rfl : j = 8 := by omega
      clear hb8' hst8 hz8 hx8'
      ((conv => whnf); repeat (any_goals (first | (refine Vc.sts ?_; (conv => whnf)))))
      refine LoopH.intro (fun (b : Nat) => [(13, .int .i64 (64 * b : Nat))]) (fun b H' => 64 * b ≤ e ∧ Blk H' g (tab 128 (lastV rest ((allL ps).length * 8) e 8)) 83 ∧ Blk H' bt (stc (absorb b (absorb q h0 (ints X)) (lastB (ints rest) (allL ps).length))) 81 ∧ Blk H' H.size (Array.replicate 32 (.int .u8 0)) 33 ∧ Ext H H') (fun b => 128 - 64 * b) 0 ⟨rfl, trivial⟩ ⟨by omega, hb9, hst9, hz9, hx9⟩ ?_
      intro b H10 ⟨hb, hb10, hst10, hz10, hx10⟩
      by_cases hlt2 : 64 * b < e
      · have hG : ∀ i, i < 64 → ((List.range 64).map fun i => lastF rest ((allL ps).length * 8) e 8 (64 * b + i)).getD i 0 = lastF rest ((allL ps).length * 8) e 8 (64 * b + i) := fun i hi => by
          simp [List.getD_eq_getElem?_getD, hi]
        generalize hGl : ((List.range 64).map fun i => lastF rest ((allL ps).length * 8) e 8 (64 * b + i)) = G at hG
        have hGn : G.length = 64 := by rw [← hGl]; simp
        have hrowG : Row H10 (sliceBase (some ⟨g, 0, none⟩) 128 (64 * b) 1) (strV G) := by
          unfold sliceBase
          rw [if_neg (by omega), Option.map_some, addk, Nat.zero_add, Nat.mul_one]
          refine tab_row hb10 _ _ fun j hj => ?_
          rw [strV_length, hGn] at hj
          refine ⟨by omega, ?_⟩
          rw [strV_get (by omega), hG j hj]; rfl
        ((conv => whnf); repeat (any_goals (first | ((refine BndH.nat (64 * b + 64) (by omega) (by omega) ?_); (conv => whnf)) | ((refine BndH.nat (64 * b) (by omega) (by omega) ?_); (conv => whnf)) | ((refine (sturn_any _ G (by omega) _ bt hst10 _ _ _ (by omega) hrowG (by omega)).mono ?_; rintro _ H11 ⟨rfl, hst11, hx11⟩); (conv => whnf)) | (refine Vc.sts ?_; (conv => whnf)))))
        refine ⟨b + 1, ⟨?_, trivial⟩, ⟨by omega, hb10.but hx11 (by omega), ?_, hz10.but hx11 (by omega), hx10.but hx11 hnew⟩, by omega⟩
        · show Value.int _ _ = Value.int _ _
          rw [show ((64 * b : Nat) : Int) + 64 = (64 * (b + 1) : Nat) by omega]
        · have := absorb_last rest (allL ps).length (by omega) (absorb q h0 (ints X)) G b (by rw [he]; exact hG) (by rw [he]; omega)
          rw [this]
          exact hst11
      · have hbe : b = e / 64 := by omega
        subst hbe
        clear hb9 hst9 hz9 hx9
        have hdone := sha_done X rest q hXq (by omega)
        rw [he, ← hC] at hdone
        rw [hdone] at hst10
        ((conv => whnf); repeat (any_goals (first | (refine Vc.sts ?_; (conv => whnf)))))
        refine SemH.alloc rfl rfl ?_
        intro H11 hs11 hb11 hx11
        ((conv => whnf); repeat (any_goals (first | (refine Vc.sts ?_; (conv => whnf)))))
        have hlt10 := hst10.lt
        refine LoopH.intro (fun (i : Nat) => [(107, .int .i64 i)]) (fun i H' => i ≤ 32 ∧ Blk H' H10.size (tab 32 (sumV (shaH (ints (allL ps))) i)) 33 ∧ Blk H' bt (stc (shaH (ints (allL ps)))) 81 ∧ Blk H' H.size (Array.replicate 32 (.int .u8 0)) 33 ∧ Ext H H') (fun i => 32 - i) 0 ⟨rfl, trivial⟩ ⟨by omega, by rw [sumV_zero]; exact hb11, hst10.ext hx11, hz10.ext hx11, hx10.trans hx11⟩ ?_
        intro i H12 ⟨hi, hb12, hst12, hz12, hx12⟩
        by_cases hi32 : i < 32
        · have hv := stc_lo0 (shaH (ints (allL ps))) (i / 4) (by omega)
          ((conv => whnf); repeat (any_goals (first | ((refine IdxH.nat (i / 4) (by omega) (by omega) ?_); (conv => whnf)) | ((refine IdxH.nat i rfl (by omega) ?_); (conv => whnf)) | (((with_reducible apply SemH.load_at hst12); (focus (rfl)); (focus (exact hv))); (conv => whnf)) | ((refine ArithH.u8m ?_); (conv => whnf)) | (refine Vc.sts ?_; (conv => whnf)))))
          refine DoH.store1 (o := 0 + i) hb12 rfl rfl rfl (by rw [tab_size]; omega) ?_
          intro H13 hs13 hb13 hx13
          ((conv => whnf); repeat (any_goals (first | (refine Vc.sts ?_; (conv => whnf)))))
          refine ⟨i + 1, ⟨rfl, trivial⟩, ⟨by omega, ?_, hst12.but hx13 (by omega), hz12.but hx13 (by omega), hx12.but hx13 (by omega)⟩, by omega⟩
          have e1 : shrB .u32 (shaH (ints (allL ps)) (i / 4)) (24 - 8 * ((i : Int) % 4)) % 256 = shaH (ints (allL ps)) (i / 4) / 2 ^ (24 - 8 * (i % 4)) % 256 := by
            rw [show (24 - 8 * ((i : Int) % 4)) = ((24 - 8 * (i % 4) : Nat) : Int) by omega, shr_nat _ (by omega)]
          rw [Nat.zero_add, e1, sumV_set] at hb13
          exact hb13
        · obtain rfl : i = 32 := by omega
          ((conv => whnf); repeat (any_goals (first | (refine Vc.sts ?_; (conv => whnf)))))
          refine SemH.load_blk hb12 rfl rfl (by rw [tab_size]; rfl) ?_
          ((conv => whnf); repeat (any_goals (first | (refine Vc.sts ?_; (conv => whnf)))))
          refine DoH.store_all hz12 rfl (by rw [tab_size]; rfl) (by rw [tab_size]; rfl) (sumV_plain _ _) ?_
          intro H13 hs13 hb13 hx13
          ((conv => whnf); repeat (any_goals (first | (refine Vc.sts ?_; (conv => whnf)))))
          refine SemH.load_blk hb13 rfl rfl (by rw [tab_size]; rfl) ?_
          ((conv => whnf); repeat (any_goals (first | (refine Vc.sts ?_; (conv => whnf)))))
          refine ⟨rfl, ?_⟩
          (conv => whnf)
          refine ⟨?_, hx12.but hx13 (by omega)⟩
          rw [sumV_done]; rfl
end Go.Proofs.YtjcmcmogbkdjcaaDoor
/- Sums: the document's sum: how a text is filled up. -/
namespace Go.Proofs.YtjcmcmogbkdjcaaDoor
open Go Go.Vc Go.Sha

def len8B (n : Int) : List UInt8 := (len8 n).map fun x => UInt8.ofNat (x % 256).toNat
theorem len8B_length (n : Int) : (len8B n).length = 8 := rfl
theorem len8_small (n : Int) : ∀ x ∈ len8 n, x % 256 = x := by
  intro x hx
  simp only [len8, List.mem_cons, List.not_mem_nil, or_false] at hx
  rcases hx with h | h | h | h | h | h | h | h <;> (subst h; omega)
theorem ints_len8 (n : Int) : ints (len8B n) = len8 n := by
  unfold ints len8B
  rw [List.map_map]
  conv => rhs; rw [← List.map_id (len8 n)]
  refine List.map_congr_left fun x hx => ?_
  show ((UInt8.ofNat (x % 256).toNat).toNat : Int) = id x
  rw [byte_int, len8_small n x hx]; rfl
theorem len8B_next (n : Int) (k : Nat) (h : k < 8) : (len8B n).take k ++ [UInt8.ofNat (n / 2 ^ (8 * (7 - k)) % 256).toNat] = (len8B n).take (k + 1) := by
  rw [List.take_add_one]
  congr 1
  unfold len8B
  rw [List.getElem?_map, len8_at n k h]
  simp only [Option.map_some, Option.toList_some]
  rw [Int.emod_emod_of_dvd _ (Int.dvd_refl 256)]
def padL (l : List UInt8) : List UInt8 := l ++ [128] ++ List.replicate (zc l.length) 0 ++ len8B ((l.length : Int) * 8)
theorem ints_pad (l : List UInt8) : ints (padL l) = pad (ints l) := by
  unfold padL pad
  rw [ints_append, ints_append, ints_append, ints_len8, ints_length]
  congr 2
  simp [ints]
theorem padL_length (l : List UInt8) : (padL l).length = l.length + 1 + zc l.length + 8 := by simp [padL, len8B_length]; omega

theorem Own.wr_new {H : Heap} {base : Nat} {e : TypeId} {size : Nat} {a : Option Addr} {n cap : Nat} {xs : List Value} (h : Own H base e size a n cap xs) : ∀ b, (∃ p, a = some p ∧ p.block = b) → base ≤ b := fun b ⟨p, hp, e⟩ => by have := (h.block p hp).1; omega

set_option maxHeartbeats 400000 in
theorem pad_any (l : List UInt8) (a : Option Addr) (n cap : Nat) (H : Heap) (hr : Row H a (strV l)) (hn : l.length = n) (hm : n ≤ 70368744177664) :
    CallH Tryd.prog 36 [.slice a n cap] H fun v H' => (∃ a' cap', v = .slice a' (padL l).length cap' ∧ Own H' H.size 5 1 a' (padL l).length cap' (strV (padL l))) ∧ Ext H H' := by
  refine Vc.CallH.body Tryd.func36 Tryd.call36 rfl (by decide +kernel) rfl ?_
  ((conv => whnf); repeat (any_goals (first | (refine Vc.sts ?_; (conv => whnf)))))
  refine NextH.append (i := Tryd.t5) (z := .int .u8 0) (base := H.size) rfl ⟨_, rfl, fun _ h => by cases h⟩ rfl rfl rfl (Own.nil _ _ _ _) (Src.row hr (by rw [strV_length, hn]; exact (Nat.mul_one _).symm) (strV_plain _)) (by unfold maxLen; omega) (by show (0 + n) * 1 ≤ _; omega) (Nat.le_refl _) ?_
  intro a1 cap1 H1 ho1 hw1 _
  ((conv => whnf); repeat (any_goals (first | (refine Vc.sts ?_; (conv => whnf)))))
  refine SemH.lit (vs := [_]) rfl rfl rfl rfl rfl rfl rfl ?_
  intro H2 hs2 hb2 hx2
  have hx1 : Ext H H1 := ⟨hw1.size, fun b hb _ => hw1.same b hb fun ⟨p, hp, _⟩ => by cases hp⟩
  have hr2 : Row H2 (some ⟨Array.size H1, 0, none⟩) (strV [128]) := hb2.row
  ((conv => whnf); repeat (any_goals (first | (refine Vc.sts ?_; (conv => whnf)))))
  refine NextH.append (i := Tryd.t5) (z := .int .u8 0) rfl ⟨_, rfl, fun _ h => by cases h⟩ rfl rfl rfl (ho1.ext hx2) (Src.row hr2 rfl (strV_plain _)) (by unfold maxLen; omega) (by show (0 + n + 1) * 1 ≤ _; omega) (by have := hx1.size; omega) ?_
  intro a3 cap3 H3 ho3 hw3 _
  have hx3 : Ext H H3 := Only.trans (hx1.trans hx2) hw3 fun b hb h => by have := Own.wr_new ho1 b h; omega
  clear hx2 hr2 hb2
  ((conv => whnf); repeat (any_goals (first | (refine Vc.sts ?_; (conv => whnf)))))
  have hz := zc_lt n
  refine LoopH.intro (fun (s : Nat × Option Addr × Nat) => [(3, .slice s.2.1 (n + 1 + s.1) s.2.2)]) (fun s H' => s.1 ≤ zc n ∧ Own H' H.size 5 1 s.2.1 (n + 1 + s.1) s.2.2 (strV (l ++ [128] ++ List.replicate s.1 0)) ∧ Ext H H') (fun s => zc n - s.1) (0, a3, cap3) ⟨by show Value.slice _ _ _ = Value.slice _ _ _; rw [show 0 + n + 1 = n + 1 + 0 by omega], trivial⟩ ⟨by omega, ?_, hx3⟩ ?_
  · have h3 : Own H3 H.size 5 1 a3 (0 + n + 1) cap3 ([] ++ strV l ++ strV [128]) := ho3
    rw [List.nil_append, ← strV_append] at h3
    simpa using h3
  rintro ⟨j, a4, cap4⟩ H4 ⟨hj, ho4, hx4⟩
  dsimp only at hj ho4 hx4 ⊢
  have hze := zc_end n
  by_cases hlt : j < zc n
  · have hzf := zc_first n j hlt
    ((conv => whnf); repeat (any_goals (first | (refine Vc.sts ?_; (conv => whnf)))))
    refine SemH.lit (vs := [_]) rfl rfl rfl rfl rfl rfl rfl ?_
    intro H5 hs5 hb5 hx5
    have hr5 : Row H5 (some ⟨Array.size H4, 0, none⟩) (strV [0]) := hb5.row
    ((conv => whnf); repeat (any_goals (first | (refine Vc.sts ?_; (conv => whnf)))))
    refine NextH.append (i := Tryd.t5) (z := .int .u8 0) rfl ⟨_, rfl, fun _ h => by cases h⟩ rfl rfl rfl (ho4.ext hx5) (Src.row hr5 rfl (strV_plain _)) (by unfold maxLen; omega) (by show (n + 1 + j + 1) * 1 ≤ _; omega) (by have := hx4.size; omega) ?_
    intro a6 cap6 H6 ho6 hw6 _
    ((conv => whnf); repeat (any_goals (first | (refine Vc.sts ?_; (conv => whnf)))))
    refine ⟨(j + 1, a6, cap6), ⟨rfl, trivial⟩, ⟨by omega, ?_, Only.trans (hx4.trans hx5) hw6 fun b hb h => by have := Own.wr_new ho4 b h; omega⟩, by show zc n - (j + 1) < zc n - j; omega⟩
    have := ho6
    rw [← strV_append, List.append_assoc, ← List.replicate_succ'] at this
    exact this
  · obtain rfl : j = zc n := by omega
    clear ho3 hw3 hx3
    ((conv => whnf); repeat (any_goals (first | (refine Vc.sts ?_; (conv => whnf)))))
    refine LoopH.intro (fun (s : Nat × Option Addr × Nat) => [(5, .int .i64 (7 - s.1)), (3, .slice s.2.1 (n + 1 + zc n + s.1) s.2.2)]) (fun s H' => s.1 ≤ 8 ∧ Own H' H.size 5 1 s.2.1 (n + 1 + zc n + s.1) s.2.2 (strV (l ++ [128] ++ List.replicate (zc n) 0 ++ (len8B ((n : Int) * 8)).take s.1)) ∧ Ext H H') (fun s => 8 - s.1) (0, a4, cap4) ⟨rfl, rfl, trivial⟩ ⟨by omega, by simpa using ho4, hx4⟩ ?_
    rintro ⟨k, a7, cap7⟩ H7 ⟨hk, ho7, hx7⟩
    dsimp only at hk ho7 hx7 ⊢
    by_cases hk8 : k < 8
    · ((conv => whnf); repeat (any_goals (first | ((refine ArithH.u8m ?_); (conv => whnf)) | (refine Vc.sts ?_; (conv => whnf)))))
      refine SemH.lit (vs := [_]) rfl rfl rfl rfl rfl rfl rfl ?_
      intro H8 hs8 hb8 hx8
      have e1 : shrB .u64 ((n : Int) * 8) (8 * (7 - (k : Int))) % 256 = ((UInt8.ofNat (((n : Int) * 8) / 2 ^ (8 * (7 - k)) % 256).toNat).toNat : Int) := by
        rw [byte_int, shr_u64 _ _ (by omega) (by omega), show (8 * (7 - (k : Int))).toNat = 8 * (7 - k) by omega]
      rw [e1] at hb8
      have hr8 : Row H8 (some ⟨Array.size H7, 0, none⟩) (strV [UInt8.ofNat (((n : Int) * 8) / 2 ^ (8 * (7 - k)) % 256).toNat]) := hb8.row
      ((conv => whnf); repeat (any_goals (first | (refine Vc.sts ?_; (conv => whnf)))))
      refine NextH.append (i := Tryd.t5) (z := .int .u8 0) rfl ⟨_, rfl, fun _ h => by cases h⟩ rfl rfl rfl (ho7.ext hx8) (Src.row hr8 rfl (strV_plain _)) (by unfold maxLen; omega) (by show (n + 1 + zc n + k + 1) * 1 ≤ _; omega) (by have := hx7.size; omega) ?_
      intro a9 cap9 H9 ho9 hw9 _
      ((conv => whnf); repeat (any_goals (first | (refine Vc.sts ?_; (conv => whnf)))))
      refine ⟨(k + 1, a9, cap9), ⟨?_, rfl, trivial⟩, ⟨by omega, ?_, Only.trans (hx7.trans hx8) hw9 fun b hb h => by have := Own.wr_new ho7 b h; omega⟩, by show 8 - (k + 1) < 8 - k; omega⟩
      · show Value.int _ _ = Value.int _ _
        rw [show (7 : Int) - (k : Int) - 1 = 7 - ((k + 1 : Nat) : Int) by omega]
      · have := ho9
        rw [← strV_append, List.append_assoc, len8B_next _ _ hk8] at this
        exact this
    · obtain rfl : k = 8 := by omega
      ((conv => whnf); repeat (any_goals (first | (refine Vc.sts ?_; (conv => whnf)))))
      have hpl : (padL l).length = n + 1 + zc n + 8 := by rw [padL_length, hn]
      refine ⟨⟨a7, cap7, ?_, ?_⟩, hx7⟩
      · rw [hpl]; rfl
      · rw [hpl]
        have := ho7
        rw [List.take_of_length_le (by rw [len8B_length]; omega)] at this
        unfold padL
        rw [hn]
        exact this
end Go.Proofs.YtjcmcmogbkdjcaaDoor
/- Sums: the document's sum. -/
namespace Go.Proofs.YtjcmcmogbkdjcaaDoor
open Go Go.Vc Go.Sha

theorem grow_eq2 (a16 a15 a7 a2 : Int) : (((a16 + bitB .u32 .xor (bitB .u32 .xor (rr (7 : Int).toNat a15) (rr (18 : Int).toNat a15)) (shrB .u32 a15 3)) % 4294967296 + a7) % 4294967296 +
    bitB .u32 .xor (bitB .u32 .xor (rr (17 : Int).toNat a2) (rr (19 : Int).toNat a2)) (shrB .u32 a2 10)) % 4294967296 = grow a16 a15 a7 a2 := grow_eq a16 a15 a7 a2
def one1 (f : Nat → Int) (r x : Int) : Int := ((((f 7 + bitB .u32 .xor (bitB .u32 .xor (rr (6 : Int).toNat (f 4)) (rr (11 : Int).toNat (f 4))) (rr (25 : Int).toNat (f 4))) % 4294967296 +
      bitB .u32 .xor (bitB .u32 .and (f 4) (f 5)) (bitB .u32 .and (bitB .u32 .xor (if IntKind.u32.signed then -1 else IntKind.u32.max) (f 4)) (f 6))) % 4294967296 + r) % 4294967296 + x) % 4294967296
def two1 (f : Nat → Int) : Int := (bitB .u32 .xor (bitB .u32 .xor (rr (2 : Int).toNat (f 0)) (rr (13 : Int).toNat (f 0))) (rr (22 : Int).toNat (f 0)) +
        bitB .u32 .xor (bitB .u32 .xor (bitB .u32 .and (f 0) (f 1)) (bitB .u32 .and (f 0) (f 2))) (bitB .u32 .and (f 1) (f 2))) % 4294967296
theorem s8_at {f g : Nat → Int} (h : s8 f = s8 g) (i : Nat) (hi : i < 8) : f i = g i := by
  have h1 := s8_get f i hi
  have h2 := s8_get g i hi
  rw [h, h2] at h1
  injection h1 with h1
  injection h1 with _ h1
  exact h1.symm
theorem nx_four (f : Nat → Int) (r x : Int) : (f 3 + one1 f r x) % 4294967296 = nx f r x 4 := by
  have h := s8_nx f r x
  have h4 := congrArg (fun a : Array Value => a[4]?) h
  rw [s8_get _ 4 (by omega)] at h4
  have e : ((s8 (sh f)).setIfInBounds 0 (.int .u32 (one1 f r x))).setIfInBounds 4 (.int .u32 ((f 3 + one1 f r x) % 4294967296)) = ((s8 (sh f)).setIfInBounds 0 (.int .u32 (one1 f r x))).setIfInBounds 4 (.int .u32 ((f 3 + one1 f r x) % 4294967296)) := rfl
  have h5 : some (Value.int .u32 ((f 3 + one1 f r x) % 4294967296)) = some (Value.int .u32 (nx f r x 4)) := h4
  injection h5 with h5
  injection h5
theorem nx_zero (f : Nat → Int) (r x : Int) : (one1 f r x + two1 f) % 4294967296 = nx f r x 0 := by
  have h := s8_nx f r x
  have h4 := congrArg (fun a : Array Value => a[0]?) h
  rw [s8_get _ 0 (by omega)] at h4
  have h5 : some (Value.int .u32 ((one1 f r x + two1 f) % 4294967296)) = some (Value.int .u32 (nx f r x 0)) := h4
  injection h5 with h5
  injection h5
theorem s8_set8 (F x : Nat → Int) : ((((((((s8 F).setIfInBounds (0 + 0) (.int .u32 (x 0))).setIfInBounds (0 + 1) (.int .u32 (x 1))).setIfInBounds (0 + 2) (.int .u32 (x 2))).setIfInBounds (0 + 3) (.int .u32 (x 3))).setIfInBounds (0 + 4) (.int .u32 (x 4))).setIfInBounds (0 + 5) (.int .u32 (x 5))).setIfInBounds (0 + 6) (.int .u32 (x 6))).setIfInBounds (0 + 7) (.int .u32 (x 7)) = s8 x := by kernel_rfl
theorem r64_get (k : Nat) (h : k < 64) : r64[0 + k]? = some (.int .u32 (rc k)) := by
  have := stc_hi h0 k h
  unfold stc at this
  rw [Array.getElem?_append_right (show (s8 h0).size ≤ 8 + k by show 8 ≤ _; omega)] at this
  rw [Nat.zero_add, ← this]
  congr 1
  show k = 8 + k - 8
  omega

theorem val_out {K : Value → Heap → Prop} {e : Int} {H : Heap} (h : ∀ x, e = x → K (.int .u32 x) H) : ∀ v H', v = .int .u32 e ∧ H = H' → K v H' := by
  rintro _ _ ⟨rfl, rfl⟩; exact h e rfl
theorem u32v {e : Int} {K : Int → Prop} (h : ∀ x, e % 4294967296 = x → K x) : ArithH .u32 e K := ⟨h _ rfl⟩
set_option maxHeartbeats 2000000 in
theorem rsum_any (l : List UInt8) (a : Option Addr) (n cap : Nat) (H : Heap) (hr : Row H a (strV l)) (hn : l.length = n) (hm : n ≤ 70368744177664) :
    CallH Tryd.prog 19 [.slice a n cap] H fun v H' => v = .agg (strV (sumL l)).toArray ∧ Ext H H' := by
  refine Vc.CallH.body Tryd.func19 Tryd.call19 rfl (by decide +kernel) rfl ?_
  ((conv => whnf); repeat (any_goals (first | (refine Vc.sts ?_; (conv => whnf)))))
  refine SemH.alloc rfl rfl ?_
  intro H1 hs1 hb1 hx1
  ((conv => whnf); repeat (any_goals (first | (refine Vc.sts ?_; (conv => whnf)))))
  refine ⟨⟨.agg b8, fun w => by kernel_rfl, ?_⟩⟩
  ((conv => whnf); repeat (any_goals (first | (refine Vc.sts ?_; (conv => whnf)))))
  refine SemH.alloc rfl rfl ?_
  intro H2 hs2 hb2 hx2
  have hz2 := hb1.ext hx2
  ((conv => whnf); repeat (any_goals (first | (refine Vc.sts ?_; (conv => whnf)))))
  refine DoH.store_all hb2 rfl rfl rfl (by decide +kernel) ?_
  intro H3 hs3 hb3 hx3
  have hz3 := hz2.but hx3 (by omega)
  clear hb1 hb2 hz2
  ((conv => whnf); repeat (any_goals (first | ((refine (table_any _).mono ?_; rintro _ H4 ⟨rfl, hx4⟩); (conv => whnf)) | (refine Vc.sts ?_; (conv => whnf)))))
  refine SemH.alloc rfl rfl ?_
  intro H5 hs5 hb5 hx5
  have hz5 := (hz3.ext hx4).ext hx5
  have hst5 := (hb3.ext hx4).ext hx5
  have hsz4 := hx4.size
  ((conv => whnf); repeat (any_goals (first | (refine Vc.sts ?_; (conv => whnf)))))
  refine DoH.store_all hb5 rfl rfl rfl (by decide +kernel) ?_
  intro H6 hs6 hb6 hx6
  have hz6 := hz5.but hx6 (by omega)
  have hst6 := hst5.but hx6 (by omega)
  have hx06 : Ext H H6 := ((((hx1.trans hx2).but hx3 (by omega)).trans hx4).trans hx5).but hx6 (by omega)
  clear hz5 hst5 hz3 hb3 hb5
  ((conv => whnf); repeat (any_goals (first | ((refine (pad_any l a n cap _ (hr.ext hx06) hn hm).mono ?_; rintro _ H7 ⟨⟨a', cap', rfl, ho7⟩, hx7⟩); (conv => whnf)) | (refine Vc.sts ?_; (conv => whnf)))))
  have hpl := padL_length l
  have hzl := zc_lt l.length
  have hpb : (padL l).length % 64 = 0 := by have := zc_end l.length; omega
  have hst7 : Blk H7 H1.size (s8 (absorb 0 h0 (ints (padL l)))) 76 := hst6.ext hx7
  have hz7 := hz6.ext hx7
  have hk7 := hb6.ext hx7
  have hrow7 := ho7.row
  have hx07 : Ext H H7 := hx06.trans hx7
  have hsz6 := hx7.size
  generalize hPL : padL l = PL at *
  generalize hst : H1.size = st at *
  generalize htb : H4.size = tb at *
  have hst_lt : H.size < st := by omega
  have htb_lt : st < tb := by omega
  have htb7 : tb < H7.size := by omega
  have ha' : ∀ p, a' = some p → p.block ≠ st ∧ p.block ≠ tb ∧ p.block < H7.size := fun p hp => by have := ho7.block p hp; omega
  clear hx1 hx2 hx3 hx4 hx5 hx6 hx7 hs1 hs2 hs3 hs5 hs6 hst6 hz6 hb6 hx06
  refine LoopH.intro (fun (b : Nat) => [(6, .int .i64 (64 * b : Nat))]) (fun b H' => 64 * b ≤ PL.length ∧ Blk H' H.size (Array.replicate 32 (.int .u8 0)) 32 ∧ Blk H' st (s8 (absorb b h0 (ints PL))) 76 ∧ Blk H' tb r64 78 ∧ Row H' a' (strV PL) ∧ Ext H H' ∧ H7.size ≤ H'.size) (fun b => PL.length - 64 * b) 0 ⟨rfl, trivial⟩ ⟨by omega, hz7, hst7, hk7, hrow7, hx07, Nat.le_refl _⟩ ?_
  intro b H8 ⟨hb, hz8, hst8, hk8, hr8, hx8, hsz8⟩
  clear hz7 hst7 hk7 hrow7 hx07 ho7
  by_cases hlt : 64 * b < PL.length
  · as_aux_lemma =>
    have hdl : 64 ≤ (PL.drop (64 * b)).length := by rw [List.length_drop]; omega
    obtain ⟨W, hW⟩ : ∃ W, W = wd (fun i => (ints (PL.drop (64 * b))).getD i 0) 64 := ⟨_, rfl⟩
    obtain ⟨hlo, hhi, hrg⟩ : Words (fun i => (ints (PL.drop (64 * b))).getD i 0) W := hW ▸ wd_words _
    generalize hF : absorb b h0 (ints PL) = F at hst8
    ((conv => whnf); repeat (any_goals (first | (refine Vc.sts ?_; (conv => whnf)))))
    refine SemH.alloc rfl rfl ?_
    intro H9 hs9 hb9 hx9
    have hb9' : Blk H9 H8.size (Vc.fillA 64 (c32 W) z32 0) 78 := by rw [Vc.fillA_zero]; exact hb9
    clear hb9
    have hst9 := hst8.ext hx9
    have hz9 := hz8.ext hx9
    have hk9 := hk8.ext hx9
    have hr9 := hr8.ext hx9
    have hx9' := hx8.trans hx9
    generalize hw : H8.size = wb at *
    ((conv => whnf); repeat (any_goals (first | (refine Vc.sts ?_; (conv => whnf)))))
    refine LoopH.intro (fun (k : Nat) => [(8, .int .i64 k)]) (fun k H' => k ≤ 16 ∧ Blk H' wb (Vc.fillA 64 (c32 W) z32 k) 78 ∧ But wb H9 H') (fun k => 16 - k) 0 ⟨rfl, trivial⟩ ⟨by omega, hb9', Only.refl _ _⟩ ?_
    intro k H10 ⟨hk, hb10, hx10⟩
    by_cases hk16 : k < 16
    · as_aux_lemma =>
      have hr10 := hr9.keep hx10 fun p hp => by have := ha' p hp; omega
      ((conv => whnf); repeat (any_goals (first | ((refine IdxA.bytes hr10 rfl (by omega) (by omega) ?_; intro _ _ _ hc); (conv => whnf)) | (((with_reducible apply SemH.load); (focus (rfl)); (focus (exact hc))); (conv => whnf)) | ((refine ArithH.byte32 ?_); (conv => whnf)) | ((refine IdxH.nat k rfl (by omega) ?_); (conv => whnf)) | (refine Vc.sts ?_; (conv => whnf)))))
      refine DoH.store1 hb10 rfl rfl rfl (by rw [Vc.fillA_size]; omega) ?_
      intro H11 hs11 hb11 hx11
      ((conv => whnf); repeat (any_goals (first | (refine Vc.sts ?_; (conv => whnf)))))
      refine ⟨k + 1, ⟨rfl, trivial⟩, ⟨by omega, ?_, hx10.trans hx11 fun _ _ => id⟩, by omega⟩
      have e : bitB .u32 .or (bitB .u32 .or (bitB .u32 .or (shlB .u32 (PL.getD (((64 * b : Nat) : Int) + 4 * (k : Int)).toNat 0).toNat 24) (shlB .u32 (PL.getD (((64 * b : Nat) : Int) + 4 * (k : Int) + 1).toNat 0).toNat 16)) (shlB .u32 (PL.getD (((64 * b : Nat) : Int) + 4 * (k : Int) + 2).toNat 0).toNat 8)) (PL.getD (((64 * b : Nat) : Int) + 4 * (k : Int) + 3).toNat 0).toNat = W k := by
        have hd : ∀ i, (PL.drop (64 * b)).getD i 0 = PL.getD (64 * b + i) 0 := fun i => by simp [List.getD_eq_getElem?_getD]
        rw [(shl_byte _).1, (shl_byte _).2.1, (shl_byte _).2.2, hlo k hk16]
        simp only [word, ints_get, bitB_or, hd]
        rw [show (((64 * b : Nat) : Int) + 4 * (k : Int)).toNat = 64 * b + 4 * k by omega, show (((64 * b : Nat) : Int) + 4 * (k : Int) + 1).toNat = 64 * b + (4 * k + 1) by omega, show (((64 * b : Nat) : Int) + 4 * (k : Int) + 2).toNat = 64 * b + (4 * k + 2) by omega, show (((64 * b : Nat) : Int) + 4 * (k : Int) + 3).toNat = 64 * b + (4 * k + 3) by omega]
      rw [Nat.zero_add, e] at hb11
      rw [← Vc.fillA_set 64 (c32 W) z32 k (by omega)]
      exact hb11
    · as_aux_lemma =>
      obtain rfl : k = 16 := by omega
      ((conv => whnf); repeat (any_goals (first | (refine Vc.sts ?_; (conv => whnf)))))
      refine LoopH.intro (fun (k : Nat) => [(9, .int .i64 k)]) (fun k H' => 16 ≤ k ∧ k ≤ 64 ∧ Blk H' wb (Vc.fillA 64 (c32 W) z32 k) 78 ∧ But wb H9 H') (fun k => 64 - k) 16 ⟨rfl, trivial⟩ ⟨by omega, by omega, hb10, hx10⟩ ?_
      intro k H12 ⟨hk1, hk2, hb12, hx12⟩
      by_cases hk64 : k < 64
      · as_aux_lemma =>
        have hc : ∀ j, j < k → (Vc.fillA 64 (c32 W) z32 k)[0 + j]? = some (.int .u32 (W j)) := fun j hj => by rw [Nat.zero_add, Vc.fillA_lo _ _ _ _ _ (by omega) hj]; rfl
        ((conv => whnf); repeat (any_goals (first | ((refine ArithH.u32m ?_); (conv => whnf)) | ((refine IdxH.nat (k - 15) (by omega) (by omega) ?_); (conv => whnf)) | ((refine IdxH.nat (k - 2) (by omega) (by omega) ?_); (conv => whnf)) | ((refine IdxH.nat (k - 16) (by omega) (by omega) ?_); (conv => whnf)) | ((refine IdxH.nat (k - 7) (by omega) (by omega) ?_); (conv => whnf)) | ((refine IdxH.nat k rfl (by omega) ?_); (conv => whnf)) | (((with_reducible apply SemH.load_at hb12); (focus (rfl)); (focus (exact hc _ (by omega)))); (conv => whnf)) | ((refine (turn_any _ _ (by omega) (by omega) _).mono ?_; rintro _ _ ⟨rfl, rfl⟩); (conv => whnf)) | (((with_reducible refine Vc.DrawH.held [0, 1, 2, 3, 4, 5, 7, 10, 11, 14, 15, 16, 17, 19, 21, 24, 25, 6, 8, 9, 12, 13, 18, 20, 22, 23, 26, 27, 28, 29] [(6, [4, 17]), (8, [4, 17]), (20, [4, 17]), (22, [4, 17])] mixed (by decide +kernel) ?_)); (conv => whnf)) | ((refine StillsH.load rfl rfl rfl rfl rfl rfl (SemH.load_at hb12 rfl (hc _ (by omega)) rfl) ?_); (conv => whnf)) | (refine Vc.sts ?_; (conv => whnf)))))
        refine DoH.store1 hb12 rfl rfl rfl (by rw [Vc.fillA_size]; omega) ?_
        intro H13 hs13 hb13 hx13
        ((conv => whnf); repeat (any_goals (first | (refine Vc.sts ?_; (conv => whnf)))))
        refine ⟨k + 1, ⟨rfl, trivial⟩, ⟨by omega, by omega, ?_, hx12.trans hx13 fun _ _ => id⟩, by omega⟩
        rw [Nat.zero_add, grow_eq2, ← hhi k hk1 hk64] at hb13
        rw [← Vc.fillA_set 64 (c32 W) z32 k (by omega)]
        exact hb13
      · as_aux_lemma =>
        obtain rfl : k = 64 := by omega
        clear hb10 hx10 hb9'
        have hst12 := hst9.but hx12 (by omega)
        have hz12 := hz9.but hx12 (by omega)
        have hk12 := hk9.but hx12 (by omega)
        have hr12 := hr9.keep hx12 fun p hp => by have := ha' p hp; omega
        have hx12' : Ext H H12 := hx9'.but hx12 (by omega)
        have hsz12 := hx12.size
        ((conv => whnf); repeat (any_goals (first | ((refine IdxH.nat _ rfl (by decide) ?_); (conv => whnf)) | (((with_reducible apply SemH.load_at hst12); (focus (rfl)); (focus (rfl))); (conv => whnf)) | (refine Vc.sts ?_; (conv => whnf)))))
        refine LoopH.intro (fun (k : Nat) => [(20, .int .i64 k), (12, .int .u32 (rounds F W k 0)), (13, .int .u32 (rounds F W k 1)), (14, .int .u32 (rounds F W k 2)), (15, .int .u32 (rounds F W k 3)), (16, .int .u32 (rounds F W k 4)), (17, .int .u32 (rounds F W k 5)), (18, .int .u32 (rounds F W k 6)), (19, .int .u32 (rounds F W k 7))])
          (fun k H' => k ≤ 64 ∧ H' = H12) (fun k => 64 - k) 0 ⟨rfl, rfl, rfl, rfl, rfl, rfl, rfl, rfl, rfl, trivial⟩ ⟨by omega, rfl⟩ ?_
        rintro k _ ⟨hk, rfl⟩
        by_cases hk64 : k < 64
        · as_aux_lemma =>
          have hrc := rc_in k
          have hWk := hrg k
          have hcW := fillA_lo0 64 (c32 W) z32 64 k hk64 hk64
          have hcR := r64_get k hk64
          replace hcW : (fillA 64 (c32 W) z32 64)[0 + k]? = some (.int .u32 (W k)) := hcW
          generalize hrk : rc k = rk at hcR hrc
          generalize hwk : W k = wk at hcW hWk
          generalize hR : rounds F W k = R
          ((conv => whnf); repeat (any_goals (first | ((with_reducible refine u32v ?_; intro x hx); (conv => whnf)) | ((refine IdxH.nat k rfl (by omega) ?_); (conv => whnf)) | ((refine (turn_any _ _ (by omega) (by omega) _).mono ?_; with_reducible refine val_out ?_; intro x hx); (conv => whnf)) | (((with_reducible apply SemH.load_at hb12); (focus (rfl)); (focus (exact hcW))); (conv => whnf)) | (((with_reducible apply SemH.load_at hk12); (focus (rfl)); (focus (exact hcR))); (conv => whnf)) | (((with_reducible refine Vc.DrawH.held [0, 1, 3, 6, 10, 11, 12, 13, 14, 15, 16, 17, 19, 20, 21, 23, 24, 25, 2, 4, 5, 7, 8, 9, 18, 22, 26, 27] [(2, [21, 25]), (4, [21, 25]), (7, [21, 25])] mixed (by decide +kernel) ?_)); (conv => whnf)) | ((refine StillsH.load rfl rfl rfl rfl rfl rfl (SemH.load_at hk12 rfl hcR rfl) ?_); (conv => whnf)) | ((refine StillsH.load rfl rfl rfl rfl rfl rfl (SemH.load_at hb12 rfl hcW rfl) ?_); (conv => whnf)) | (refine Vc.sts ?_; (conv => whnf)))))
          rename_i y1 e1 y2 e2 y3 e3 y4 e4 y5 e5 y6 e6 y7 e7 y8 e8 y9 e9 y10 e10 y11 e11 y12 e12
          have hnx : rounds F W (k + 1) = nx R rk wk := by show nx (rounds F W k) (rc k) (W k) = _; rw [hR, hrk, hwk]
          have q4 : x = nx R rk wk 4 := by rw [← nx_four]; unfold one1; rw [e1, e2, e3, e4, e5, e6, e7, hx]
          have q0 : y12 = nx R rk wk 0 := by rw [← nx_zero]; unfold one1 two1; rw [e1, e2, e3, e4, e5, e6, e7, e8, e9, e10, e11, e12]
          refine ⟨k + 1, ?_, ⟨by omega, rfl⟩, by omega⟩
          dsimp only
          rw [hnx, ← q4, ← q0]
          exact ⟨rfl, rfl, rfl, rfl, rfl, rfl, rfl, rfl, rfl, trivial⟩
        · as_aux_lemma =>
          obtain rfl : k = 64 := by omega
          generalize hR : rounds F W 64 = R
          ((conv => whnf); repeat (any_goals (first | ((refine ArithH.u32m ?_); (conv => whnf)) | ((refine IdxH.nat _ rfl (by decide) ?_); (conv => whnf)) | (((with_reducible apply SemH.load_at hst12); (focus (rfl)); (focus (rfl))); (conv => whnf)) | (refine Vc.sts ?_; (conv => whnf)))))
          refine DoH.store1 (o := 0 + 0) hst12 rfl rfl rfl (by show 0 + 0 < 8; omega) ?_
          intro K1 hs1 hk1 hy1
          ((conv => whnf); repeat (any_goals (first | ((refine IdxH.nat _ rfl (by decide) ?_); (conv => whnf)) | (refine Vc.sts ?_; (conv => whnf)))))
          refine DoH.store1 (o := 0 + 1) hk1 rfl rfl rfl (by simp only [Array.size_setIfInBounds]; show 0 + 1 < 8; omega) ?_
          intro K2 hs2 hk2 hy2
          ((conv => whnf); repeat (any_goals (first | ((refine IdxH.nat _ rfl (by decide) ?_); (conv => whnf)) | (refine Vc.sts ?_; (conv => whnf)))))
          refine DoH.store1 (o := 0 + 2) hk2 rfl rfl rfl (by simp only [Array.size_setIfInBounds]; show 0 + 2 < 8; omega) ?_
          intro K3 hs3 hk3 hy3
          ((conv => whnf); repeat (any_goals (first | ((refine IdxH.nat _ rfl (by decide) ?_); (conv => whnf)) | (refine Vc.sts ?_; (conv => whnf)))))
          refine DoH.store1 (o := 0 + 3) hk3 rfl rfl rfl (by simp only [Array.size_setIfInBounds]; show 0 + 3 < 8; omega) ?_
          intro K4 hs4 hk4 hy4
          ((conv => whnf); repeat (any_goals (first | ((refine ArithH.u32m ?_); (conv => whnf)) | ((refine IdxH.nat _ rfl (by decide) ?_); (conv => whnf)) | (((with_reducible apply SemH.load_at hk4); (focus (rfl)); (focus (rfl))); (conv => whnf)) | (refine Vc.sts ?_; (conv => whnf)))))
          refine DoH.store1 (o := 0 + 4) hk4 rfl rfl rfl (by simp only [Array.size_setIfInBounds]; show 0 + 4 < 8; omega) ?_
          intro K5 hs5 hk5 hy5
          ((conv => whnf); repeat (any_goals (first | ((refine IdxH.nat _ rfl (by decide) ?_); (conv => whnf)) | (refine Vc.sts ?_; (conv => whnf)))))
          refine DoH.store1 (o := 0 + 5) hk5 rfl rfl rfl (by simp only [Array.size_setIfInBounds]; show 0 + 5 < 8; omega) ?_
          intro K6 hs6 hk6 hy6
          ((conv => whnf); repeat (any_goals (first | ((refine IdxH.nat _ rfl (by decide) ?_); (conv => whnf)) | (refine Vc.sts ?_; (conv => whnf)))))
          refine DoH.store1 (o := 0 + 6) hk6 rfl rfl rfl (by simp only [Array.size_setIfInBounds]; show 0 + 6 < 8; omega) ?_
          intro K7 hs7 hk7 hy7
          ((conv => whnf); repeat (any_goals (first | ((refine IdxH.nat _ rfl (by decide) ?_); (conv => whnf)) | (refine Vc.sts ?_; (conv => whnf)))))
          refine DoH.store1 (o := 0 + 7) hk7 rfl rfl rfl (by simp only [Array.size_setIfInBounds]; show 0 + 7 < 8; omega) ?_
          intro K8 hs8 hk8 hy8
          ((conv => whnf); repeat (any_goals (first | (refine Vc.sts ?_; (conv => whnf)))))
          rename_i H12
          have hy : But st H12 K8 := (((((((hy1.trans hy2 fun _ _ => id).trans hy3 fun _ _ => id).trans hy4 fun _ _ => id).trans hy5 fun _ _ => id).trans hy6 fun _ _ => id).trans hy7 fun _ _ => id).trans hy8 fun _ _ => id)
          have hs := hy.size
          refine ⟨b + 1, ⟨?_, trivial⟩, ⟨by omega, hz12.but hy (by omega), ?_, hk12.but hy (by omega), hr12.keep hy fun p hp => (by have := ha' p hp; omega), hx12'.but hy (by omega), by omega⟩, by omega⟩
          · show Value.int _ _ = Value.int _ _
            rw [show ((64 * b : Nat) : Int) + 64 = (64 * (b + 1) : Nat) by omega]
          · have e8 := s8_set8 F (sumF F R)
            have hfin : absorb (b + 1) h0 (ints PL) = sumF F R := by
              rw [absorb_succ, blk_take, hF, ints_drop]
              unfold blk
              rw [← hW, hR]
            rw [hfin, ← e8]
            exact hk8
  · as_aux_lemma =>
    have hbe : b = PL.length / 64 := by omega
    subst hbe
    have hdone : absorb (PL.length / 64) h0 (ints PL) = shaH (ints l) := by
      unfold shaH
      rw [← hPL, ints_pad, ← ints_pad, ints_length]
    rw [hdone] at hst8
    have hlt8 := hst8.lt
    ((conv => whnf); repeat (any_goals (first | (refine Vc.sts ?_; (conv => whnf)))))
    refine SemH.alloc rfl rfl ?_
    intro H11 hs11 hb11 hx11
    ((conv => whnf); repeat (any_goals (first | (refine Vc.sts ?_; (conv => whnf)))))
    refine LoopH.intro (fun (i : Nat) => [(24, .int .i64 i)]) (fun i H' => i ≤ 32 ∧ Blk H' H8.size (tab 32 (sumV (shaH (ints l)) i)) 32 ∧ Blk H' st (s8 (shaH (ints l))) 76 ∧ Blk H' H.size (Array.replicate 32 (.int .u8 0)) 32 ∧ Ext H H') (fun i => 32 - i) 0 ⟨rfl, trivial⟩ ⟨by omega, by rw [sumV_zero]; exact hb11, hst8.ext hx11, hz8.ext hx11, hx8.trans hx11⟩ ?_
    intro i H12 ⟨hi, hb12, hst12, hz12, hx12⟩
    by_cases hi32 : i < 32
    · as_aux_lemma =>
      have hv := s8_get0 (shaH (ints l)) (i / 4) (by omega)
      ((conv => whnf); repeat (any_goals (first | ((refine IdxH.nat (i / 4) (by omega) (by omega) ?_); (conv => whnf)) | ((refine IdxH.nat i rfl (by omega) ?_); (conv => whnf)) | (((with_reducible apply SemH.load_at hst12); (focus (rfl)); (focus (exact hv))); (conv => whnf)) | ((refine ArithH.u8m ?_); (conv => whnf)) | (refine Vc.sts ?_; (conv => whnf)))))
      refine DoH.store1 (o := 0 + i) hb12 rfl rfl rfl (by rw [tab_size]; omega) ?_
      intro H13 hs13 hb13 hx13
      ((conv => whnf); repeat (any_goals (first | (refine Vc.sts ?_; (conv => whnf)))))
      refine ⟨i + 1, ⟨rfl, trivial⟩, ⟨by omega, ?_, hst12.but hx13 (by omega), hz12.but hx13 (by omega), hx12.but hx13 (by omega)⟩, by omega⟩
      have e1 : shrB .u32 (shaH (ints l) (i / 4)) (24 - 8 * ((i : Int) % 4)) % 256 = shaH (ints l) (i / 4) / 2 ^ (24 - 8 * (i % 4)) % 256 := by
        rw [show (24 - 8 * ((i : Int) % 4)) = ((24 - 8 * (i % 4) : Nat) : Int) by omega, shr_nat _ (by omega)]
      rw [Nat.zero_add, e1, sumV_set] at hb13
      exact hb13
    · as_aux_lemma =>
      obtain rfl : i = 32 := by omega
      ((conv => whnf); repeat (any_goals (first | (refine Vc.sts ?_; (conv => whnf)))))
      refine SemH.load_blk hb12 rfl rfl (by rw [tab_size]; rfl) ?_
      ((conv => whnf); repeat (any_goals (first | (refine Vc.sts ?_; (conv => whnf)))))
      refine DoH.store_all hz12 rfl (by rw [tab_size]; rfl) (by rw [tab_size]; rfl) (sumV_plain _ _) ?_
      intro H13 hs13 hb13 hx13
      ((conv => whnf); repeat (any_goals (first | (refine Vc.sts ?_; (conv => whnf)))))
      refine SemH.load_blk hb13 rfl rfl (by rw [tab_size]; rfl) ?_
      ((conv => whnf); repeat (any_goals (first | (refine Vc.sts ?_; (conv => whnf)))))
      refine ⟨rfl, ?_⟩
      (conv => whnf)
      refine ⟨?_, hx12.but hx13 (by omega)⟩
      rw [sumV_done]; rfl
end Go.Proofs.YtjcmcmogbkdjcaaDoor
/- Sums: the document's sum over parts. -/
namespace Go.Proofs.YtjcmcmogbkdjcaaDoor
open Go Go.Vc Go.Sha

theorem shaof_any (ps : List Part) (pa : Option Addr) (pn pcap : Nat) (H : Heap) (hp : Parts H pa ps) (hn : ps.length = pn) (hpn : pn ≤ 140737488355328) (htot : (allL ps).length ≤ 70368744177664) :
    CallH Tryd.prog 9 [.slice pa pn pcap] H fun v H' => v = .agg (strV (sumL (allL ps))).toArray ∧ Ext H H' := by
  refine Vc.CallH.body Tryd.func9 Tryd.call9 rfl (by decide +kernel) rfl ?_
  ((conv => whnf); repeat (any_goals (first | (refine Vc.sts ?_; (conv => whnf)))))
  refine SemH.alloc rfl rfl ?_
  intro H1 hs1 hb1 hx1
  ((conv => whnf); repeat (any_goals (first | (refine Vc.sts ?_; (conv => whnf)))))
  refine LoopH.intro (fun (s : Nat × Option Addr × Nat) => [(4, .int .i64 s.1), (3, .slice s.2.1 (allL (ps.take s.1)).length s.2.2)]) (fun s H' => s.1 ≤ ps.length ∧ Own H' (H.size + 1) 5 1 s.2.1 (allL (ps.take s.1)).length s.2.2 (strV (allL (ps.take s.1))) ∧ Blk H' H.size (Array.replicate 32 (.int .u8 0)) 33 ∧ Ext H H') (fun s => ps.length - s.1) (0, none, 0) ⟨rfl, rfl, trivial⟩ ⟨Nat.zero_le _, Own.nil _ _ _ _, hb1, hx1⟩ ?_
  rintro ⟨k, a1, cap1⟩ H2 ⟨hk, ho2, hz2, hx2⟩
  dsimp only at hk ho2 hz2 hx2 ⊢
  by_cases hlt : k < ps.length
  · have hP := hp.each ps[k] (List.getElem_mem hlt)
    have hpx := hp.ext hx2
    have hsn := allL_snoc ps k hlt
    have htk := allL_take_le ps (k + 1)
    have hlen : (allL (ps.take (k + 1))).length = (allL (ps.take k)).length + ps[k].l.length := by rw [hsn, List.length_append]
    have hPr := (hP.ext hx2).row
    have hPn := hP.len
    generalize hPk : ps[k] = p at *
    obtain ⟨a, n, cap, l⟩ := p
    dsimp only at hPn hPr hlen hsn
    ((conv => whnf); repeat (any_goals (first | ((refine IdxA.part hpx hn k rfl hlt ?_; intro _ _ _ hc; rw [hPk] at hc; replace hc : hcell _ _ = some (.slice a n cap) := hc); (conv => whnf)) | (((with_reducible apply SemH.load); (focus (rfl)); (focus (exact hc))); (conv => whnf)) | (refine Vc.sts ?_; (conv => whnf)))))
    refine NextH.append (i := Tryd.t5) (z := .int .u8 0) rfl ⟨_, rfl, fun _ h => by cases h⟩ rfl rfl rfl ho2 (Src.row hPr (by rw [strV_length, hPn]; exact (Nat.mul_one _).symm) (strV_plain _)) (by unfold maxLen; omega) (by show ((allL (ps.take k)).length + n) * 1 ≤ _; omega) (by have := hz2.lt; omega) ?_
    intro a3 cap3 H3 ho3 hw3 _
    ((conv => whnf); repeat (any_goals (first | (refine Vc.sts ?_; (conv => whnf)))))
    have hF := Own.wr_new ho2
    refine ⟨(k + 1, a3, cap3), ⟨rfl, ?_, trivial⟩, ⟨by omega, ?_, hz2.keep hw3 fun h => (by have := hF _ h; omega), Only.trans hx2 hw3 fun b hb h => (by have := hF b h; omega)⟩, by show ps.length - (k + 1) < ps.length - k; omega⟩
    · show Value.slice _ _ _ = Value.slice _ _ _
      rw [hlen, ← hPn]
    · show Own H3 _ _ 1 a3 (allL (ps.take (k + 1))).length cap3 (strV (allL (ps.take (k + 1))))
      rw [hlen, hsn, strV_append, hPn]
      exact ho3
  · obtain rfl : k = ps.length := by omega
    rw [List.take_length] at *
    ((conv => whnf); repeat (any_goals (first | ((refine (rsum_any (allL ps) a1 _ cap1 _ ho2.row rfl (by omega)).mono ?_; rintro _ H3 ⟨rfl, hx3⟩); (conv => whnf)) | (refine Vc.sts ?_; (conv => whnf)))))
    refine DoH.store_all (hz2.ext hx3) rfl (by simp [strV, sumL_length]; rfl) (by simp [strV, sumL_length]) (by simpa using strV_plain _) ?_
    intro H4 hs4 hb4 hx4
    ((conv => whnf); repeat (any_goals (first | (refine Vc.sts ?_; (conv => whnf)))))
    refine SemH.load_blk hb4 rfl rfl (by simp [strV, sumL_length]; rfl) ?_
    ((conv => whnf); repeat (any_goals (first | (refine Vc.sts ?_; (conv => whnf)))))
    refine ⟨rfl, ?_⟩
    (conv => whnf)
    exact ⟨rfl, (hx2.trans hx3).but hx4 (Nat.le_refl _)⟩

theorem parts_nil (H : Heap) (a : Option Addr) : Parts H a [] := ⟨Row.nil _ _, fun p hp => by cases hp⟩

theorem key_size (l : List UInt8) (h : l.length = 32) : (strV l).toArray.size = 32 := by simp [strV, h]
theorem key_plain (l : List UInt8) : ∀ u ∈ (strV l).toArray.toList, plainV u = true := by simpa using strV_plain l
theorem parts1 {H : Heap} {g : Nat} {e : TypeId} {p : Part} (hb : Blk H g #[p.val] e) (hp : PartOk H p) : Parts H (some ⟨g, 0, none⟩) [p] :=
  ⟨Blk.row (c := [p.val]) hb, fun q hq => by rw [List.mem_singleton.1 hq]; exact hp⟩
theorem parts2 {H : Heap} {g : Nat} {e : TypeId} {p p' : Part} (hb : Blk H g #[p.val, p'.val] e) (hp : PartOk H p) (hp' : PartOk H p') : Parts H (some ⟨g, 0, none⟩) [p, p'] :=
  ⟨Blk.row (c := [p.val, p'.val]) hb, fun q hq => by rcases List.mem_cons.1 hq with rfl | hq; exact hp; rw [List.mem_singleton.1 hq]; exact hp'⟩
theorem allL_one (p : Part) : allL [p] = p.l := by simp [allL]

theorem sum1 {a : Option Addr} {n cap g : Nat} {l : List UInt8} {e : TypeId} {H : Heap} (hb : Blk H g #[.slice a n cap] e) (hl : l.length = n) (hc : n ≤ cap) (hr : Row H a (strV l)) (hm : n ≤ 70368744177664) :
    CallH Tryd.prog 18 [.slice (some ⟨g, 0, none⟩) 1 1] H fun v H' => v = .agg (strV (sumL l)).toArray ∧ Ext H H' := by
  have h := sum_any [⟨a, n, cap, l⟩] (some ⟨g, 0, none⟩) 1 1 H (parts1 hb ⟨hl, hc, hr⟩) rfl (by decide) (by rw [allL_one]; show l.length ≤ _; omega)
  rw [allL_one] at h
  exact h
theorem sum2 {a a' : Option Addr} {n cap n' cap' g : Nat} {l l' : List UInt8} {e : TypeId} {H : Heap} (hb : Blk H g #[.slice a n cap, .slice a' n' cap'] e) (hl : l.length = n) (hc : n ≤ cap) (hr : Row H a (strV l)) (hl' : l'.length = n') (hc' : n' ≤ cap') (hr' : Row H a' (strV l')) (hm : n + n' ≤ 70368744177664) :
    CallH Tryd.prog 18 [.slice (some ⟨g, 0, none⟩) 2 2] H fun v H' => v = .agg (strV (sumL (l ++ l'))).toArray ∧ Ext H H' := by
  have e2 : allL [⟨a, n, cap, l⟩, ⟨a', n', cap', l'⟩] = l ++ l' := by simp [allL]
  have h := sum_any [⟨a, n, cap, l⟩, ⟨a', n', cap', l'⟩] (some ⟨g, 0, none⟩) 2 2 H (parts2 hb ⟨hl, hc, hr⟩ ⟨hl', hc', hr'⟩) rfl (by decide) (by rw [e2, List.length_append]; omega)
  rw [e2] at h
  exact h

end Go.Proofs.YtjcmcmogbkdjcaaDoor
