/-
  Plain law: the sum of a text, block by block; cut into parts or not.
-/
import Derived.Test.YtlgcfcdmldlefaaDoorShaPure
import Derived.KernelRfl
set_option linter.unusedSimpArgs false
set_option linter.unusedVariables false
set_option linter.unusedSimpArgs false
set_option maxRecDepth 100000
namespace Go.Sha

/-- the words of a block's rounds, the first n of them -/
def wd (B : Nat → Int) : Nat → Nat → Int
  | 0, _ => 0
  | n + 1, i => if i = n then (if n < 16 then word B n else grow (wd B n (n - 16)) (wd B n (n - 15)) (wd B n (n - 7)) (wd B n (n - 2))) else wd B n i
theorem wd_stay (B : Nat → Int) (i : Nat) : ∀ n, i < n → wd B n i = wd B (i + 1) i
  | 0, h => by omega
  | n + 1, h => by
    by_cases hi : i = n
    · rw [hi]
    · have : wd B (n + 1) i = wd B n i := by show (if i = n then _ else wd B n i) = _; rw [if_neg hi]
      rw [this, wd_stay B i n (by omega)]
theorem wd_out (B : Nat → Int) (i : Nat) : ∀ n, n ≤ i → wd B n i = 0
  | 0, _ => rfl
  | n + 1, h => by
    show (if i = n then _ else wd B n i) = 0
    rw [if_neg (by omega), wd_out B i n (by omega)]
theorem wd_words (B : Nat → Int) : Words B (wd B 64) := by
  have step : ∀ k, k < 64 → wd B 64 k = if k < 16 then word B k else grow (wd B k (k - 16)) (wd B k (k - 15)) (wd B k (k - 7)) (wd B k (k - 2)) := fun k hk => by
    rw [wd_stay B k 64 hk]
    show (if k = k then _ else _) = _
    rw [if_pos rfl]
  refine ⟨fun k hk => by rw [step k (by omega), if_pos hk], fun k h16 h64 => ?_, fun k => ?_⟩
  · rw [step k h64, if_neg (by omega)]
    have e : ∀ j, 0 < j → j ≤ 16 → wd B k (k - j) = wd B 64 (k - j) := fun j h0 hj => by rw [wd_stay B (k - j) k (by omega), wd_stay B (k - j) 64 (by omega)]
    rw [e 16 (by omega) (by omega), e 15 (by omega) (by omega), e 7 (by omega) (by omega), e 2 (by omega) (by omega)]
  · by_cases hk : k < 64
    · rw [step k hk]
      split
      · exact bits_in _ _ _
      · unfold grow; omega
    · rw [wd_out B k 64 (by omega)]; omega

def rounds (H W : Nat → Int) : Nat → Nat → Int
  | 0 => H
  | k + 1 => nx (rounds H W k) (rc k) (W k)

/-- one block -/
def blk (H : Nat → Int) (l : List Int) : Nat → Int := sumF H (rounds H (wd (fun i => l.getD i 0) 64) 64)

/-- k blocks -/
def absorb : Nat → (Nat → Int) → List Int → (Nat → Int)
  | 0, H, _ => H
  | k + 1, H, l => absorb k (blk H (l.take 64)) (l.drop 64)

theorem absorb_add (a : Nat) : ∀ (b : Nat) (H : Nat → Int) (l : List Int), absorb (a + b) H l = absorb b (absorb a H l) (l.drop (64 * a)) := by
  induction a with
  | zero => intro b H l; simp [absorb]
  | succ a ih =>
    intro b H l
    rw [show a + 1 + b = (a + b) + 1 by omega]
    simp only [absorb]
    rw [ih, List.drop_drop, show 64 + 64 * a = 64 * (a + 1) by omega]
theorem absorb_one (H : Nat → Int) (l : List Int) : absorb 1 H l = blk H (l.take 64) := rfl
theorem absorb_succ (k : Nat) (H : Nat → Int) (l : List Int) : absorb (k + 1) H l = blk (absorb k H l) ((l.drop (64 * k)).take 64) := by
  rw [absorb_add k 1, absorb_one]
theorem absorb_append (k : Nat) : ∀ (H : Nat → Int) (l m : List Int), 64 * k ≤ l.length → absorb k H (l ++ m) = absorb k H l := by
  induction k with
  | zero => intros; rfl
  | succ k ih =>
    intro H l m h
    simp only [absorb]
    rw [List.take_append_of_le_length (by omega), List.drop_append_of_le_length (by omega), ih _ _ _ (by rw [List.length_drop]; omega)]
theorem absorb_two (q e : Nat) (H : Nat → Int) (l m : List Int) (h : l.length = 64 * q) : absorb (q + e) H (l ++ m) = absorb e (absorb q H l) m := by
  rw [absorb_add, absorb_append q H l m (by omega)]
  congr 1
  rw [← h]; simp

def h0 (i : Nat) : Int := H0.getD i 0
theorem s8_h0 : s8 h0 = b8 := by kernel_rfl

def zc (n : Nat) : Nat := (119 - n % 64) % 64
theorem zc_end (n : Nat) : (n + 1 + zc n) % 64 = 56 := by unfold zc; omega
theorem zc_first (n k : Nat) (h : k < zc n) : (n + 1 + k) % 64 ≠ 56 := by unfold zc at h; omega
theorem zc_lt (n : Nat) : zc n < 64 := by unfold zc; omega

/-- a length's eight bytes -/
def len8 (n : Int) : List Int := [n / 72057594037927936 % 256, n / 281474976710656 % 256, n / 1099511627776 % 256, n / 4294967296 % 256, n / 16777216 % 256, n / 65536 % 256, n / 256 % 256, n % 256]
def pad (l : List Int) : List Int := l ++ [128] ++ List.replicate (zc l.length) 0 ++ len8 ((l.length : Int) * 8)
theorem len8_at (n : Int) (k : Nat) (h : k < 8) : (len8 n)[k]? = some (n / 2 ^ (8 * (7 - k)) % 256) := by
  match k, h with
  | 0, _ => rfl
  | 1, _ => rfl
  | 2, _ => rfl
  | 3, _ => rfl
  | 4, _ => rfl
  | 5, _ => rfl
  | 6, _ => rfl
  | 7, _ => simp [len8]
theorem len8_take (n : Int) (k : Nat) (h : k < 8) : (len8 n).take k ++ [n / 2 ^ (8 * (7 - k)) % 256] = (len8 n).take (k + 1) := by
  rw [List.take_add_one, len8_at n k h]; rfl
theorem len8_length (n : Int) : (len8 n).length = 8 := rfl
theorem pad_length (l : List Int) : (pad l).length = l.length + 1 + zc l.length + 8 := by simp [pad, len8_length]; omega
theorem pad_of {l : List Int} {n : Nat} (h : l.length = n) : pad l = l ++ [128] ++ List.replicate (zc n) 0 ++ len8 ((n : Int) * 8) ∧ (pad l).length = n + 1 + zc n + 8 := by
  rw [pad_length, h]; unfold pad; rw [h]; exact ⟨rfl, rfl⟩
theorem pad_blocks (l : List Int) : (pad l).length % 64 = 0 := by rw [pad_length]; have := zc_end l.length; omega

/-- the words behind all blocks -/
def shaH (l : List Int) : Nat → Int := absorb ((pad l).length / 64) h0 (pad l)

/-- what is left at the end, filled up -/
def lastB (rest : List Int) (total : Nat) : List Int := rest ++ [128] ++ List.replicate (zc rest.length) 0 ++ len8 ((total : Int) * 8)
theorem lastB_length (rest : List Int) (total : Nat) (h : rest.length < 64) : (lastB rest total).length = if rest.length + 9 ≤ 64 then 64 else 128 := by
  unfold lastB
  simp only [List.length_append, List.length_cons, List.length_nil, List.length_replicate, len8_length]
  unfold zc
  split <;> omega
theorem shaH_split (X rest : List Int) (q : Nat) (hX : X.length = 64 * q) (hr : rest.length < 64) :
    shaH (X ++ rest) = absorb ((lastB rest (X ++ rest).length).length / 64) (absorb q h0 X) (lastB rest (X ++ rest).length) := by
  have hz : zc (X ++ rest).length = zc rest.length := by unfold zc; rw [List.length_append, hX]; omega
  have hp : pad (X ++ rest) = X ++ lastB rest (X ++ rest).length := by
    unfold pad lastB
    rw [hz]
    simp [List.append_assoc]
  unfold shaH
  rw [hp, List.length_append, hX, show (64 * q + (lastB rest (X ++ rest).length).length) / 64 = q + (lastB rest (X ++ rest).length).length / 64 by omega, absorb_two q _ h0 X _ hX]
end Go.Sha
