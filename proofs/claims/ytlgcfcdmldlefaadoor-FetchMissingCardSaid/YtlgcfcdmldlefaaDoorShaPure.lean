/-
  Plain words for SHA-256, in the walk's own spelling of sums, shifts and bits.
-/
import Derived.WalkKit
set_option linter.unusedSimpArgs false
set_option linter.unusedVariables false
set_option linter.unusedSimpArgs false
set_option maxRecDepth 100000
namespace Go.Sha
def H0 : List Int := [1779033703, 3144134277, 1013904242, 2773480762, 1359893119, 2600822924, 528734635, 1541459225]
def RC : List Int := [1116352408, 1899447441, 3049323471, 3921009573, 961987163, 1508970993, 2453635748, 2870763221, 3624381080, 310598401, 607225278, 1426881987, 1925078388, 2162078206, 2614888103, 3248222580, 3835390401, 4022224774, 264347078, 604807628, 770255983, 1249150122, 1555081692, 1996064986, 2554220882, 2821834349, 2952996808, 3210313671, 3336571891, 3584528711, 113926993, 338241895, 666307205, 773529912, 1294757372, 1396182291, 1695183700, 1986661051, 2177026350, 2456956037, 2730485921, 2820302411, 3259730800, 3345764771, 3516065817, 3600352804, 4094571909, 275423344, 430227734, 506948616, 659060556, 883997877, 958139571, 1322822218, 1537002063, 1747873779, 1955562222, 2024104815, 2227730452, 2361852424, 2428436474, 2756734187, 3204031479, 3329325298]
def u32s (l : List Int) : Array Value := (l.map (Value.int .u32)).toArray
def b8 : Array Value := u32s H0
def r64 : Array Value := u32s RC

/-- rotated to the right by k -/
def rr (k : Nat) (x : Int) : Int := bits .or .u32 (x / 2 ^ k) (x * 2 ^ (32 - k) % 4294967296)

def In (x : Int) : Prop := 0 ≤ x ∧ x ≤ 4294967295

theorem bits_or_comm (a b : Int) : bits .or .u32 a b = bits .or .u32 b a := by
  simp only [bits, BitVec.or_comm]

theorem bits_in (op : BinOp) (a b : Int) : In (bits op .u32 a b) := by
  have hw : ∀ n : Int, In (IntKind.u32.wrap n) := fun n => by
    simp only [IntKind.wrap, IntKind.bits, IntKind.signed, In]
    simp
    omega
  unfold bits
  cases op <;> first | exact hw _ | (simp [In])
theorem and31 : ∀ k : Fin 32, 0 < k.val → bits .and .u64 (IntKind.u64.wrap (-(k.val : Int))) 31 = 32 - k.val := by decide +kernel

def c32 (f : Nat → Int) (i : Nat) : Value := .int .u32 (f i)
def z32 : Value := .int .u32 0
/-- the block's words -/
def word (B : Nat → Int) (k : Nat) : Int := bits .or .u32 (bits .or .u32 (bits .or .u32 (B (4 * k) * 16777216) (B (4 * k + 1) * 65536)) (B (4 * k + 2) * 256)) (B (4 * k + 3))
def sg0 (x : Int) : Int := bits .xor .u32 (bits .xor .u32 (rr 7 x) (rr 18 x)) (x / 8)
def sg1 (y : Int) : Int := bits .xor .u32 (bits .xor .u32 (rr 17 y) (rr 19 y)) (y / 1024)
def grow (a16 a15 a7 a2 : Int) : Int := (a16 + sg0 a15 + a7 + sg1 a2) % 4294967296

structure Words (B W : Nat → Int) : Prop where
  lo : ∀ k, k < 16 → W k = word B k
  hi : ∀ k, 16 ≤ k → k < 64 → W k = grow (W (k - 16)) (W (k - 15)) (W (k - 7)) (W (k - 2))
  rng : ∀ k, 0 ≤ W k ∧ W k ≤ 4294967295

def s8 (f : Nat → Int) : Array Value := #[.int .u32 (f 0), .int .u32 (f 1), .int .u32 (f 2), .int .u32 (f 3), .int .u32 (f 4), .int .u32 (f 5), .int .u32 (f 6), .int .u32 (f 7)]
def z8 : Array Value := #[z32, z32, z32, z32, z32, z32, z32, z32]
def rc (k : Nat) : Int := RC.getD k 0
/-- the state's block: eight words, the words of the rounds -/
def stc (f : Nat → Int) : Array Value := s8 f ++ r64
theorem s8_get (f : Nat → Int) (i : Nat) (h : i < 8) : (s8 f)[i]? = some (.int .u32 (f i)) := by
  match i, h with
  | 0, _ => rfl
  | 1, _ => rfl
  | 2, _ => rfl
  | 3, _ => rfl
  | 4, _ => rfl
  | 5, _ => rfl
  | 6, _ => rfl
  | 7, _ => rfl
theorem stc_lo (f : Nat → Int) (i : Nat) (h : i < 8) : (stc f)[i]? = some (.int .u32 (f i)) := by
  unfold stc
  rw [Array.getElem?_append_left (show i < (s8 f).size from h), s8_get f i h]
theorem stc_hi (f : Nat → Int) (k : Nat) (h : k < 64) : (stc f)[8 + k]? = some (.int .u32 (rc k)) := by
  unfold stc
  rw [Array.getElem?_append_right (by simp [s8])]
  have : (s8 f).size = 8 := rfl
  rw [this, show 8 + k - 8 = k by omega]
  have hl : RC.length = 64 := by decide +kernel
  have hk : k < RC.length := by omega
  simp [r64, u32s, rc, hk]
theorem rc_in (k : Nat) : 0 ≤ rc k ∧ rc k ≤ 4294967295 := by
  unfold rc
  by_cases hk : k < RC.length
  · have : ∀ x ∈ RC, 0 ≤ x ∧ x ≤ 4294967295 := by decide +kernel
    have := this RC[k] (List.getElem_mem hk)
    simpa [hk] using this
  · have : RC[k]? = none := by simp; omega
    simp [this]

def sh (f : Nat → Int) : Nat → Int
  | 0 => f 0
  | i + 1 => f i
def s7 (f : Nat → Int) : List Value := [.int .u32 (f 0), .int .u32 (f 1), .int .u32 (f 2), .int .u32 (f 3), .int .u32 (f 4), .int .u32 (f 5), .int .u32 (f 6)]
theorem s7_src (f : Nat → Int) (w : World) (g : Nat) (t : TypeId) (fr : Nat × Nat) (h : w.heap[g]? = some (.cells (s8 f) t fr)) (j : Nat) (v : Value) (hj : (s7 f)[j]? = some v) :
    w.cell? ((⟨g, 0, none⟩ : Addr).add j) = some v := by
  have hadd : (⟨g, 0, none⟩ : Addr).add j = ⟨g, j, none⟩ := by unfold Addr.add; split <;> simp_all
  rw [hadd, show w.cell? ⟨g, j, none⟩ = (s8 f)[j]? by simp [World.cell?, h]]
  match j, hj with
  | 0, hj => exact hj
  | 1, hj => exact hj
  | 2, hj => exact hj
  | 3, hj => exact hj
  | 4, hj => exact hj
  | 5, hj => exact hj
  | 6, hj => exact hj
theorem s7_one (f : Nat → Int) : ∀ v ∈ s7 f, v.oneCell' = true := by
  intro v hv; simp [s7] at hv; rcases hv with h | h | h | h | h | h | h <;> subst h <;> rfl
theorem s8_one (f : Nat → Int) : ∀ v ∈ (s8 f).toList, v.oneCell' = true := by
  intro v hv; simp [s8] at hv; rcases hv with h | h | h | h | h | h | h | h <;> subst h <;> rfl

def t1 (f : Nat → Int) (r x : Int) : Int :=
  f 7 + bits .xor .u32 (bits .xor .u32 (rr 6 (f 4)) (rr 11 (f 4))) (rr 25 (f 4)) + bits .xor .u32 (bits .and .u32 (f 4) (f 5)) (bits .and .u32 (bits .xor .u32 IntKind.u32.max (f 4)) (f 6)) + r + x
def t2 (f : Nat → Int) : Int :=
  bits .xor .u32 (bits .xor .u32 (rr 2 (f 0)) (rr 13 (f 0))) (rr 22 (f 0)) + bits .xor .u32 (bits .xor .u32 (bits .and .u32 (f 0) (f 1)) (bits .and .u32 (f 0) (f 2))) (bits .and .u32 (f 1) (f 2))
/-- one round -/
def nx (f : Nat → Int) (r x : Int) : Nat → Int
  | 0 => (t1 f r x + t2 f) % 4294967296
  | 1 => f 0
  | 2 => f 1
  | 3 => f 2
  | 4 => (f 3 + t1 f r x) % 4294967296
  | 5 => f 4
  | 6 => f 5
  | 7 => f 6
  | _ => 0
/-- what is left of a block: k of the eight words summed up -/
def fin (H R : Nat → Int) (k i : Nat) : Int := if i < k then (H i + R i) % 4294967296 else H i
theorem fin_lo (H R : Nat → Int) (k i : Nat) (h : i < k) : fin H R k i = (H i + R i) % 4294967296 := by unfold fin; rw [if_pos h]
theorem fin_hi (H R : Nat → Int) (k i : Nat) (h : k ≤ i) : fin H R k i = H i := by unfold fin; rw [if_neg (by omega)]
theorem fin_zero (H R : Nat → Int) : fin H R 0 = H := by funext i; exact fin_hi H R 0 i (by omega)
theorem stc_set (f g : Nat → Int) (k : Nat) (hk : k < 8) (h : ∀ i, i ≠ k → f i = g i) : (stc f).setIfInBounds k (.int .u32 (g k)) = stc g := by
  apply Array.ext_getElem?
  intro i
  have hsz : ∀ f, (stc f).size = 8 + r64.size := fun f => by simp [stc, s8]
  by_cases hi : k = i
  · subst hi
    rw [Array.getElem?_setIfInBounds_self_of_lt (by rw [hsz]; omega), stc_lo g k hk]
  · rw [Array.getElem?_setIfInBounds_ne hi]
    by_cases h8 : i < 8
    · rw [stc_lo f i h8, stc_lo g i h8, h i (Ne.symm hi)]
    · unfold stc
      rw [Array.getElem?_append_right (show (s8 f).size ≤ i by show 8 ≤ i; omega), Array.getElem?_append_right (show (s8 g).size ≤ i by show 8 ≤ i; omega)]
      rfl
theorem fin_set (H R : Nat → Int) (k : Nat) (hk : k < 8) : (stc (fin H R k)).setIfInBounds k (.int .u32 ((H k + R k) % 4294967296)) = stc (fin H R (k + 1)) := by
  have := stc_set (fin H R k) (fin H R (k + 1)) k hk (fun i hi => by
    unfold fin
    by_cases h : i < k
    · rw [if_pos h, if_pos (by omega)]
    · rw [if_neg h, if_neg (by omega)])
  rw [fin_lo _ _ _ _ (by omega)] at this
  exact this
/-- the state behind a block -/
def sumF (H R : Nat → Int) (i : Nat) : Int := (H i + R i) % 4294967296
theorem stc_congr (f g : Nat → Int) (h : ∀ i, i < 8 → f i = g i) : stc f = stc g := by
  unfold stc s8
  rw [h 0 (by omega), h 1 (by omega), h 2 (by omega), h 3 (by omega), h 4 (by omega), h 5 (by omega), h 6 (by omega), h 7 (by omega)]
end Go.Sha
