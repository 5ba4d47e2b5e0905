import Derived.Test.YtlgcfcdmldlefaaDoorSb
set_option linter.unusedVariables false
set_option linter.unusedSimpArgs false
set_option maxRecDepth 100000
/- Sums: plain laws for the sum over parts. -/
namespace Go.Proofs.YtlgcfcdmldlefaaDoor
open Go Go.Vc Go.Sha

def sumL (l : List UInt8) : List UInt8 := (List.range 32).map fun i => UInt8.ofNat (shaH (ints l) (i / 4) / 2 ^ (24 - 8 * (i % 4)) % 256).toNat
theorem sumL_length (l : List UInt8) : (sumL l).length = 32 := by simp [sumL]
theorem ints_append (a b : List UInt8) : ints (a ++ b) = ints a ++ ints b := by simp [ints]
theorem ints_take (a : List UInt8) (k : Nat) : (ints a).take k = ints (a.take k) := by simp [ints]
theorem ints_drop (a : List UInt8) (k : Nat) : (ints a).drop k = ints (a.drop k) := by simp [ints]

theorem word_congr {B B' : Nat → Int} (h : ∀ i, i < 64 → B i = B' i) {k : Nat} (hk : k < 16) : word B k = word B' k := by
  unfold word
  rw [h _ (by omega), h _ (by omega), h _ (by omega), h _ (by omega)]
theorem wd_congr {B B' : Nat → Int} (h : ∀ i, i < 64 → B i = B' i) : ∀ n, wd B n = wd B' n
  | 0 => rfl
  | n + 1 => by
    have ih := wd_congr h n
    funext i
    show (if i = n then (if n < 16 then word B n else grow (wd B n (n - 16)) (wd B n (n - 15)) (wd B n (n - 7)) (wd B n (n - 2))) else wd B n i) = (if i = n then (if n < 16 then word B' n else grow (wd B' n (n - 16)) (wd B' n (n - 15)) (wd B' n (n - 7)) (wd B' n (n - 2))) else wd B' n i)
    rw [ih]
    by_cases hn : n < 16
    · rw [word_congr h hn]
    · simp only [if_neg hn]
theorem blk_congr (F : Nat → Int) {l m : List Int} (h : ∀ i, i < 64 → l.getD i 0 = m.getD i 0) : blk F l = blk F m := by
  unfold blk
  rw [wd_congr h]
theorem blk_take (F : Nat → Int) (l : List Int) : blk F (l.take 64) = blk F l := by
  refine blk_congr F fun i hi => ?_
  rw [List.getD_eq_getElem?_getD, List.getD_eq_getElem?_getD, List.getElem?_take, if_pos hi]

/-- a part: a slice, and what it reads as -/
structure Part where
  a : Option Addr
  n : Nat
  cap : Nat
  l : List UInt8
def Part.val (p : Part) : Value := .slice p.a p.n p.cap
structure PartOk (H : Heap) (p : Part) : Prop where
  len : p.l.length = p.n
  cap : p.n ≤ p.cap
  row : Row H p.a (strV p.l)
theorem PartOk.ext {H H' : Heap} {p : Part} (h : PartOk H p) (k : Ext H H') : PartOk H' p := ⟨h.len, h.cap, h.row.ext k⟩
structure Parts (H : Heap) (pa : Option Addr) (ps : List Part) : Prop where
  row : Row H pa (ps.map Part.val)
  each : ∀ p ∈ ps, PartOk H p
theorem Parts.ext {H H' : Heap} {pa : Option Addr} {ps : List Part} (h : Parts H pa ps) (k : Ext H H') : Parts H' pa ps := ⟨h.row.ext k, fun p hp => (h.each p hp).ext k⟩
def allL (ps : List Part) : List UInt8 := ps.flatMap (·.l)
theorem allL_snoc (ps : List Part) (k : Nat) (h : k < ps.length) : allL (ps.take (k + 1)) = allL (ps.take k) ++ ps[k].l := by
  rw [List.take_succ_eq_append_getElem h]
  unfold allL
  rw [List.flatMap_append, List.flatMap_cons, List.flatMap_nil, List.append_nil]
theorem allL_take_le (ps : List Part) (k : Nat) : (allL (ps.take k)).length ≤ (allL ps).length := by
  have : allL ps = allL (ps.take k) ++ allL (ps.drop k) := by
    unfold allL; rw [← List.flatMap_append, List.take_append_drop]
  rw [this, List.length_append]; omega
theorem SemH.load_part2 {P : Program} {H : Heap} {t : TypeId} {b o : Nat} {v : Value} {K : Value → Heap → Prop} (hT : aggB P t = some false) (hc : hcell H ⟨b, o, none⟩ = some v) (hk : K v H) : SemH P (Instr.loadAt t (.pointer (some ⟨b, o, none⟩))) H K := SemH.load hT hc hk
/-- an element of a slice of slices -/
theorem IdxA.part {H : Heap} {pa : Option Addr} {ps : List Part} {n : Nat} {i : Int} {K : Addr → Prop} (h : Parts H pa ps) (hn : ps.length = n) (k : Nat) (hi : i = k) (hk : k < ps.length)
    (hK : ∀ b o, pa = some ⟨b, o, none⟩ → hcell H ⟨b, o + k, none⟩ = some ps[k].val → K ⟨b, o + k, none⟩) : IdxA pa n 1 i K := by
  obtain ⟨b, o, ha, _, hc⟩ := h.row.at (by rw [List.length_map]; omega)
  subst hi
  refine ⟨by omega, by omega, ⟨b, o, none⟩, ha, ?_⟩
  rw [addk, Int.toNat_natCast, Nat.mul_one]
  exact hK b o ha (hc _ _ (by simp [hk]))

/- ---------- the last block ---------- -/
/-- the 128 places of what is left: r bytes, a one, noughts; j bytes of the length from place e - 8 on -/
def lastF (rest : List UInt8) (n : Int) (e j i : Nat) : UInt8 :=
  if e - 8 ≤ i ∧ i < e - 8 + j then UInt8.ofNat (n / 2 ^ (8 * (7 - (i - (e - 8)))) % 256).toNat
  else if i < rest.length then rest.getD i 0 else if i = rest.length then 128 else 0
def endOf (r : Nat) : Nat := if r + 9 > 64 then 128 else 64
theorem last_get (rest : List UInt8) (total : Nat) (hr : rest.length < 64) (i : Nat) (hi : i < endOf rest.length) :
    ((lastF rest ((total : Int) * 8) (endOf rest.length) 8 i).toNat : Int) = (lastB (ints rest) total).getD i 0 := by
  have hl : (lastB (ints rest) total).length = endOf rest.length := by
    rw [lastB_length _ _ (by rw [ints_length]; exact hr), ints_length]
    unfold endOf; split <;> split <;> omega
  have he : endOf rest.length = rest.length + 1 + zc rest.length + 8 := by
    have : (lastB (ints rest) total).length = rest.length + 1 + zc rest.length + 8 := by
      unfold lastB
      simp only [List.length_append, List.length_cons, List.length_nil, List.length_replicate, len8_length, ints_length]
    omega
  rw [List.getD_eq_getElem?_getD]
  unfold lastF lastB
  rw [ints_length]
  by_cases h1 : endOf rest.length - 8 ≤ i
  · rw [if_pos (by omega), List.getElem?_append_right (by simp [ints_length]; omega)]
    have e1 : i - (ints rest ++ [128] ++ List.replicate (zc rest.length) 0).length = i - (endOf rest.length - 8) := by simp [ints_length]; omega
    rw [e1, len8_at _ _ (by omega), Option.getD_some]
    generalize ((total : Int) * 8 / 2 ^ (8 * (7 - (i - (endOf rest.length - 8))))) = y
    have h1 : 0 ≤ y % 256 := by omega
    have h2 : y % 256 < 256 := by omega
    generalize y % 256 = z at h1 h2 ⊢
    have := Nat.mod_eq_of_lt (show z.toNat < 256 by omega)
    simp only [UInt8.toNat_ofNat']
    omega
  · rw [if_neg (by omega), List.getElem?_append_left (by simp [ints_length]; omega)]
    by_cases h2 : i < rest.length
    · rw [if_pos h2, List.append_assoc, List.getElem?_append_left (by rw [ints_length]; exact h2), ← List.getD_eq_getElem?_getD, ints_get]
    · rw [if_neg h2]
      by_cases h3 : i = rest.length
      · rw [if_pos h3, List.append_assoc, List.getElem?_append_right (by rw [ints_length]; omega), ints_length, h3, Nat.sub_self]
        rfl
      · rw [if_neg h3, List.getElem?_append_right (by simp [ints_length]; omega)]
        have : i - (ints rest ++ [128]).length < zc rest.length := by simp [ints_length]; omega
        rw [List.getElem?_replicate, if_pos this]
        rfl
theorem lastF_first (rest : List UInt8) (n : Int) (e i : Nat) : lastF rest n e 0 i = if i < rest.length then rest.getD i 0 else if i = rest.length then 128 else 0 := by
  unfold lastF; rw [if_neg (by omega)]
theorem lastF_step (rest : List UInt8) (n : Int) (e j i : Nat) (h : i ≠ e - 8 + j) : lastF rest n e j i = lastF rest n e (j + 1) i := by
  unfold lastF
  by_cases h1 : e - 8 ≤ i ∧ i < e - 8 + j
  · rw [if_pos h1, if_pos (by omega)]
  · rw [if_neg h1, if_neg (show ¬ (e - 8 ≤ i ∧ i < e - 8 + (j + 1)) by omega)]
theorem lastF_new (rest : List UInt8) (n : Int) (e j : Nat) : lastF rest n e (j + 1) (e - 8 + j) = UInt8.ofNat (n / 2 ^ (8 * (7 - j)) % 256).toNat := by
  unfold lastF
  rw [if_pos (by omega), show e - 8 + j - (e - 8) = j by omega]
theorem byte_int (z : Int) : (((UInt8.ofNat (z % 256).toNat).toNat : Nat) : Int) = z % 256 := by
  have h1 : 0 ≤ z % 256 := by omega
  have h2 : z % 256 < 256 := by omega
  generalize z % 256 = z at h1 h2 ⊢
  have := Nat.mod_eq_of_lt (show z.toNat < 256 by omega)
  simp only [UInt8.toNat_ofNat']
  omega
theorem absorb_last (rest : List UInt8) (total : Nat) (hr : rest.length < 64) (F : Nat → Int) (G : List UInt8) (b : Nat) (hG : ∀ i, i < 64 → G.getD i 0 = lastF rest ((total : Int) * 8) (endOf rest.length) 8 (64 * b + i)) (hb : b < endOf rest.length / 64) :
    absorb (b + 1) F (lastB (ints rest) total) = blk (absorb b F (lastB (ints rest) total)) (ints G) := by
  rw [absorb_succ, blk_take]
  refine blk_congr _ fun i hi => ?_
  have h64 : 64 * b + i < endOf rest.length := by unfold endOf at *; split at hb <;> (rename_i h; first | rw [if_pos h] | rw [if_neg h]) <;> omega
  have e := last_get rest total hr (64 * b + i) h64
  rw [ints_get, hG i hi, e, List.getD_eq_getElem?_getD, List.getD_eq_getElem?_getD, List.getElem?_drop]
theorem sha_done (X rest : List UInt8) (q : Nat) (hX : X.length = 64 * q) (hr : rest.length < 64) :
    absorb (endOf rest.length / 64) (absorb q h0 (ints X)) (lastB (ints rest) (X ++ rest).length) = shaH (ints (X ++ rest)) := by
  rw [ints_append, shaH_split (ints X) (ints rest) q (by rw [ints_length]; exact hX) (by rw [ints_length]; exact hr)]
  have hlen : (ints X ++ ints rest).length = (X ++ rest).length := by simp [ints]
  have hl : (lastB (ints rest) (X ++ rest).length).length = endOf rest.length := by
    rw [lastB_length _ _ (by rw [ints_length]; exact hr), ints_length]
    unfold endOf; split <;> split <;> omega
  rw [hlen, hl]

def lastV (rest : List UInt8) (n : Int) (e j : Nat) : Nat → Value := fun i => .int .u8 (lastF rest n e j i).toNat
theorem last_start (rest : List UInt8) (n : Int) (e : Nat) (hr : rest.length < 64) :
    (over (Array.replicate 128 (.int .u8 0)) 0 (strV rest)).setIfInBounds (0 + rest.length) (.int .u8 128) = tab 128 (lastV rest n e 0) := by
  have e0 : over (Array.replicate 128 (.int .u8 0)) 0 (strV rest) = tab 128 (fun i => .int .u8 (if i < rest.length then rest.getD i 0 else 0).toNat) := by
    apply Array.ext_getElem?
    intro i
    rw [over_get _ _ _ _ (by rw [strV_length]; simp; omega), strV_length]
    by_cases hi : i < 128
    · rw [tab_get _ _ _ hi]
      by_cases h : i < rest.length
      · rw [if_pos (by omega), if_pos h, Nat.sub_zero, strV_get h]
      · rw [if_neg (by omega), if_neg h]; simp [hi]
    · rw [if_neg (by omega), Array.getElem?_eq_none (by simp; omega), Array.getElem?_eq_none (by rw [tab_size]; omega)]
  rw [e0, Nat.zero_add]
  refine tab_set 128 _ _ _ _ ?_ ?_
  · show Value.int _ _ = _
    rw [lastF_first, if_neg (by omega), if_pos rfl]; rfl
  · intro i _ hne
    show Value.int _ _ = Value.int _ _
    rw [lastF_first]
    by_cases h : i < rest.length
    · rw [if_pos h, if_pos h]
    · rw [if_neg h, if_neg h, if_neg hne]
theorem last_set (rest : List UInt8) (n : Int) (e j : Nat) (x : Int) (hx : x = n / 2 ^ (8 * (7 - j)) % 256) : (tab 128 (lastV rest n e j)).setIfInBounds (e - 8 + j) (.int .u8 x) = tab 128 (lastV rest n e (j + 1)) := by
  refine tab_set 128 _ _ _ _ ?_ ?_
  · show Value.int _ _ = _
    rw [lastF_new, byte_int, hx]
  · intro i _ hne
    show Value.int _ _ = Value.int _ _
    rw [lastF_step _ _ _ _ _ hne]
theorem tab_row {H : Heap} {g n : Nat} {f : Nat → Value} {t : TypeId} (h : Blk H g (tab n f) t) (o : Nat) (cs : List Value) (hc : ∀ j, j < cs.length → o + j < n ∧ cs[j]? = some (f (o + j))) : Row H (some ⟨g, o, none⟩) cs :=
  ⟨.inr ⟨g, o, rfl, fun j v hv => by
    have hj : j < cs.length := (List.getElem?_eq_some_iff.1 hv).1
    obtain ⟨h1, h2⟩ := hc j hj
    rw [h.cell, tab_get _ _ _ h1, ← h2, hv]⟩⟩
def sumV (F : Nat → Int) (k : Nat) : Nat → Value := fun i => if i < k then .int .u8 (F (i / 4) / 2 ^ (24 - 8 * (i % 4)) % 256) else .int .u8 0
theorem sumV_set (F : Nat → Int) (k : Nat) : (tab 32 (sumV F k)).setIfInBounds k (.int .u8 (F (k / 4) / 2 ^ (24 - 8 * (k % 4)) % 256)) = tab 32 (sumV F (k + 1)) := by
  refine tab_set 32 _ _ _ _ ?_ ?_
  · unfold sumV; rw [if_pos (by omega)]
  · intro i _ hne
    unfold sumV
    by_cases h : i < k
    · rw [if_pos h, if_pos (by omega)]
    · rw [if_neg h, if_neg (by omega)]
theorem sumV_zero (F : Nat → Int) : tab 32 (sumV F 0) = Array.replicate 32 (.int .u8 0) := by
  rw [← tab_replicate]; exact tab_congr _ _ _ fun i _ => by unfold sumV; rw [if_neg (by omega)]
theorem sumV_done (l : List UInt8) : tab 32 (sumV (shaH (ints l)) 32) = (strV (sumL l)).toArray := by
  unfold sumL
  rw [← tab_strV]
  refine tab_congr _ _ _ fun i hi => ?_
  unfold sumV
  rw [if_pos hi, byte_int]
theorem sumV_plain (F : Nat → Int) (k : Nat) : ∀ u ∈ (tab 32 (sumV F k)).toList, plainV u = true := tab_plain _ _ fun i => by unfold sumV; split <;> rfl
end Go.Proofs.YtlgcfcdmldlefaaDoor
