import Derived.Test.YtihopeogaeinhaaGreatDoorAv
set_option linter.unusedVariables false
set_option linter.unusedSimpArgs false
set_option maxRecDepth 100000
/- Ranging over strings. -/
namespace Go.Vc
variable {P : Program} {H H' : Heap}

/-- block b is an iterator over this string, so far on -/
structure Iter (H : Heap) (b : Nat) (s : ByteArray) (pos : Nat) : Prop where out : H[b]? = some (.stringIter s pos)
theorem Iter.lt {b : Nat} {s : ByteArray} {pos : Nat} (h : Iter H b s pos) : b < H.size := (Array.getElem?_eq_some_iff.1 h.out).1
theorem Iter.ext {b : Nat} {s : ByteArray} {pos : Nat} (h : Iter H b s pos) (k : Ext H H') : Iter H' b s pos := ⟨(k.same b h.lt id).trans h.out⟩
theorem SemH.range_str {t : TypeId} {s : ByteArray} {K : Value → Heap → Prop} (ht : P.underlying t = some .string)
    (hk : ∀ H', H'.size = H.size + 1 → Iter H' H.size s 0 → Ext H H' → K (.pointer (some ⟨H.size, 0, none⟩)) H') : SemH P (Instr.range t (.string s)) H K := by
  refine ⟨fun w hw => ⟨.pointer (some ⟨w.heap.size, 0, none⟩), { w with heap := w.heap.push (.stringIter s 0) }, ?_, ⟨rfl, rfl, rfl⟩, ?_⟩⟩
  · simp only [Instr.range, Sem.run_bind, underlying_of ht, Result.andThen_ok, Sem.run_pure, run_newObj]
  · subst hw; exact hk _ (by simp) ⟨push_last _ _⟩ (Only.push _ _ _)
theorem SemH.next_str {b : Nat} {s : ByteArray} {pos : Nat} {ty : TypeId} {K : Value → Heap → Prop} (hI : Iter H b s pos) (h : pos < s.size)
    (hk : ∀ H', H'.size = H.size → Iter H' b s (pos + (Utf8.decode s pos).2) → But b H H' → K (.tuple #[.bool true, .int .i64 pos, .int .i32 (Utf8.decode s pos).1]) H') : SemH P (Instr.next (.pointer (some ⟨b, 0, none⟩)) true ty) H K := by
  refine ⟨fun w hw => ?_⟩
  have hI' := hI.out
  have hlt := hI.lt
  subst hw
  refine ⟨.tuple #[.bool true, .int .i64 pos, .int .i32 (Utf8.decode s pos).1], { w with heap := w.heap.setIfInBounds b (.stringIter s (pos + (Utf8.decode s pos).2)) }, ?_, ⟨rfl, rfl, rfl⟩, hk _ (by simp) ⟨by simp [hlt]⟩ (Only.set _ _ _)⟩
  simp only [Instr.next, getObj, setObj, Sem.run_bind, Sem.run, hI', Result.andThen, h, if_true]
  simp [goInt, Sem.run, hI', Result.andThen]
theorem SemH.next_end {b : Nat} {s : ByteArray} {pos : Nat} {ty : TypeId} {K : Value → Heap → Prop} (hI : Iter H b s pos) (h : ¬ pos < s.size) (hk : K (.tuple #[.bool false]) H) : SemH P (Instr.next (.pointer (some ⟨b, 0, none⟩)) true ty) H K := by
  refine ⟨fun w hw => ⟨_, w, ?_, Same.refl w, hw ▸ hk⟩⟩
  have hI := hI.out
  subst hw
  simp [Instr.next, getObj, Sem.run, hI, h]

/- runes: such as are no ASCII are made of bytes that are none -/
theorem get_mk (l : Bs) (n : Nat) : (mkS l).get! n = l.getD n 0 := by
  show (l.toArray)[n]! = _
  rw [List.getElem!_toArray, List.getElem!_eq_getElem?_getD, List.getD_eq_getElem?_getD]; rfl
structure Runes (l : Bs) (pos c w : Nat) : Prop where
  w1 : 1 ≤ w
  le : pos + w ≤ l.length
  lo : (l.getD pos 0).toNat < 128 → c = (l.getD pos 0).toNat ∧ w = 1
  hi : 128 ≤ (l.getD pos 0).toNat → 128 ≤ c ∧ ∀ j, pos ≤ j → j < pos + w → 128 ≤ (l.getD j 0).toNat
theorem decode_runes (l : Bs) (pos : Nat) (h : pos < l.length) : Runes l pos (Utf8.decode (mkS l) pos).1 (Utf8.decode (mkS l) pos).2 := by
  have hs : (mkS l).size = l.length := rfl
  have one : ∀ c, 128 ≤ (l.getD pos 0).toNat → 128 ≤ c → Runes l pos c 1 := fun c h0 hc => ⟨Nat.le_refl _, h, fun h1 => by omega, fun _ => ⟨hc, fun j h1 h2 => by
    have : j = pos := by omega
    rw [this]; exact h0⟩⟩
  unfold Utf8.decode
  simp only [get_mk, hs, Nat.add_zero]
  by_cases h0 : (l.getD pos 0).toNat < 128
  · rw [if_pos h0]
    exact ⟨Nat.le_refl _, h, fun _ => ⟨rfl, rfl⟩, fun h1 => by omega⟩
  · rw [if_neg h0]
    have h1 : 128 ≤ (l.getD pos 0).toNat := by omega
    have hr : 128 ≤ Utf8.runeError := by decide
    split
    · rename_i hc
      simp only [Bool.and_eq_true, decide_eq_true_eq, beq_iff_eq] at hc
      split
      · rename_i hge
        refine ⟨by omega, by omega, fun h2 => by omega, fun _ => ⟨hge, fun j h3 h4 => ?_⟩⟩
        obtain rfl | rfl : j = pos ∨ j = pos + 1 := by omega
        · exact h1
        · omega
      · exact one _ h1 hr
    · split
      · rename_i hc
        simp only [Bool.and_eq_true, decide_eq_true_eq, beq_iff_eq] at hc
        split
        · rename_i hge
          simp only [Bool.and_eq_true, decide_eq_true_eq] at hge
          refine ⟨by omega, by omega, fun h2 => by omega, fun _ => ⟨Nat.le_trans (by decide) hge.1, fun j h3 h4 => ?_⟩⟩
          obtain rfl | rfl | rfl : j = pos ∨ j = pos + 1 ∨ j = pos + 2 := by omega
          · exact h1
          · omega
          · omega
        · exact one _ h1 hr
      · split
        · rename_i hc
          simp only [Bool.and_eq_true, decide_eq_true_eq, beq_iff_eq] at hc
          split
          · rename_i hge
            simp only [Bool.and_eq_true, decide_eq_true_eq] at hge
            refine ⟨by omega, by omega, fun h2 => by omega, fun _ => ⟨Nat.le_trans (by decide) hge.1, fun j h3 h4 => ?_⟩⟩
            obtain rfl | rfl | rfl | rfl : j = pos ∨ j = pos + 1 ∨ j = pos + 2 ∨ j = pos + 3 := by omega
            · exact h1
            · omega
            · omega
            · omega
          · exact one _ h1 hr
        · exact one _ h1 hr
end Go.Vc
