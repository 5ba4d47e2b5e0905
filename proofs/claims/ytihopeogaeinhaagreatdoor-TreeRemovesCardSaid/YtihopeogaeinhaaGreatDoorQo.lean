import Derived.Test.YtihopeogaeinhaaGreatDoorLis
import Derived.Test.YtihopeogaeinhaaGreatDoorBd
import Derived.Test.YtihopeogaeinhaaGreatDoorLo
set_option linter.unusedVariables false
set_option linter.unusedSimpArgs false
set_option maxRecDepth 100000
/- Sorted rows, by the kit's contract. -/
namespace Go.Vc
theorem own_holds {w : World} {base g n cap k : Nat} {e : TypeId} {xs : List Value} (h : Own w.heap base e k (some ⟨g, 0, none⟩) n cap xs) : Go.Sort.Holds id w g 0 xs.toArray := by
  intro j hj
  have hj' : j < xs.length := by simpa using hj
  have hlen := h.len
  rcases h.out with ⟨h1, _⟩ | ⟨g', cur, h1, hb, hg, hnc, hmc, hcs, htake⟩
  · cases h1
  · cases h1
    obtain ⟨fr, hg1, hg2⟩ := hg.out
    have hjc : j < cur.size := by rw [hcs]; have := Nat.mul_le_mul_right k hnc; omega
    have hget : cur[j]? = some xs[j] := by
      have := congrArg (·[j]?) htake
      simp only [List.getElem?_take, if_pos (show j < n * k by omega), Array.getElem?_toList] at this
      rw [this, List.getElem?_eq_getElem hj']
    have hid : xs.toArray[j]! = xs[j] := by simp [hj']
    rw [Nat.zero_add]
    constructor
    · rw [hid]; simp [World.cell?, hg1, hget]
    · obtain ⟨lo, hi⟩ := fr
      simp only [World.frozen?, hg1]
      rcases hg2 with h2 | h2
      · simp only [Bool.and_eq_false_iff, decide_eq_false_iff_not]; dsimp only at h2 ⊢; omega
      · simp only [Bool.and_eq_false_iff, decide_eq_false_iff_not]; dsimp only at h2 ⊢; omega
theorem put_cells (ys : List Value) (cur : Array Value) (j : Nat) : (Go.Sort.putCells id 0 ys.toArray cur)[j]? = if j < cur.size then (if j < ys.length then ys[j]? else cur[j]?) else none := by
  unfold Go.Sort.putCells
  rw [Array.getElem?_mapIdx]
  by_cases hj : j < cur.size
  · rw [if_pos hj, Array.getElem?_eq_getElem hj, Option.map_some]
    by_cases h2 : j < ys.length
    · rw [if_pos ⟨Nat.zero_le _, by simpa using h2⟩, if_pos h2, List.getElem?_eq_getElem h2]; simp [h2]
    · rw [if_neg (by simp; omega), if_neg h2]
  · rw [if_neg hj, Array.getElem?_eq_none (by omega)]; rfl
theorem own_put {w : World} {base g n cap k : Nat} {e : TypeId} {xs ys : List Value} (h : Own w.heap base e k (some ⟨g, 0, none⟩) n cap xs) (hl : ys.length = xs.length) (m : Nat) (os : Array Obj) :
    Own (Go.Sort.grow (Go.Sort.putRow id (Go.Sort.ahead w m) g 0 ys.toArray) os).heap base e k (some ⟨g, 0, none⟩) n cap ys ∧ Wr (some ⟨g, 0, none⟩) w.heap (Go.Sort.grow (Go.Sort.putRow id (Go.Sort.ahead w m) g 0 ys.toArray) os).heap := by
  have hlen := h.len
  obtain ⟨W, hW⟩ : ∃ W : Heap, (Go.Sort.grow (Go.Sort.putRow id (Go.Sort.ahead w m) g 0 ys.toArray) os).heap = W := ⟨_, rfl⟩
  have hWd : W = w.heap.modify g (Go.Sort.onCells (Go.Sort.putCells id 0 ys.toArray)) ++ os := hW.symm
  rw [hW]
  have hsz : w.heap.size ≤ W.size := by rw [hWd]; simp
  have hsame : ∀ b, b < w.heap.size → W[b]? = if g = b then (w.heap[b]?).map (Go.Sort.onCells (Go.Sort.putCells id 0 ys.toArray)) else w.heap[b]? := fun b hb => by
    rw [hWd, Array.getElem?_append_left (by simpa using hb), Array.getElem?_modify]
  rcases h.out with ⟨h1, _⟩ | ⟨g', cur, h1, hb, hg, hnc, hmc, hcs, htake⟩
  · cases h1
  · cases h1
    obtain ⟨fr, hg1, hg2⟩ := hg.out
    have hlt := hg.lt
    refine ⟨⟨by rw [hl]; exact hlen, .inr ⟨g, Go.Sort.putCells id 0 ys.toArray cur, rfl, hb, ⟨fr, ?_, ?_⟩, hnc, hmc, ?_, ?_⟩⟩, hsz, fun b hb hF => ?_⟩
    · rw [hsame g hlt, if_pos rfl, hg1]; rfl
    · have : (Go.Sort.putCells id 0 ys.toArray cur).size = cur.size := by simp [Go.Sort.putCells]
      rw [this]; exact hg2
    · have : (Go.Sort.putCells id 0 ys.toArray cur).size = cur.size := by simp [Go.Sort.putCells]
      rw [this]; exact hcs
    · apply List.ext_getElem?
      intro j
      rw [List.getElem?_take, Array.getElem?_toList, put_cells]
      have hnk := Nat.mul_le_mul_right k hnc
      by_cases hj : j < n * k
      · rw [if_pos hj, if_pos (by omega), if_pos (by omega)]
      · rw [if_neg hj, List.getElem?_eq_none (by omega)]
    · rw [hsame b hb, if_neg fun e => hF ⟨_, rfl, e⟩]
end Go.Vc
namespace Go.Proofs.YtihopeogaeinhaaGreatDoor
open Go Go.Vc Go.Scr
theorem put_map {α : Type} [Inhabited α] (enc : α → Value) (w : World) (g : Nat) (d : List α) : Go.Sort.putRow enc w g 0 d.toArray = Go.Sort.putRow id w g 0 (d.map enc).toArray := by
  unfold Go.Sort.putRow
  refine Go.Sort.mapBlock_congr w g _ _ fun c _ _ _ => ?_
  unfold Go.Sort.putCells
  congr 1
  funext k x
  by_cases h : k < d.length
  · rw [if_pos (by simpa using h), if_pos (by simpa using h)]; simp [h]
  · rw [if_neg (by simpa using h), if_neg (by simpa using h)]
theorem holds_map {α : Type} [Inhabited α] (enc : α → Value) (w : World) (g : Nat) (d : List α) (h : Go.Sort.Holds id w g 0 (d.map enc).toArray) : Go.Sort.Holds enc w g 0 d.toArray := by
  intro j hj
  have hj' : j < d.length := by simpa using hj
  have := h j (by simpa using hj')
  have e : enc d.toArray[j]! = id (d.map enc).toArray[j]! := by simp [hj']
  rw [e]; exact this
theorem sort_any (l : List Bs) (g n cap base : Nat) (H : Heap) (ho : Own H base 9 1 (some ⟨g, 0, none⟩) n cap (strs l)) (hn : l.length = n) (hm : n ≤ 1000000000) :
    CallH Tryz.prog 102 [.slice (some ⟨g, 0, none⟩) n cap] H fun v H' => v = .tuple #[] ∧ (∃ l' : List Bs, l'.Perm l ∧ Own H' base 9 1 (some ⟨g, 0, none⟩) n cap (strs l')) ∧ Wr (some ⟨g, 0, none⟩) H H' := by
  subst hn
  refine CallH.calls Tryz.call102 fun w hw => ?_
  subst hw
  have hb := (ho.block _ rfl).2
  have hs : strs l = l.map Go.Proofs.encStr := rfl
  refine Calls.mono (Tryz.slices_Sort_string g 0 cap l w (holds_map _ w g l (own_holds (hs ▸ ho))) hb (by omega)) ?_
  rintro e w' ⟨h1, m, os, rfl⟩
  have hp := List.mergeSort_perm l (fun x y => decide (x ≤ y))
  obtain ⟨g1, g2⟩ := own_put (ys := strs (l.mergeSort fun x y => decide (x ≤ y))) ho (by simp [strs, hp.length_eq]) m os
  rw [put_map Go.Proofs.encStr]
  exact ⟨_, h1, ⟨rfl, rfl, rfl⟩, rfl, ⟨_, hp, g1⟩, g2⟩
end Go.Proofs.YtihopeogaeinhaaGreatDoor
