import Derived.Test.YtihopeogaeinhaaGreatDoorLif
import Derived.Test.YtihopeogaeinhaaGreatDoorQo
import Derived.Test.YtihopeogaeinhaaGreatDoorNa
import Derived.Lib.Walk
import Derived.Laws.Cover1
import Derived.Shelf.SlSortCmp.WholeK
set_option linter.unusedVariables false
set_option linter.unusedSimpArgs false
set_option maxRecDepth 100000
/- Rows of files, sorted by their paths, by the kit's contract. -/
namespace Go.Tre
open Go.Scr
/-- a file's cells, told: path, directory, slice -/
abbrev SF := Txt × Bool × Option Addr × Nat × Nat
def encF (x : SF) : List Value := [.string (Go.Vc.mkS x.1), .bool x.2.1, .slice x.2.2.1 x.2.2.2.1 x.2.2.2.2]
def cfF (x y : SF) : Int := if Op.bytesLess x.1 y.1 = true then -1 else if Op.bytesLess y.1 x.1 = true then 1 else 0
theorem lt_cf (x y : SF) : Go.Proofs.ltOf cfF x y = Op.bytesLess x.1 y.1 := by
  unfold Go.Proofs.ltOf cfF
  by_cases h1 : Op.bytesLess x.1 y.1 = true
  · rw [if_pos h1, h1]; rfl
  · rw [if_neg h1]
    have h1 : Op.bytesLess x.1 y.1 = false := by simpa using h1
    rw [h1]
    split <;> rfl
theorem swoF : Go.Sort.SWO (Go.Proofs.ltOf cfF) where
  irrefl x := by rw [lt_cf]; exact lt_irrefl _
  trans x y z h1 h2 := by rw [lt_cf] at *; exact lt_trans h1 h2
  ntrans x y z h1 h2 := by
    rw [lt_cf] at *
    cases h : Op.bytesLess x.1 z.1 with
    | false => rfl
    | true =>
      by_cases hxy : x.1 = y.1
      · rw [hxy] at h; rw [h] at h2; cases h2
      · have := lt_trans (lt_tri h1 hxy) h
        rw [this] at h2; cases h2
end Go.Tre
namespace Go.Proofs.YtihopeogaeinhaaGreatDoor
open Go Go.Vc Go.Tre Go.Proofs Go.Shelf Go.Lib Go.Sort
theorem nan_calls (s : ByteArray) (w : World) : Calls Tryz.prog 99 #[.string s] w fun e w' => e = .returned (.bool false) ∧ w' = w := by
  go_enter Tryz.func99, Tryz.ntmps99
  go_wp2
  go_ret
  exact ⟨by simp, rfl⟩
theorem cmp_calls (x y : Bs) (w : World) : Calls Tryz.prog 69 #[.string (mkS x), .string (mkS y)] w fun e w' => e = .returned (.int .i64 (if Op.bytesLess x y = true then -1 else if Op.bytesLess y x = true then 1 else 0)) ∧ w' = w := by
  have e7 : ∀ args w, (callFunc 99 args).run Tryz.prog w = .ok (.enter 99 args) w := Tryz.call99
  go_enter Tryz.func69, Tryz.ntmps69
  go_wp2_with (go_at_fn 99; refine (nan_calls _ _).mono ?_; rintro e w' ⟨rfl, hw⟩; rw [hw])
  all_goals go_ret
  all_goals have ht := @lt_tri x y
  all_goals have hi := lt_irrefl x
  all_goals (refine ⟨?_, rfl⟩; first | rfl | (exfalso; simp_all; done) | (exfalso; rename_i h1 h2 h3; simp at h1 h2; simp_all))
theorem less_calls (x y : SF) (W : World) : Calls Tryz.prog 68 #[.agg (encF x).toArray, .agg (encF y).toArray] W fun e w' => e = .returned (.int .i64 (cfF x y)) ∧ ∃ q os', w' = grow (W.drewN q) os' := by
  have hcon := fun W' => cmp_calls x.1 y.1 W'
  unfold cfF
  generalize (if Op.bytesLess x.1 y.1 = true then (-1 : Int) else if Op.bytesLess y.1 x.1 = true then 1 else 0) = r at hcon ⊢
  unfold encF
  go_enter Tryz.func68, Tryz.ntmps68
  go_wp2_with (go_at_call 69; refine (hcon _).mono ?_; rintro e w' ⟨rfl, rfl⟩)
  go_ret
  exact ⟨rfl, 0, _, by rw [alloc_eq_grow, alloc_eq_grow, grow_grow]; rfl⟩
theorem flat_enc (d : List SF) : flatK encF 3 d.toArray = (d.flatMap encF).toArray := by
  induction d with
  | nil => simp [flatK]
  | cons x d ih =>
    apply Array.ext'
    apply List.ext_getElem?
    intro t
    have hsz : ∀ l : List SF, (flatK encF 3 l.toArray).size = l.length * 3 := fun l => by simp
    have hl : ∀ l : List SF, (l.flatMap encF).length = l.length * 3 := fun l => by
      induction l with
      | nil => rfl
      | cons y l ih => rw [List.flatMap_cons, List.length_append, ih, List.length_cons]; show 3 + _ = _; omega
    have hg : ∀ (l : List SF) (t : Nat), t < l.length * 3 → (flatK encF 3 l.toArray)[t]? = some ((encF l.toArray[t / 3]!)[t % 3]!) := fun l t h => by
      rw [Array.getElem?_eq_getElem (by rw [hsz]; exact h), ← getElem!_pos _ t (by rw [hsz]; exact h), get_flatK _ _ _ _ (by simpa using h)]
    rw [Array.getElem?_toList]
    show _ = ((x :: d).flatMap encF)[t]?
    by_cases ht : t < (x :: d).length * 3
    · rw [hg _ _ ht, List.flatMap_cons]
      by_cases h3 : t < 3
      · rw [List.getElem?_append_left (by show t < 3; exact h3), Nat.div_eq_of_lt h3, Nat.mod_eq_of_lt h3]
        rw [List.getElem?_eq_getElem (by show t < 3; exact h3)]
        simp [encF, h3]
      · rw [List.getElem?_append_right (by show 3 ≤ t; omega)]
        show _ = (d.flatMap encF)[t - 3]?
        have := congrArg (·[t - 3]?) ih
        have h4 : t - 3 < d.length * 3 := by rw [List.length_cons] at ht; omega
        rw [hg _ _ h4] at this
        simp only [List.getElem?_toArray] at this
        rw [← this, show t / 3 = (t - 3) / 3 + 1 by omega, show t % 3 = (t - 3) % 3 by omega]
        simp
    · rw [Array.getElem?_eq_none (by rw [hsz]; omega), List.getElem?_eq_none (by rw [hl]; omega)]
theorem sortf_any (l : List SF) (g n cap base : Nat) (H : Heap) (ho : Own H base 45 3 (some ⟨g, 0, none⟩) n cap (l.flatMap encF)) (hn : l.length = n) (hm : n ≤ 1000000000) :
    CallH Tryz.prog 67 [.slice (some ⟨g, 0, none⟩) n cap, .func (.func 68) #[] #[]] H fun v H' => v = .tuple #[] ∧ (∃ l' : List SF, l'.Perm l ∧ l'.Pairwise (fun x y => Op.bytesLess y.1 x.1 = false) ∧ Own H' base 45 3 (some ⟨g, 0, none⟩) n cap (l'.flatMap encF)) ∧ Wr (some ⟨g, 0, none⟩) H H' := by
  subst hn
  refine CallH.calls Tryz.call67 fun w hw => ?_
  subst hw
  have hb := (ho.block _ rfl).2
  have hH : HoldsK encF 3 w g 0 l.toArray := by unfold HoldsK; rw [flat_enc]; exact own_holds ho
  have hcon := AnyQ.slices_SortFunc Tryz.sortF 3 Tryz.isAgg45 Tryz.sizeOf45 encF (fun _ => rfl) (fun x v hv => by simp [encF] at hv; rcases hv with rfl | rfl | rfl <;> rfl) cfF swoF 68 #[] g 0 cap l.toArray w Tryz.call68 (fun _ _ _ _ x y => less_calls x y _) hH hb (by simp; omega)
  have hcon : Calls Tryz.prog 67 _ _ _ := hcon
  rw [show l.toArray.size = l.length from by simp] at hcon
  refine Calls.mono hcon ?_
  rintro e w' ⟨h1, d', m, os, hp, hs, rfl⟩
  have hsz : d'.size = l.length := by have := hp.1; simpa using this
  have hperm : d'.toList.Perm l := by
    have := hp.2.2
    simp [← hsz] at this
    rw [hsz] at this
    simpa using this
  have hd : d' = d'.toList.toArray := by simp
  unfold sortWorldK putRowK
  rw [hd, flat_enc]
  have hll : (d'.toList.flatMap encF).length = (l.flatMap encF).length := (hperm.flatMap_right encF).length_eq
  obtain ⟨g1, g2⟩ := own_put (ys := d'.toList.flatMap encF) ho hll m os
  refine ⟨_, h1, ⟨rfl, rfl, rfl⟩, rfl, ⟨d'.toList, hperm, ?_, g1⟩, g2⟩
  rw [List.pairwise_iff_getElem]
  intro i j hi hj hij
  have := hs i j (Nat.zero_le _) hij (by simpa [hsz] using hj)
  rw [lt_cf] at this
  rw [getElem!_pos d' i (by simpa using hi), getElem!_pos d' j (by simpa using hj)] at this
  simpa using this
end Go.Proofs.YtihopeogaeinhaaGreatDoor
