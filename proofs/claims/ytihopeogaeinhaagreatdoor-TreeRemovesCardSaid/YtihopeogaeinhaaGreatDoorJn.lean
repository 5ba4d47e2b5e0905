import Derived.Test.YtihopeogaeinhaaGreatDoorBd
import Derived.Test.YtihopeogaeinhaaGreatDoorLib
import Derived.Test.YtihopeogaeinhaaGreatDoorLo
import Derived.Lib.Join
set_option linter.unusedVariables false
set_option linter.unusedSimpArgs false
set_option maxRecDepth 100000
/- Joined texts, by the kit's contract. -/
namespace Go.Proofs.YtihopeogaeinhaaGreatDoor
open Go Go.Vc Go.Scr Go.RowKit
theorem join_any {H : Heap} {a : Option Addr} {n cap : Nat} {ws : List Bs} {sep : Bs} (hr : Row H a (strs ws)) (hn : ws.length = n) (hc : n ≤ cap) (hm : n ≤ 1000000000) (hl : (Lib.join ws sep).length ≤ 1000000000) : CallH Tryz.prog 119 [.slice a n cap, .string (mkS sep)] H fun v H' => v = .string (mkS (Lib.join ws sep)) ∧ Ext H H' := by
  subst hn
  refine CallH.calls Tryz.call119 fun w hw => ?_
  by_cases h0 : ws = []
  · subst h0
    refine Calls.mono (Tryz.strings_Join_none a cap (mkS sep) w) ?_
    rintro e w' ⟨h1, rfl⟩
    exact ⟨_, h1, Same.refl _, rfl, hw ▸ Ext.refl _⟩
  · obtain ⟨b, o, ha, hb, hcell⟩ := hr.at (by rw [strs_length]; exact List.length_pos_iff.2 h0)
    subst ha
    have e : (ws.map mkS).map (·.data.toList) = ws := by rw [List.map_map]; exact List.map_id'' (fun _ => rfl) _
    have := Tryz.strings_Join b o cap (ws.map mkS) (mkS sep) w (fun j x hx => by
      rw [List.getElem?_map] at hx
      cases hj : ws[j]? with
      | none => rw [hj] at hx; cases hx
      | some y =>
        rw [hj] at hx; cases hx
        rw [cell_heap, hw]
        exact hcell j _ (by simp [strs, hj])) (by rw [hw]; exact hb) (by simp; omega) (by simpa using hc) (by rw [e]; show (Lib.join ws sep).length ≤ _; omega)
    rw [e, List.length_map] at this
    refine Calls.mono this ?_
    rintro e w' ⟨h1, h3⟩
    exact ⟨_, h1, Below.same h3, rfl, hw ▸ Below.ext h3⟩

end Go.Proofs.YtihopeogaeinhaaGreatDoor
