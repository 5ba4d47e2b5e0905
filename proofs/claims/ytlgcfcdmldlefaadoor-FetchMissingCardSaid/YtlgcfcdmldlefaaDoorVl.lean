import Derived.Test.YtlgcfcdmldlefaaDoorVk
import Derived.Test.YtlgcfcdmldlefaaDoorSy
import Derived.Test.YtlgcfcdmldlefaaDoorTie
import Derived.Test.YtlgcfcdmldlefaaDoorCards
import Derived.ProofKit
import Derived.OpenShut
import Derived.LaidMore
import Derived.LaidHandle
import Derived.Lay
import Derived.Lib.LaidTab
import Derived.Stop.LaidErr
import Derived.SevenTiedAt
import Derived.Stop.Joined
set_option linter.unusedVariables false
set_option linter.unusedSimpArgs false
set_option maxRecDepth 100000
/- Errors, the statements' frame: what the listed package variables hold; a world in which they do. -/
namespace Go.Proofs.YtlgcfcdmldlefaaDoor
open Go Go.Vc Go.ChangeShapes Go.WideShapes Go.ChangeAt Go.RowKit

theorem laid_out : laidOutB Tryd.prog = true := by kernel_rfl
theorem own : ownKnob Tryd.prog.godebug = none := by kernel_rfl
abbrev laidF : List (String × DataW Unit) := Rows.faultWrapsRow.laid
abbrev laidD : List (String × DataW Unit) := laidF.filter fun x => x.2.handleName?.isNone
noncomputable def world0 (os : Os) : World :=
  let w0 := World.holding Tryd.prog os ⟨#[], #[], []⟩
  { w0 with heap := w0.heap.modify 0 fun
      | .cells _ t frozen => .cells #[.iface 179 (.agg #[.pointer (some ⟨7, 27, none⟩)])] t frozen
      | o => o }
noncomputable def witW (os : Os) : World := (world0 os).layVars Tryd.prog laidD
theorem witW_os (os : Os) : (witW os).os = os := World.layVars_os _ _ _
theorem witW_met (os : Os) (args : Array Value) : laidMetH Tryd.prog laidF ((witW os).forCall (fun _ _ => 0) ⟨#[], args, []⟩).memory := by
  refine laidMetH_of_parts ?_ (by kernel_rfl)
  have e1 : (laidD.filter fun x => (laidD.map (·.1)).contains x.1) = laidD := List.filter_eq_self.2 fun x hx => List.contains_iff_mem.2 (List.mem_map.2 ⟨x, hx, rfl⟩)
  have e2 : (laidD.filter fun x => !(laidD.map (·.1)).contains x.1) = [] := List.filter_eq_nil_iff.2 fun x hx => by rw [List.contains_iff_mem.2 (List.mem_map.2 ⟨x, hx, rfl⟩)]; simp
  have h : laidMet Tryd.prog laidD (witW os) := laidMet_layVars (w0 := world0 os) (laidD.map (·.1)) [] (by rw [e1]; rfl) (by rw [e1]; kernel_rfl) (by rw [e1]; kernel_rfl) (by rw [e2]; exact LaidIn.none)
  exact h.of_heap (by simp [World.memory, World.forCall, Input.heap])
theorem one_row : ((List.range Tryd.prog.types.size).filter fun t => Tryd.prog.rowNamed t [101, 114, 114, 111, 114]) = [27] := by kernel_rfl
theorem glb_of_laid {W : World} (h : laidMetH Tryd.prog laidF W) : Glb W.heap := by
  have h' : laidMet Tryd.prog laidD W ∧ handlesMet Tryd.prog (laidF.filter fun x => x.2.handleName?.isSome) W := h
  refine ⟨?_, ?_⟩
  · obtain ⟨name, u, ty, e1, e2, e3, e4, e5⟩ := h'.2 _ (List.mem_singleton.2 rfl)
    have en : name = [101, 114, 114, 111, 114] := (Option.some.inj e1).symm
    subst en
    have hu : some u = some 179 := e2.symm.trans (by kernel_rfl)
    obtain rfl := Option.some.inj hu
    have hm : ty ∈ (List.range Tryd.prog.types.size).filter fun t => Tryd.prog.rowNamed t [101, 114, 114, 111, 114] := List.mem_filter.2 ⟨List.mem_range.2 e3, e4⟩
    rw [one_row] at hm
    obtain rfl := List.mem_singleton.1 hm
    have hh : typeHandle Tryd.prog 27 = .pointer (some ⟨7, 27, none⟩) := by kernel_rfl
    rw [hh] at e5
    have hc : W.cell? ⟨0, 0, none⟩ = some (.iface 179 (.agg #[.pointer (some ⟨7, 27, none⟩)])) := by simpa using World.var?_cell (show Tryd.prog.globalNamed _ = some 0 by kernel_rfl) e5 0
    rw [cell_heap] at hc
    exact hc
  · have h3 := laidMet.tail (laidMet.tail h'.1)
    have ht := Lib.tabIs_of_head (P := Tryd.prog) (W := W) (k := .u64) (zs := Lib.pow10Tab) (g := 4) (t := 230) (e := 199) (by kernel_rfl) (by kernel_rfl) rfl rfl (by kernel_rfl) (by kernel_rfl) h3
    unfold Lib.TabIs World.var? at ht
    rw [show Tryd.prog.globalNamed _ = some 4 by kernel_rfl] at ht
    simp only [Option.bind_some] at ht
    split at ht
    · rename_i cs t fr he
      cases ht
      exact ⟨t, fr, he⟩
    · cases ht
end Go.Proofs.YtlgcfcdmldlefaaDoor
