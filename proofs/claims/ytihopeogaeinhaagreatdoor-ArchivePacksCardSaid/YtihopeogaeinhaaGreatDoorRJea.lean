import Derived.Test.YtihopeogaeinhaaGreatDoorKm
import Derived.Test.YtihopeogaeinhaaGreatDoorKp
import Derived.Test.YtihopeogaeinhaaGreatDoorKh
import Derived.Test.YtihopeogaeinhaaGreatDoorTie
import Derived.Test.YtihopeogaeinhaaGreatDoorCards
import Derived.ProofKit
import Derived.OpenShut
import Derived.LaidMore
import Derived.Lay
import Derived.SevenTiedAt
import Derived.Stop.Joined
set_option linter.unusedVariables false
set_option linter.unusedSimpArgs false
set_option maxRecDepth 100000
/- Any files, raw, are packed as the document's bytes, and opened as the tree that they are, or refused. The package variables that the card lists hold what the program's text lays. -/
namespace Go.Proofs.YtihopeogaeinhaaGreatDoor
open Go Go.Vc Go.Scr Go.Pth Go.Tre Go.Arc Go.ChangeShapes Go.WideShapes Go.ChangeAt Go.RowKit
theorem laid_out : laidOutB Tryz.prog = true := by kernel_rfl
theorem own : ownKnob Tryz.prog.godebug = none := by kernel_rfl
namespace packs
set_option maxRecDepth 100000 in
theorem lifted (os : Os) (started : os.Started) (H : Type) (enc : TypeId × Value → H) :
    ReturnsInHanded {} Tryz.checked os 3 .any (fun w args => (Rows.archivePacksSpec.pre enc Tryz.prog Tryz.f3 Rows.archivePacksRow.domain false w args ∧ laidMetH Tryz.prog Rows.archivePacksRow.laid w) ∧ sizedMet enc Tryz.prog Tryz.f3 (OpenSpec.ofChange Rows.archivePacksSpec) false w args)
      (Rows.archivePacksSpec.post enc Tryz.prog Tryz.f3 false true false false) := by
  refine returnsInHanded_of_change_and (C := Tryz.checked) (X := fun w _ => laidMetH Tryz.prog Rows.archivePacksRow.laid w) (fun _ _ _ hh h => h.of_heap hh) own started (by kernel_rfl) Tryz.func3
    (ChangeSpec.witness_shaped (enc := enc) (C := Tryz.checked) (os := os) (X := fun w _ => laidMetH Tryz.prog Rows.archivePacksRow.laid w) false (World.laidAll Tryz.prog os Rows.archivePacksRow.laid) #[.slice none 0 0] 8 (World.laidAll_os _ _ _)
      (World.shaped_of_ZipB (by kernel_rfl) (by kernel_rfl)) (by kernel_rfl) (by kernel_rfl) (by kernel_rfl)
      (by rw [MakeChecks.laidMetH_plain _ _ _ (by kernel_rfl)]; exact laidMet_laidAll _ (by kernel_rfl) (by kernel_rfl))) ?_
  intro W base args ds gs before hval0 hW hc _ hL _
  have hval : ∀ (j : Nat) t v, Tryz.f3.params[j]? = some t → args[j]? = some v → Value.okWide Tryz.prog W .any base t v := hval0
  have hW' := hW
  obtain ⟨p, q, hA, hV, _, _, _⟩ := hW
  rw [Tryz.params3] at hA hval
  obtain ⟨v0, d0, rfl, rfl, h0⟩ := trodAll_one hA
  obtain ⟨f0, h0⟩ := h0
  obtain ⟨a, n, cap, L, hcs, hn, hc1, hm, hr⟩ := read_files h0
  obtain rfl := arg_slice rfl (hval 0 _ v0 rfl rfl) hcs
  exact law_calls (tb := 4) rfl (packs_walk L a n cap W.heap hr hn) hW' rfl (by obtain ⟨rfl, rfl⟩ := trodVars_none hV; rfl) rfl rfl laid_out (by kernel_rfl)
theorem over : Rows.ArchivePacksSaid :=
  OpenClaim.holds_of_wide 3 Tryz.f3 rfl rfl rfl rfl rfl rfl rfl ⟨rfl, rfl, rfl, rfl, rfl⟩ rfl rfl rfl rfl rfl (by kernel_rfl) Tryz.func3 (by kernel_rfl)
    (of_decide_eq_true (by kernel_rfl)) (by unfold Func.isWrapper; first | (rw [if_pos (by decide +kernel)]; kernel_rfl) | (rw [if_neg (by decide +kernel)]; exact ⟨rfl, rfl⟩))
    (fun os started H enc _ => lifted os started H enc)
end packs
theorem packs_holds : Rows.ArchivePacksCardSaid :=
  Claim7.holds_tied_plain_at .later [] [.data, .pinned] true (true, "fa521beaab008675041dd0e1fb15f94b2949958c8ac3bfd414fc9c8200a6e0e9") true packs.over (fun _ h => by cases h) (by kernel_rfl) (fun _ h => by cases h) archivePacks_row_tie rfl ⟨rfl, rfl⟩ (by kernel_rfl) rfl
    (fun f fn hf hfn => by
      obtain rfl : f = 3 := Option.some.inj ((show Tryz.prog.funcNamed Tryz.f3.name = some 3 by kernel_rfl).symm.trans hf) |>.symm
      obtain rfl : fn = Tryz.f3 := (Option.some.inj (Tryz.func3.symm.trans hfn)).symm
      exact ⟨by kernel_rfl, fun j t ht => by
        rw [Tryz.params3] at ht
        have hm : t ∈ [22] := by simpa using Array.mem_of_getElem? ht
        have hall : ([22].all fun u => !Tryz.prog.wantsStandIn u) = true := by kernel_rfl
        exact (show Tryz.prog.wantsStandIn t = false by simpa using List.all_eq_true.1 hall t hm)⟩)
    (by kernel_rfl)

end Go.Proofs.YtihopeogaeinhaaGreatDoor
