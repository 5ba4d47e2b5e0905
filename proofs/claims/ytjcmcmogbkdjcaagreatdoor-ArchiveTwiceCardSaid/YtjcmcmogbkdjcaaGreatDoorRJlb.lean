import Derived.Test.YtjcmcmogbkdjcaaGreatDoorRJla
import Derived.Test.YtjcmcmogbkdjcaaGreatDoorKp
import Derived.Test.YtjcmcmogbkdjcaaGreatDoorKh
import Derived.Test.YtjcmcmogbkdjcaaGreatDoorTie
import Derived.Test.YtjcmcmogbkdjcaaGreatDoorCards
import Derived.ProofKit
import Derived.OpenShut
import Derived.LaidMore
import Derived.Lay
import Derived.SevenTiedAt
import Derived.Stop.Joined
import Derived.Carry
set_option linter.unusedVariables false
set_option linter.unusedSimpArgs false
set_option maxRecDepth 100000
/- Paths that are one, however they are written, and files in the place of directories, are no archive. The package variables that the card lists hold what the program's text lays. -/
namespace Go.Proofs.YtjcmcmogbkdjcaaGreatDoor
open Go Go.Vc Go.Scr Go.Pth Go.Tre Go.Arc Go.ChangeShapes Go.WideShapes Go.ChangeAt Go.RowKit
theorem laid_out : laidOutB Tryz.prog = true := by kernel_rfl
theorem own : ownKnob Tryz.prog.godebug = none := by kernel_rfl
theorem u8_val {n : Int} (h : (Lit.int .u8 n).wf = true) : ∃ m : UInt8, n = m.toNat := by
  have h2 : 0 ≤ n ∧ n ≤ 255 := by
    simp [Lit.wf, IntKind.min, IntKind.max, IntKind.signed, IntKind.bits] at h
    omega
  exact ⟨UInt8.ofNat n.toNat, by rw [UInt8.toNat_ofNat']; omega⟩
namespace twice
set_option maxRecDepth 100000 in
theorem lifted (os : Os) (started : os.Started) (H : Type) (enc : TypeId × Value → H) :
    ReturnsInHanded {} Tryz.checked os 3 .any (fun w args => (Rows.archiveTwiceSpec.pre enc Tryz.prog Tryz.f3 Rows.archiveTwiceRow.domain false w args ∧ laidMetH Tryz.prog Rows.archiveTwiceRow.laid w) ∧ sizedMet enc Tryz.prog Tryz.f3 (OpenSpec.ofChange Rows.archiveTwiceSpec) false w args)
      (Rows.archiveTwiceSpec.post enc Tryz.prog Tryz.f3 false true false false) := by
  refine returnsInHanded_of_change_and (C := Tryz.checked) (X := fun w _ => laidMetH Tryz.prog Rows.archiveTwiceRow.laid w) (fun _ _ _ hh h => h.of_heap hh) own started (by kernel_rfl) Tryz.func3
    (ChangeSpec.witness_shaped (enc := enc) (C := Tryz.checked) (os := os) (X := fun w _ => laidMetH Tryz.prog Rows.archiveTwiceRow.laid w) false (World.laidAll Tryz.prog os Rows.archiveTwiceRow.laid) #[.string ⟨#[]⟩, .string ⟨#[]⟩, .bool false, .bool false] 8 (World.laidAll_os _ _ _)
      (World.shaped_of_ZipB (by kernel_rfl) (by kernel_rfl)) (by kernel_rfl) (by kernel_rfl) (by kernel_rfl)
      (by rw [MakeChecks.laidMetH_plain _ _ _ (by kernel_rfl)]; exact laidMet_laidAll _ (by kernel_rfl) (by kernel_rfl))) ?_
  intro W base args ds gs before hval0 hW hc _ hL _
  have hval : ∀ (j : Nat) t v, Tryz.f3.params[j]? = some t → args[j]? = some v → Value.okWide Tryz.prog W .any base t v := hval0
  have hW' := hW
  obtain ⟨p, q, hA, hV, _, _, _⟩ := hW
  rw [Tryz.params3] at hA hval
  obtain ⟨v0, v1, v2, v3, d0, d1, d2, d3, p0, p1, p2, p3, rfl, rfl, rfl, h0, h1, h2, h3⟩ := trodAll_four hA
  obtain ⟨s, rfl, rfl, rfl, w0⟩ := Go.ChangeMaps.open_string rfl (hval 0 _ v0 rfl rfl) h0
  obtain ⟨t, rfl, rfl, rfl, w1⟩ := Go.ChangeMaps.open_string rfl (hval 1 _ v1 rfl rfl) h1
  obtain ⟨dir, rfl, rfl, rfl⟩ := open_bool rfl (hval 2 _ v2 rfl rfl) h2
  obtain ⟨other, rfl, rfl, rfl⟩ := open_bool rfl (hval 3 _ v3 rfl rfl) h3
  have hs : mkS s.data.toList = s := mkS_data s
  have ht : mkS t.data.toList = t := mkS_data t
  rw [← hs, ← ht]
  exact law_calls (tb := 4) rfl (twice_walk s.data.toList t.data.toList dir other W.heap) hW' rfl (by obtain ⟨rfl, rfl⟩ := trodVars_none hV; rfl) rfl rfl laid_out (by kernel_rfl)
theorem over : Rows.ArchiveTwiceSaid :=
  OpenClaim.holds_of_wide 3 Tryz.f3 rfl rfl rfl rfl rfl rfl rfl ⟨rfl, rfl, rfl, rfl, rfl⟩ rfl rfl rfl rfl rfl (by kernel_rfl) Tryz.func3 (by kernel_rfl)
    (of_decide_eq_true (by kernel_rfl)) (by unfold Func.isWrapper; first | (rw [if_pos (by decide +kernel)]; kernel_rfl) | (rw [if_neg (by decide +kernel)]; exact ⟨rfl, rfl⟩))
    (fun os started H enc _ => lifted os started H enc)
end twice
theorem twice_holds : Rows.ArchiveTwiceCardSaid :=
  Claim7.holds_tied_plain_at .later [] [.data, .pinned] true (true, "494bfa4c24f39c5a4ba1107c6bbebea62b224cd059c19675b8a615ac4cae405a") true twice.over (fun _ h => by cases h) (by kernel_rfl) (fun _ h => by cases h) archiveTwice_row_tie rfl ⟨rfl, rfl⟩ (by kernel_rfl) rfl
    (fun f fn hf hfn => by
      obtain rfl : f = 3 := Option.some.inj ((show Tryz.prog.funcNamed Tryz.f3.name = some 3 by kernel_rfl).symm.trans hf) |>.symm
      obtain rfl : fn = Tryz.f3 := (Option.some.inj (Tryz.func3.symm.trans hfn)).symm
      exact ⟨by kernel_rfl, fun j t ht => by
        rw [Tryz.params3] at ht
        have hm : t ∈ [9, 9, 4, 4] := by simpa using Array.mem_of_getElem? ht
        have hall : ([9, 9, 4, 4].all fun u => !Tryz.prog.wantsStandIn u) = true := by kernel_rfl
        exact (show Tryz.prog.wantsStandIn t = false by simpa using List.all_eq_true.1 hall t hm)⟩)
    (by kernel_rfl)

end Go.Proofs.YtjcmcmogbkdjcaaGreatDoor
