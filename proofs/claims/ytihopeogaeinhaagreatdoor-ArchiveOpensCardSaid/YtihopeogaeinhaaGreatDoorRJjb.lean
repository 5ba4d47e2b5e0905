import Derived.Test.YtihopeogaeinhaaGreatDoorRJja
import Derived.Test.YtihopeogaeinhaaGreatDoorKp
import Derived.Test.YtihopeogaeinhaaGreatDoorKh
import Derived.Test.YtihopeogaeinhaaGreatDoorTie
import Derived.Test.YtihopeogaeinhaaGreatDoorCards
import Derived.ProofKit
import Derived.OpenShut
import Derived.LaidMore
import Derived.Lay
import Derived.SevenTiedAt
import Derived.Stop.Joined
import Derived.Carry
set_option linter.unusedVariables false
set_option linter.unusedSimpArgs false
set_option maxRecDepth 100000
/- Any bytes, and packed ones that are spoilt, cut off, or go on, are opened as the document says, or refused for just that reason. The package variables that the card lists hold what the program's text lays. -/
namespace Go.Proofs.YtihopeogaeinhaaGreatDoor
open Go Go.Vc Go.Scr Go.Pth Go.Tre Go.Arc Go.ChangeShapes Go.WideShapes Go.ChangeAt Go.RowKit
theorem laid_out : laidOutB Tryz.prog = true := by kernel_rfl
theorem own : ownKnob Tryz.prog.godebug = none := by kernel_rfl
theorem u8_val {n : Int} (h : (Lit.int .u8 n).wf = true) : ∃ m : UInt8, n = m.toNat := by
  have h2 : 0 ≤ n ∧ n ≤ 255 := by
    simp [Lit.wf, IntKind.min, IntKind.max, IntKind.signed, IntKind.bits] at h
    omega
  exact ⟨UInt8.ofNat n.toNat, by rw [UInt8.toNat_ofNat']; omega⟩
namespace opens
set_option maxRecDepth 100000 in
theorem lifted (os : Os) (started : os.Started) (H : Type) (enc : TypeId × Value → H) :
    ReturnsInHanded {} Tryz.checked os 4 .any (fun w args => (Rows.archiveOpensSpec.pre enc Tryz.prog Tryz.f4 Rows.archiveOpensRow.domain false w args ∧ laidMetH Tryz.prog Rows.archiveOpensRow.laid w) ∧ sizedMet enc Tryz.prog Tryz.f4 (OpenSpec.ofChange Rows.archiveOpensSpec) false w args)
      (Rows.archiveOpensSpec.post enc Tryz.prog Tryz.f4 false true false false) := by
  refine returnsInHanded_of_change_and (C := Tryz.checked) (X := fun w _ => laidMetH Tryz.prog Rows.archiveOpensRow.laid w) (fun _ _ _ hh h => h.of_heap hh) own started (by kernel_rfl) Tryz.func4
    (ChangeSpec.witness_shaped (enc := enc) (C := Tryz.checked) (os := os) (X := fun w _ => laidMetH Tryz.prog Rows.archiveOpensRow.laid w) false (World.laidAll Tryz.prog os Rows.archiveOpensRow.laid) #[.slice none 0 0, .slice none 0 0, .int .i64 0, .int .u8 0, .bool false, .bool false] 8 (World.laidAll_os _ _ _)
      (World.shaped_of_ZipB (by kernel_rfl) (by kernel_rfl)) (by kernel_rfl) (by kernel_rfl) (by kernel_rfl)
      (by rw [MakeChecks.laidMetH_plain _ _ _ (by kernel_rfl)]; exact laidMet_laidAll _ (by kernel_rfl) (by kernel_rfl))) ?_
  intro W base args ds gs before hval0 hW hc _ hL _
  have hval : ∀ (j : Nat) t v, Tryz.f4.params[j]? = some t → args[j]? = some v → Value.okWide Tryz.prog W .any base t v := hval0
  have hW' := hW
  obtain ⟨p, q, hA, hV, _, _, _⟩ := hW
  rw [Tryz.params4] at hA hval
  obtain ⟨v0, v1, v2, v3, v4, v5, d0, d1, d2, d3, d4, d5, p0, p1, p2, p3, p4, p5, rfl, rfl, rfl, h0, h1, h2, h3, h4, h5⟩ := trodAll_six hA
  obtain ⟨f0, h0⟩ := h0
  obtain ⟨ar, nr, cr, raw, hcs0, hnr, hcr, hmr, hrr, _⟩ := read_bytes (P := Tryz.prog) rfl rfl (by kernel_rfl) h0
  obtain rfl := arg_slice rfl (hval 0 _ v0 rfl rfl) hcs0
  obtain ⟨f1, h1⟩ := h1
  obtain ⟨al, nl, cl, L, hcs1, hnl, hcl, hml, hrl⟩ := read_files h1
  obtain rfl := arg_slice rfl (hval 1 _ v1 rfl rfl) hcs1
  obtain ⟨at_, rfl, rfl, rfl, w2⟩ := open_int rfl (hval 2 _ v2 rfl rfl) h2
  obtain ⟨x, rfl, rfl, rfl, w3⟩ := open_int rfl (hval 3 _ v3 rfl rfl) h3
  obtain ⟨x, rfl⟩ := u8_val w3
  obtain ⟨cut, rfl, rfl, rfl⟩ := open_bool rfl (hval 4 _ v4 rfl rfl) h4
  obtain ⟨more, rfl, rfl, rfl⟩ := open_bool rfl (hval 5 _ v5 rfl rfl) h5
  exact law_calls (tb := 4) rfl (opens_walk raw ar nr cr L al nl cl at_ x cut more W.heap hrr hnr hcr hmr hrl hnl) hW' rfl (by obtain ⟨rfl, rfl⟩ := trodVars_none hV; rfl) rfl rfl laid_out (by kernel_rfl)
theorem over : Rows.ArchiveOpensSaid :=
  OpenClaim.holds_of_wide 4 Tryz.f4 rfl rfl rfl rfl rfl rfl rfl ⟨rfl, rfl, rfl, rfl, rfl⟩ rfl rfl rfl rfl rfl (by kernel_rfl) Tryz.func4 (by kernel_rfl)
    (of_decide_eq_true (by kernel_rfl)) (by unfold Func.isWrapper; first | (rw [if_pos (by decide +kernel)]; kernel_rfl) | (rw [if_neg (by decide +kernel)]; exact ⟨rfl, rfl⟩))
    (fun os started H enc _ => lifted os started H enc)
end opens
theorem opens_holds : Rows.ArchiveOpensCardSaid :=
  Claim7.holds_tied_plain_at .later [] [.data, .pinned] true (true, "fa521beaab008675041dd0e1fb15f94b2949958c8ac3bfd414fc9c8200a6e0e9") true opens.over (fun _ h => by cases h) (by kernel_rfl) (fun _ h => by cases h) archiveOpens_row_tie rfl ⟨rfl, rfl⟩ (by kernel_rfl) rfl
    (fun f fn hf hfn => by
      obtain rfl : f = 4 := Option.some.inj ((show Tryz.prog.funcNamed Tryz.f4.name = some 4 by kernel_rfl).symm.trans hf) |>.symm
      obtain rfl : fn = Tryz.f4 := (Option.some.inj (Tryz.func4.symm.trans hfn)).symm
      exact ⟨by kernel_rfl, fun j t ht => by
        rw [Tryz.params4] at ht
        have hm : t ∈ [25, 22, 3, 5, 4, 4] := by simpa using Array.mem_of_getElem? ht
        have hall : ([25, 22, 3, 5, 4, 4].all fun u => !Tryz.prog.wantsStandIn u) = true := by kernel_rfl
        exact (show Tryz.prog.wantsStandIn t = false by simpa using List.all_eq_true.1 hall t hm)⟩)
    (by kernel_rfl)

end Go.Proofs.YtihopeogaeinhaaGreatDoor
