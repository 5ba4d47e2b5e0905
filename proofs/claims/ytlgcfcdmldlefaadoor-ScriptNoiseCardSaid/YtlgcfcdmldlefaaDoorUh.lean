import Derived.Test.YtlgcfcdmldlefaaDoorTz
import Derived.Test.YtlgcfcdmldlefaaDoorUb
set_option linter.unusedVariables false
set_option linter.unusedSimpArgs false
set_option maxRecDepth 100000
/- Blanks, empty lines and comments say nothing. The package variables that the card lists hold what the program's text lays. -/
namespace Go.Proofs.YtlgcfcdmldlefaaDoor
open Go Go.Vc Go.Scr Go.ChangeShapes Go.WideShapes Go.ChangeAt Go.RowKit
namespace noise
set_option maxRecDepth 100000 in
theorem lifted (os : Os) (started : os.Started) (H : Type) (enc : TypeId × Value → H) :
    ReturnsInHanded {} Tryd.checked os 12 .any (fun w args => (Rows.scriptNoiseSpec.pre enc Tryd.prog Tryd.f12 Rows.scriptNoiseRow.domain false w args ∧ laidMetH Tryd.prog Rows.scriptNoiseRow.laid w) ∧ sizedMet enc Tryd.prog Tryd.f12 (OpenSpec.ofChange Rows.scriptNoiseSpec) false w args)
      (Rows.scriptNoiseSpec.post enc Tryd.prog Tryd.f12 false true false false) := by
  refine returnsInHanded_of_change_and (C := Tryd.checked) (X := fun w _ => laidMetH Tryd.prog Rows.scriptNoiseRow.laid w) (fun _ _ _ hh h => h.of_heap hh) own started (by kernel_rfl) Tryd.func12
    (ChangeSpec.witness_shaped (enc := enc) (C := Tryd.checked) (os := os) (X := fun w _ => laidMetH Tryd.prog Rows.scriptNoiseRow.laid w) false (World.laidAll Tryd.prog os Rows.scriptNoiseRow.laid) #[.slice none 0 0, .slice none 0 0] 8 (World.laidAll_os _ _ _)
      (World.shaped_of_ZipB (by kernel_rfl) (by kernel_rfl)) (by kernel_rfl) (by kernel_rfl) (by kernel_rfl)
      (by rw [MakeChecks.laidMetH_plain _ _ _ (by kernel_rfl)]; exact laidMet_laidAll _ (by kernel_rfl) (by kernel_rfl))) ?_
  intro W base args ds gs before hval0 hW hc _ hL _
  have hval : ∀ (j : Nat) t v, Tryd.f12.params[j]? = some t → args[j]? = some v → Value.okWide Tryd.prog W .any base t v := hval0
  have hW' := hW
  obtain ⟨p, q, hA, hV, _, _, _⟩ := hW
  rw [Tryd.params12] at hA hval
  obtain ⟨v0, v1, d0, d1, p0, p1, rfl, rfl, rfl, h0, h1⟩ := trodAll_two hA
  obtain ⟨f0, h0⟩ := h0
  obtain ⟨f1, h1⟩ := h1
  obtain ⟨a, n, cap, l, hcs, hn, hc1, hm, hr, _⟩ := read_bytes (P := Tryd.prog) rfl rfl (by kernel_rfl) h0
  obtain ⟨b, m, cb, nz, hcs1, hn1, hc2, hm1, hr1, _⟩ := read_bytes (P := Tryd.prog) rfl rfl (by kernel_rfl) h1
  obtain rfl := arg_slice rfl (hval 0 _ v0 rfl rfl) hcs
  obtain rfl := arg_slice rfl (hval 1 _ v1 rfl rfl) hcs1
  exact law_calls (tb := 4) rfl (noise_law l nz a b n m cap cb W.heap hr hr1 hn hn1 (by have h := hm; unfold maxLen at h; omega) (by have h := hm1; unfold maxLen at h; omega)) hW' rfl (by obtain ⟨rfl, rfl⟩ := trodVars_none hV; rfl) rfl rfl laid_out (by kernel_rfl)
theorem over : Rows.ScriptNoiseSaid :=
  OpenClaim.holds_of_wide 12 Tryd.f12 rfl rfl rfl rfl rfl rfl rfl ⟨rfl, rfl, rfl, rfl, rfl⟩ rfl rfl rfl rfl rfl (by kernel_rfl) Tryd.func12 (by kernel_rfl)
    (of_decide_eq_true (by kernel_rfl)) (by unfold Func.isWrapper; first | (rw [if_pos (by decide +kernel)]; kernel_rfl) | (rw [if_neg (by decide +kernel)]; exact ⟨rfl, rfl⟩))
    (fun os started H enc _ => lifted os started H enc)
end noise
theorem noise_holds : Rows.ScriptNoiseCardSaid :=
  Claim7.holds_tied_plain_at .later [] [.data, .data, .data, .data, .pinned] true (true, "ec022585ead264ebfa090ea5a5077dc4c409f371d29c801cbacd222ad9e17bdd") true noise.over (fun _ h => by cases h) (by kernel_rfl) (fun _ h => by cases h) scriptNoise_row_tie rfl ⟨rfl, rfl⟩ (by kernel_rfl) rfl
    (fun f fn hf hfn => by
      obtain rfl : f = 12 := Option.some.inj ((show Tryd.prog.funcNamed Tryd.f12.name = some 12 by kernel_rfl).symm.trans hf) |>.symm
      obtain rfl : fn = Tryd.f12 := (Option.some.inj (Tryd.func12.symm.trans hfn)).symm
      exact ⟨by kernel_rfl, fun j t ht => by
        rw [Tryd.params12] at ht
        have hm : t ∈ [53] := by simpa using Array.mem_of_getElem? ht
        have hall : ([53].all fun u => !Tryd.prog.wantsStandIn u) = true := by kernel_rfl
        exact (show Tryd.prog.wantsStandIn t = false by simpa using List.all_eq_true.1 hall t hm)⟩)
    (by kernel_rfl)

end Go.Proofs.YtlgcfcdmldlefaaDoor
