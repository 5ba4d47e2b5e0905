import Derived.Test.YtipebbbgpkplaaaRf
import Derived.Test.YtipebbbgpkplaaaSy
import Derived.Test.YtipebbbgpkplaaaRows
set_option linter.unusedVariables false
set_option linter.unusedSimpArgs false
set_option maxRecDepth 100000
/- Any text is what was kept of a fetch, or a new one. No condition. -/
namespace Go.Proofs.Ytipebbbgpkplaaa
open Go Go.Vc Go.Sha Go.ChangeShapes Go.WideShapes Go.RowKit Go.ChangeMaps

theorem laid_out : laidOutB Try.prog = true := by kernel_rfl
theorem own : ownKnob Try.prog.godebug = none := by kernel_rfl

namespace opens
set_option maxRecDepth 100000 in
theorem lifted (os : Os) (started : os.Started) (H : Type) (enc : TypeId × Value → H) :
    ReturnsInHanded {} Try.checked os 4 .any (Rows.fetchOpensSpec.pre6 enc Try.prog Try.f4 Rows.fetchOpensRow.domain false) (Rows.fetchOpensSpec.post enc Try.prog Try.f4 false true false false) := by
  refine returnsInHanded_of_change (C := Try.checked) own started (by kernel_rfl) Try.func4
    (ChangeSpec.witness6 (enc := enc) (C := Try.checked) false ⟨#[], #[.int .u16 0, .int .u8 0, .string ⟨#[]⟩, .int .u16 0, .int .u8 0, .int .u8 0], []⟩ 8 (by kernel_rfl) (by kernel_rfl) (by kernel_rfl) (by kernel_rfl)) ?_
  intro W base args ds gs before hval0 hW hcnd _
  have hval : ∀ (j : Nat) t v, Try.f4.params[j]? = some t → args[j]? = some v → Value.okWide Try.prog W .any base t v := hval0
  have hW' := hW
  obtain ⟨p, q, hA, hV, _, _, _⟩ := hW
  rw [Try.params4] at hA hval
  obtain ⟨v0, v1, v2, v3, v4, v5, d0, d1, d2, d3, d4, d5, p0, p1, p2, p3, p4, p5, rfl, rfl, rfl, h0, h1, h2, h3, h4, h5⟩ := trodAll_six hA
  obtain ⟨n, rfl, rfl, rfl, w0⟩ := open_int rfl (hval 0 _ v0 rfl rfl) h0
  obtain ⟨l, rfl, rfl, rfl, w1⟩ := open_int rfl (hval 1 _ v1 rfl rfl) h1
  obtain ⟨s, rfl, rfl, rfl, w2⟩ := open_string rfl (hval 2 _ v2 rfl rfl) h2
  obtain ⟨k, rfl, rfl, rfl, w3⟩ := open_int rfl (hval 3 _ v3 rfl rfl) h3
  obtain ⟨r2, rfl, rfl, rfl, w4⟩ := open_int rfl (hval 4 _ v4 rfl rfl) h4
  obtain ⟨bd, rfl, rfl, rfl, w5⟩ := open_int rfl (hval 5 _ v5 rfl rfl) h5
  exact law_calls (tb := 4) rfl (opens_any n l k r2 bd s W.heap (bounds_u16 w0) (bounds_u8 w1) (bounds_u16 w3) (bounds_u8 w4) (bounds_u8 w5)) hW' rfl (by obtain ⟨rfl, rfl⟩ := trodVars_none hV; rfl) rfl rfl laid_out (by kernel_rfl)
theorem over : Rows.fetchOpensRow.holds Try.pinned (OpenSpec.ofChange Rows.fetchOpensSpec) :=
  OpenClaim.holds_of_wide 4 Try.f4 rfl rfl rfl rfl rfl rfl rfl ⟨rfl, rfl, rfl, rfl, rfl⟩ rfl rfl rfl rfl rfl (by kernel_rfl) Try.func4 (by kernel_rfl)
    (of_decide_eq_true (by kernel_rfl)) (by unfold Func.isWrapper; first | (rw [if_pos (by decide +kernel)]; kernel_rfl) | (rw [if_neg (by decide +kernel)]; exact ⟨rfl, rfl⟩))
    (fun os started H enc _ => lifted os started H enc)
end opens
theorem opens_holds : Rows.FetchOpensSaid := opens.over

#print axioms opens_holds
end Go.Proofs.Ytipebbbgpkplaaa
