import Derived.Test.YtipebbbgpkplaaaFf
import Derived.Test.YtipebbbgpkplaaaRows
set_option linter.unusedVariables false
set_option maxRecDepth 100000
/- With fewer faulty replies in a row than Retries, none spoilt, an archive is had, in so many questions and no more. No condition. -/
namespace Go.Proofs.Ytipebbbgpkplaaa
open Go Go.Vc Go.Sha Go.ChangeShapes Go.WideShapes Go.RowKit

theorem laid_out : laidOutB Try.prog = true := by kernel_rfl
theorem own : ownKnob Try.prog.godebug = none := by kernel_rfl
theorem arg_slice {P : Program} {w : World} {r : Reach} {b0 : Nat} {t e : TypeId} {v a : Value} (ht : P.underlying t = some (.slice e)) (hval : Value.okWide P w r b0 t v) (h : v.cells.toList = [a]) : v = a := by
  obtain ⟨p, n, c, rfl⟩ := okWide_slice ht hval
  simpa [Value.cells] using h

namespace served
set_option maxRecDepth 100000 in
theorem lifted (os : Os) (started : os.Started) (H : Type) (enc : TypeId × Value → H) :
    ReturnsInHanded {} Try.checked os 3 .any (Rows.fetchServedSpec.pre6 enc Try.prog Try.f3 Rows.fetchServedRow.domain false) (Rows.fetchServedSpec.post enc Try.prog Try.f3 false true false false) := by
  refine returnsInHanded_of_change (C := Try.checked) own started (by kernel_rfl) Try.func3
    (ChangeSpec.witness6 (enc := enc) (C := Try.checked) false ⟨#[], #[.int .u16 0, .slice none 0 0], []⟩ 8 (by kernel_rfl) (by kernel_rfl) (by kernel_rfl) (by kernel_rfl)) ?_
  intro W base args ds gs before hval0 hW hcnd _
  have hval : ∀ (j : Nat) t v, Try.f3.params[j]? = some t → args[j]? = some v → Value.okWide Try.prog W .any base t v := hval0
  have hW' := hW
  obtain ⟨p, q, hA, hV, _, _, _⟩ := hW
  rw [Try.params3] at hA hval
  obtain ⟨v0, v1, d0, d1, p0, p1, rfl, rfl, rfl, h0, h1⟩ := trodAll_two hA
  obtain ⟨n, rfl, rfl, rfl, w0⟩ := open_int rfl (hval 0 _ v0 rfl rfl) h0
  obtain ⟨f1, h1⟩ := h1
  obtain ⟨a, nf, cap, l, hcs, hn, hm, hmx, hr, _⟩ := read_bytes (e := 5) rfl rfl (by kernel_rfl) h1
  obtain rfl := arg_slice rfl (hval 1 _ v1 rfl rfl) hcs
  exact law_calls (tb := 4) rfl (served_any n l a nf cap W.heap (bounds_u16 w0) hr hn (Nat.le_trans hm hmx)) hW' rfl (by obtain ⟨rfl, rfl⟩ := trodVars_none hV; rfl) rfl rfl laid_out (by kernel_rfl)
theorem over : Rows.fetchServedRow.holds Try.pinned (OpenSpec.ofChange Rows.fetchServedSpec) :=
  OpenClaim.holds_of_wide 3 Try.f3 rfl rfl rfl rfl rfl rfl rfl ⟨rfl, rfl, rfl, rfl, rfl⟩ rfl rfl rfl rfl rfl (by kernel_rfl) Try.func3 (by kernel_rfl)
    (of_decide_eq_true (by kernel_rfl)) (by unfold Func.isWrapper; first | (rw [if_pos (by decide +kernel)]; kernel_rfl) | (rw [if_neg (by decide +kernel)]; exact ⟨rfl, rfl⟩))
    (fun os started H enc _ => lifted os started H enc)
end served
theorem served_holds : Rows.FetchServedSaid := served.over
#print axioms served_holds
end Go.Proofs.Ytipebbbgpkplaaa
