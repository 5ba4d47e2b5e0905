import Derived.Test.YtipebbbgpkplaaaFh
import Derived.Test.YtipebbbgpkplaaaRows
set_option linter.unusedVariables false
set_option maxRecDepth 100000
/- A fetch that is stored and opened again goes on where it was. No condition. -/
namespace Go.Proofs.Ytipebbbgpkplaaa
open Go Go.Vc Go.Sha Go.ChangeShapes Go.WideShapes Go.RowKit

theorem laid_out : laidOutB Try.prog = true := by kernel_rfl
theorem own : ownKnob Try.prog.godebug = none := by kernel_rfl
theorem arg_slice {P : Program} {w : World} {r : Reach} {b0 : Nat} {t e : TypeId} {v a : Value} (ht : P.underlying t = some (.slice e)) (hval : Value.okWide P w r b0 t v) (h : v.cells.toList = [a]) : v = a := by
  obtain ⟨p, n, c, rfl⟩ := okWide_slice ht hval
  simpa [Value.cells] using h

namespace cuts
set_option maxRecDepth 100000 in
theorem lifted (os : Os) (started : os.Started) (H : Type) (enc : TypeId × Value → H) :
    ReturnsInHanded {} Try.checked os 5 .any (Rows.fetchCutsSpec.pre6 enc Try.prog Try.f5 Rows.fetchCutsRow.domain false) (Rows.fetchCutsSpec.post enc Try.prog Try.f5 false true false false) := by
  refine returnsInHanded_of_change (C := Try.checked) own started (by kernel_rfl) Try.func5
    (ChangeSpec.witness6 (enc := enc) (C := Try.checked) false ⟨#[], #[.int .u16 0, .slice none 0 0, .slice none 0 0], []⟩ 8 (by kernel_rfl) (by kernel_rfl) (by kernel_rfl) (by kernel_rfl)) ?_
  intro W base args ds gs before hval0 hW hcnd _
  have hval : ∀ (j : Nat) t v, Try.f5.params[j]? = some t → args[j]? = some v → Value.okWide Try.prog W .any base t v := hval0
  have hW' := hW
  obtain ⟨p, q, hA, hV, _, _, _⟩ := hW
  rw [Try.params5] at hA hval
  obtain ⟨v0, v1, v2, d0, d1, d2, p0, p1, p2, rfl, rfl, rfl, h0, h1, h2⟩ := trodAll_three hA
  obtain ⟨n, rfl, rfl, rfl, w0⟩ := open_int rfl (hval 0 _ v0 rfl rfl) h0
  obtain ⟨f1, h1⟩ := h1
  obtain ⟨a, nf, cap, l, hcs, hn, hm, hmx, hr, _⟩ := read_bytes (e := 5) rfl rfl (by kernel_rfl) h1
  obtain rfl := arg_slice rfl (hval 1 _ v1 rfl rfl) hcs
  obtain ⟨f2, h2⟩ := h2
  obtain ⟨a2, na, cap2, l2, hcs2, hn2, hm2, hmx2, hr2, _, hel⟩ := read_cells (e := 4) rfl (by kernel_rfl) h2
  obtain rfl := arg_slice rfl (hval 2 _ v2 rfl rfl) hcs2
  have hbool : ∀ v ∈ l2, ∃ b, v = Value.bool b := fun v hv => by
    obtain ⟨m, y, hy⟩ := hel v hv
    obtain ⟨b, hb, _⟩ := DataW.trod_bool rfl hy
    exact ⟨b, by simpa using hb⟩
  exact law_calls (tb := 4) rfl (cuts_any n l a nf cap l2 a2 na cap2 W.heap (bounds_u16 w0) hr hn (Nat.le_trans hm hmx) hr2 hn2 (Nat.le_trans hm2 hmx2) hbool) hW' rfl (by obtain ⟨rfl, rfl⟩ := trodVars_none hV; rfl) rfl rfl laid_out (by kernel_rfl)
theorem over : Rows.fetchCutsRow.holds Try.pinned (OpenSpec.ofChange Rows.fetchCutsSpec) :=
  OpenClaim.holds_of_wide 5 Try.f5 rfl rfl rfl rfl rfl rfl rfl ⟨rfl, rfl, rfl, rfl, rfl⟩ rfl rfl rfl rfl rfl (by kernel_rfl) Try.func5 (by kernel_rfl)
    (of_decide_eq_true (by kernel_rfl)) (by unfold Func.isWrapper; first | (rw [if_pos (by decide +kernel)]; kernel_rfl) | (rw [if_neg (by decide +kernel)]; exact ⟨rfl, rfl⟩))
    (fun os started H enc _ => lifted os started H enc)
end cuts
theorem cuts_holds : Rows.FetchCutsSaid := cuts.over
#print axioms cuts_holds
end Go.Proofs.Ytipebbbgpkplaaa
