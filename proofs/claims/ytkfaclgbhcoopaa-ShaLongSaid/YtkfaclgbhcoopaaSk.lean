import Derived.Test.YtkfaclgbhcoopaaSj
import Derived.Test.YtkfaclgbhcoopaaRows
set_option linter.unusedVariables false
/- Any parts have just the document's sum, wherever they are cut; texts of any length have the document's sum; a sum's text is the document's, is read as it, and any other text is read so or not at all. No condition. -/
namespace Go.Proofs.Ytkfaclgbhcoopaa
open Go Go.Vc Go.Sha Go.ChangeShapes Go.WideShapes Go.RowKit

theorem laid_out : laidOutB Try.prog = true := by kernel_rfl
theorem own : ownKnob Try.prog.godebug = none := by kernel_rfl

theorem read_parts {H : Type} {enc : TypeId × Value → H} {P : Program} {w : World} {base : Nat} {sp : Nat → Bool} {held : Bool} {t e b : TypeId} {fuel : Nat} {cs : List Value} {x : DataW H × List MemPlace} (ht : P.underlying t = some (.slice e)) (he : P.underlying e = some (.slice b)) (hb : P.underlying b = some (.int .u8))
    (hc : P.cellsOf e = 1) (hc' : P.cellsOf b = 1) (h : DataW.trod enc P w base sp held fuel t cs = some x) : ∃ (a : Option Addr) (n cap : Nat) (ps : List Part), cs = [.slice a n cap] ∧ ps.length = n ∧ n ≤ maxLen ∧ Parts w.heap a ps ∧ ∀ p ∈ ps, p.cap ≤ maxLen := by
  obtain ⟨a, n, cap, l, rfl, hl, hn, hm, hr, _, hel⟩ := read_cells ht hc h
  have each : ∀ v ∈ l, ∃ p : Part, v = p.val ∧ PartOk w.heap p ∧ p.cap ≤ maxLen := by
    intro v hv
    obtain ⟨m, y, hy⟩ := hel v hv
    obtain ⟨a', n', cap', l', he', hl', hn', hm', hr', _⟩ := read_bytes he hb hc' hy
    exact ⟨⟨a', n', cap', l'⟩, by injection he', ⟨hl', hn', hr'⟩, hm'⟩
  have all : ∃ ps : List Part, l = ps.map Part.val ∧ ∀ p ∈ ps, PartOk w.heap p ∧ p.cap ≤ maxLen := by
    clear hr hl hel h
    induction l with
    | nil => exact ⟨[], rfl, fun p hp => by cases hp⟩
    | cons v l ih =>
      obtain ⟨p, hp, hok⟩ := each v (by simp)
      obtain ⟨ps, hps, hall⟩ := ih fun v hv => each v (by simp [hv])
      exact ⟨p :: ps, by rw [hp, hps]; rfl, fun q hq => by rcases List.mem_cons.1 hq with rfl | hq; exact hok; exact hall q hq⟩
  obtain ⟨ps, rfl, hall⟩ := all
  exact ⟨a, n, cap, ps, rfl, by simpa using hl, Nat.le_trans hn hm, ⟨hr, fun p hp => (hall p hp).1⟩, fun p hp => (hall p hp).2⟩

theorem arg_slice {P : Program} {w : World} {r : Reach} {b0 : Nat} {t e : TypeId} {v a : Value} (ht : P.underlying t = some (.slice e)) (hval : Value.okWide P w r b0 t v) (h : v.cells.toList = [a]) : v = a := by
  obtain ⟨p, n, c, rfl⟩ := okWide_slice ht hval
  simpa [Value.cells] using h

namespace sums
set_option maxRecDepth 100000 in
theorem lifted (os : Os) (started : os.Started) (H : Type) (enc : TypeId × Value → H) :
    ReturnsInHanded {} Try.checked os 3 .any (Rows.shaSumsSpec.pre6 enc Try.prog Try.f3 Rows.shaSumsRow.domain false) (Rows.shaSumsSpec.post enc Try.prog Try.f3 false true false false) := by
  refine returnsInHanded_of_change (C := Try.checked) own started (by kernel_rfl) Try.func3
    (ChangeSpec.witness6 (enc := enc) (C := Try.checked) false ⟨#[], #[.slice none 0 0, .int .i64 0], []⟩ 8 (by kernel_rfl) (by kernel_rfl) (by kernel_rfl) (by kernel_rfl)) ?_
  intro W base args ds gs before hval0 hW hcnd _
  have hval : ∀ (j : Nat) t v, Try.f3.params[j]? = some t → args[j]? = some v → Value.okWide Try.prog W .any base t v := hval0
  have hW' := hW
  obtain ⟨p, q, hA, hV, _, _, _⟩ := hW
  rw [Try.params3] at hA hval
  obtain ⟨v0, v1, d0, d1, p0, p1, rfl, rfl, rfl, h0, h1⟩ := trodAll_two hA
  obtain ⟨n, rfl, rfl, rfl, w1⟩ := open_int rfl (hval 1 _ v1 rfl rfl) h1
  obtain ⟨f0, h0⟩ := h0
  obtain ⟨a, pn, cap, ps, hcs, hn, hm, hps, hcap⟩ := read_parts (b := 5) rfl rfl rfl (by kernel_rfl) (by kernel_rfl) h0
  obtain rfl := arg_slice rfl (hval 0 _ v0 rfl rfl) hcs
  exact law_calls (tb := 4) rfl (sums_any ps a pn cap n W.heap hps hn hm hcap) hW' rfl (by obtain ⟨rfl, rfl⟩ := trodVars_none hV; rfl) rfl rfl laid_out (by kernel_rfl)
theorem over : Rows.shaSumsRow.holds Try.pinned (OpenSpec.ofChange Rows.shaSumsSpec) :=
  OpenClaim.holds_of_wide 3 Try.f3 rfl rfl rfl rfl rfl rfl rfl ⟨rfl, rfl, rfl, rfl, rfl⟩ rfl rfl rfl rfl rfl (by kernel_rfl) Try.func3 (by kernel_rfl)
    (of_decide_eq_true (by kernel_rfl)) (by unfold Func.isWrapper; first | (rw [if_pos (by decide +kernel)]; kernel_rfl) | (rw [if_neg (by decide +kernel)]; exact ⟨rfl, rfl⟩))
    (fun os started H enc _ => lifted os started H enc)
end sums
theorem sums_holds : Rows.ShaSumsSaid := sums.over
namespace long
set_option maxRecDepth 100000 in
theorem lifted (os : Os) (started : os.Started) (H : Type) (enc : TypeId × Value → H) :
    ReturnsInHanded {} Try.checked os 4 .any (Rows.shaLongSpec.pre6 enc Try.prog Try.f4 Rows.shaLongRow.domain false) (Rows.shaLongSpec.post enc Try.prog Try.f4 false true false false) := by
  refine returnsInHanded_of_change (C := Try.checked) own started (by kernel_rfl) Try.func4
    (ChangeSpec.witness6 (enc := enc) (C := Try.checked) false ⟨#[], #[.int .u16 0, .int .u8 0], []⟩ 8 (by kernel_rfl) (by kernel_rfl) (by kernel_rfl) (by kernel_rfl)) ?_
  intro W base args ds gs before hval0 hW hcnd _
  have hval : ∀ (j : Nat) t v, Try.f4.params[j]? = some t → args[j]? = some v → Value.okWide Try.prog W .any base t v := hval0
  have hW' := hW
  obtain ⟨p, q, hA, hV, _, _, _⟩ := hW
  rw [Try.params4] at hA hval
  obtain ⟨v0, v1, d0, d1, p0, p1, rfl, rfl, rfl, h0, h1⟩ := trodAll_two hA
  obtain ⟨n, rfl, rfl, rfl, w0⟩ := open_int rfl (hval 0 _ v0 rfl rfl) h0
  obtain ⟨x, rfl, rfl, rfl, w1⟩ := open_int rfl (hval 1 _ v1 rfl rfl) h1
  exact law_calls (tb := 4) rfl (long_any n x (bounds_u16 w0) (bounds_u8 w1) W.heap) hW' rfl (by obtain ⟨rfl, rfl⟩ := trodVars_none hV; rfl) rfl rfl laid_out (by kernel_rfl)
theorem over : Rows.shaLongRow.holds Try.pinned (OpenSpec.ofChange Rows.shaLongSpec) :=
  OpenClaim.holds_of_wide 4 Try.f4 rfl rfl rfl rfl rfl rfl rfl ⟨rfl, rfl, rfl, rfl, rfl⟩ rfl rfl rfl rfl rfl (by kernel_rfl) Try.func4 (by kernel_rfl)
    (of_decide_eq_true (by kernel_rfl)) (by unfold Func.isWrapper; first | (rw [if_pos (by decide +kernel)]; kernel_rfl) | (rw [if_neg (by decide +kernel)]; exact ⟨rfl, rfl⟩))
    (fun os started H enc _ => lifted os started H enc)
end long
theorem long_holds : Rows.ShaLongSaid := long.over
namespace texts
set_option maxRecDepth 100000 in
theorem lifted (os : Os) (started : os.Started) (H : Type) (enc : TypeId × Value → H) :
    ReturnsInHanded {} Try.checked os 5 .any (Rows.shaTextsSpec.pre6 enc Try.prog Try.f5 Rows.shaTextsRow.domain false) (Rows.shaTextsSpec.post enc Try.prog Try.f5 false true false false) := by
  refine returnsInHanded_of_change (C := Try.checked) own started (by kernel_rfl) Try.func5
    (ChangeSpec.witness6 (enc := enc) (C := Try.checked) false ⟨#[], #[.agg (Array.replicate 32 (.int .u8 0)), .string ⟨#[]⟩, .int .i64 0, .int .u8 0], []⟩ 8 (by kernel_rfl) (by kernel_rfl) (by kernel_rfl) (by kernel_rfl)) ?_
  intro W base args ds gs before hval0 hW hcnd _
  have hval : ∀ (j : Nat) t v, Try.f5.params[j]? = some t → args[j]? = some v → Value.okWide Try.prog W .any base t v := hval0
  have hW' := hW
  obtain ⟨p, q, hA, hV, _, _, _⟩ := hW
  rw [Try.params5] at hA hval
  obtain ⟨v0, v1, v2, v3, d0, d1, d2, d3, p0, p1, p2, p3, rfl, rfl, rfl, h0, h1, h2, h3⟩ := trodAll_four hA
  obtain ⟨s, rfl, rfl, rfl, hs⟩ := Go.ChangeMaps.open_string rfl (hval 1 _ v1 rfl rfl) h1
  obtain ⟨n, rfl, rfl, rfl, w2⟩ := open_int rfl (hval 2 _ v2 rfl rfl) h2
  obtain ⟨x, rfl, rfl, rfl, w3⟩ := open_int rfl (hval 3 _ v3 rfl rfl) h3
  obtain ⟨f0, h0⟩ := h0
  obtain ⟨cs, rfl, _⟩ : ∃ cs, v0 = .agg cs ∧ _ := hval 0 _ v0 rfl rfl
  obtain ⟨l, hcs, hl⟩ := read_arr8 (n := 32) rfl rfl (by kernel_rfl) (by kernel_rfl) h0
  obtain rfl : cs = (strV l).toArray := by rw [← hcs]; simp [Value.cells]
  exact law_calls (tb := 4) rfl (texts_any l s n x hl hs (bounds_u8 w3) W.heap) hW' rfl (by obtain ⟨rfl, rfl⟩ := trodVars_none hV; rfl) rfl rfl laid_out (by kernel_rfl)
theorem over : Rows.shaTextsRow.holds Try.pinned (OpenSpec.ofChange Rows.shaTextsSpec) :=
  OpenClaim.holds_of_wide 5 Try.f5 rfl rfl rfl rfl rfl rfl rfl ⟨rfl, rfl, rfl, rfl, rfl⟩ rfl rfl rfl rfl rfl (by kernel_rfl) Try.func5 (by kernel_rfl)
    (of_decide_eq_true (by kernel_rfl)) (by unfold Func.isWrapper; first | (rw [if_pos (by decide +kernel)]; kernel_rfl) | (rw [if_neg (by decide +kernel)]; exact ⟨rfl, rfl⟩))
    (fun os started H enc _ => lifted os started H enc)
end texts
theorem texts_holds : Rows.ShaTextsSaid := texts.over
#print axioms sums_holds
#print axioms long_holds
#print axioms texts_holds
end Go.Proofs.Ytkfaclgbhcoopaa
