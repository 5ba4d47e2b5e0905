import Derived.Test.YtlgcfcdmldlefaaDoorWb
import Derived.Test.YtlgcfcdmldlefaaDoorVm
set_option linter.unusedVariables false
set_option linter.unusedSimpArgs false
set_option maxRecDepth 100000
/- Errors that are joined are all there: each line, each number; the first one's number is the code; and what is none is left out. -/
namespace Go.Proofs.YtlgcfcdmldlefaaDoor
open Go Go.Vc Go.ChangeShapes Go.WideShapes Go.ChangeAt Go.RowKit Go.Sort
theorem ints_of : ∀ {l : List Value}, (∀ v ∈ l, ∃ z, v = Value.int .i64 z ∧ I64 z) → ∃ cs, l = intsV cs ∧ ∀ c ∈ cs, I64 c
  | [], _ => ⟨[], rfl, fun c hc => by cases hc⟩
  | v :: l, h => by
    obtain ⟨z, rfl, hz⟩ := h v (by simp)
    obtain ⟨cs, rfl, hc⟩ := ints_of (l := l) fun v hv => h v (by simp [hv])
    exact ⟨z :: cs, rfl, fun c h => (List.mem_cons.1 h).elim (fun e => e ▸ hz) (hc c)⟩
theorem bools_of : ∀ {l : List Value}, (∀ v ∈ l, ∃ z, v = Value.bool z) → ∃ cs, l = boolsV cs
  | [], _ => ⟨[], rfl⟩
  | v :: l, h => by
    obtain ⟨z, rfl⟩ := h v (by simp)
    obtain ⟨cs, rfl⟩ := bools_of (l := l) fun v hv => h v (by simp [hv])
    exact ⟨z :: cs, rfl⟩
namespace joinsL
set_option maxRecDepth 100000 in
theorem lifted (os : Os) (started : os.Started) (H : Type) (enc : TypeId × Value → H) :
    ReturnsInHanded {} Tryd.checked os 5 .any (fun w args => (Rows.faultJoinsSpec.pre enc Tryd.prog Tryd.f5 Rows.faultJoinsRow.domain false w args ∧ laidMetH Tryd.prog Rows.faultJoinsRow.laid w) ∧ sizedMet enc Tryd.prog Tryd.f5 (OpenSpec.ofChange Rows.faultJoinsSpec) false w args)
      (Rows.faultJoinsSpec.post enc Tryd.prog Tryd.f5 false true false false) := by
  refine returnsInHanded_of_change_and (C := Tryd.checked) (X := fun w _ => laidMetH Tryd.prog Rows.faultJoinsRow.laid w) (fun _ _ _ hh h => h.of_heap hh) own started (by kernel_rfl) Tryd.func5
    (ChangeSpec.witness_shaped (enc := enc) (C := Tryd.checked) (os := os) (X := fun w _ => laidMetH Tryd.prog Rows.faultJoinsRow.laid w) false (witW os) #[.slice none 0 0, .slice none 0 0] 8 (witW_os os)
      (World.shaped_of_ZipB (by kernel_rfl) (by kernel_rfl)) (by kernel_rfl) (by kernel_rfl) (by kernel_rfl)
      (witW_met os _)) ?_
  intro W base args ds gs before hval0 hW hc _ hL _
  have hval : ∀ (j : Nat) t v, Tryd.f5.params[j]? = some t → args[j]? = some v → Value.okWide Tryd.prog W .any base t v := hval0
  have hW' := hW
  obtain ⟨p, q, hA, hV, _, _, _⟩ := hW
  rw [Tryd.params5] at hA hval
  obtain ⟨v0, v1, d0, d1, p0, p1, rfl, rfl, rfl, h0, h1⟩ := trodAll_two hA
  obtain ⟨f0, h0⟩ := h0
  obtain ⟨a, n, cap, l, hcs, hn, hc1, hmx, hr, _, hel⟩ := read_cells (e := 3) rfl (by kernel_rfl) h0
  obtain rfl := arg_slice rfl (hval 0 _ v0 rfl rfl) hcs
  obtain ⟨f1, h1⟩ := h1
  obtain ⟨b, m, cap2, l2, hcs2, hm, hm2, hmx2, hr2, _, hel2⟩ := read_cells (e := 4) rfl (by kernel_rfl) h1
  obtain rfl := arg_slice rfl (hval 1 _ v1 rfl rfl) hcs2
  obtain ⟨cs, rfl, hI⟩ := ints_of (l := l) fun v hv => by
    obtain ⟨m, y, hy⟩ := hel v hv
    obtain ⟨z, hz, _, hw⟩ := DataW.trod_int rfl hy
    exact ⟨z, by simpa using hz, i64_of hw⟩
  obtain ⟨ws, rfl⟩ := bools_of (l := l2) fun v hv => by
    obtain ⟨m, y, hy⟩ := hel2 v hv
    obtain ⟨b, hb, _⟩ := DataW.trod_bool rfl hy
    exact ⟨b, by simpa using hb⟩
  exact law_calls (tb := 4) rfl (joins_law cs ws a b n m cap cap2 W.heap (glb_of_laid hL) hr hr2 hn hm hI (by unfold maxLen at hmx; omega) (by unfold maxLen at hmx2; omega)) hW' rfl (by obtain ⟨rfl, rfl⟩ := trodVars_none hV; rfl) rfl rfl laid_out (by kernel_rfl)
theorem over : Rows.FaultJoinsSaid :=
  OpenClaim.holds_of_wide 5 Tryd.f5 rfl rfl rfl rfl rfl rfl rfl ⟨rfl, rfl, rfl, rfl, rfl⟩ rfl rfl rfl rfl rfl (by kernel_rfl) Tryd.func5 (by kernel_rfl)
    (of_decide_eq_true (by kernel_rfl)) (by unfold Func.isWrapper; first | (rw [if_pos (by decide +kernel)]; kernel_rfl) | (rw [if_neg (by decide +kernel)]; exact ⟨rfl, rfl⟩))
    (fun os started H enc _ => lifted os started H enc)
end joinsL
theorem joinsL_holds : Rows.FaultJoinsCardSaid :=
  Claim7.holds_tied_plain_at .later [] [.data, .data, .data, .handle] true (true, "ec022585ead264ebfa090ea5a5077dc4c409f371d29c801cbacd222ad9e17bdd") true joinsL.over (fun _ h => by cases h) (by kernel_rfl) (fun _ h => by cases h) faultJoins_row_tie rfl ⟨rfl, rfl⟩ (by kernel_rfl) rfl
    (fun f fn hf hfn => by
      obtain rfl : f = 5 := Option.some.inj ((show Tryd.prog.funcNamed Tryd.f5.name = some 5 by kernel_rfl).symm.trans hf) |>.symm
      obtain rfl : fn = Tryd.f5 := (Option.some.inj (Tryd.func5.symm.trans hfn)).symm
      exact ⟨by kernel_rfl, fun j t ht => by
        rw [Tryd.params5] at ht
        have hm : t ∈ [46, 47] := by simpa using Array.mem_of_getElem? ht
        have hall : ([46, 47].all fun u => !Tryd.prog.wantsStandIn u) = true := by kernel_rfl
        exact (show Tryd.prog.wantsStandIn t = false by simpa using List.all_eq_true.1 hall t hm)⟩)
    (by kernel_rfl)

end Go.Proofs.YtlgcfcdmldlefaaDoor
