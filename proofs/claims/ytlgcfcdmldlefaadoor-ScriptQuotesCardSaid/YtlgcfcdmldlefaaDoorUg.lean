import Derived.Test.YtlgcfcdmldlefaaDoorTz
import Derived.Test.YtlgcfcdmldlefaaDoorUd
set_option linter.unusedVariables false
set_option linter.unusedSimpArgs false
set_option maxRecDepth 100000
/- Any text may stand in quotes, and is read as it was. The package variables that the card lists hold what the program's text lays. -/
namespace Go.Proofs.YtlgcfcdmldlefaaDoor
open Go Go.Vc Go.Scr Go.ChangeShapes Go.WideShapes Go.ChangeAt Go.RowKit
theorem read_strs {H : Type} {enc : TypeId × Value → H} {P : Program} {w : World} {base : Nat} {sp : Nat → Bool} {held : Bool} {t e : TypeId} {fuel : Nat} {cs : List Value} {x : DataW H × List MemPlace} (ht : P.underlying t = some (.slice e)) (he : P.underlying e = some .string)
    (hc : P.cellsOf e = 1) (h : DataW.trod enc P w base sp held fuel t cs = some x) : ∃ (a : Option Addr) (n cap : Nat) (ws : List Bs), cs = [.slice a n cap] ∧ ws.length = n ∧ n ≤ cap ∧ cap ≤ maxLen ∧ Row w.heap a (strs ws) ∧ ∀ s ∈ ws, s.length ≤ maxLen := by
  obtain ⟨a, n, cap, l, rfl, hl, hn, hm, hr, _, hel⟩ := read_cells ht hc h
  have all : ∃ ws : List Bs, l = strs ws ∧ ∀ s ∈ ws, s.length ≤ maxLen := by
    clear hr hl h
    induction l with
    | nil => exact ⟨[], rfl, fun p hp => by cases hp⟩
    | cons v l ih =>
      obtain ⟨m, y, hy⟩ := hel v (by simp)
      obtain ⟨s, h1, _, hs⟩ := DataW.trod_string he hy
      obtain ⟨ws, rfl, hall⟩ := ih fun v hv => hel v (by simp [hv])
      refine ⟨s.data.toList :: ws, ?_, fun q hq => ?_⟩
      · have : v = .string s := by simpa using h1
        rw [this]; show _ = Value.string (mkS s.data.toList) :: strs ws; rw [mkS_data]
      · rcases List.mem_cons.1 hq with rfl | hq
        · simpa using hs
        · exact hall q hq
  obtain ⟨ws, rfl, hall⟩ := all
  exact ⟨a, n, cap, ws, rfl, by rw [← hl, strs_length], hn, hm, hr, hall⟩
namespace quotes
set_option maxRecDepth 100000 in
theorem lifted (os : Os) (started : os.Started) (H : Type) (enc : TypeId × Value → H) :
    ReturnsInHanded {} Tryd.checked os 11 .any (fun w args => (Rows.scriptQuotesSpec.pre enc Tryd.prog Tryd.f11 Rows.scriptQuotesRow.domain false w args ∧ laidMetH Tryd.prog Rows.scriptQuotesRow.laid w) ∧ sizedMet enc Tryd.prog Tryd.f11 (OpenSpec.ofChange Rows.scriptQuotesSpec) false w args)
      (Rows.scriptQuotesSpec.post enc Tryd.prog Tryd.f11 false true false false) := by
  refine returnsInHanded_of_change_and (C := Tryd.checked) (X := fun w _ => laidMetH Tryd.prog Rows.scriptQuotesRow.laid w) (fun _ _ _ hh h => h.of_heap hh) own started (by kernel_rfl) Tryd.func11
    (ChangeSpec.witness_shaped (enc := enc) (C := Tryd.checked) (os := os) (X := fun w _ => laidMetH Tryd.prog Rows.scriptQuotesRow.laid w) false (World.laidAll Tryd.prog os Rows.scriptQuotesRow.laid) #[.slice none 0 0] 8 (World.laidAll_os _ _ _)
      (World.shaped_of_ZipB (by kernel_rfl) (by kernel_rfl)) (by kernel_rfl) (by kernel_rfl) (by kernel_rfl)
      (by rw [MakeChecks.laidMetH_plain _ _ _ (by kernel_rfl)]; exact laidMet_laidAll _ (by kernel_rfl) (by kernel_rfl))) ?_
  intro W base args ds gs before hval0 hW hc _ hL _
  have hval : ∀ (j : Nat) t v, Tryd.f11.params[j]? = some t → args[j]? = some v → Value.okWide Tryd.prog W .any base t v := hval0
  have hW' := hW
  obtain ⟨p, q, hA, hV, _, _, _⟩ := hW
  rw [Tryd.params11] at hA hval
  obtain ⟨v0, d0, rfl, rfl, h0⟩ := trodAll_one hA
  obtain ⟨f0, h0⟩ := h0
  obtain ⟨a, n, cap, ws, hcs, hn, hc1, hm, hr, hs⟩ := read_strs (P := Tryd.prog) rfl rfl (by kernel_rfl) h0
  obtain rfl := arg_slice rfl (hval 0 _ v0 rfl rfl) hcs
  exact law_calls (tb := 4) rfl (quotes_law ws a n cap W.heap hr hn (by have h := hm; unfold maxLen at h; omega) (by intro t ht; have h := hs t ht; unfold maxLen at h; omega)) hW' rfl (by obtain ⟨rfl, rfl⟩ := trodVars_none hV; rfl) rfl rfl laid_out (by kernel_rfl)
theorem over : Rows.ScriptQuotesSaid :=
  OpenClaim.holds_of_wide 11 Tryd.f11 rfl rfl rfl rfl rfl rfl rfl ⟨rfl, rfl, rfl, rfl, rfl⟩ rfl rfl rfl rfl rfl (by kernel_rfl) Tryd.func11 (by kernel_rfl)
    (of_decide_eq_true (by kernel_rfl)) (by unfold Func.isWrapper; first | (rw [if_pos (by decide +kernel)]; kernel_rfl) | (rw [if_neg (by decide +kernel)]; exact ⟨rfl, rfl⟩))
    (fun os started H enc _ => lifted os started H enc)
end quotes
theorem quotes_holds : Rows.ScriptQuotesCardSaid :=
  Claim7.holds_tied_plain_at .later [] [.data, .data, .data, .data, .pinned] true (true, "ec022585ead264ebfa090ea5a5077dc4c409f371d29c801cbacd222ad9e17bdd") true quotes.over (fun _ h => by cases h) (by kernel_rfl) (fun _ h => by cases h) scriptQuotes_row_tie rfl ⟨rfl, rfl⟩ (by kernel_rfl) rfl
    (fun f fn hf hfn => by
      obtain rfl : f = 11 := Option.some.inj ((show Tryd.prog.funcNamed Tryd.f11.name = some 11 by kernel_rfl).symm.trans hf) |>.symm
      obtain rfl : fn = Tryd.f11 := (Option.some.inj (Tryd.func11.symm.trans hfn)).symm
      exact ⟨by kernel_rfl, fun j t ht => by
        rw [Tryd.params11] at ht
        have hm : t ∈ [29] := by simpa using Array.mem_of_getElem? ht
        have hall : ([29].all fun u => !Tryd.prog.wantsStandIn u) = true := by kernel_rfl
        exact (show Tryd.prog.wantsStandIn t = false by simpa using List.all_eq_true.1 hall t hm)⟩)
    (by kernel_rfl)

end Go.Proofs.YtlgcfcdmldlefaaDoor
