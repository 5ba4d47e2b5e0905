import Derived.Test.YtlgcfcdmldlefaaDoorVl
set_option linter.unusedVariables false
set_option linter.unusedSimpArgs false
set_option maxRecDepth 100000
/- An error, wrapped any number of times, says where it came from, and stays what it is. The package variables that the card lists hold what the program's text lays. -/
namespace Go.Proofs.YtlgcfcdmldlefaaDoor
open Go Go.Vc Go.ChangeShapes Go.WideShapes Go.ChangeAt Go.RowKit
theorem i64_of {n : Int} (h : (Lit.int .i64 n).wf = true) : I64 n := by
  unfold I64
  simp [Lit.wf, IntKind.min, IntKind.max, IntKind.signed, IntKind.bits] at h
  omega
section
variable {H : Type} {enc : TypeId × Value → H} {P : Program} {w : World} {base : Nat} {sp : Nat → Bool} {held : Bool}
/-- the elements of a slice, any number of cells each -/
theorem read_wide {t e : TypeId} {fuel k : Nat} {cs : List Value} {x : DataW H × List MemPlace} (ht : P.underlying t = some (.slice e)) (hc : P.cellsOf e = k) (hk : 0 < k)
    (h : DataW.trod enc P w base sp held fuel t cs = some x) : ∃ (a : Option Addr) (n cap : Nat) (l : List Value), cs = [.slice a n cap] ∧ l.length = n * k ∧ n ≤ cap ∧ cap ≤ maxLen ∧ Row w.heap a l ∧ (a = none → cap = 0) ∧
      ∀ i < n, ∃ m y, DataW.trod enc P w base sp held m e ((l.drop (i * k)).take k) = some y := by
  rcases DataW.trod_slice ht h with ⟨rfl, _⟩ | ⟨a, len, cap, elems, rest, n, _, rfl, rfl, hb, hl, hm, hlen, hel, hsp, hns⟩
  · exact ⟨none, 0, 0, [], rfl, by simp, Nat.le_refl _, Nat.zero_le _, Row.nil _ _, fun _ => rfl, fun i hi => absurd hi (Nat.not_lt_zero _)⟩
  · have each : ∀ i, i < len → ∃ vs y, vs.length = k ∧ (∀ j, j < k → w.cell? (a.add (i * k + j)) = vs[j]?) ∧ DataW.trod enc P w base sp held n e vs = some y := by
      intro i hi
      have := hel i hi
      rw [List.getElem?_eq_getElem (by omega), hc, Option.bind_eq_some_iff] at this
      obtain ⟨vs, hvs, hy⟩ := this
      obtain ⟨_, hl1, hcell⟩ := World.cells?_some hvs
      refine ⟨vs, _, hl1, fun j hj => ?_, hy⟩
      have hcj := hcell j hj
      rw [← hcj]
      by_cases z1 : i * k = 0 <;> by_cases z2 : j = 0 <;> simp [Addr.add, Nat.add_assoc, z1, z2]
    let f : Nat → Value := fun i => (w.cell? (a.add i)).getD undef
    have hf : ∀ i, i < len * k → w.cell? (a.add i) = some (f i) := fun i hi => by
      obtain ⟨vs, y, h1, h2, _⟩ := each (i / k) ((Nat.div_lt_iff_lt_mul hk).2 hi)
      have := h2 (i % k) (Nat.mod_lt _ hk)
      rw [show i / k * k + i % k = i from by rw [Nat.mul_comm]; exact Nat.div_add_mod i k, List.getElem?_eq_getElem (by rw [h1]; exact Nat.mod_lt _ hk)] at this
      simp [f, this]
    refine ⟨some a, len, cap, (List.range (len * k)).map f, rfl, by simp, hl, hm, ?_, by simp, ?_⟩
    · by_cases h0 : len * k = 0
      · rw [h0]; simp [Row.nil]
      · have h00 := hf 0 (by omega)
        have e0 : a.add 0 = a := by simp [Addr.add]
        rw [e0] at h00
        obtain ⟨b, o, rfl⟩ := cell_plain h00
        refine ⟨.inr ⟨b, o, rfl, fun j v hv => ?_⟩⟩
        have hj : j < len * k := by have := (List.getElem?_eq_some_iff.1 hv).1; simpa using this
        have := hf j hj
        rw [addk] at this
        rw [← cell_heap, this, ← hv]
        simp [hj]
    · intro i hi
      obtain ⟨vs, y, h1, h2, hy⟩ := each i hi
      have hik : i * k + k ≤ len * k := by rw [← Nat.succ_mul]; exact Nat.mul_le_mul_right k hi
      refine ⟨n, y, ?_⟩
      rw [← hy]
      congr 1
      apply List.ext_getElem?
      intro j
      by_cases hj : j < k
      · have := h2 j hj
        rw [hf _ (by omega)] at this
        rw [← this, List.getElem?_take, if_pos hj, List.getElem?_drop, List.getElem?_map, List.getElem?_range (by omega)]
        rfl
      · rw [List.getElem?_take, if_neg hj, List.getElem?_eq_none (by omega)]

/-- a slice of layers -/
theorem read_layers {t e : TypeId} {f0 f1 : Field} {fuel : Nat} {cs : List Value} {x : DataW H × List MemPlace} (ht : P.underlying t = some (.slice e)) (he : P.underlying e = some (.struct #[f0, f1])) (hc : P.cellsOf e = 2)
    (h0 : P.underlying f0.type = some .string) (h1 : P.underlying f1.type = some .string) (c0 : P.cellsOf f0.type = 1) (c1 : P.cellsOf f1.type = 1) (o0 : f0.offset = 0) (o1 : f1.offset = 1)
    (h : DataW.trod enc P w base sp held fuel t cs = some x) : ∃ (a : Option Addr) (n cap : Nat) (l : Chain), cs = [.slice a n cap] ∧ l.length = n ∧ n ≤ cap ∧ cap ≤ maxLen ∧ Row w.heap a (lyV l) := by
  obtain ⟨a, n, cap, vs, rfl, hl, hn, hm, hr, _, hel⟩ := read_wide ht hc (by decide) h
  have : ∀ (m : Nat) (vs : List Value), vs.length = m * 2 → (∀ i < m, ∃ k y, DataW.trod enc P w base sp held k e ((vs.drop (i * 2)).take 2) = some y) → ∃ l : Chain, vs = lyV l ∧ l.length = m := by
    intro m
    induction m with
    | zero => intro vs h _; exact ⟨[], by cases vs with | nil => rfl | cons _ _ => simp at h, rfl⟩
    | succ m ih =>
      intro vs hlen hel
      match vs, hlen with
      | [u], hlen => simp at hlen; omega
      | u :: v :: vs, hlen =>
        obtain ⟨l, rfl, hl⟩ := ih vs (by simp at hlen; omega) (fun i hi => by
          obtain ⟨k, y, hy⟩ := hel (i + 1) (by omega)
          refine ⟨k, y, ?_⟩
          rw [← hy, show (i + 1) * 2 = i * 2 + 2 by omega]
          rfl)
        obtain ⟨k, y, hy⟩ := hel 0 (by omega)
        obtain ⟨y0, y1, k2, _, _, g0, g1⟩ := trod_struct2 he hy
        rw [c0, o0] at g0
        rw [c1, o1] at g1
        obtain ⟨b0, e0, _⟩ := DataW.trod_string h0 g0
        obtain ⟨b1, e1, _⟩ := DataW.trod_string h1 g1
        have e0 : u = .string b0 := by simpa using e0
        have e1 : v = .string b1 := by simpa using e1
        refine ⟨(b0.data.toList, b1.data.toList) :: l, ?_, by simp [hl]⟩
        rw [e0, e1]
        show _ = Value.string (mkS b0.data.toList) :: Value.string (mkS b1.data.toList) :: lyV l
        rw [mkS_data, mkS_data]
  obtain ⟨l, rfl, hl'⟩ := this n vs hl hel
  exact ⟨a, n, cap, l, rfl, hl', hn, hm, hr⟩
end
namespace wraps
set_option maxRecDepth 100000 in
theorem lifted (os : Os) (started : os.Started) (H : Type) (enc : TypeId × Value → H) :
    ReturnsInHanded {} Tryd.checked os 3 .any (fun w args => (Rows.faultWrapsSpec.pre enc Tryd.prog Tryd.f3 Rows.faultWrapsRow.domain false w args ∧ laidMetH Tryd.prog Rows.faultWrapsRow.laid w) ∧ sizedMet enc Tryd.prog Tryd.f3 (OpenSpec.ofChange Rows.faultWrapsSpec) false w args)
      (Rows.faultWrapsSpec.post enc Tryd.prog Tryd.f3 false true false false) := by
  refine returnsInHanded_of_change_and (C := Tryd.checked) (X := fun w _ => laidMetH Tryd.prog Rows.faultWrapsRow.laid w) (fun _ _ _ hh h => h.of_heap hh) own started (by kernel_rfl) Tryd.func3
    (ChangeSpec.witness_shaped (enc := enc) (C := Tryd.checked) (os := os) (X := fun w _ => laidMetH Tryd.prog Rows.faultWrapsRow.laid w) false (witW os) #[.slice none 0 0, .int .i64 0] 8 (witW_os os)
      (World.shaped_of_ZipB (by kernel_rfl) (by kernel_rfl)) (by kernel_rfl) (by kernel_rfl) (by kernel_rfl)
      (witW_met os _)) ?_
  intro W base args ds gs before hval0 hW hc _ hL _
  have hval : ∀ (j : Nat) t v, Tryd.f3.params[j]? = some t → args[j]? = some v → Value.okWide Tryd.prog W .any base t v := hval0
  have hW' := hW
  obtain ⟨p, q, hA, hV, _, _, _⟩ := hW
  rw [Tryd.params3] at hA hval
  obtain ⟨v0, v1, d0, d1, p0, p1, rfl, rfl, rfl, h0, h1⟩ := trodAll_two hA
  obtain ⟨n1, rfl, rfl, rfl, w1⟩ := open_int rfl (hval 1 _ v1 rfl rfl) h1
  obtain ⟨fl0, h0⟩ := h0
  obtain ⟨a, n, cap, l, hcs, hn, hc1, hm, hr⟩ := read_layers (P := Tryd.prog) rfl rfl (by kernel_rfl) rfl rfl (by kernel_rfl) (by kernel_rfl) rfl rfl h0
  obtain rfl := arg_slice rfl (hval 0 _ v0 rfl rfl) hcs
  exact law_calls (tb := 4) rfl (wraps_law l a n cap n1 W.heap (glb_of_laid hL) hr hn (by have := hm; unfold maxLen at this; omega) (i64_of w1)) hW' rfl (by obtain ⟨rfl, rfl⟩ := trodVars_none hV; rfl) rfl rfl laid_out (by kernel_rfl)
theorem over : Rows.FaultWrapsSaid :=
  OpenClaim.holds_of_wide 3 Tryd.f3 rfl rfl rfl rfl rfl rfl rfl ⟨rfl, rfl, rfl, rfl, rfl⟩ rfl rfl rfl rfl rfl (by kernel_rfl) Tryd.func3 (by kernel_rfl)
    (of_decide_eq_true (by kernel_rfl)) (by unfold Func.isWrapper; first | (rw [if_pos (by decide +kernel)]; kernel_rfl) | (rw [if_neg (by decide +kernel)]; exact ⟨rfl, rfl⟩))
    (fun os started H enc _ => lifted os started H enc)
end wraps
theorem wraps_holds : Rows.FaultWrapsCardSaid :=
  Claim7.holds_tied_plain_at .later [] [.data, .data, .data, .handle] true (true, "ec022585ead264ebfa090ea5a5077dc4c409f371d29c801cbacd222ad9e17bdd") true wraps.over (fun _ h => by cases h) (by kernel_rfl) (fun _ h => by cases h) faultWraps_row_tie rfl ⟨rfl, rfl⟩ (by kernel_rfl) rfl
    (fun f fn hf hfn => by
      obtain rfl : f = 3 := Option.some.inj ((show Tryd.prog.funcNamed Tryd.f3.name = some 3 by kernel_rfl).symm.trans hf) |>.symm
      obtain rfl : fn = Tryd.f3 := (Option.some.inj (Tryd.func3.symm.trans hfn)).symm
      exact ⟨by kernel_rfl, fun j t ht => by
        rw [Tryd.params3] at ht
        have hm : t ∈ [22, 3] := by simpa using Array.mem_of_getElem? ht
        have hall : ([22, 3].all fun u => !Tryd.prog.wantsStandIn u) = true := by kernel_rfl
        exact (show Tryd.prog.wantsStandIn t = false by simpa using List.all_eq_true.1 hall t hm)⟩)
    (by kernel_rfl)

end Go.Proofs.YtlgcfcdmldlefaaDoor
