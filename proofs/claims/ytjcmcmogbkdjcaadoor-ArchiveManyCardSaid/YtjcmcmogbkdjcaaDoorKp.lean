import Derived.Test.YtjcmcmogbkdjcaaDoorKe
import Derived.Test.YtjcmcmogbkdjcaaDoorKh
set_option linter.unusedVariables false
set_option linter.unusedSimpArgs false
set_option maxRecDepth 100000
/- Parameters that are slices of records: files. -/
namespace Go.Vc
open Go.ChangeShapes Go.WideShapes Go.RowKit
section
variable {H : Type} {enc : TypeId × Value → H} {P : Program} {w : World} {base : Nat} {sp : Nat → Bool} {held : Bool}
/-- the elements of a slice, any number of cells each -/
theorem read_wide {t e : TypeId} {fuel k : Nat} {cs : List Value} {x : DataW H × List MemPlace} (ht : P.underlying t = some (.slice e)) (hc : P.cellsOf e = k) (hk : 0 < k)
    (h : DataW.trod enc P w base sp held fuel t cs = some x) : ∃ (a : Option Addr) (n cap : Nat) (l : List Value), cs = [.slice a n cap] ∧ l.length = n * k ∧ n ≤ cap ∧ cap ≤ maxLen ∧ Row w.heap a l ∧ (a = none → cap = 0) ∧
      ∀ i < n, ∃ m y, DataW.trod enc P w base sp held m e ((l.drop (i * k)).take k) = some y := by
  rcases DataW.trod_slice ht h with ⟨rfl, _⟩ | ⟨a, len, cap, elems, rest, n, _, rfl, rfl, hb, hl, hm, hlen, hel, hsp, hns⟩
  · exact ⟨none, 0, 0, [], rfl, by simp, Nat.le_refl _, Nat.zero_le _, Row.nil _ _, fun _ => rfl, fun i hi => absurd hi (Nat.not_lt_zero _)⟩
  · have each : ∀ i, i < len → ∃ vs y, vs.length = k ∧ (∀ j, j < k → w.cell? (a.add (i * k + j)) = vs[j]?) ∧ DataW.trod enc P w base sp held n e vs = some y := by
      intro i hi
      have := hel i hi
      rw [List.getElem?_eq_getElem (by omega), hc, Option.bind_eq_some_iff] at this
      obtain ⟨vs, hvs, hy⟩ := this
      obtain ⟨_, hl1, hcell⟩ := World.cells?_some hvs
      refine ⟨vs, _, hl1, fun j hj => ?_, hy⟩
      have hcj := hcell j hj
      rw [← hcj]
      by_cases z1 : i * k = 0 <;> by_cases z2 : j = 0 <;> simp [Addr.add, Nat.add_assoc, z1, z2]
    let f : Nat → Value := fun i => (w.cell? (a.add i)).getD undef
    have hf : ∀ i, i < len * k → w.cell? (a.add i) = some (f i) := fun i hi => by
      obtain ⟨vs, y, h1, h2, _⟩ := each (i / k) ((Nat.div_lt_iff_lt_mul hk).2 hi)
      have := h2 (i % k) (Nat.mod_lt _ hk)
      rw [show i / k * k + i % k = i from by rw [Nat.mul_comm]; exact Nat.div_add_mod i k, List.getElem?_eq_getElem (by rw [h1]; exact Nat.mod_lt _ hk)] at this
      simp [f, this]
    refine ⟨some a, len, cap, (List.range (len * k)).map f, rfl, by simp, hl, hm, ?_, by simp, ?_⟩
    · by_cases h0 : len * k = 0
      · rw [h0]; simp [Row.nil]
      · have h00 := hf 0 (by omega)
        have e0 : a.add 0 = a := by simp [Addr.add]
        rw [e0] at h00
        obtain ⟨b, o, rfl⟩ := cell_plain h00
        refine ⟨.inr ⟨b, o, rfl, fun j v hv => ?_⟩⟩
        have hj : j < len * k := by have := (List.getElem?_eq_some_iff.1 hv).1; simpa using this
        have := hf j hj
        rw [addk] at this
        rw [← cell_heap, this, ← hv]
        simp [hj]
    · intro i hi
      obtain ⟨vs, y, h1, h2, hy⟩ := each i hi
      have hik : i * k + k ≤ len * k := by rw [← Nat.succ_mul]; exact Nat.mul_le_mul_right k hi
      refine ⟨n, y, ?_⟩
      rw [← hy]
      congr 1
      apply List.ext_getElem?
      intro j
      by_cases hj : j < k
      · have := h2 j hj
        rw [hf _ (by omega)] at this
        rw [← this, List.getElem?_take, if_pos hj, List.getElem?_drop, List.getElem?_map, List.getElem?_range (by omega)]
        rfl
      · rw [List.getElem?_take, if_neg hj, List.getElem?_eq_none (by omega)]
/-- a list of cells, k at a time -/
theorem cut_wide {k : Nat} (hk : 0 < k) {Q : List Value → Prop} : ∀ (m : Nat) (vs : List Value), vs.length = m * k → (∀ i < m, Q ((vs.drop (i * k)).take k)) → ∃ L : List (List Value), vs = L.flatten ∧ L.length = m ∧ ∀ c ∈ L, c.length = k ∧ Q c
  | 0, vs, h, _ => ⟨[], by rw [List.flatten_nil]; exact List.eq_nil_of_length_eq_zero (by simpa using h), rfl, fun c hc => by cases hc⟩
  | m + 1, vs, h, hq => by
    obtain ⟨L, e, hl, hc⟩ := cut_wide hk (Q := Q) m (vs.drop k) (by rw [List.length_drop, h, Nat.add_mul]; omega) fun i hi => by
      have := hq (i + 1) (by omega)
      rwa [List.drop_drop, show k + i * k = (i + 1) * k by rw [Nat.add_mul]; omega]
    refine ⟨vs.take k :: L, by rw [List.flatten_cons, ← e, List.take_append_drop], by simp [hl], fun c h' => ?_⟩
    rcases List.mem_cons.1 h' with rfl | h'
    · refine ⟨by rw [List.length_take, h, Nat.add_mul]; omega, ?_⟩
      have := hq 0 (by omega)
      simpa using this
    · exact hc c h'
end
end Go.Vc
namespace Go.Proofs.YtjcmcmogbkdjcaaDoor
open Go Go.Vc Go.Scr Go.Pth Go.Tre Go.ChangeShapes Go.WideShapes Go.RowKit
section
variable {H : Type} {enc : TypeId × Value → H} {w : World} {base : Nat} {sp : Nat → Bool} {held : Bool}
theorem read_files {fuel : Nat} {cs : List Value} {x : DataW H × List MemPlace} (h : DataW.trod enc Tryd.prog w base sp held fuel 23 cs = some x) :
    ∃ (a : Option Addr) (n cap : Nat) (L : Tr), cs = [.slice a n cap] ∧ L.length = n ∧ n ≤ cap ∧ cap ≤ maxLen ∧ RowF w.heap a L := by
  obtain ⟨a, n, cap, vs, rfl, hl, hn, hm, hr, _, hel⟩ := read_wide (P := Tryd.prog) (e := 26) (k := 3) rfl (by kernel_rfl) (by decide) h
  obtain ⟨L, rfl, hL, hq⟩ := cut_wide (k := 3) (by decide) (Q := fun c => ∃ m y, DataW.trod enc Tryd.prog w base sp held m 26 c = some y) n vs hl hel
  have : ∀ L : List (List Value), (∀ c ∈ L, c.length = 3 ∧ ∃ m y, DataW.trod enc Tryd.prog w base sp held m 26 c = some y) → ∃ A : Tr, A.length = L.length ∧ FilesV w.heap A L.flatten := by
    intro L
    induction L with
    | nil => intro _; exact ⟨[], rfl, .nil⟩
    | cons c L ih =>
      intro hq
      obtain ⟨A, hA, hF⟩ := ih fun c hc => hq c (by simp [hc])
      obtain ⟨hc3, m, y, hy⟩ := hq c (by simp)
      obtain ⟨xs, k, _, _, _, hlen, hf⟩ := DataW.trod_struct (P := Tryd.prog) (t := 26) rfl hy
      have g0 := hf 0 _ rfl
      have g1 := hf 1 _ rfl
      have g2 := hf 2 _ rfl
      match xs, hlen, c, hc3 with
      | [y0, y1, y2], _, [u0, u1, u2], _ =>
        obtain ⟨s, e0, _⟩ := DataW.trod_string (P := Tryd.prog) rfl g0
        obtain ⟨d, e1, _⟩ := DataW.trod_bool (P := Tryd.prog) rfl g1
        obtain ⟨a', n', cap', l', e2, hl', hn', hm', hr', _⟩ := read_bytes (P := Tryd.prog) (e := 5) rfl rfl (by kernel_rfl) g2
        have e0 : u0 = .string s := by
          have : [u0] = [Value.string s] := e0
          injection this
        have e1 : u1 = .bool d := by
          have : [u1] = [Value.bool d] := e1
          injection this
        have e2 : u2 = .slice a' n' cap' := by
          have : [u2] = [Value.slice a' n' cap'] := e2
          injection this
        refine ⟨(s.data.toList, d, l') :: A, by simp [hA], ?_⟩
        rw [List.flatten_cons, e0, e1, e2, ← hl']
        have := FilesV.cons (x := (s.data.toList, d, l')) (a := a') (cap := cap') hr' hF
        unfold fileC at this
        rw [mkS_data] at this
        exact this
  obtain ⟨A, hA, hF⟩ := this L hq
  exact ⟨a, n, cap, A, rfl, by rw [hA, hL], hn, hm, ⟨_, hr, hF⟩⟩
end
end Go.Proofs.YtjcmcmogbkdjcaaDoor
