import Derived.Test.YtihopeogaeinhaaGreatDoorKe
import Derived.Test.YtihopeogaeinhaaGreatDoorKh
import Derived.Test.YtihopeogaeinhaaGreatDoorKf
set_option linter.unusedVariables false
set_option linter.unusedSimpArgs false
set_option maxRecDepth 100000
/- Parameters that are slices of records: files. -/
namespace Go.Vc
open Go.ChangeShapes Go.WideShapes Go.RowKit
section
variable {H : Type} {enc : TypeId × Value → H} {P : Program} {w : World} {base : Nat} {sp : Nat → Bool} {held : Bool}
/-- the elements of a slice, any number of cells each -/
theorem read_wide {t e : TypeId} {fuel k : Nat} {cs : List Value} {x : DataW H × List MemPlace} (ht : P.underlying t = some (.slice e)) (hc : P.cellsOf e = k) (hk : 0 < k)
    (h : DataW.trod enc P w base sp held fuel t cs = some x) : ∃ (a : Option Addr) (n cap : Nat) (l : List Value), cs = [.slice a n cap] ∧ l.length = n * k ∧ n ≤ cap ∧ cap ≤ maxLen ∧ Row w.heap a l ∧ (a = none → cap = 0) ∧
      ∀ i < n, ∃ m y, DataW.trod enc P w base sp held m e ((l.drop (i * k)).take k) = some y := by
  rcases DataW.trod_slice ht h with ⟨rfl, _⟩ | ⟨a, len, cap, elems, rest, n, _, rfl, rfl, hb, hl, hm, hlen, hel, hsp, hns⟩
  · exact ⟨none, 0, 0, [], rfl, by simp, Nat.le_refl _, Nat.zero_le _, Row.nil _ _, fun _ => rfl, fun i hi => absurd hi (Nat.not_lt_zero _)⟩
  · have each : ∀ i, i < len → ∃ vs y, vs.length = k ∧ (∀ j, j < k → w.cell? (a.add (i * k + j)) = vs[j]?) ∧ DataW.trod enc P w base sp held n e vs = some y := by
      intro i hi
      have := hel i hi
      rw [List.getElem?_eq_getElem (by omega), hc, Option.bind_eq_some_iff] at this
      obtain ⟨vs, hvs, hy⟩ := this
      obtain ⟨_, hl1, hcell⟩ := World.cells?_some hvs
      refine ⟨vs, _, hl1, fun j hj => ?_, hy⟩
      have hcj := hcell j hj
      rw [← hcj]
      by_cases z1 : i * k = 0 <;> by_cases z2 : j = 0 <;> simp [Addr.add, Nat.add_assoc, z1, z2]
    let f : Nat → Value := fun i => (w.cell? (a.add i)).getD undef
    have hf : ∀ i, i < len * k → w.cell? (a.add i) = some (f i) := fun i hi => by
      obtain ⟨vs, y, h1, h2, _⟩ := each (i / k) ((Nat.div_lt_iff_lt_mul hk).2 hi)
      have := h2 (i % k) (Nat.mod_lt _ hk)
      rw [show i / k * k + i % k = i from by rw [Nat.mul_comm]; exact Nat.div_add_mod i k, List.getElem?_eq_getElem (by rw [h1]; exact Nat.mod_lt _ hk)] at this
      simp [f, this]
    refine ⟨some a, len, cap, (List.range (len * k)).map f, rfl, by simp, hl, hm, ?_, by simp, ?_⟩
    · by_cases h0 : len * k = 0
      · rw [h0]; simp [Row.nil]
      · have h00 := hf 0 (by omega)
        have e0 : a.add 0 = a := by simp [Addr.add]
        rw [e0] at h00
        obtain ⟨b, o, rfl⟩ := cell_plain h00
        refine ⟨.inr ⟨b, o, rfl, fun j v hv => ?_⟩⟩
        have hj : j < len * k := by have := (List.getElem?_eq_some_iff.1 hv).1; simpa using this
        have := hf j hj
        rw [addk] at this
        rw [← cell_heap, this, ← hv]
        simp [hj]
    · intro i hi
      obtain ⟨vs, y, h1, h2, hy⟩ := each i hi
      have hik : i * k + k ≤ len * k := by rw [← Nat.succ_mul]; exact Nat.mul_le_mul_right k hi
      refine ⟨n, y, ?_⟩
      rw [← hy]
      congr 1
      apply List.ext_getElem?
      intro j
      by_cases hj : j < k
      · have := h2 j hj
        rw [hf _ (by omega)] at this
        rw [← this, List.getElem?_take, if_pos hj, List.getElem?_drop, List.getElem?_map, List.getElem?_range (by omega)]
        rfl
      · rw [List.getElem?_take, if_neg hj, List.getElem?_eq_none (by omega)]
/-- a list of cells, k at a time -/
theorem cut_wide {k : Nat} (hk : 0 < k) {Q : List Value → Prop} : ∀ (m : Nat) (vs : List Value), vs.length = m * k → (∀ i < m, Q ((vs.drop (i * k)).take k)) → ∃ L : List (List Value), vs = L.flatten ∧ L.length = m ∧ ∀ c ∈ L, c.length = k ∧ Q c
  | 0, vs, h, _ => ⟨[], by rw [List.flatten_nil]; exact List.eq_nil_of_length_eq_zero (by simpa using h), rfl, fun c hc => by cases hc⟩
  | m + 1, vs, h, hq => by
    obtain ⟨L, e, hl, hc⟩ := cut_wide hk (Q := Q) m (vs.drop k) (by rw [List.length_drop, h, Nat.add_mul]; omega) fun i hi => by
      have := hq (i + 1) (by omega)
      rwa [List.drop_drop, show k + i * k = (i + 1) * k by rw [Nat.add_mul]; omega]
    refine ⟨vs.take k :: L, by rw [List.flatten_cons, ← e, List.take_append_drop], by simp [hl], fun c h' => ?_⟩
    rcases List.mem_cons.1 h' with rfl | h'
    · refine ⟨by rw [List.length_take, h, Nat.add_mul]; omega, ?_⟩
      have := hq 0 (by omega)
      simpa using this
    · exact hc c h'
end
end Go.Vc
namespace Go.Proofs.YtihopeogaeinhaaGreatDoor
open Go Go.Vc Go.Scr Go.Pth Go.Tre Go.ChangeShapes Go.WideShapes Go.RowKit
section
variable {H : Type} {enc : TypeId × Value → H} {w : World} {base : Nat} {sp : Nat → Bool} {held : Bool}
theorem read_files {fuel : Nat} {cs : List Value} {x : DataW H × List MemPlace} (h : DataW.trod enc Tryz.prog w base sp held fuel 22 cs = some x) :
    ∃ (a : Option Addr) (n cap : Nat) (L : Tr), cs = [.slice a n cap] ∧ L.length = n ∧ n ≤ cap ∧ cap ≤ maxLen ∧ RowF w.heap a L := by
  obtain ⟨a, n, cap, vs, rfl, hl, hn, hm, hr, _, hel⟩ := read_wide (P := Tryz.prog) (e := 45) (k := 3) rfl (by kernel_rfl) (by decide) h
  obtain ⟨L, rfl, hL, hq⟩ := cut_wide (k := 3) (by decide) (Q := fun c => ∃ m y, DataW.trod enc Tryz.prog w base sp held m 45 c = some y) n vs hl hel
  have : ∀ L : List (List Value), (∀ c ∈ L, c.length = 3 ∧ ∃ m y, DataW.trod enc Tryz.prog w base sp held m 45 c = some y) → ∃ A : Tr, A.length = L.length ∧ FilesV w.heap A L.flatten := by
    intro L
    induction L with
    | nil => intro _; exact ⟨[], rfl, .nil⟩
    | cons c L ih =>
      intro hq
      obtain ⟨A, hA, hF⟩ := ih fun c hc => hq c (by simp [hc])
      obtain ⟨hc3, m, y, hy⟩ := hq c (by simp)
      obtain ⟨xs, k, _, _, _, hlen, hf⟩ := DataW.trod_struct (P := Tryz.prog) (t := 45) rfl hy
      have g0 := hf 0 _ rfl
      have g1 := hf 1 _ rfl
      have g2 := hf 2 _ rfl
      match xs, hlen, c, hc3 with
      | [y0, y1, y2], _, [u0, u1, u2], _ =>
        obtain ⟨s, e0, _⟩ := DataW.trod_string (P := Tryz.prog) rfl g0
        obtain ⟨d, e1, _⟩ := DataW.trod_bool (P := Tryz.prog) rfl g1
        obtain ⟨a', n', cap', l', e2, hl', hn', hm', hr', _⟩ := read_bytes (P := Tryz.prog) (e := 5) rfl rfl (by kernel_rfl) g2
        have e0 : u0 = .string s := by
          have : [u0] = [Value.string s] := e0
          injection this
        have e1 : u1 = .bool d := by
          have : [u1] = [Value.bool d] := e1
          injection this
        have e2 : u2 = .slice a' n' cap' := by
          have : [u2] = [Value.slice a' n' cap'] := e2
          injection this
        refine ⟨(s.data.toList, d, l') :: A, by simp [hA], ?_⟩
        rw [List.flatten_cons, e0, e1, e2, ← hl']
        have := FilesV.cons (x := (s.data.toList, d, l')) (a := a') (cap := cap') hr' hF
        unfold fileC at this
        rw [mkS_data] at this
        exact this
  obtain ⟨A, hA, hF⟩ := this L hq
  exact ⟨a, n, cap, A, rfl, by rw [hA, hL], hn, hm, ⟨_, hr, hF⟩⟩
end
end Go.Proofs.YtihopeogaeinhaaGreatDoor
/- Trees of files, plain: what is moved or copied is a tree. -/
namespace Go.Tre
open Go.Pth Go.Scr
open Go.Vc (mget mput mdel mget_put mget_mem mget_of_mem mget_none)
theorem rest_get (A : Tr) (p k : Txt) (stays : Bool) : mget (restF A p stays) k = if stays = true ∨ withinF k p = false then mget A k else none := by
  unfold restF
  cases stays with
  | true => rw [if_pos rfl, if_pos (.inl rfl)]
  | false =>
    rw [if_neg (by simp), mget_filter (fun x => !withinF x p)]
    cases h : withinF k p <;> simp
theorem rest_sorted {A : Tr} (h : Sorted A) (p : Txt) (stays : Bool) : Sorted (restF A p stays) := by
  unfold restF
  split
  · exact h
  · exact List.Pairwise.sublist List.filter_sublist h
theorem split_cnt (A : Tr) (f : Txt × Node → Bool) : (A.filter fun x => !f x).length + (A.filter f).length = A.length ∧ sizeT (A.filter fun x => !f x) + sizeT (A.filter f) = sizeT A := by
  induction A with
  | nil => exact ⟨rfl, rfl⟩
  | cons x l ih =>
    have e1 : ∀ (y : Txt × Node) (m : Tr), sizeT (y :: m) = y.2.2.length + sizeT m := fun y m => by simp [sizeT]
    rw [List.filter_cons, List.filter_cons]
    cases h : f x <;> simp [e1] <;> omega
theorem Okay.two {A : Tr} (hA : Okay A) {p q : Txt} (hp : CleanP p) (hq : CleanP q) (stays : Bool) : Okay (twoP A p q stays).1 := by
  rw [two_plan]
  by_cases hpl : planF A p q = 0
  rotate_left
  · rw [if_neg hpl]; exact hA
  rw [if_pos hpl]
  by_cases hsp : 500 < A.length + ((lackF A q).length + if stays = true then (movedF A p q).length else 0) ∨ 1048576 < sizeT A + (if stays = true then sizeT (movedF A p q) else 0)
  · rw [if_pos hsp]; exact hA
  rw [if_neg hsp]
  rw [not_or] at hsp
  have y := plan_yes hpl
  have ha := apart hA hp hq y.pn y.qn y.pin y.qout y.out
  have hg := goes hA hp hq y.pn y.qn
  have hlm := lack_made hA hq y.file
  have hnd := lack_nodup (A := A) hq
  have hrs := rest_sorted hA.sorted p stays
  show Okay (putsF (makeF (restF A p stays) (lackF A q)) (movedF A p q))
  have hT : ∀ k, mget (putsF (makeF (restF A p stays) (lackF A q)) (movedF A p q)) k = match mget (movedF A p q) k with
      | some n => some n
      | none => if k ∈ lackF A q then some (true, []) else if stays = true ∨ withinF k p = false then mget A k else none := fun k => by
    rw [mget_putsF k _ _ hg.nodup]
    cases mget (movedF A p q) k with
    | some n => rfl
    | none => dsimp only; rw [mget_makeF, rest_get]
  /- what stands in the new tree -/
  have hfrom : ∀ k n, mget (putsF (makeF (restF A p stays) (lackF A q)) (movedF A p q)) k = some n → (k, n) ∈ movedF A p q ∨ (k ∈ lackF A q ∧ n = (true, [])) ∨ ((stays = true ∨ withinF k p = false) ∧ mget A k = some n) := fun k n h => by
    rw [hT] at h
    cases hm : mget (movedF A p q) k with
    | some n' => rw [hm] at h; cases h; exact .inl (mget_mem hm)
    | none =>
      rw [hm] at h
      dsimp only at h
      split at h
      · rename_i hk; cases h; exact .inr (.inl ⟨hk, rfl⟩)
      · split at h
        · rename_i hk; exact .inr (.inr ⟨hk, h⟩)
        · cases h
  have hto : ∀ k t, k ∉ (movedF A p q).map (·.1) → (stays = true ∨ withinF k p = false) → mget A k = some (true, t) → ∃ t, mget (putsF (makeF (restF A p stays) (lackF A q)) (movedF A p q)) k = some (true, t) := fun k t hn hk h => by
    rw [hT, mget_none.2 hn]
    dsimp only
    by_cases hl : k ∈ lackF A q
    · rw [if_pos hl]; exact ⟨_, rfl⟩
    · rw [if_neg hl, if_pos hk]; exact ⟨_, h⟩
  have hlk : ∀ k ∈ lackF A q, ∃ t, mget (putsF (makeF (restF A p stays) (lackF A q)) (movedF A p q)) k = some (true, t) := fun k hk => by
    have hn : k ∉ (movedF A p q).map (·.1) := fun h => by
      obtain ⟨x, hx, rfl⟩ := List.mem_map.1 h
      exact ha.nlack x hx hk
    rw [hT, mget_none.2 hn]
    dsimp only
    rw [if_pos hk]; exact ⟨_, rfl⟩
  have hnm : ∀ k t, mget A k = some t → k ∉ (movedF A p q).map (·.1) := fun k t h hm => by
    obtain ⟨x, hx, rfl⟩ := List.mem_map.1 hm
    rw [ha.fresh x hx] at h; cases h
  obtain ⟨k0, ek, hk0⟩ := hp
  obtain ⟨m0, em, hm0⟩ := hq
  have hkn : k0 ≠ [] := by rintro rfl; exact y.pn ek
  have hmn : m0 ≠ [] := by rintro rfl; exact y.qn em
  have hout : ¬ k0 <+: m0 := fun h => by
    have := (Pth.within_iff hm0.good hk0.good).2 h
    rw [← ek, ← em, y.out] at this; cases this
  /- a path above q is not within p -/
  have habove : ∀ d ∈ pars q, withinF d p = false := fun d hd => by
    rw [em] at hd
    obtain ⟨j, hj, _, _, rfl⟩ := (mem_pars hm0.good).1 hd
    cases hw : withinF (glue j) p with
    | false => rfl
    | true => rw [ek] at hw; exact absurd (((Pth.within_iff (good_pre hm0 hj).good hk0.good).1 hw).trans hj) hout
  have hq2 : ∀ d ∈ pars q, ∃ t, mget (putsF (makeF (restF A p stays) (lackF A q)) (movedF A p q)) d = some (true, t) := fun d hd => by
    rcases dir_above y.file hd with h | ⟨t, h⟩
    · exact hlk d (by unfold lackF; rw [List.mem_filter]; exact ⟨hd, by rw [h]; rfl⟩)
    · exact hto d t (hnm d _ h) (.inr (habove d hd)) h
  have hM : (movedF A p q).length = (A.filter fun x => withinF x.1 p).length := by unfold movedF; rw [List.length_map]
  have hMs := moved_size A p q
  have hsplit := split_cnt A (fun x => withinF x.1 p)
  have hml : (makeF (restF A p stays) (lackF A q)).length = (restF A p stays).length + (lackF A q).length := makeF_len hrs hnd fun d hd => by
    rw [rest_get]; split
    · exact (lack_none hd).2
    · rfl
  have hms : sizeT (makeF (restF A p stays) (lackF A q)) = sizeT (restF A p stays) := makeF_size hrs fun d hd => by
    rw [rest_get]; split
    · exact (lack_none hd).2
    · rfl
  obtain ⟨hcl, hcs⟩ := putsF_cnt (movedF A p q) (makeF_sorted (lackF A q) hrs) hg.nodup fun x hx => by
    rw [mget_makeF, if_neg (ha.nlack x hx), rest_get]
    split
    · exact ha.fresh x hx
    · rfl
  refine ⟨putsF_sorted _ (makeF_sorted _ hrs), fun k n h => ?_, fun k n h d hd => ?_, ?_, ?_, fun k n h => ?_⟩
  · rcases hfrom k n h with hm | ⟨hl, _⟩ | ⟨_, hm⟩
    · obtain ⟨k', m', r, e1, e2, hkr, hmr, e, _⟩ := hg.keys _ hm
      have e : k = glue (m' ++ r) := e
      have hb : (cleanF k).2 = 0 := by
        have := y.good
        unfold badM at this
        rw [List.any_eq_false] at this
        have := this _ hm
        simpa using this
      have hc : cleanF k = (k, 0) := by
        rcases clean_good hmr with h1 | h1
        · rw [← e] at h1; rw [h1] at hb; cases hb
        · rw [← e] at h1; exact h1
      have h1 := clean_of hb
      rw [hc] at h1
      refine ⟨h1, ?_⟩
      rw [e]
      refine glue_nil hmr fun h0 => ?_
      have : m' = [] := List.append_eq_nil_iff.1 h0 |>.1
      rw [this] at e2; exact y.qn e2
    · exact ⟨(hlm k hl).2.1, (hlm k hl).2.2.1⟩
    · exact hA.clean k n hm
  · rcases hfrom k n h with hm | ⟨hl, _⟩ | ⟨hw, hm⟩
    · obtain ⟨k', m', r, e1, e2, hkr, hmr, e, hold⟩ := hg.keys _ hm
      have e : k = glue (m' ++ r) := e
      have : k' = k0 := glue_inj (fun y hy => hkr.good y (by simp [hy])) hk0.good (e1.symm.trans ek)
      subst this
      have : m' = m0 := glue_inj (fun y hy => hmr y (by simp [hy])) hm0.good (e2.symm.trans em)
      subst this
      rw [e] at hd
      obtain ⟨j, hj, hjn, hjl, rfl⟩ := (mem_pars hmr).1 hd
      rcases List.prefix_or_prefix_of_prefix hj (List.prefix_append m' r) with h2 | h2
      · by_cases hjm : j = m'
        · subst hjm
          /- q itself: it is what p was -/
          have hrn : r ≠ [] := by rintro rfl; simp at hjl
          have hpd : p ∈ pars (glue (k' ++ r)) := (mem_pars hkr.good).2 ⟨k', List.prefix_append _ _, hkn, by rw [List.length_append]; have := List.length_pos_iff.2 hrn; omega, ek⟩
          obtain ⟨t, ht⟩ := hA.above _ _ hold _ hpd
          have hmem : (q, (true, t)) ∈ movedF A p q := by
            unfold movedF
            refine List.mem_map.2 ⟨(p, (true, t)), List.mem_filter.2 ⟨mget_mem ht, by simp [withinF]⟩, ?_⟩
            simp
          refine ⟨t, ?_⟩
          rw [hT, ← em, mget_of_mem hg.nodup hmem]
        · refine hq2 _ ?_
          rw [em]
          exact (mem_pars hm0.good).2 ⟨j, h2, hjn, Nat.lt_of_le_of_ne h2.length_le fun h => hjm (h2.eq_of_length h), rfl⟩
      · obtain ⟨s, rfl⟩ := h2
        by_cases hsn : s = []
        · subst hsn
          rw [List.append_nil] at hjl ⊢
          have hrn : r ≠ [] := by rintro rfl; simp at hjl
          have hpd : p ∈ pars (glue (k' ++ r)) := (mem_pars hkr.good).2 ⟨k', List.prefix_append _ _, hkn, by rw [List.length_append]; have := List.length_pos_iff.2 hrn; omega, ek⟩
          obtain ⟨t, ht⟩ := hA.above _ _ hold _ hpd
          have hmem : (q, (true, t)) ∈ movedF A p q := by
            unfold movedF
            refine List.mem_map.2 ⟨(p, (true, t)), List.mem_filter.2 ⟨mget_mem ht, by simp [withinF]⟩, ?_⟩
            simp
          refine ⟨t, ?_⟩
          rw [hT, ← em, mget_of_mem hg.nodup hmem]
        · have hsr : s <+: r := (List.prefix_append_right_inj m').1 hj
          have hkd : glue (k' ++ s) ∈ pars (glue (k' ++ r)) := (mem_pars hkr.good).2 ⟨k' ++ s, (List.prefix_append_right_inj k').2 hsr, by simp [hkn], by have h5 := hjl; rw [List.length_append, List.length_append] at h5; rw [List.length_append, List.length_append]; exact Nat.add_lt_add_left (Nat.lt_of_add_lt_add_left h5) _, rfl⟩
          obtain ⟨t, ht⟩ := hA.above _ _ hold _ hkd
          have hcks := good_pre hkr ((List.prefix_append_right_inj k').2 hsr)
          have hmem : (glue (m' ++ s), (true, t)) ∈ movedF A p q := by
            unfold movedF
            refine List.mem_map.2 ⟨(glue (k' ++ s), (true, t)), List.mem_filter.2 ⟨mget_mem ht, ?_⟩, ?_⟩
            · rw [ek]; exact (Pth.within_iff hcks.good hk0.good).2 (List.prefix_append _ _)
            · show (q ++ (glue (k' ++ s)).drop p.length, _) = _
              rw [ek, em, glue_move hkn hmn]
          refine ⟨t, ?_⟩
          rw [hT, mget_of_mem hg.nodup hmem]
    · rcases (hlm k hl).2.2.2 d hd with h1 | ⟨t, h1⟩
      · exact hlk d h1
      · refine hto d t (hnm d _ h1) (.inr ?_) h1
        refine habove d ?_
        have hkq := (lack_none hl).1
        rw [em] at hkq ⊢
        obtain ⟨j, hj, hjn, hjl, rfl⟩ := (mem_pars hm0.good).1 hkq
        obtain ⟨i, hi, hin, hil, rfl⟩ := (mem_pars (good_pre hm0 hj).good).1 hd
        exact (mem_pars hm0.good).2 ⟨i, hi.trans hj, hin, by omega, rfl⟩
    · obtain ⟨t, ht⟩ := hA.above _ _ hm _ hd
      refine hto d t (hnm d _ ht) ?_ ht
      rcases hw with hw | hw
      · exact .inl hw
      · refine .inr ?_
        cases hwd : withinF d p with
        | false => rfl
        | true =>
          obtain ⟨⟨l, e, hl⟩, _⟩ := hA.clean k n hm
          rw [e] at hd hw
          obtain ⟨j, hj, hjn, hjl, rfl⟩ := (mem_pars hl.good).1 hd
          rw [ek] at hwd hw
          have h1 := (Pth.within_iff (good_pre hl hj).good hk0.good).1 hwd
          rw [(Pth.within_iff hl.good hk0.good).2 (h1.trans hj)] at hw; cases hw
  · rw [hcs, hms]
    cases stays with
    | true =>
      simp only [if_true] at hsp
      show sizeT A + _ ≤ _
      omega
    | false =>
      simp only [Bool.false_eq_true, if_false] at hsp
      have hAs := hA.size
      have e : restF A p false = A.filter fun x => !withinF x.1 p := rfl
      rw [e, hMs]; omega
  · rw [hcl, hml]
    cases stays with
    | true =>
      simp only [if_true] at hsp
      show A.length + _ + _ ≤ _
      omega
    | false =>
      simp only [Bool.false_eq_true, if_false] at hsp
      have e : restF A p false = A.filter fun x => !withinF x.1 p := rfl
      rw [e, hM]; omega
  · rcases hfrom k n h with hm | ⟨hl, rfl⟩ | ⟨hw, hm⟩
    · obtain ⟨k', m', r, e1, e2, hkr, hmr, e, hold⟩ := hg.keys _ hm
      exact hA.file _ _ hold
    · exact ⟨by simp, fun _ => rfl⟩
    · exact hA.file k n hm
theorem Okay.twoF {A : Tr} (hA : Okay A) (s t : Txt) (stays : Bool) : Okay (twoF A s t stays).1 := by
  unfold Tre.twoF
  split
  · rename_i h0
    split
    · rename_i h1; exact hA.two (clean_of h0) (clean_of h1) stays
    · exact hA
  · exact hA
end Go.Tre
/- Trees of files, plain: what is renamed, and renamed back, is as it was; what is copied stands beside. -/
namespace Go.Tre
open Go.Pth Go.Scr
open Go.Vc (mget mput mdel mget_put mget_mem mget_of_mem mget_none)
theorem two_get {A : Tr} (hA : Okay A) {p q : Txt} (hp : CleanP p) (hq : CleanP q) (y : Yes A p q) (stays : Bool) (k : Txt) : mget (putsF (makeF (restF A p stays) (lackF A q)) (movedF A p q)) k = match mget (movedF A p q) k with
      | some n => some n
      | none => if k ∈ lackF A q then some (true, []) else if stays = true ∨ withinF k p = false then mget A k else none := by
  have hg := goes hA hp hq y.pn y.qn
  rw [mget_putsF k _ _ hg.nodup]
  cases mget (movedF A p q) k with
  | some n => rfl
  | none => dsimp only; rw [mget_makeF, rest_get]
theorem within_self (p : Txt) : withinF p p = true := by simp [withinF]
theorem within_drop {k p : Txt} (h : withinF k p = true) : p ++ k.drop p.length = k := by
  unfold withinF at h
  rw [Bool.or_eq_true, Bool.or_eq_true] at h
  rcases h with (h | h) | h
  · have : p = [] := by simpa using h
    subst this; rfl
  · have : k = p := by simpa using h
    subst this; simp
  · obtain ⟨t, ht⟩ := List.isPrefixOf_iff_prefix.1 h
    rw [← ht]; simp
theorem moved_iff {A : Tr} (hA : Okay A) {p q : Txt} (hp : CleanP p) (hq : CleanP q) (hpn : p ≠ []) (hqn : q ≠ []) (k : Txt) (n : Node) : mget (movedF A p q) k = some n ↔ ∃ i, withinF i p = true ∧ mget A i = some n ∧ k = q ++ i.drop p.length := by
  have hg := goes hA hp hq hpn hqn
  constructor
  · intro h
    obtain ⟨y, hy, e⟩ := List.mem_map.1 (show (k, n) ∈ movedF A p q from mget_mem h)
    rw [List.mem_filter] at hy
    cases e
    exact ⟨y.1, hy.2, mget_of_mem hA.sorted.nodup hy.1, rfl⟩
  · rintro ⟨i, hw, hi, rfl⟩
    refine mget_of_mem hg.nodup ?_
    exact List.mem_map.2 ⟨(i, n), List.mem_filter.2 ⟨mget_mem hi, hw⟩, rfl⟩
/-- where a path goes whose first part is not there -/
structure Far (A : Tr) (d f : Txt) (r : List Txt) : Prop where
  eq : d = glue (f :: r)
  clean : CleanL (f :: r)
  no : mget A f = none
theorem Far.none {A : Tr} (hA : Okay A) {d f : Txt} {r : List Txt} (h : Far A d f r) {k : Txt} {n : Node} (hk : mget A k = some n) : withinF k f = false := by
  cases hw : withinF k f with
  | false => rfl
  | true =>
    obtain ⟨⟨l, e, hl⟩, _⟩ := hA.clean k n hk
    have hf : CleanL [f] := good_pre h.clean ⟨r, rfl⟩
    have ef : f = glue [f] := rfl
    rw [e, ef] at hw
    obtain ⟨t, rfl⟩ := (Pth.within_iff hl.good hf.good).1 hw
    have := below_none hA hl.good (by simp) h.no
    rw [e, this] at hk; cases hk
theorem Far.within {A : Tr} {d f : Txt} {r : List Txt} (h : Far A d f r) {k : Txt} (hk : CleanP k) (hw : withinF k d = true) : withinF k f = true := by
  obtain ⟨l, rfl, hl⟩ := hk
  have hf : CleanL [f] := good_pre h.clean ⟨r, rfl⟩
  have h1 := (Pth.within_iff hl.good h.clean.good).1 (h.eq ▸ hw)
  exact (Pth.within_iff hl.good hf.good).2 (List.IsPrefix.trans ⟨r, rfl⟩ h1)
theorem Far.out {A : Tr} (hA : Okay A) {d f : Txt} {r : List Txt} (h : Far A d f r) {k : Txt} {n : Node} (hk : mget A k = some n) : withinF k d = false := by
  cases hw : withinF k d with
  | false => rfl
  | true =>
    have h1 := h.within (hA.clean k n hk).1 hw
    rw [h.none hA hk] at h1; cases h1
theorem Far.cleanP {A : Tr} {d f : Txt} {r : List Txt} (h : Far A d f r) : CleanP d := ⟨f :: r, h.eq, h.clean⟩
/-- a directory above d is not within d -/
theorem par_out {d e : Txt} (hd : CleanP d) (he : e ∈ pars d) : withinF e d = false := by
  cases hw : withinF e d with
  | false => rfl
  | true =>
    obtain ⟨l, rfl, hl⟩ := hd
    obtain ⟨k, hk, hkn, hkl, rfl⟩ := (mem_pars hl.good).1 he
    have := ((Pth.within_iff (good_pre hl hk).good hl.good).1 hw).length_le
    omega
theorem Far.lack {A : Tr} (hA : Okay A) {d f : Txt} {r : List Txt} (h : Far A d f r) : lackF A d = pars d := by
  unfold lackF
  rw [List.filter_eq_self]
  intro e he
  cases hg : mget A e with
  | none => rfl
  | some n =>
    exfalso
    have := h.none hA hg
    rw [h.eq] at he
    obtain ⟨k, hk, hkn, hkl, rfl⟩ := (mem_pars h.clean.good).1 he
    have hf : CleanL [f] := good_pre h.clean ⟨r, rfl⟩
    have hw : withinF (glue k) (glue [f]) = true := (Pth.within_iff (good_pre h.clean hk).good hf.good).2 (by
      cases k with
      | nil => exact absurd rfl hkn
      | cons z k =>
        obtain ⟨t, ht⟩ := hk
        injection ht with e1 e2
        exact ⟨k, by rw [e1]; rfl⟩)
    rw [show glue [f] = f from rfl, this] at hw; cases hw
/-- renamed -/
structure There (A : Tr) (p d f : Txt) (r : List Txt) : Prop where
  ok : Okay A
  far : Far A d f r
  cp : CleanP p
  yes : Yes A p d
theorem There.get {A : Tr} {p d f : Txt} {r : List Txt} (h : There A p d f r) (stays : Bool) (k : Txt) : mget (putsF (makeF (restF A p stays) (lackF A d)) (movedF A p d)) k = match mget (movedF A p d) k with
      | some n => some n
      | none => if k ∈ pars d then some (true, []) else if stays = true ∨ withinF k p = false then mget A k else none := by
  rw [two_get h.ok h.cp h.far.cleanP h.yes, h.far.lack h.ok]
theorem There.moved {A : Tr} {p d f : Txt} {r : List Txt} (h : There A p d f r) {k : Txt} {n : Node} (hm : mget (movedF A p d) k = some n) : withinF k d = true := by
  obtain ⟨i, hw, hi, rfl⟩ := (moved_iff h.ok h.cp h.far.cleanP h.yes.pn h.yes.qn k n).1 hm
  obtain ⟨⟨l, e, hl⟩, _⟩ := h.ok.clean i n hi
  obtain ⟨kp, ep, hkp⟩ := h.cp
  have hkpn : kp ≠ [] := by rintro rfl; exact h.yes.pn ep
  rw [e, ep] at hw
  obtain ⟨s, rfl⟩ := (Pth.within_iff hl.good hkp.good).1 hw
  rw [e, ep, h.far.eq, glue_move hkpn (by simp)]
  refine (Pth.within_iff ?_ h.far.clean.good).2 (List.prefix_append _ _)
  intro z hz
  rcases List.mem_append.1 hz with hz | hz
  · exact h.far.clean.good z hz
  · exact hl.good z (by simp [hz])
theorem There.pd {A : Tr} {p d f : Txt} {r : List Txt} (h : There A p d f r) : withinF p d = false := by
  cases hg : mget A p with
  | none => exact absurd hg h.yes.pin
  | some n => exact h.far.out h.ok hg
theorem There.p1 {A : Tr} {p d f : Txt} {r : List Txt} (h : There A p d f r) (stays : Bool) : mget (putsF (makeF (restF A p stays) (lackF A d)) (movedF A p d)) p = if stays = true then mget A p else none := by
  rw [h.get]
  have h1 : mget (movedF A p d) p = none := by
    cases hm : mget (movedF A p d) p with
    | none => rfl
    | some n => have := h.moved hm; rw [h.pd] at this; cases this
  have h2 : p ∉ pars d := fun hp => by
    have ha := apart h.ok h.cp h.far.cleanP h.yes.pn h.yes.qn h.yes.pin h.yes.qout h.yes.out
    have := ha.lack p (by rw [h.far.lack h.ok]; exact hp)
    rw [within_self] at this; cases this
  rw [h1]
  dsimp only
  rw [if_neg h2]
  cases stays <;> simp [within_self]
theorem There.d1 {A : Tr} {p d f : Txt} {r : List Txt} (h : There A p d f r) (stays : Bool) : mget (putsF (makeF (restF A p stays) (lackF A d)) (movedF A p d)) d ≠ none := by
  rw [h.get]
  cases hg : mget A p with
  | none => exact absurd hg h.yes.pin
  | some n =>
    have : mget (movedF A p d) d = some n := (moved_iff h.ok h.cp h.far.cleanP h.yes.pn h.yes.qn d n).2 ⟨p, within_self p, hg, by simp⟩
    rw [this]; simp
theorem There.back {A A1 : Tr} {p d f : Txt} {r : List Txt} (h : There A p d f r) (e1 : putsF (makeF (restF A p false) (lackF A d)) (movedF A p d) = A1) (h1 : Okay A1) (k : Txt) : mget (movedF A1 d p) k = if withinF k p = true then mget A k else none := by
  have hget := h.get false
  rw [e1] at hget
  have hd1 := h.d1 false
  rw [e1] at hd1
  have key : ∀ n, mget (movedF A1 d p) k = some n ↔ withinF k p = true ∧ mget A k = some n := by
    intro n
    rw [moved_iff h1 h.far.cleanP h.cp h.yes.qn h.yes.pn]
    constructor
    · rintro ⟨j, hw, hj, rfl⟩
      rw [hget] at hj
      cases hm : mget (movedF A p d) j with
      | some n' =>
        rw [hm] at hj; cases hj
        obtain ⟨i, hwi, hi, rfl⟩ := (moved_iff h.ok h.cp h.far.cleanP h.yes.pn h.yes.qn j _).1 hm
        have : p ++ (d ++ i.drop p.length).drop d.length = i := by rw [List.drop_left]; exact within_drop hwi
        rw [this]; exact ⟨hwi, hi⟩
      | none =>
        rw [hm] at hj
        dsimp only at hj
        split at hj
        · rename_i hl; have := par_out h.far.cleanP hl; rw [this] at hw; cases hw
        · split at hj
          · have := h.far.out h.ok hj; rw [this] at hw; cases hw
          · cases hj
    · rintro ⟨hw, hk⟩
      have hm : mget (movedF A p d) (d ++ k.drop p.length) = some n := (moved_iff h.ok h.cp h.far.cleanP h.yes.pn h.yes.qn _ n).2 ⟨k, hw, hk, rfl⟩
      refine ⟨d ++ k.drop p.length, h.moved hm, ?_, ?_⟩
      · rw [hget, hm]
      · rw [List.drop_left]; exact (within_drop hw).symm
  by_cases hw : withinF k p = true
  · rw [if_pos hw]
    cases hk : mget A k with
    | some n => exact (key n).2 ⟨hw, hk⟩
    | none =>
      cases hm : mget (movedF A1 d p) k with
      | none => rfl
      | some n => have := ((key n).1 hm).2; rw [hk] at this; cases this
  · rw [if_neg hw]
    cases hm : mget (movedF A1 d p) k with
    | none => rfl
    | some n => exact absurd ((key n).1 hm).1 hw
/-- renamed back -/
theorem There.again {A A1 : Tr} {p d f : Txt} {r : List Txt} (h : There A p d f r) (e1 : putsF (makeF (restF A p false) (lackF A d)) (movedF A p d) = A1) (h1 : Okay A1) :
    ∃ A2, twoP A1 d p false = (A2, 0) ∧ Sorted A2 ∧ ∀ k, mget A2 k = if k ∈ pars d then some (true, []) else mget A k := by
  have hget := h.get false
  rw [e1] at hget
  have hd1 := h.d1 false
  rw [e1] at hd1
  have hp1 := h.p1 false
  rw [e1, if_neg (by simp)] at hp1
  have hpar : ∀ e ∈ pars p, ∃ t, mget A1 e = some (true, t) := by
    intro e he
    cases hg : mget A p with
    | none => exact absurd hg h.yes.pin
    | some n =>
      obtain ⟨t, ht⟩ := h.ok.above p n hg e he
      rw [hget]
      have hm : mget (movedF A p d) e = none := by
        cases hm : mget (movedF A p d) e with
        | none => rfl
        | some n => have := h.moved hm; rw [h.far.out h.ok ht] at this; cases this
      rw [hm]
      dsimp only
      split
      · exact ⟨_, rfl⟩
      · rw [if_pos (.inr (par_out h.cp he))]; exact ⟨t, ht⟩
  have hfile : fileF A1 p = false := by
    unfold fileF
    rw [List.any_eq_false]
    intro e he
    obtain ⟨t, ht⟩ := hpar e he
    rw [ht]; simp
  have hlack : lackF A1 p = [] := by
    unfold lackF
    rw [List.filter_eq_nil_iff]
    intro e he
    obtain ⟨t, ht⟩ := hpar e he
    rw [ht]; simp
  have hback := h.back e1 h1
  have hgb := goes h1 h.far.cleanP h.cp h.yes.qn h.yes.pn
  have hbad : badM (movedF A1 d p) = false := by
    unfold badM
    rw [List.any_eq_false]
    intro x hx
    have hm := mget_of_mem hgb.nodup (show (x.1, x.2) ∈ _ from hx)
    rw [hback] at hm
    split at hm
    · have := (h.ok.clean x.1 x.2 hm).1.id
      rw [this]; simp
    · cases hm
  have hpl : planF A1 d p = 0 := by
    unfold planF
    rw [if_neg (fun e => hd1 e.2), if_neg (by rw [h.pd]; simp [h.yes.qn]), if_neg (by rw [hp1]; simp [h.yes.pn]), if_neg (by rw [hfile]; simp), if_neg (by rw [hbad]; simp)]
  have hc := h1.count
  have hs := h1.size
  refine ⟨putsF (makeF (restF A1 d false) (lackF A1 p)) (movedF A1 d p), ?_, ?_, fun k => ?_⟩
  · rw [two_plan, if_pos hpl, hlack, if_neg (by simp; omega)]
  · exact putsF_sorted _ (makeF_sorted _ (rest_sorted h1.sorted _ _))
  · rw [two_get h1 h.far.cleanP h.cp (plan_yes hpl), hback, hlack, hget]
    by_cases hw : withinF k p = true
    · rw [if_pos hw]
      have hnl : k ∉ pars d := fun hk => by
        have ha := apart h.ok h.cp h.far.cleanP h.yes.pn h.yes.qn h.yes.pin h.yes.qout h.yes.out
        have := ha.lack k (by rw [h.far.lack h.ok]; exact hk)
        rw [hw] at this; cases this
      simp only [if_neg hnl]
      cases hk : mget A k with
      | some n => rfl
      | none =>
        dsimp only
        rw [if_neg (by simp)]
        by_cases hwd : withinF k d = false
        · rw [if_pos (.inr hwd)]
          have hm : mget (movedF A p d) k = none := by
            cases hm : mget (movedF A p d) k with
            | none => rfl
            | some n => have := h.moved hm; rw [hwd] at this; cases this
          rw [hm]
          dsimp only
          split <;> rfl
        · rw [if_neg (by simpa using hwd)]
    · rw [if_neg hw]
      dsimp only
      rw [if_neg (by simp)]
      have hwf : withinF k p = false := by simpa using hw
      by_cases hwd : withinF k d = true
      · rw [if_neg (by rw [hwd]; simp)]
        have hnl : k ∉ pars d := fun hk => by rw [par_out h.far.cleanP hk] at hwd; cases hwd
        rw [if_neg hnl]
        cases hk : mget A k with
        | none => rfl
        | some n => have := h.far.out h.ok hk; rw [hwd] at this; cases this
      · have hwd : withinF k d = false := by simpa using hwd
        rw [if_pos (.inr hwd)]
        have hm : mget (movedF A p d) k = none := by
          cases hm : mget (movedF A p d) k with
          | none => rfl
          | some n => have := h.moved hm; rw [hwd] at this; cases this
        rw [hm]
        dsimp only
        by_cases hl : k ∈ pars d
        · rw [if_pos hl, if_pos hl]
        · rw [if_neg hl, if_neg hl, if_pos (.inr hwf)]
/-- and what was made for it taken away -/
theorem There.clear {A A2 : Tr} {p d f : Txt} {r : List Txt} (h : There A p d f r) (hs : Sorted A2) (hg : ∀ k, mget A2 k = if k ∈ pars d then some (true, []) else mget A k) : (if r = [] then A2 else (removeF A2 f).1) = A := by
  by_cases hr : r = []
  · rw [if_pos hr]
    refine sorted_ext hs h.ok.sorted fun k => ?_
    rw [hg]
    have : pars d = [] := by
      rw [h.far.eq, hr]
      rw [List.eq_nil_iff_forall_not_mem]
      intro e he
      obtain ⟨k, hk, hkn, hkl, _⟩ := (mem_pars (by have := h.far.clean.good; rw [hr] at this; exact this)).1 he
      cases k with
      | nil => exact hkn rfl
      | cons z k => simp at hkl
    rw [this, if_neg (by simp)]
  · rw [if_neg hr]
    have hf : CleanL [f] := good_pre h.far.clean ⟨r, rfl⟩
    have hcf : CleanP f := ⟨[f], rfl, hf⟩
    have hfn : f ≠ [] := (h.far.clean.good f (by simp)).ne
    have hfp : f ∈ pars d := by
      rw [h.far.eq]
      refine (mem_pars h.far.clean.good).2 ⟨[f], ⟨r, rfl⟩, by simp, ?_, rfl⟩
      have := List.length_pos_iff.2 hr
      simp; omega
    have hA2f : mget A2 f = some (true, []) := by rw [hg, if_pos hfp]
    unfold removeF
    rw [hcf.id, if_pos rfl, if_neg hfn, if_neg (by rw [hA2f]; simp)]
    refine sorted_ext (List.Pairwise.sublist List.filter_sublist hs) h.ok.sorted fun k => ?_
    rw [mget_filter (fun x => !withinF x f), hg]
    by_cases hw : withinF k f = true
    · rw [if_neg (by rw [hw]; simp)]
      cases hk : mget A k with
      | none => rfl
      | some n => rw [h.far.none h.ok hk] at hw; cases hw
    · rw [if_pos (by simpa using hw)]
      have : k ∉ pars d := fun hk => hw (by
        rw [h.far.eq] at hk
        obtain ⟨j, hj, hjn, hjl, rfl⟩ := (mem_pars h.far.clean.good).1 hk
        refine (Pth.within_iff (good_pre h.far.clean hj).good hf.good).2 ?_
        cases j with
        | nil => exact absurd rfl hjn
        | cons z j =>
          obtain ⟨t, ht⟩ := hj
          injection ht with e1 e2
          exact ⟨j, by rw [e1]; rfl⟩)
      rw [if_neg this]
end Go.Tre
/- Trees of files, plain: what TreeMoves asks. -/
namespace Go.Tre
open Go.Pth Go.Scr
open Go.Vc (mget mput mdel mget_put mget_mem mget_of_mem mget_none)
theorem two_stay {A : Tr} {s t : Txt} {stays : Bool} (h : (twoF A s t stays).2 ≠ 0) : (twoF A s t stays).1 = A := by
  unfold Tre.twoF at h ⊢
  by_cases h0 : (cleanF s).2 = 0
  · rw [if_pos h0] at h ⊢
    by_cases h1 : (cleanF t).2 = 0
    · rw [if_pos h1] at h ⊢
      rw [two_plan] at h ⊢
      by_cases h2 : planF A (cleanF s).1 (cleanF t).1 = 0
      · rw [if_pos h2] at h ⊢
        by_cases h3 : 500 < A.length + ((lackF A (cleanF t).1).length + if stays = true then (movedF A (cleanF s).1 (cleanF t).1).length else 0) ∨ 1048576 < sizeT A + (if stays = true then sizeT (movedF A (cleanF s).1 (cleanF t).1) else 0)
        · rw [if_pos h3]
        · rw [if_neg h3] at h; exact absurd rfl h
      · rw [if_neg h2]
    · rw [if_neg h1]
  · rw [if_neg h0]
theorem two_yes {A : Tr} {s t : Txt} {stays : Bool} (h : (twoF A s t stays).2 = 0) : (cleanF s).2 = 0 ∧ (cleanF t).2 = 0 ∧ Yes A (cleanF s).1 (cleanF t).1 ∧ (twoF A s t stays).1 = putsF (makeF (restF A (cleanF s).1 stays) (lackF A (cleanF t).1)) (movedF A (cleanF s).1 (cleanF t).1) := by
  unfold Tre.twoF at h ⊢
  by_cases h0 : (cleanF s).2 = 0
  · rw [if_pos h0] at h ⊢
    by_cases h1 : (cleanF t).2 = 0
    · rw [if_pos h1] at h ⊢
      rw [two_plan] at h ⊢
      by_cases h2 : planF A (cleanF s).1 (cleanF t).1 = 0
      · rw [if_pos h2] at h ⊢
        by_cases h3 : 500 < A.length + ((lackF A (cleanF t).1).length + if stays = true then (movedF A (cleanF s).1 (cleanF t).1).length else 0) ∨ 1048576 < sizeT A + (if stays = true then sizeT (movedF A (cleanF s).1 (cleanF t).1) else 0)
        · rw [if_pos h3] at h; cases h
        · rw [if_neg h3]
          exact ⟨h0, h1, plan_yes h2, rfl⟩
      · rw [if_neg h2] at h; exact absurd h h2
    · rw [if_neg h1] at h; exact absurd h h1
  · rw [if_neg h0] at h; exact absurd h h0
theorem far_of {A : Tr} {d f : Txt} {r : List Txt} (hd : CleanP d) (he : partsF d = f :: r) (hno : existsF A f = false) : Far A d f r := by
  obtain ⟨l, e, hl⟩ := hd
  rw [e, parts_glue hl.good] at he
  subst he
  have hf : CleanL [f] := good_pre hl ⟨r, rfl⟩
  have hcf : CleanP f := ⟨[f], rfl, hf⟩
  refine ⟨e, hl, ?_⟩
  unfold existsF at hno
  rw [hcf.id] at hno
  simp at hno
  exact hno.2
/-- what TreeMoves asks of a rename -/
structure Ren (A : Tr) (p q f : Txt) (r : List Txt) (A2 : Tr) : Prop where
  gone : existsF (twoF A p q false).1 p = false
  there : existsF (twoF A p q false).1 q = true
  back : twoF (twoF A p q false).1 q p false = (A2, 0)
  clear : (if r = [] then A2 else (removeF A2 f).1) = A
theorem ren_of {A : Tr} (hA : Okay A) {p q f : Txt} {r : List Txt} (hqr : partsF (cleanF q).1 = f :: r) (hno : existsF A f = false) (hc : (twoF A p q false).2 = 0) : ∃ A2, Okay A2 ∧ Ren A p q f r A2 := by
  obtain ⟨h0, h1, y, e⟩ := two_yes hc
  have hd := clean_of h1
  have hp := clean_of h0
  have h : There A (cleanF p).1 (cleanF q).1 f r := ⟨hA, far_of hd hqr hno, hp, y⟩
  have hok := hA.twoF p q false
  have hp1 := h.p1 false
  have hd1 := h.d1 false
  obtain ⟨A2, hA2, hs, hg⟩ := h.again e.symm hok
  rw [← e] at hp1 hd1
  rw [if_neg (by simp)] at hp1
  have hb : twoF (twoF A p q false).1 q p false = (A2, 0) := by
    show (if (cleanF q).2 = 0 then (if (cleanF p).2 = 0 then twoP (twoF A p q false).1 (cleanF q).1 (cleanF p).1 false else _) else _) = _
    rw [if_pos h1, if_pos h0, hA2]
  have hok2 := hok.twoF q p false
  rw [hb] at hok2
  refine ⟨A2, hok2, ?_, ?_, hb, h.clear hs hg⟩
  · unfold existsF
    rw [h0, hp1]
    simp [y.pn]
  · unfold existsF
    rw [h1]
    cases hh : mget (twoF A p q false).1 (cleanF q).1 with
    | none => exact absurd hh hd1
    | some n => simp
/-- what TreeMoves asks of a copy -/
structure Cop (B : Tr) (p q : Txt) : Prop where
  old : existsF B p = true
  new : existsF B q = true
  rem : (removeF B q).2 = 0
  stays : existsF (removeF B q).1 p = true
theorem cop_of {A : Tr} (hA : Okay A) {p q f : Txt} {r : List Txt} (hqr : partsF (cleanF q).1 = f :: r) (hno : existsF A f = false) (hc : (twoF A p q true).2 = 0) : Cop (twoF A p q true).1 p q := by
  obtain ⟨h0, h1, y, e⟩ := two_yes hc
  have hd := clean_of h1
  have hp := clean_of h0
  have h : There A (cleanF p).1 (cleanF q).1 f r := ⟨hA, far_of hd hqr hno, hp, y⟩
  have hp1 := h.p1 true
  have hd1 := h.d1 true
  rw [← e] at hp1 hd1
  rw [if_pos rfl] at hp1
  generalize (twoF A p q true).1 = B at *
  have hpB : ∃ n, mget B (cleanF p).1 = some n := by
    rw [hp1]
    cases hh : mget A (cleanF p).1 with
    | none => exact absurd hh y.pin
    | some n => exact ⟨n, rfl⟩
  obtain ⟨n, hn⟩ := hpB
  have hr : removeF B q = (B.filter fun x => !withinF x.1 (cleanF q).1, 0) := by
    unfold removeF
    rw [if_pos h1, if_neg y.qn, if_neg hd1]
  refine ⟨?_, ?_, by rw [hr], ?_⟩
  · unfold existsF; rw [h0, hn]; simp
  · unfold existsF; rw [h1]
    cases hh : mget B (cleanF q).1 with
    | none => exact absurd hh hd1
    | some n => simp
  · rw [hr]
    unfold existsF
    rw [h0]
    show (_ && (_ || (mget (B.filter fun x => !withinF x.1 (cleanF q).1) (cleanF p).1).isSome)) = true
    rw [mget_filter (fun x => !withinF x (cleanF q).1), h.pd, hn]; simp
theorem parent_nil {d f : Txt} {r : List Txt} (hd : CleanP d) (he : partsF d = f :: r) : parentF d = [] ↔ r = [] := by
  obtain ⟨l, e, hl⟩ := hd
  rw [e, parts_glue hl.good] at he
  subst he
  rw [e, parent_glue hl.good]
  constructor
  · intro h
    refine Classical.byContradiction fun hr => ?_
    have : (f :: r).dropLast ≠ [] := by
      cases r with
      | nil => exact absurd rfl hr
      | cons z r => simp
    exact glue_nil (fun y hy => hl.good y (List.dropLast_subset _ hy)) this h
  · rintro rfl; rfl
end Go.Tre
/- Scripts of acts on trees: what they are in a heap, as parameters; which are light. -/
namespace Go.Vc
theorem flat_get {k : Nat} : ∀ {L : List (List Value)} {i j : Nat} {c : List Value} {v : Value}, (∀ c ∈ L, c.length = k) → L[i]? = some c → c[j]? = some v → L.flatten[i * k + j]? = some v
  | [], i, j, c, v, _, h, _ => by cases h
  | d :: L, 0, j, c, v, hk, h, hv => by
    have : d = c := by simpa using h
    subst this
    rw [Nat.zero_mul, Nat.zero_add, List.flatten_cons, List.getElem?_append_left (List.getElem?_eq_some_iff.1 hv).1]; exact hv
  | d :: L, i + 1, j, c, v, hk, h, hv => by
    have hd := hk d (by simp)
    rw [List.flatten_cons, List.getElem?_append_right (by rw [hd, Nat.add_mul]; omega), hd, show (i + 1) * k + j - k = i * k + j by rw [Nat.add_mul]; omega]
    exact flat_get (fun c hc => hk c (by simp [hc])) (by simpa using h) hv
end Go.Vc
namespace Go.Proofs.YtihopeogaeinhaaGreatDoor
open Go Go.Vc Go.Scr Go.Pth Go.Tre Go.ChangeShapes Go.WideShapes Go.RowKit
structure ActT where
  w : UInt8
  p : Bs
  q : Bs
  b : Bs
def actC (x : ActT) (a : Option Addr) (cap : Nat) : List Value := [.int .u8 x.w.toNat, .string (mkS x.p), .string (mkS x.q), .slice a x.b.length cap]
/-- an act's cells -/
structure ActR (H : Heap) (x : ActT) (c : List Value) : Prop where
  out : ∃ a cap, c = actC x a cap ∧ Row H a (strV x.b) ∧ x.b.length ≤ cap
theorem ActR.ext {H H' : Heap} {x : ActT} {c : List Value} (h : ActR H x c) (k : Ext H H') : ActR H' x c := let ⟨a, cap, h1, h2, h3⟩ := h.out; ⟨a, cap, h1, h2.ext k, h3⟩
structure RowA (H : Heap) (a : Option Addr) (l : List ActT) : Prop where
  out : ∃ L : List (List Value), Row H a L.flatten ∧ L.length = l.length ∧ ∀ (i : Nat) x, l[i]? = some x → ∃ c, L[i]? = some c ∧ ActR H x c
  four : ∀ L : List (List Value), True
theorem RowA.ext {H H' : Heap} {a : Option Addr} {l : List ActT} (h : RowA H a l) (k : Ext H H') : RowA H' a l := by
  obtain ⟨L, h1, h2, h3⟩ := h.out
  exact ⟨⟨L, h1.ext k, h2, fun i x hx => let ⟨c, g1, g2⟩ := h3 i x hx; ⟨c, g1, g2.ext k⟩⟩, fun _ => trivial⟩
theorem IdxA.act {H : Heap} {a : Option Addr} {l : List ActT} {n : Nat} {i : Int} {K : Addr → Prop} (h : RowA H a l) (hn : l.length = n) (j : Nat) (x : ActT) (hi : i = j) (hx : l[j]? = some x)
    (hk : ∀ b o a' cap', Row H a' (strV x.b) → x.b.length ≤ cap' → (∀ k v, (actC x a' cap')[k]? = some v → hcell H ⟨b, o + k, none⟩ = some v) → K ⟨b, o, none⟩) : IdxA a n 4 i K := by
  obtain ⟨L, h1, h2, h3⟩ := h.out
  have hj := (List.getElem?_eq_some_iff.1 hx).1
  obtain ⟨c, hc, hr⟩ := h3 j x hx
  have hall : ∀ c ∈ L, c.length = 4 := by
    intro d hd
    obtain ⟨m, hm⟩ := List.mem_iff_getElem?.1 hd
    have hml := (List.getElem?_eq_some_iff.1 hm).1
    obtain ⟨y, hy⟩ : ∃ y, l[m]? = some y := ⟨_, List.getElem?_eq_getElem (by omega)⟩
    obtain ⟨d', hd', hr'⟩ := h3 m y hy
    rw [hm] at hd'; cases hd'
    obtain ⟨_, _, rfl, _⟩ := hr'.out
    rfl
  obtain ⟨a', cap', rfl, hrow, hcap⟩ := hr.out
  have hg := fun k v (hv : (actC x a' cap')[k]? = some v) => flat_get hall hc hv
  obtain ⟨b, o, ha, _, hcell⟩ := h1.at (by
    have := hg 0 _ rfl
    exact Nat.lt_of_le_of_lt (Nat.zero_le _) (List.getElem?_eq_some_iff.1 this).1)
  subst hi
  refine ⟨by omega, by omega, ⟨b, o, none⟩, ha, ?_⟩
  rw [addk, Int.toNat_natCast]
  refine hk b (o + j * 4) a' cap' hrow hcap fun k v hv => ?_
  rw [Nat.add_assoc]
  exact hcell _ _ (hg k v hv)
theorem SemH.load_act {H : Heap} {b o : Nat} {x : ActT} {a : Option Addr} {cap : Nat} {K : Value → Heap → Prop} (hc : ∀ k v, (actC x a cap)[k]? = some v → hcell H ⟨b, o + k, none⟩ = some v) (hk : K (.agg #[.int .u8 x.w.toNat, .string (mkS x.p), .string (mkS x.q), .slice a x.b.length cap]) H) : SemH Tryz.prog (Instr.loadAt 73 (.pointer (some ⟨b, o, none⟩))) H K := by
  have := Go.Vc.SemH.load_agg (P := Tryz.prog) (t := 73) (H := H) (b := b) (o := o) (vs := actC x a cap) (K := K) rfl rfl rfl hc hk
  exact this
section
variable {H : Type} {enc : TypeId × Value → H} {w : World} {base : Nat} {sp : Nat → Bool} {held : Bool}
theorem read_acts {fuel : Nat} {cs : List Value} {x : DataW H × List MemPlace} (h : DataW.trod enc Tryz.prog w base sp held fuel 70 cs = some x) :
    ∃ (a : Option Addr) (n cap : Nat) (L : List ActT), cs = [.slice a n cap] ∧ L.length = n ∧ n ≤ cap ∧ cap ≤ maxLen ∧ RowA w.heap a L := by
  obtain ⟨a, n, cap, vs, rfl, hl, hn, hm, hr, _, hel⟩ := read_wide (P := Tryz.prog) (e := 73) (k := 4) rfl (by kernel_rfl) (by decide) h
  obtain ⟨L, rfl, hL, hq⟩ := cut_wide (k := 4) (by decide) (Q := fun c => ∃ m y, DataW.trod enc Tryz.prog w base sp held m 73 c = some y) n vs hl hel
  have : ∀ L : List (List Value), (∀ c ∈ L, c.length = 4 ∧ ∃ m y, DataW.trod enc Tryz.prog w base sp held m 73 c = some y) → ∃ A : List ActT, L.length = A.length ∧ ∀ (i : Nat) x, A[i]? = some x → ∃ c, L[i]? = some c ∧ ActR w.heap x c := by
    intro L
    induction L with
    | nil => intro _; exact ⟨[], rfl, fun i x hx => by cases hx⟩
    | cons c L ih =>
      intro hq
      obtain ⟨A, hA, hF⟩ := ih fun c hc => hq c (by simp [hc])
      obtain ⟨hc3, m, y, hy⟩ := hq c (by simp)
      obtain ⟨xs, k, _, _, _, hlen, hf⟩ := DataW.trod_struct (P := Tryz.prog) (t := 73) rfl hy
      have g0 := hf 0 _ rfl
      have g1 := hf 1 _ rfl
      have g2 := hf 2 _ rfl
      have g3 := hf 3 _ rfl
      match xs, hlen, c, hc3 with
      | [y0, y1, y2, y3], _, [u0, u1, u2, u3], _ =>
        obtain ⟨z, e0, _, hw⟩ := DataW.trod_int (P := Tryz.prog) rfl g0
        obtain ⟨s, e1, _⟩ := DataW.trod_string (P := Tryz.prog) rfl g1
        obtain ⟨t, e2, _⟩ := DataW.trod_string (P := Tryz.prog) rfl g2
        obtain ⟨a', n', cap', l', e3, hl', hn', hm', hr', _⟩ := read_bytes (P := Tryz.prog) (e := 5) rfl rfl (by kernel_rfl) g3
        have e0 : u0 = .int .u8 z := by
          have : [u0] = [Value.int .u8 z] := e0
          injection this
        have e1 : u1 = .string s := by
          have : [u1] = [Value.string s] := e1
          injection this
        have e2 : u2 = .string t := by
          have : [u2] = [Value.string t] := e2
          injection this
        have e3 : u3 = .slice a' n' cap' := by
          have : [u3] = [Value.slice a' n' cap'] := e3
          injection this
        have hz : z = ((UInt8.ofNat z.toNat).toNat : Int) := by
          have h2 : 0 ≤ z ∧ z ≤ 255 := by
            simp [Lit.wf, IntKind.min, IntKind.max, IntKind.signed, IntKind.bits] at hw
            omega
          rw [UInt8.toNat_ofNat']; omega
        refine ⟨⟨UInt8.ofNat z.toNat, s.data.toList, t.data.toList, l'⟩ :: A, by simp [hA], fun i x hx => ?_⟩
        cases i with
        | zero =>
          have : x = ⟨UInt8.ofNat z.toNat, s.data.toList, t.data.toList, l'⟩ := by simpa using hx.symm
          subst this
          refine ⟨_, rfl, a', cap', ?_, hr', by rw [hl']; exact hn'⟩
          unfold actC
          rw [mkS_data, mkS_data, ← hz, e0, e1, e2, e3, ← hl']
        | succ i => exact hF i x (by simpa using hx)
  obtain ⟨A, hA, hF⟩ := this L hq
  exact ⟨a, n, cap, A, rfl, by rw [← hA, hL], hn, hm, ⟨⟨L, hr, hA, hF⟩, fun _ => trivial⟩⟩
end
def lightA (L : List ActT) : Bool := decide (L.length ≤ 40) && L.all fun f => decide (f.p.length ≤ 250) && decide (f.q.length ≤ 250) && decide (f.b.length ≤ 200)
theorem lightA_iff (L : List ActT) : lightA L = true ↔ L.length ≤ 40 ∧ ∀ f ∈ L, (f.p.length ≤ 250 ∧ f.q.length ≤ 250) ∧ f.b.length ≤ 200 := by
  unfold lightA
  simp [List.all_eq_true]
theorem lightA_any (L : List ActT) (a : Option Addr) (n cap : Nat) (H : Heap) (hr : RowA H a L) (hn : L.length = n) : CallH Tryz.prog 41 [.slice a n cap] H fun v H' => v = .bool (lightA L) ∧ H = H' := by
  refine Vc.CallH.body Tryz.func41 Tryz.call41 rfl (by decide +kernel) rfl ?_
  by_cases h40 : n ≤ 40
  · ((conv => whnf); repeat (any_goals (first | (refine Vc.stp ?_; intros; (conv => whnf)) | (refine Vc.spl ?_ ?_ <;> (intro _; (conv => whnf))))))
    refine LoopH.intro (fun (i : Nat) => [(3, .int .i64 i)]) (fun i H' => H = H' ∧ i ≤ n ∧ ∀ f ∈ L.take i, (f.p.length ≤ 250 ∧ f.q.length ≤ 250) ∧ f.b.length ≤ 200) (fun i => n - i) 0 ⟨rfl, trivial⟩ ⟨rfl, Nat.zero_le _, by (show ∀ f ∈ L.take 0, _; rw [List.take_zero]; intro f hf; cases hf)⟩ ?_
    rintro i _ ⟨rfl, hi, hall⟩
    by_cases hlt : i < n
    · obtain ⟨f, hf⟩ : ∃ f, L[i]? = some f := ⟨_, List.getElem?_eq_getElem (by omega)⟩
      have hm := List.mem_of_getElem? hf
      have hs1 : (mkS f.p).size = f.p.length := rfl
      have hs2 : (mkS f.q).size = f.q.length := rfl
      have hno : ¬ ((f.p.length ≤ 250 ∧ f.q.length ≤ 250) ∧ f.b.length ≤ 200) → lightA L = false := fun h => by
        rw [Bool.eq_false_iff]; intro h'; exact h ((lightA_iff L).1 h' |>.2 f hm)
      by_cases h1 : f.p.length ≤ 250
      · by_cases h2 : f.q.length ≤ 250
        · by_cases h3 : f.b.length ≤ 200
          · ((conv => whnf); repeat (any_goals (first | ((refine IdxA.act hr hn i f (by omega) hf ?_; intro bi oi ai ci hri hca hci; have hc0 := hci 0 _ rfl; have hc1 := hci 1 _ rfl; have hc2 := hci 2 _ rfl; have hc3 := hci 3 _ rfl); (conv => whnf)) | (refine Vc.stp ?_; intros; (conv => whnf)) | (refine Vc.spl ?_ ?_ <;> (intro _; (conv => whnf))))))
            refine ⟨i + 1, ⟨rfl, trivial⟩, ⟨rfl, by omega, ?_⟩, by omega⟩
            rw [List.take_add_one, hf]
            intro g hg
            rcases List.mem_append.1 hg with hg | hg
            · exact hall g hg
            · rw [List.mem_singleton.1 hg]; exact ⟨⟨h1, h2⟩, h3⟩
          · rw [hno fun h => h3 h.2]
            ((conv => whnf); repeat (any_goals (first | ((refine IdxA.act hr hn i f (by omega) hf ?_; intro bi oi ai ci hri hca hci; have hc0 := hci 0 _ rfl; have hc1 := hci 1 _ rfl; have hc2 := hci 2 _ rfl; have hc3 := hci 3 _ rfl); (conv => whnf)) | (refine Vc.stp ?_; intros; (conv => whnf)) | (refine Vc.spl ?_ ?_ <;> (intro _; (conv => whnf))))))
            exact ⟨rfl, rfl⟩
        · rw [hno fun h => h2 h.1.2]
          ((conv => whnf); repeat (any_goals (first | ((refine IdxA.act hr hn i f (by omega) hf ?_; intro bi oi ai ci hri hca hci; have hc0 := hci 0 _ rfl; have hc1 := hci 1 _ rfl; have hc2 := hci 2 _ rfl; have hc3 := hci 3 _ rfl); (conv => whnf)) | (refine Vc.stp ?_; intros; (conv => whnf)) | (refine Vc.spl ?_ ?_ <;> (intro _; (conv => whnf))))))
          exact ⟨rfl, rfl⟩
      · rw [hno fun h => h1 h.1.1]
        ((conv => whnf); repeat (any_goals (first | ((refine IdxA.act hr hn i f (by omega) hf ?_; intro bi oi ai ci hri hca hci; have hc0 := hci 0 _ rfl; have hc1 := hci 1 _ rfl; have hc2 := hci 2 _ rfl; have hc3 := hci 3 _ rfl); (conv => whnf)) | (refine Vc.stp ?_; intros; (conv => whnf)) | (refine Vc.spl ?_ ?_ <;> (intro _; (conv => whnf))))))
        exact ⟨rfl, rfl⟩
    · obtain rfl : i = n := by omega
      have ht : lightA L = true := (lightA_iff L).2 ⟨by omega, fun f hf => hall f (by rw [List.take_of_length_le (by omega)]; exact hf)⟩
      rw [ht]
      ((conv => whnf); repeat (any_goals (first | (refine Vc.stp ?_; intros; (conv => whnf)) | (refine Vc.spl ?_ ?_ <;> (intro _; (conv => whnf))))))
      exact ⟨rfl, rfl⟩
  · have hfa : lightA L = false := by
      rw [Bool.eq_false_iff]; intro h; have := ((lightA_iff L).1 h).1; omega
    rw [hfa]
    ((conv => whnf); repeat (any_goals (first | (refine Vc.stp ?_; intros; (conv => whnf)) | (refine Vc.spl ?_ ?_ <;> (intro _; (conv => whnf))))))
    exact ⟨rfl, rfl⟩
end Go.Proofs.YtihopeogaeinhaaGreatDoor
