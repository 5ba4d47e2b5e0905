import Derived.Test.YtihopeogaeinhaaGreatDoorHp
import Derived.Laws.IdiomStrings
import Derived.Laws.BytesString
import Derived.Stop.BytesEq
set_option linter.unusedSimpArgs false
set_option linter.unusedVariables false
set_option linter.unusedSimpArgs false
set_option maxRecDepth 100000
/- Heaps, more: make, copy, strings and bytes, equality. -/
namespace Go.Vc
variable {P : Program} {H H' : Heap}

/- ---------- strings and bytes ---------- -/
theorem strV_length (l : List UInt8) : (strV l).length = l.length := by simp [strV]
theorem strV_append (l m : List UInt8) : strV (l ++ m) = strV l ++ strV m := by simp [strV]
theorem strV_take (l : List UInt8) (k : Nat) : (strV l).take k = strV (l.take k) := by simp [strV]
theorem strV_drop (l : List UInt8) (k : Nat) : (strV l).drop k = strV (l.drop k) := by simp [strV]
theorem strV_plain (l : List UInt8) : ∀ u ∈ strV l, plainV u = true := by
  intro u hu; obtain ⟨b, _, rfl⟩ := List.mem_map.1 hu; rfl
theorem strV_get {l : List UInt8} {j : Nat} (h : j < l.length) : (strV l)[j]? = some (.int .u8 (l.getD j 0).toNat) := by
  simp [strV, h]

theorem SemH.to_string {s d e : TypeId} {a : Option Addr} {c : Nat} {l : List UInt8} {K : Value → Heap → Prop} (hs : P.underlying s = some (.slice e)) (he : P.underlying e = some (.int .u8)) (hd : P.underlying d = some .string)
    (hr : Row H a (strV l)) (hk : K (.string ⟨l.toArray⟩) H) : SemH P (convert s d (.slice a l.length c)) H K := by
  refine ⟨fun w hw => ⟨_, w, ?_, Same.refl w, hw ▸ hk⟩⟩
  cases a with
  | none =>
    rcases hr.out with h | ⟨_, _, ha, _⟩
    · have : l = [] := by simpa [strV] using h
      subst this
      simp [convert, underlying_of hs, underlying_of hd, underlying_of he, Conv.bytesToString]
      rfl
    · cases ha
  | some p =>
    by_cases h0 : l = []
    · subst h0
      exact run_convert_bytes_back w s d e p c [] hs he hd (fun j hj => by simp at hj)
    · rcases hr.out with h | ⟨b, o, ha, h⟩
      · exact absurd (by simpa [strV] using h) h0
      · cases ha
        refine run_convert_bytes_back w s d e _ c l hs he hd (fun j hj => ?_)
        rw [addk, cell_heap, hw]
        refine h j _ ?_
        rw [strV_get hj]; simp [hj]

theorem SemH.of_string {s d e : TypeId} {t : ByteArray} {K : Value → Heap → Prop} (hs : P.underlying s = some .string) (hd : P.underlying d = some (.slice e)) (he : P.underlying e = some (.int .u8)) (hm : t.size ≤ maxLen)
    (hk : ∀ cap H', Own H' H.size e 1 (some ⟨H.size, 0, none⟩) t.size cap (strV t.data.toList) → Ext H H' → K (.slice (some ⟨H.size, 0, none⟩) t.size cap) H') : SemH P (convert s d (.string t)) H K := by
  refine ⟨fun w hw => ⟨_, _, run_bytes_of_string w s d e t hs hd he, ⟨rfl, rfl, rfl⟩, ?_⟩⟩
  subst hw
  have hge := grownCap_ge w t.size 0 e
  have hcm : grownCap w t.size 0 e ≤ maxLen := grownCap_le_maxLen w t.size 0 e hm
  have hsz : (bytesRow t (grownCap w t.size 0 e)).size = grownCap w t.size 0 e := by
    have : t.data.size = t.size := rfl
    simp [bytesRow, this]; omega
  refine hk _ _ ⟨by simp [strV], .inr ⟨_, bytesRow t (grownCap w t.size 0 e), rfl, Nat.le_refl _, ⟨_, push_last _ _, .inr (Nat.le_refl _)⟩, hge, hcm, by rw [hsz]; simp, ?_⟩⟩ (Only.push _ _ _)
  have : t.data.toList.length = t.size := by simp
  simp [bytesRow, strV, this]

/- ---------- make, copy ---------- -/
theorem SemH.make {t e : TypeId} {i : TypeInfo} {z : Value} {kl kc : IntKind} {n : Nat} {K : Value → Heap → Prop} (ht : P.underlying t = some (.slice e)) (hi : P.info? e = some i) (hz : i.zero = some z) (hb : i.bytes * n ≤ 281474976710656) (hm : n ≤ maxLen)
    (hk : ∀ H', Own H' H.size e i.size (some ⟨H.size, 0, none⟩) n n (madeCells z.cells (n * i.size)).toList → Ext H H' → K (.slice (some ⟨H.size, 0, none⟩) n n) H') : SemH P (Instr.makeSlice t (.int kl n) (.int kc n)) H K := by
  refine ⟨fun w hw => ?_⟩
  have h63' : (n : Int) ≤ 9223372036854775807 := by
    have h := hm
    simp [maxLen] at h
    omega
  have hb' : (i.bytes : Int) * (n : Int) ≤ 281474976710656 := by
    have h : ((i.bytes * n : Nat) : Int) ≤ 281474976710656 := by omega
    rwa [Int.natCast_mul] at h
  have hr := run_make (P := P) w t e i z ht hi hz kl kc n n (by omega) (Int.le_refl _) hb' h63'
  simp only [Int.toNat_natCast] at hr
  subst hw
  have hl : (madeCells z.cells (n * i.size)).size = n * i.size := size_madeCells _ _
  exact ⟨_, _, hr, ⟨rfl, rfl, rfl⟩, hk _ ⟨by simpa using hl, .inr ⟨_, _, rfl, Nat.le_refl _, Blk.new (push_last _ _), Nat.le_refl _, hm, hl, by rw [List.take_of_length_le (by simp [hl])]⟩⟩ (Only.push _ _ _)⟩

/-- copy into a block that is known whole -/
theorem NextH.copy {t u e ty : TypeId} {i : TypeInfo} {a : Option Addr} {n cap m : Nat} {x : Value} {g o : Nat} {cur : Array Value} {et : TypeId} {k : Nat} {cs : List Value} {cb : Array Bool} {K : Value → Heap → Prop}
    (ht : P.underlying t = some (.slice e)) (hi : P.info? e = some i) (hl : ∀ w, (Builtin.lenOf x).run P w = .ok m w) (hkm : k = Nat.min m n) (hlen : cs.length = k * i.size) (hf : ∀ w : World, w.heap = H → (Builtin.firstCells i.size k x).run P w = .ok cs.toArray w)
    (ha : 0 < cs.length → a = some ⟨g, o, none⟩) (hg : Blk H g cur et) (hfit : o + cs.length ≤ cur.size) (hp : ∀ u ∈ cs, plainV u = true)
    (hk : ∀ H', H'.size = H.size → Blk H' g (over cur o cs) et → But g H H' → K (.int .i64 k) H') : NextH P (builtin .copy #[t, u] ty cb #[.slice a n cap, x]) H K := by
  refine ⟨fun w hw => ?_⟩
  have goal : ∀ {w'}, (Builtin.copy_ #[t, u] ty #[.slice a n cap, x]).run P w = .ok (.int .i64 k) w' → Same w w' → K (.int .i64 k) w'.heap → Nexts P w K ((builtin .copy #[t, u] ty cb #[.slice a n cap, x]).run P w) := by
    intro w' hr hs hk
    simp only [builtin, Sem.run_bind, hr, Result.andThen_ok]
    exact ⟨hs, hk⟩
  have hff := hf w hw
  rw [hkm] at hff
  by_cases h0 : cs.length = 0
  · have hcs : cs = [] := List.eq_nil_of_length_eq_zero h0
    subst hcs
    refine goal (w' := w) ?_ (Same.refl w) (by rw [hw]; exact hk H rfl hg (Only.refl _ _))
    simp only [Builtin.copy_, List.getElem?_toArray, List.getElem?_cons_zero, List.getElem?_cons_succ, Sem.run_bind, underlying_of ht, Result.andThen_ok, hl, sizeOf_of hi, hff]
    cases a with
    | none => simp [goInt, hkm]
    | some p => simp [storeCells, goInt, hkm]
  · have ha := ha (by omega)
    subst ha
    obtain ⟨fr, hg1, hg2⟩ := hg.out
    obtain ⟨w', hr, hs, _, hw'⟩ := run_storeCells (P := P) g et fr cs o 0 w cur (by rw [hw]; exact hg1) hg2 hp (by omega)
    refine goal (w' := w') ?_ hs ?_
    · simp only [Builtin.copy_, List.getElem?_toArray, List.getElem?_cons_zero, List.getElem?_cons_succ, Sem.run_bind, underlying_of ht, Result.andThen_ok, hl, sizeOf_of hi, hff, hr]
      simp [goInt, hkm]
    · rw [hw', hw]
      refine hk _ (by simp) ⟨fr, ?_, by rw [over_size]; exact hg2⟩ (Only.set _ _ _)
      rw [Array.getElem?_setIfInBounds_self_of_lt hg.lt]
      rfl

/- ---------- stores into slices of the call's own ---------- -/
theorem DoH.store_own {t e : TypeId} {i : TypeInfo} {base g n cap : Nat} {xs : List Value} {o : Nat} {v : Value} {K : Heap → Prop} (ho : Own H base e 1 (some ⟨g, 0, none⟩) n cap xs) (hi : P.info? t = some i) (hn : i.size = 1) (hp : plainV v = true) (hl : o < n)
    (hk : ∀ H', H'.size = H.size → Own H' base e 1 (some ⟨g, 0, none⟩) n cap (xs.set o v) → But g H H' → K H') : DoH P (Instr.storeAt t (.pointer (some ⟨g, o, none⟩)) v) H K := by
  rcases ho.out with ⟨ha, _⟩ | ⟨g', cur, ha, hb, hg, hnc, hmc, hcs, htake⟩
  · cases ha
  · cases ha
    refine DoH.store1 hg hi hn hp (by omega) fun H' h1 h2 h3 => hk H' h1 ⟨by simpa using ho.len, .inr ⟨_, _, rfl, hb, h2, hnc, hmc, by simpa using hcs, ?_⟩⟩ h3
    rw [← htake, Nat.mul_one, Array.toList_setIfInBounds]
    apply List.ext_getElem?
    intro j
    simp only [List.getElem?_take, List.getElem?_set, List.length_take]
    have hsz : cur.toList.length = cap := by simpa using hcs
    by_cases hj : o = j
    · subst hj
      rw [if_pos hl, if_pos rfl, if_pos rfl, if_pos (by omega), if_pos (by omega)]
    · rw [if_neg hj, if_neg hj]

/- ---------- literals of slices ---------- -/
theorem fold_over (cs : Array Value) : ∀ (l : List Value) (off j : Nat) (c : Array Value), (l.zipIdx j).foldl (fun cs (p : Value × Nat) => cs.setIfInBounds (off + p.2) p.1) c = over c (off + j) l
  | [], _, _, _ => rfl
  | x :: l, off, j, c => by
    simp only [List.zipIdx_cons, List.foldl_cons, over]
    exact fold_over cs l off (j + 1) _
theorem over_append : ∀ (l m : List Value) (c : Array Value) (o : Nat), over c o (l ++ m) = over (over c o l) (o + l.length) m
  | [], m, c, o => rfl
  | x :: l, m, c, o => by
    simp only [List.cons_append, over, List.length_cons]
    rw [over_append l m, show o + (l.length + 1) = o + 1 + l.length by omega]
theorem fill_parts (s : Nat) : ∀ (vs : List Value) (k : Nat) (c : Array Value), (∀ v ∈ vs, v.cells.size = s) → (k + vs.length) * s ≤ c.size →
    Instr.fill (fun j => some (j * s, s)) c ((List.range' k vs.length).zip vs) = some (over c (k * s) (vs.flatMap fun v => v.cells.toList))
  | [], k, c, _, _ => rfl
  | v :: vs, k, c, h, hl => by
    have hv : v.cells.size = s := h v (by simp)
    simp only [List.length_cons, List.range'_succ, List.zip_cons_cons, Instr.fill]
    have h1 : (k + 1) * s ≤ (k + (vs.length + 1)) * s := Nat.mul_le_mul_right _ (by omega)
    rw [Nat.add_mul, Nat.one_mul] at h1
    simp only [List.length_cons] at hl
    rw [if_neg (by simp [hv]; omega)]
    have e : v.cells.zipIdx.foldl (fun cs (p : Value × Nat) => cs.setIfInBounds (k * s + p.2) p.1) c = over c (k * s) v.cells.toList := by
      have := fold_over #[] v.cells.toList (k * s) 0 c
      rw [Nat.add_zero] at this
      rw [← this, ← Array.foldl_toList, Array.toList_zipIdx]
    rw [e]
    rw [fill_parts s vs (k + 1) (over c (k * s) v.cells.toList) (fun u hu => h u (by simp [hu])) (by rw [over_size]; rwa [show k + 1 + vs.length = k + (vs.length + 1) by omega])]
    rw [List.flatMap_cons, over_append]
    congr 2
    rw [Array.length_toList, hv, Nat.add_mul, Nat.one_mul]
theorem flat_len {s : Nat} : ∀ {vs : List Value}, (∀ v ∈ vs, v.cells.size = s) → (vs.flatMap fun v => v.cells.toList).length = vs.length * s
  | [], _ => by simp
  | v :: vs, h => by
    rw [List.flatMap_cons, List.length_append, flat_len (fun u hu => h u (by simp [hu])), Array.length_toList, h v (by simp), List.length_cons, Nat.add_mul]
    omega
theorem SemH.lit {t e : TypeId} {i : TypeInfo} {z : Value} {n : Nat} {parts : Array (Nat × Value)} {vs : List Value} {K : Value → Heap → Prop} (ht : P.underlying t = some (.slice e)) (hi : P.info? e = some i) (hz : i.zero = some z) (hn : vs.length = n)
    (hp : parts.toList = (List.range' 0 vs.length).zip vs) (hsm : Nat.ble (n * i.size) 16777216 = true) (hc : (vs.all fun v => Nat.beq v.cells.size i.size) = true)
    (hk : ∀ H', H'.size = H.size + 1 → Blk H' H.size (vs.flatMap fun v => v.cells.toList).toArray e → Ext H H' → K (.slice (some ⟨H.size, 0, none⟩) n n) H') : SemH P (Instr.buildSlice t n parts) H K := by
  have hsm := Nat.le_of_ble_eq_true hsm
  have hc : ∀ v ∈ vs, v.cells.size = i.size := fun v hv => Nat.eq_of_beq_eq_true (List.all_eq_true.1 hc v hv)
  refine SemH.buildSlice (cs := (vs.flatMap fun v => v.cells.toList).toArray) ht hi hz (by omega) ?_ hk
  rw [hp, fill_parts i.size vs 0 _ hc (by rw [hn]; simp)]
  congr 1
  have h0 : 0 * i.size = 0 := Nat.zero_mul _
  rw [h0]
  refine over_all _ (vs.flatMap fun v => v.cells.toList).toArray ?_
  simp only [List.size_toArray, Array.size_map, Array.size_range]
  rw [flat_len hc, hn]

/- ---------- bytes that are read ---------- -/
theorem IdxA.bytes {a : Option Addr} {l : List UInt8} {n : Nat} {i : Int} {K : Addr → Prop} (h : Row H a (strV l)) (hn : l.length = n) (h0 : 0 ≤ i) (h1 : i < n)
    (hk : ∀ b o, a = some ⟨b, o, none⟩ → hcell H ⟨b, o + i.toNat, none⟩ = some (.int .u8 (l.getD i.toNat 0).toNat) → K ⟨b, o + i.toNat, none⟩) : IdxA a n 1 i K := by
  obtain ⟨b, o, ha, hb, hc⟩ := h.at (by rw [strV_length]; omega)
  refine ⟨h0, h1, ⟨b, o, none⟩, ha, ?_⟩
  rw [addk, Nat.mul_one]
  exact hk b o ha (hc _ _ (strV_get (by omega)))
theorem ElemH.bytes {l : List UInt8} {j : Nat} {K : Value → Prop} (h : j < l.length) (hk : K (.int .u8 (l.getD j 0).toNat)) : ElemH (strV l).toArray j K :=
  ⟨_, by rw [← strV_get h]; simp, hk⟩
theorem SemH.load_at {t e : TypeId} {b o : Nat} {c : Array Value} {v : Value} {K : Value → Heap → Prop} (hb : Blk H b c e) (hT : aggB P t = some false) (hv : c[o]? = some v) (hk : K v H) : SemH P (Instr.loadAt t (.pointer (some ⟨b, o, none⟩))) H K :=
  SemH.load hT (by rw [hb.cell]; exact hv) hk

/- ---------- arrays that are filled ---------- -/
def fillA (n : Nat) (f : Nat → Value) (z : Value) (k : Nat) : Array Value := Array.ofFn (n := n) fun i => if i.val < k then f i.val else z
theorem fillA_size (n : Nat) (f : Nat → Value) (z : Value) (k : Nat) : (fillA n f z k).size = n := by simp [fillA]
theorem fillA_get (n : Nat) (f : Nat → Value) (z : Value) (k i : Nat) (h : i < n) : (fillA n f z k)[i]? = some (if i < k then f i else z) := by
  simp [fillA, h]
theorem fillA_lo (n : Nat) (f : Nat → Value) (z : Value) (k i : Nat) (h : i < n) (hk : i < k) : (fillA n f z k)[i]? = some (f i) := by
  rw [fillA_get _ _ _ _ _ h, if_pos hk]
theorem fillA_hi (n : Nat) (f : Nat → Value) (z : Value) (k i : Nat) (h : i < n) (hk : k ≤ i) : (fillA n f z k)[i]? = some z := by
  rw [fillA_get _ _ _ _ _ h, if_neg (by omega)]
theorem fillA_set (n : Nat) (f : Nat → Value) (z : Value) (k : Nat) (h : k < n) : (fillA n f z k).setIfInBounds k (f k) = fillA n f z (k + 1) := by
  apply Array.ext_getElem?
  intro i
  by_cases hi : i < n
  · rw [fillA_get _ _ _ _ _ hi]
    by_cases hk : k = i
    · subst hk
      rw [Array.getElem?_setIfInBounds_self_of_lt (by rw [fillA_size]; exact h), if_pos (by omega)]
    · rw [Array.getElem?_setIfInBounds_ne hk, fillA_get _ _ _ _ _ hi]
      by_cases h1 : i < k
      · rw [if_pos h1, if_pos (by omega)]
      · rw [if_neg h1, if_neg (by omega)]
  · rw [Array.getElem?_eq_none (by rw [Array.size_setIfInBounds, fillA_size]; omega), Array.getElem?_eq_none (by rw [fillA_size]; omega)]
theorem fillA_zero (n : Nat) (f : Nat → Value) (z : Value) : fillA n f z 0 = Array.replicate n z := by
  apply Array.ext_getElem?
  intro i
  by_cases hi : i < n
  · rw [fillA_get _ _ _ _ _ hi, if_neg (by omega)]; simp [hi]
  · rw [Array.getElem?_eq_none (by rw [fillA_size]; omega), Array.getElem?_eq_none (by simp; omega)]
theorem fillA_strV (n : Nat) (l : List UInt8) (hl : l.length = n) (z : Value) : fillA n (fun i => .int .u8 (l.getD i 0).toNat) z n = (strV l).toArray := by
  apply Array.ext_getElem?
  intro i
  by_cases hi : i < n
  · rw [fillA_lo _ _ _ _ _ hi hi, List.getElem?_toArray, strV_get (by omega)]
  · rw [Array.getElem?_eq_none (by rw [fillA_size]; omega), Array.getElem?_eq_none (by simp [strV]; omega)]

/-- a table of n values -/
def tab (n : Nat) (f : Nat → Value) : Array Value := Array.ofFn (n := n) fun i => f i.val
theorem tab_size (n : Nat) (f : Nat → Value) : (tab n f).size = n := by simp [tab]
theorem tab_get (n : Nat) (f : Nat → Value) (i : Nat) (h : i < n) : (tab n f)[i]? = some (f i) := by simp [tab, h]
theorem tab_get0 (n : Nat) (f : Nat → Value) (i : Nat) (h : i < n) : (tab n f)[0 + i]? = some (f i) := by rw [Nat.zero_add]; exact tab_get n f i h
theorem tab_set (n : Nat) (f g : Nat → Value) (k : Nat) (v : Value) (hv : g k = v) (h : ∀ i, i < n → i ≠ k → f i = g i) : (tab n f).setIfInBounds k v = tab n g := by
  apply Array.ext_getElem?
  intro i
  by_cases hi : i < n
  · rw [tab_get _ _ _ hi]
    by_cases hk : k = i
    · subst hk
      rw [Array.getElem?_setIfInBounds_self_of_lt (by rw [tab_size]; exact hi), hv]
    · rw [Array.getElem?_setIfInBounds_ne hk, tab_get _ _ _ hi, h i hi (fun e => hk e.symm)]
  · rw [Array.getElem?_eq_none (by rw [Array.size_setIfInBounds, tab_size]; omega), Array.getElem?_eq_none (by rw [tab_size]; omega)]
theorem tab_congr (n : Nat) (f g : Nat → Value) (h : ∀ i, i < n → f i = g i) : tab n f = tab n g := by
  apply Array.ext_getElem?
  intro i
  by_cases hi : i < n
  · rw [tab_get _ _ _ hi, tab_get _ _ _ hi, h i hi]
  · rw [Array.getElem?_eq_none (by rw [tab_size]; omega), Array.getElem?_eq_none (by rw [tab_size]; omega)]
theorem tab_replicate (n : Nat) (z : Value) : tab n (fun _ => z) = Array.replicate n z := by
  apply Array.ext_getElem?
  intro i
  by_cases hi : i < n
  · rw [tab_get _ _ _ hi]; simp [hi]
  · rw [Array.getElem?_eq_none (by rw [tab_size]; omega), Array.getElem?_eq_none (by simp; omega)]
theorem tab_plain (n : Nat) (f : Nat → Value) (h : ∀ i, plainV (f i) = true) : ∀ u ∈ (tab n f).toList, plainV u = true := by
  intro u hu
  simp [tab, List.mem_ofFn] at hu
  obtain ⟨i, rfl⟩ := hu
  exact h _
theorem tab_strV (n : Nat) (f : Nat → UInt8) : tab n (fun i => .int .u8 (f i).toNat) = (strV ((List.range n).map f)).toArray := by
  apply Array.ext_getElem?
  intro i
  by_cases hi : i < n
  · rw [tab_get _ _ _ hi, List.getElem?_toArray, strV_get (by simpa using hi)]; simp [hi]
  · rw [Array.getElem?_eq_none (by rw [tab_size]; omega), Array.getElem?_eq_none (by simp [strV]; omega)]

/- ---------- equality ---------- -/
theorem cell_strV (l : List UInt8) : l.map Extern.Stop.cell = strV l := rfl
theorem PureH.eql_bytes {t e : TypeId} {i : TypeInfo} {n : Nat} {ox oy : Operand} {xs ys : List UInt8} {K : Value → Prop} (ht : P.underlying t = some (.array n e)) (he : P.underlying e = some (.int .u8)) (hi : P.info? e = some i) (h1 : i.size = 1)
    (hg : P.eqGuardType P.depth t = false) (hx : xs.length = n) (hy : ys.length = n) (hk : K (.bool (xs == ys))) :
    PureH P (do eqGuard .eql t ox oy (.agg (strV xs).toArray) (.agg (strV ys).toArray); binOp .eql t (.agg (strV xs).toArray) (.agg (strV ys).toArray)) K := by
  refine ⟨_, fun w => ?_, hk⟩
  simp only [Sem.run_bind, run_eqGuard_agg w .eql t ox oy _ _ hg, Result.andThen_ok]
  exact run_eql_bytes w t e n ht he (fun w => by rw [sizeOf_of hi, h1]) xs ys hx hy
theorem PureH.neq_bytes {t e : TypeId} {i : TypeInfo} {n : Nat} {ox oy : Operand} {xs ys : List UInt8} {K : Value → Prop} (ht : P.underlying t = some (.array n e)) (he : P.underlying e = some (.int .u8)) (hi : P.info? e = some i) (h1 : i.size = 1)
    (hg : P.eqGuardType P.depth t = false) (hx : xs.length = n) (hy : ys.length = n) (hk : K (.bool (!(xs == ys)))) :
    PureH P (do eqGuard .neq t ox oy (.agg (strV xs).toArray) (.agg (strV ys).toArray); binOp .neq t (.agg (strV xs).toArray) (.agg (strV ys).toArray)) K := by
  refine ⟨_, fun w => ?_, hk⟩
  simp only [Sem.run_bind, run_eqGuard_agg w .neq t ox oy _ _ hg, Result.andThen_ok]
  rw [run_neq_struct]
  have := run_equalIn_bytes w 9998 t e n ht he (fun w => by rw [sizeOf_of hi, h1]) xs ys hx hy
  rw [cell_strV, cell_strV] at this
  rw [this]
  rfl

end Go.Vc
