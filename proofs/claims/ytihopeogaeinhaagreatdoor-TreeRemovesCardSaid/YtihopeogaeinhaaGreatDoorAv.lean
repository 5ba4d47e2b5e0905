import Derived.Test.YtihopeogaeinhaaGreatDoorAu
set_option linter.unusedVariables false
set_option linter.unusedSimpArgs false
set_option maxRecDepth 100000
/- Strings as lists of bytes; slices that grow. -/
namespace Go.Vc
variable {P : Program} {H H' H0 : Heap}

abbrev Bs := List UInt8
/-- the string of these bytes -/
abbrev mkS (l : Bs) : ByteArray := ⟨l.toArray⟩
theorem mkS_size (l : Bs) : (mkS l).size = l.length := rfl
theorem mkS_data (s : ByteArray) : mkS s.data.toList = s := by cases s; simp [mkS]
theorem mkS_inj {l m : Bs} : mkS l = mkS m ↔ l = m := by
  constructor
  · intro h
    have := congrArg (fun s => s.data.toList) h
    simpa using this
  · intro h; rw [h]
theorem mkS_app (l m : Bs) : mkS l ++ mkS m = mkS (l ++ m) := by
  apply ByteArray.ext
  apply Array.ext'
  simp [mkS]
theorem mkS_ext (l : Bs) (a b : Nat) : (mkS l).extract a b = mkS ((l.drop a).take (b - a)) := by
  have h : ((mkS l).extract a b).data = l.toArray.extract a b := by simp [mkS]
  apply ByteArray.ext
  rw [h]
  apply Array.ext'
  simp [mkS, List.extract_eq_take_drop]
theorem mkS_drop (l : Bs) (k : Nat) : (mkS l).extract k (mkS l).size = mkS (l.drop k) := by
  rw [mkS_ext, mkS_size, List.take_of_length_le (by simp)]
theorem mkS_take (l : Bs) (k : Nat) : (mkS l).extract 0 k = mkS (l.take k) := by
  rw [mkS_ext, List.drop_zero, Nat.sub_zero]
def strs (l : List Bs) : List Value := l.map fun w => .string (mkS w)
theorem strs_length (l : List Bs) : (strs l).length = l.length := by simp [strs]
theorem strs_append (l m : List Bs) : strs (l ++ m) = strs l ++ strs m := by simp [strs]
theorem strs_plain (l : List Bs) : ∀ u ∈ strs l, plainV u = true := by
  intro u hu; obtain ⟨b, _, rfl⟩ := List.mem_map.1 hu; rfl
theorem strs_get {l : List Bs} {j : Nat} (h : j < l.length) : (strs l)[j]? = some (.string (mkS (l.getD j []))) := by
  simp [strs, List.getElem?_eq_getElem h, List.getD_eq_getElem?_getD]

/-- a byte of a string -/
theorem IdxH.str {s : ByteArray} {i : Int} {k : Value → Prop} (j : Nat) (c : UInt8) (hi : i = j) (hc : s.data.toList[j]? = some c) (hk : k (.int .u8 c.toNat)) : IdxH i s.size fun n => k (.int .u8 (s.data.toList.getD n 0).toNat) := by
  have hlt : j < s.size := by have := (List.getElem?_eq_some_iff.1 hc).1; simpa using this
  refine IdxH.nat j hi hlt ?_
  rw [List.getD_eq_getElem?_getD, hc]; exact hk
theorem u8_eq {c : UInt8} {n : Nat} (h : n < 256) : ((c.toNat : Int) = n) ↔ c = UInt8.ofNat n := by
  constructor
  · intro e; apply UInt8.toNat_inj.1; rw [UInt8.toNat_ofNat']; omega
  · intro e; subst e; rw [UInt8.toNat_ofNat']; omega
theorem CondH.u8 {c d : UInt8} {n : Int} {A B : Prop} (hn : n = d.toNat) (h1 : c = d → A) (h2 : c ≠ d → B) : CondH ((c.toNat : Int) == n) A B :=
  CondH.beqI (fun e => h1 (UInt8.toNat_inj.1 (by omega))) (fun e => h2 fun e' => e (by rw [e', hn]))
theorem SplitH.u8 {c d : UInt8} {n : Int} {K : Bool → Prop} (hn : n = d.toNat) (h1 : c = d → K true) (h2 : c ≠ d → K false) : SplitH ((c.toNat : Int) == n) K :=
  SplitH.beqI (fun e => h1 (UInt8.toNat_inj.1 (by omega))) (fun e => h2 fun e' => e (by rw [e', hn]))

/-- a slice that grows in blocks of the call's own -/
theorem Ext.wr {A B C : Heap} {base : Nat} {e : TypeId} {size : Nat} {a : Option Addr} {n cap : Nat} {xs : List Value} (h : Ext A B) (ho : Own B base e size a n cap xs) (hb : A.size ≤ base) (k : Wr a B C) : Ext A C :=
  Only.trans h k fun x hx ⟨p, hp, e⟩ => by have := (ho.block p hp).1; omega
theorem NextH.push {t u e ty : TypeId} {i : TypeInfo} {z : Value} {a : Option Addr} {n cap : Nat} {xs : List Value} {x : Value} {m : Nat} {news : List Value} {cb : Array Bool} {K : Value → Heap → Prop}
    (hown : Own H H0.size e i.size a n cap xs) (hx : Ext H0 H) (hsrc : Src P H x i.size m news) (ht : P.underlying t = some (.slice e)) (hu : ∃ d, P.underlying u = some d ∧ (∀ k, d ≠ .int k)) (hi : P.info? e = some i) (hz : i.zero = some z) (hzs : z.cells.size = i.size)
    (hbytes : (n + m) * i.bytes ≤ 140737488355328) (h0 : Nat.ble 1 i.bytes = true)
    (hk : ∀ a' cap' H', Own H' H0.size e i.size a' (n + m) cap' (xs ++ news) → Ext H0 H' → K (.slice a' (n + m) cap') H') :
    NextH P (builtin .append #[t, u] ty cb #[.slice a n cap, x]) H K := by
  refine NextH.append ht hu hi hz hzs hown hsrc ?_ hbytes hx.size fun a' cap' H' h1 h2 _ => hk a' cap' H' h1 (hx.wr hown (Nat.le_refl _) h2)
  have : n + m ≤ (n + m) * i.bytes := Nat.le_mul_of_pos_right _ (Nat.le_of_ble_eq_true h0)
  unfold maxLen; omega
/-- one element more, of one cell -/
theorem NextH.push1 {t u e ty : TypeId} {i : TypeInfo} {z v : Value} {a : Option Addr} {n cap g : Nat} {xs : List Value} {cb : Array Bool} {K : Value → Heap → Prop}
    (hlit : Blk H g #[v] e) (hown : Own H H0.size e 1 a n cap xs) (hx : Ext H0 H) (hn : n ≤ 4000000000000) (ht : P.underlying t = some (.slice e)) (hu : ∃ d, P.underlying u = some d ∧ (∀ k, d ≠ .int k)) (hi : P.info? e = some i) (hz : i.zero = some z) (hzs : z.cells.size = i.size) (h1 : i.size = 1)
    (hby : Nat.ble i.bytes 16 = true) (h0 : Nat.ble 1 i.bytes = true) (hp : plainV v = true)
    (hk : ∀ a' cap' H', Own H' H0.size e 1 a' (n + 1) cap' (xs ++ [v]) → Ext H0 H' → K (.slice a' (n + 1) cap') H') :
    NextH P (builtin .append #[t, u] ty cb #[.slice a n cap, .slice (some ⟨g, 0, none⟩) 1 1]) H K := by
  have hby := Nat.le_of_ble_eq_true hby
  have hown : Own H H0.size e i.size a n cap xs := by rw [h1]; exact hown
  have hk : ∀ a' cap' H', Own H' H0.size e i.size a' (n + 1) cap' (xs ++ [v]) → Ext H0 H' → K (.slice a' (n + 1) cap') H' := fun a' c' H' h => hk a' c' H' (by rw [h1] at h; exact h)
  refine NextH.push (m := 1) (news := [v]) hown hx (Src.row (Blk.row (c := [v]) hlit) (by rw [h1]; rfl) (by simpa using hp)) ht hu hi hz hzs ?_ h0 hk
  calc (n + 1) * i.bytes ≤ (n + 1) * 16 := Nat.mul_le_mul_left _ hby
    _ ≤ _ := by omega
/-- an element of a row of strings -/
theorem IdxA.strD {a : Option Addr} {ws : List Bs} {n : Nat} {i : Int} {K : Addr → Prop} (h : Row H a (strs ws)) (hn : ws.length = n) (j : Nat) (hi : i = j) (hj : j < n)
    (hk : ∀ b o, b < H.size → a = some ⟨b, o, none⟩ → hcell H ⟨b, o + j, none⟩ = some (.string (mkS (ws.getD j []))) → K ⟨b, o + j, none⟩) : IdxA a n 1 i K := by
  refine (IdxA.row (size := 1) h (by rw [strs_length, hn, Nat.mul_one]) (by decide) j hi hj fun b o h1 h2 h3 => ?_)
  have h3 := h3 0 _ (by rw [Nat.mul_one, Nat.add_zero]; exact strs_get (by omega))
  rw [Nat.mul_one]
  rw [Nat.mul_one] at h3
  exact hk b o h1 h2 (by simpa using h3)
theorem IdxA.strv {a : Option Addr} {ws : List Bs} {n : Nat} {i : Int} {K : Addr → Prop} (h : Row H a (strs ws)) (hn : ws.length = n) (j : Nat) (w : Bs) (hi : i = j) (hw : ws[j]? = some w)
    (hk : ∀ b o, b < H.size → a = some ⟨b, o, none⟩ → hcell H ⟨b, o + j, none⟩ = some (.string (mkS w)) → K ⟨b, o + j, none⟩) : IdxA a n 1 i K := by
  have hj := (List.getElem?_eq_some_iff.1 hw).1
  refine IdxA.strD h hn j hi (by omega) fun b o h1 h2 h3 => hk b o h1 h2 ?_
  rw [List.getD_eq_getElem?_getD, hw] at h3; exact h3
theorem str_mk (p q : Bs) : ((mkS p).toList == (mkS q).toList) = decide (p = q) := by rw [str_beq, Bool.eq_iff_iff, decide_eq_true_eq, decide_eq_true_eq]; exact mkS_inj
/-- a struct of no parts, of one -/
theorem PureH.build0 {t : TypeId} {l : List Nat} {K : Value → Prop} (cells : Array Value) (h : P.built t [] = some cells) (hk : K (.agg cells)) : PureH P (Instr.build t (l.zip ([] : List Value)).toArray) K :=
  PureH.build cells (by rw [List.zip_nil_right]; exact h) hk
theorem PureH.build1 {t : TypeId} {l : List Nat} {v : Value} {K : Value → Prop} (cells : Array Value) (h : P.built t (l.zip [v]) = some cells) (hk : K (.agg cells)) : PureH P (Instr.build t (l.zip [v]).toArray) K :=
  PureH.build cells h hk
/-- a cell that was known of an older heap -/
theorem SemH.load_old {t : TypeId} {p : Addr} {v : Value} {K : Value → Heap → Prop} (hT : aggB P t = some false) (hc : hcell H0 p = some v) (hx : Ext H0 H) (hk : K v H) : SemH P (Instr.loadAt t (.pointer (some p))) H K := SemH.load hT (hcell_keep hc hx id) hk
theorem Own.nil' (H : Heap) (base : Nat) (e : TypeId) (size : Nat) : Own H base e size none 0 0 ([] : List Value) := Own.nil H base e size
end Go.Vc
