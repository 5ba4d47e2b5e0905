import Derived.Test.YtihopeogaeinhaaGreatDoorQa
set_option linter.unusedVariables false
set_option linter.unusedSimpArgs false
set_option maxRecDepth 100000
/- Lists of files in a heap; the reference's tree. -/
namespace Go.Proofs.YtihopeogaeinhaaGreatDoor
open Go Go.Vc Go.Scr Go.Pth Go.Tre
def fileC (x : Txt × Tre.Node) (a : Option Addr) (cap : Nat) : List Value := [.string (mkS x.1), .bool x.2.1, .slice a x.2.2.length cap]
/-- the cells of a list of files -/
inductive FilesV (H : Heap) : Tr → List Value → Prop where
  | nil : FilesV H [] []
  | cons {x : Txt × Tre.Node} {l : Tr} {a : Option Addr} {cap : Nat} {vs : List Value} : Row H a (strV x.2.2) → FilesV H l vs → FilesV H (x :: l) (fileC x a cap ++ vs)
theorem FilesV.len {H : Heap} {A : Tr} {vs : List Value} (h : FilesV H A vs) : vs.length = A.length * 3 := by
  induction h with
  | nil => rfl
  | cons _ _ ih => rw [List.length_append, ih, List.length_cons]; show 3 + _ = _; omega
theorem FilesV.keep {F : Nat → Prop} {H H' : Heap} {A : Tr} {vs : List Value} (h : FilesV H A vs) (k : Only F H H') (hF : ∀ b, F b → b < H.size → Dumb H b) : FilesV H' A vs := by
  induction h with
  | nil => exact .nil
  | cons h _ ih => exact .cons (h.bytes k hF) ih
theorem FilesV.ext {H H' : Heap} {A : Tr} {vs : List Value} (h : FilesV H A vs) (k : Ext H H') : FilesV H' A vs := h.keep k fun _ h => h.elim
theorem FilesV.append {H : Heap} {A B : Tr} {vs ws : List Value} (h : FilesV H A vs) (k : FilesV H B ws) : FilesV H (A ++ B) (vs ++ ws) := by
  induction h with
  | nil => exact k
  | cons h _ ih => rw [List.cons_append, List.append_assoc]; exact .cons h ih
theorem FilesV.get {H : Heap} {A : Tr} {vs : List Value} (h : FilesV H A vs) : ∀ {i : Nat} {x : Txt × Tre.Node}, A[i]? = some x → ∃ a cap, Row H a (strV x.2.2) ∧ ∀ j v, (fileC x a cap)[j]? = some v → vs[i * 3 + j]? = some v := by
  induction h with
  | nil => intro i x hx; simp at hx
  | @cons y l a cap vs h _ ih =>
    intro i x hx
    cases i with
    | zero =>
      simp only [List.getElem?_cons_zero, Option.some.injEq] at hx
      subst hx
      refine ⟨a, cap, h, fun j v hv => ?_⟩
      have hj := (List.getElem?_eq_some_iff.1 hv).1
      rw [Nat.zero_mul, Nat.zero_add, List.getElem?_append_left hj]; exact hv
    | succ i =>
      obtain ⟨a', cap', h1, h2⟩ := ih (i := i) (x := x) (by simpa using hx)
      refine ⟨a', cap', h1, fun j v hv => ?_⟩
      rw [List.getElem?_append_right (by show 3 ≤ _; omega)]
      have e : (i + 1) * 3 + j - (fileC y a cap).length = i * 3 + j := by show (i + 1) * 3 + j - 3 = _; omega
      rw [e]; exact h2 j v hv
theorem FilesV.take {H : Heap} {A : Tr} {vs : List Value} (h : FilesV H A vs) : ∀ (k : Nat), FilesV H (A.take k) (vs.take (k * 3)) := by
  induction h with
  | nil => intro k; simp; exact .nil
  | @cons y l a cap vs h _ ih =>
    intro k
    cases k with
    | zero => simp; exact .nil
    | succ k =>
      rw [List.take_succ_cons, List.take_append, show (k + 1) * 3 - (fileC y a cap).length = k * 3 by show (k + 1) * 3 - 3 = _; omega, List.take_of_length_le (l := fileC y a cap) (by show 3 ≤ (k + 1) * 3; omega)]
      exact .cons h (ih k)
theorem FilesV.drop {H : Heap} {A : Tr} {vs : List Value} (h : FilesV H A vs) : ∀ (k : Nat), FilesV H (A.drop k) (vs.drop (k * 3)) := by
  induction h with
  | nil => intro k; simp; exact .nil
  | @cons y l a cap vs h h' ih =>
    intro k
    cases k with
    | zero => exact .cons h h'
    | succ k =>
      rw [List.drop_succ_cons, List.drop_append, show (k + 1) * 3 - (fileC y a cap).length = k * 3 by show (k + 1) * 3 - 3 = _; omega, show (fileC y a cap).drop ((k + 1) * 3) = [] from List.drop_of_length_le (by show 3 ≤ (k + 1) * 3; omega), List.nil_append]
      exact ih k
theorem FilesV.plain {H : Heap} {A : Tr} {vs : List Value} (h : FilesV H A vs) : ∀ u ∈ vs, plainV u = true := by
  induction h with
  | nil => intro u hu; cases hu
  | cons _ _ ih =>
    intro u hu
    rcases List.mem_append.1 hu with hu | hu
    · simp [fileC] at hu
      rcases hu with rfl | rfl | rfl <;> rfl
    · exact ih u hu
theorem FilesV.head {H : Heap} {A : Tr} {vs : List Value} (h : FilesV H A vs) (hn : vs ≠ []) : ∃ s, vs[0]? = some (.string s) := by
  cases h with
  | nil => exact absurd rfl hn
  | cons _ _ => exact ⟨_, rfl⟩
/-- a slice of files -/
structure RowF (H : Heap) (a : Option Addr) (A : Tr) : Prop where
  out : ∃ vs, Row H a vs ∧ FilesV H A vs
theorem RowF.nil (H : Heap) (a : Option Addr) : RowF H a [] := ⟨[], Row.nil _ _, .nil⟩
theorem RowF.keep {F : Nat → Prop} {H H' : Heap} {a : Option Addr} {A : Tr} (h : RowF H a A) (k : Only F H H') (hF : ∀ b, F b → b < H.size → Dumb H b) : RowF H' a A := by
  obtain ⟨vs, h1, h2⟩ := h.out
  refine ⟨vs, h1.keep' k fun hne p hp hf => ?_, h2.keep k hF⟩
  obtain ⟨b, o, ha, hlt, hc⟩ := h1.at (List.length_pos_iff.2 hne)
  rw [ha] at hp; cases hp
  obtain ⟨s, hs⟩ := h2.head hne
  have := (hF _ hf hlt).out _ _ (hc 0 _ hs)
  cases this
theorem RowF.ext {H H' : Heap} {a : Option Addr} {A : Tr} (h : RowF H a A) (k : Ext H H') : RowF H' a A := h.keep k fun _ h => h.elim
theorem RowF.take {H : Heap} {a : Option Addr} {A : Tr} (h : RowF H a A) (k : Nat) : RowF H a (A.take k) := by
  obtain ⟨vs, h1, h2⟩ := h.out
  exact ⟨_, h1.take (k * 3), h2.take k⟩
theorem RowF.drop {H : Heap} {a : Option Addr} {A : Tr} (h : RowF H a A) (m l : Nat) (hl : m = l → A.length ≤ l) : RowF H (sliceBase a m l 3) (A.drop l) := by
  obtain ⟨vs, h1, h2⟩ := h.out
  exact ⟨_, h1.drop m l 3 (fun e => by rw [h2.len]; exact Nat.mul_le_mul_right _ (hl e)), h2.drop l⟩
/-- an element of a slice of files -/
theorem IdxA.file {H : Heap} {a : Option Addr} {A : Tr} {n : Nat} {i : Int} {K : Addr → Prop} (h : RowF H a A) (hn : A.length = n) (j : Nat) (x : Txt × Tre.Node) (hi : i = j) (hx : A[j]? = some x)
    (hk : ∀ b o a' cap', Row H a' (strV x.2.2) → (∀ k v, (fileC x a' cap')[k]? = some v → hcell H ⟨b, o + k, none⟩ = some v) → K ⟨b, o, none⟩) : IdxA a n 3 i K := by
  obtain ⟨vs, h1, h2⟩ := h.out
  have hj := (List.getElem?_eq_some_iff.1 hx).1
  obtain ⟨a', cap', g1, g2⟩ := h2.get hx
  refine Go.Vc.IdxA.row (size := 3) h1 (by rw [h2.len, hn]) (by decide) j hi (by omega) fun b o k1 k2 k3 => ?_
  exact hk b (o + j * 3) a' cap' g1 fun k v hv => k3 k v (g2 k v hv)
theorem SemH.load_file {H H0 : Heap} {b o : Nat} {x : Txt × Tre.Node} {a : Option Addr} {cap : Nat} {K : Value → Heap → Prop} (hc : ∀ k v, (fileC x a cap)[k]? = some v → hcell H0 ⟨b, o + k, none⟩ = some v) (he : Ext H0 H) (hk : K (.agg #[.string (mkS x.1), .bool x.2.1, .slice a x.2.2.length cap]) H) : SemH Tryz.prog (Instr.loadAt 45 (.pointer (some ⟨b, o, none⟩))) H K := by
  have := Go.Vc.SemH.load_agg (P := Tryz.prog) (t := 45) (H := H) (b := b) (o := o) (vs := fileC x a cap) (K := K) rfl rfl rfl (fun j v hv => hcell_keep (hc j v hv) he id) hk
  exact this
/-- the reference's tree -/
structure RTree (H : Heap) (b : Nat) (A : Tr) : Prop where
  out : ∃ a spare, Blk H b #[.slice a A.length (A.length + spare)] 65 ∧ RowF H a A
theorem RTree.keep {F : Nat → Prop} {H H' : Heap} {b : Nat} {A : Tr} (h : RTree H b A) (k : Only F H H') (hb : ¬ F b) (hF : ∀ b, F b → b < H.size → Dumb H b) : RTree H' b A := by
  obtain ⟨a, cap, h1, h2⟩ := h.out
  exact ⟨a, cap, h1.keep k hb, h2.keep k hF⟩
theorem RTree.of {H : Heap} {b n cap : Nat} {a : Option Addr} {A : Tr} (h : Blk H b #[.slice a n cap] 65) (hn : A.length = n) (hc : n ≤ cap) (hr : RowF H a A) : RTree H b A := ⟨a, cap - n, by rw [hn, show n + (cap - n) = cap by omega]; exact h, hr⟩
theorem RTree.ext {H H' : Heap} {b : Nat} {A : Tr} (h : RTree H b A) (k : Ext H H') : RTree H' b A := h.keep k id fun _ h => h.elim
theorem slice_dumb (a : Option Addr) (n cap : Nat) : ∀ v ∈ (#[.slice a n cap] : Array Value).toList, dumbV v = true := by simp [dumbV]
theorem RTree.dumb {H : Heap} {b : Nat} {A : Tr} (h : RTree H b A) : Dumb H b := let ⟨_, _, h, _⟩ := h.out; .blk h (slice_dumb _ _ _)
theorem RTree.oth {H : Heap} {b : Nat} {A : Tr} (h : RTree H b A) : Oth H b := let ⟨_, _, h, _⟩ := h.out; .blk h (slice_dumb _ _ _) (by decide)
/-- beside a tree of the code -/
theorem RTree.other {H H' : Heap} {b b' mb' : Nat} {A A' : Tr} (h : RTree H b A) (h' : TreeO H b' mb' A') (k : ButT b' mb' H H') : RTree H' b A := by
  obtain ⟨a, cap, h1, _⟩ := h.out
  refine h.keep k (fun e => ?_) fun x e _ => ?_
  · rcases e with rfl | rfl
    · exact absurd (blk_one h1 h'.blk).1 (by decide)
    · exact h'.map.ne h1 rfl
  · rcases e with rfl | rfl
    · exact h'.oth.dumb
    · exact h'.map.oth.dumb
theorem TreeO.otherR {H H' : Heap} {b mb b' : Nat} {A A' : Tr} (h : TreeO H b mb A) (h' : RTree H b' A') (k : But b' H H') : TreeO H' b mb A := by
  obtain ⟨a, cap, h1, _⟩ := h'.out
  exact h.keep k (fun e => by subst e; exact absurd (blk_one h1 h.blk).1 (by decide)) (fun e => h.map.ne h1 e) fun x e _ => by subst e; exact h'.oth
end Go.Proofs.YtihopeogaeinhaaGreatDoor
