import Derived.Test.YtihopeogaeinhaaGreatDoorMp
import Derived.Test.YtihopeogaeinhaaGreatDoorPa
set_option linter.unusedVariables false
set_option linter.unusedSimpArgs false
set_option maxRecDepth 100000
/- Trees of files, plain: a list in order of paths; what each operation makes of it. -/
namespace Go.Tre
open Go.Pth Go.Scr
open Go.Vc (mget mput mdel mget_put mget_mem mget_of_mem mget_none)
abbrev Node := Bool × Txt
abbrev Tr := List (Txt × Node)
/- the order of strings -/
theorem lt_irrefl : ∀ a : Txt, Op.bytesLess a a = false
  | [] => rfl
  | x :: a => by simp [Op.bytesLess, lt_irrefl a]
theorem lt_trans : ∀ {a b c : Txt}, Op.bytesLess a b = true → Op.bytesLess b c = true → Op.bytesLess a c = true
  | _, [], _, h, _ => by simp [Op.bytesLess] at h
  | _, _ :: _, [], _, h => by simp [Op.bytesLess] at h
  | [], _ :: _, _ :: _, _, _ => rfl
  | x :: a, y :: b, z :: c, h1, h2 => by
    simp only [Op.bytesLess, Bool.or_eq_true, decide_eq_true_eq, Bool.and_eq_true, beq_iff_eq] at h1 h2 ⊢
    rcases h1 with h1 | ⟨rfl, h1⟩
    · rcases h2 with h2 | ⟨rfl, h2⟩
      · exact .inl (UInt8.lt_trans h1 h2)
      · exact .inl h1
    · rcases h2 with h2 | ⟨rfl, h2⟩
      · exact .inl h2
      · exact .inr ⟨rfl, lt_trans h1 h2⟩
theorem lt_tri : ∀ {a b : Txt}, Op.bytesLess a b = false → a ≠ b → Op.bytesLess b a = true
  | [], [], _, h => absurd rfl h
  | [], _ :: _, h, _ => by simp [Op.bytesLess] at h
  | _ :: _, [], _, _ => rfl
  | x :: a, y :: b, h, hn => by
    simp only [Op.bytesLess, Bool.or_eq_false_iff, decide_eq_false_iff_not, Bool.and_eq_false_iff, beq_eq_false_iff_ne, Bool.or_eq_true, decide_eq_true_eq, Bool.and_eq_true, beq_iff_eq] at h ⊢
    by_cases hxy : x = y
    · subst hxy
      rcases h.2 with h2 | h2
      · exact absurd rfl h2
      · exact .inr ⟨rfl, lt_tri h2 fun e => hn (by rw [e])⟩
    · left
      have h1 := h.1
      rw [UInt8.lt_iff_toNat_lt] at h1 ⊢
      have := mt UInt8.toNat_inj.1 hxy
      omega
theorem lt_ne {a b : Txt} (h : Op.bytesLess a b = true) : a ≠ b := by rintro rfl; rw [lt_irrefl] at h; cases h
theorem lt_asymm {a b : Txt} (h : Op.bytesLess a b = true) : Op.bytesLess b a = false := by
  cases hb : Op.bytesLess b a
  · rfl
  · exact absurd rfl (lt_ne (lt_trans h hb))
/- a list in order -/
def Sorted {α : Type} (A : List (Txt × α)) : Prop := A.Pairwise fun x y => Op.bytesLess x.1 y.1 = true
def putF : Tr → Txt → Node → Tr
  | [], p, n => [(p, n)]
  | x :: l, p, n => if Op.bytesLess x.1 p = true then x :: putF l p n else if x.1 = p then (p, n) :: l else (p, n) :: x :: l
theorem Sorted.nodup {α : Type} {A : List (Txt × α)} (h : Sorted A) : (A.map (·.1)).Nodup := by
  unfold List.Nodup
  rw [List.pairwise_map]
  exact List.Pairwise.imp (fun h => lt_ne h) h
theorem mget_putF (A : Tr) (p : Txt) (n : Node) (k : Txt) : mget (putF A p n) k = if k = p then some n else mget A k := by
  induction A with
  | nil => simp [putF, mget]
  | cons x l ih =>
    simp only [putF]
    split
    · rename_i h
      simp only [mget, ih]
      by_cases hk : k = x.1
      · rw [if_pos hk, if_neg (by rw [hk]; exact lt_ne h), if_pos hk]
      · rw [if_neg hk, if_neg hk]
    · split
      · rename_i h; simp only [mget]; rw [h]
        by_cases hk : k = p <;> simp [hk]
      · simp only [mget]
theorem mem_putF {A : Tr} {p : Txt} {n : Node} {y : Txt × Node} (h : y ∈ putF A p n) : y = (p, n) ∨ y ∈ A := by
  induction A with
  | nil => simp [putF] at h; exact .inl h
  | cons x l ih =>
    simp only [putF] at h
    split at h
    · rcases List.mem_cons.1 h with h | h
      · exact .inr (by simp [h])
      · rcases ih h with h | h
        · exact .inl h
        · exact .inr (by simp [h])
    · split at h
      · rcases List.mem_cons.1 h with h | h
        · exact .inl h
        · exact .inr (by simp [h])
      · rcases List.mem_cons.1 h with h | h
        · exact .inl h
        · exact .inr h
theorem putF_sorted {A : Tr} (h : Sorted A) (p : Txt) (n : Node) : Sorted (putF A p n) := by
  induction A with
  | nil => exact List.pairwise_singleton _ _
  | cons x l ih =>
    have h' := List.pairwise_cons.1 h
    simp only [putF]
    split
    · rename_i hx
      refine List.pairwise_cons.2 ⟨fun y hy => ?_, ih h'.2⟩
      rcases mem_putF hy with rfl | hy
      · exact hx
      · exact h'.1 y hy
    · rename_i hx
      split
      · rename_i he
        exact List.pairwise_cons.2 ⟨fun y hy => by rw [← he]; exact h'.1 y hy, h'.2⟩
      · rename_i he
        have hpx := lt_tri (by simpa using hx) he
        refine List.pairwise_cons.2 ⟨fun y hy => ?_, h⟩
        rcases List.mem_cons.1 hy with rfl | hy
        · exact hpx
        · exact lt_trans hpx (h'.1 y hy)
def sizeT (A : Tr) : Nat := (A.map fun x => x.2.2.length).sum
def oldF (A : Tr) (p : Txt) : Nat := match mget A p with
  | some n => n.2.length
  | none => 0
theorem sorted_fresh {x : Txt × Node} {l : Tr} (h : Sorted (x :: l)) {p : Txt} (hp : Op.bytesLess p x.1 = true) : mget (x :: l) p = none := by
  rw [mget_none]
  intro hm
  obtain ⟨y, hy, rfl⟩ := List.mem_map.1 hm
  rcases List.mem_cons.1 hy with rfl | hy
  · exact lt_ne hp rfl
  · exact lt_ne (lt_trans hp ((List.pairwise_cons.1 h).1 y hy)) rfl
theorem putF_len {A : Tr} (h : Sorted A) (p : Txt) (n : Node) : (putF A p n).length = A.length + if mget A p = none then 1 else 0 := by
  induction A with
  | nil => simp [putF, mget]
  | cons x l ih =>
    simp only [putF]
    split
    · rename_i hx
      have hpx : ¬ p = x.1 := fun e => lt_ne hx e.symm
      have e : mget (x :: l) p = mget l p := by simp only [mget]; rw [if_neg hpx]
      rw [List.length_cons, ih (List.pairwise_cons.1 h).2, List.length_cons]
      by_cases hn : mget l p = none
      · have h2 : mget (x :: l) p = none := by rw [e]; exact hn
        simp only [if_pos hn, if_pos h2]
      · have h2 : ¬ mget (x :: l) p = none := by rw [e]; exact hn
        simp only [if_neg hn, if_neg h2]
    · rename_i hx
      split
      · rename_i he; simp [mget, he]
      · rename_i he
        rw [sorted_fresh h (lt_tri (by simpa using hx) he)]; simp
theorem putF_size {A : Tr} (h : Sorted A) (p : Txt) (n : Node) : sizeT (putF A p n) + oldF A p = sizeT A + n.2.length := by
  induction A with
  | nil => simp [putF, sizeT, oldF, mget]
  | cons x l ih =>
    have ih := ih (List.pairwise_cons.1 h).2
    have e1 : ∀ (y : Txt × Node) (m : Tr), sizeT (y :: m) = y.2.2.length + sizeT m := fun y m => by simp [sizeT]
    simp only [putF]
    split
    · rename_i hx
      have e2 : oldF (x :: l) p = oldF l p := by unfold oldF; simp only [mget]; rw [if_neg fun e => lt_ne hx e.symm]
      rw [e1, e1, e2]; omega
    · rename_i hx
      split
      · rename_i he
        have e2 : oldF (x :: l) p = x.2.2.length := by unfold oldF; simp only [mget]; rw [if_pos he.symm]
        have e3 : sizeT (x :: l) = x.2.2.length + sizeT l := e1 x l
        have e4 : sizeT ((p, n) :: l) = n.2.length + sizeT l := e1 _ _
        omega
      · rename_i he
        have e2 : oldF (x :: l) p = 0 := by unfold oldF; rw [sorted_fresh h (lt_tri (by simpa using hx) he)]
        have e3 : sizeT (x :: l) = x.2.2.length + sizeT l := e1 x l
        have e4 : sizeT ((p, n) :: x :: l) = n.2.length + sizeT (x :: l) := e1 _ _
        omega
/- lists of the same entries -/
theorem perm_ext {α : Type} {l m : List (Txt × α)} (hl : (l.map (·.1)).Nodup) (hm : (m.map (·.1)).Nodup) (h : ∀ k, mget l k = mget m k) : l.Perm m := by
  have nd : ∀ {l : List (Txt × α)}, (l.map (·.1)).Nodup → l.Nodup := fun h => List.Pairwise.imp (fun hne e => hne (by rw [e])) (List.pairwise_map.1 h)
  rw [List.perm_ext_iff_of_nodup (nd hl) (nd hm)]
  intro ⟨k, v⟩
  constructor
  · intro hx; exact mget_mem (by rw [← h]; exact mget_of_mem hl hx)
  · intro hx; exact mget_mem (by rw [h]; exact mget_of_mem hm hx)
theorem sorted_perm {α : Type} : ∀ {A B : List (Txt × α)}, Sorted A → Sorted B → A.Perm B → A = B
  | [], B, _, _, h => h.nil_eq
  | x :: A, [], _, _, h => by simpa using h.length_eq
  | x :: A, y :: B, hA, hB, h => by
    have hA' := List.pairwise_cons.1 hA
    have hB' := List.pairwise_cons.1 hB
    have hx : x ∈ y :: B := h.subset (by simp)
    have hy : y ∈ x :: A := h.symm.subset (by simp)
    have e : x = y := by
      rcases List.mem_cons.1 hx with e | hx
      · exact e
      · rcases List.mem_cons.1 hy with e | hy
        · exact e.symm
        · exact absurd rfl (lt_ne (lt_trans (hB'.1 x hx) (hA'.1 y hy)))
    subst e
    rw [sorted_perm hA'.2 hB'.2 (h.cons_inv)]
theorem sorted_ext {α : Type} {A B : List (Txt × α)} (hA : Sorted A) (hB : Sorted B) (h : ∀ k, mget A k = mget B k) : A = B := sorted_perm hA hB (perm_ext hA.nodup hB.nodup h)
theorem keys_len {α β : Type} {l : List (Txt × α)} {m : List (Txt × β)} (hl : (l.map (·.1)).Nodup) (hm : (m.map (·.1)).Nodup) (h : ∀ k, mget l k = none ↔ mget m k = none) : l.length = m.length := by
  have hp : (l.map (·.1)).Perm (m.map (·.1)) := (List.perm_ext_iff_of_nodup hl hm).2 fun k => by
    have := h k
    rw [mget_none, mget_none] at this
    exact ⟨fun a => Classical.byContradiction fun hc => this.2 hc a, fun a => Classical.byContradiction fun hc => this.1 hc a⟩
  simpa using hp.length_eq
/- what the operations make -/
def dirF (A : Tr) (p : Txt) : Bool := p == [] || match mget A p with
  | some n => n.1
  | none => false
def fileF (A : Tr) (p : Txt) : Bool := (pars p).any fun d => match mget A d with
  | some n => !n.1
  | none => false
def lackF (A : Tr) (p : Txt) : List Txt := (pars p).filter fun d => (mget A d).isNone
def makeF (A : Tr) (l : List Txt) : Tr := l.foldl (fun A d => putF A d (true, [])) A
def moreF (A : Tr) (p : Txt) : Nat := if (mget A p).isSome = true then 0 else (lackF A p).length + 1
def writeP (A : Tr) (p b : Txt) : Tr × Nat :=
  if dirF A p = true ∨ fileF A p = true then (A, 54)
  else if 65536 < b.length ∨ 1048576 < sizeT A - oldF A p + b.length ∨ 500 < A.length + moreF A p then (A, 55)
  else (putF (makeF A (lackF A p)) p (false, b), 0)
def bytesF (A : Tr) (p : Txt) : Txt := match mget A p with
  | some n => n.2
  | none => []
def writeF (A : Tr) (s b : Txt) : Tr × Nat := if (cleanF s).2 = 0 then writeP A (cleanF s).1 b else (A, (cleanF s).2)
def appendF (A : Tr) (s b : Txt) : Tr × Nat := if (cleanF s).2 = 0 then writeP A (cleanF s).1 (bytesF A (cleanF s).1 ++ b) else (A, (cleanF s).2)
def readF (A : Tr) (s : Txt) : Txt × Nat :=
  if (cleanF s).2 = 0 then
    if dirF A (cleanF s).1 = true ∨ fileF A (cleanF s).1 = true then ([], 54)
    else match mget A (cleanF s).1 with
      | some n => (n.2, 0)
      | none => ([], 52)
  else ([], (cleanF s).2)
def mkdirP (A : Tr) (p : Txt) : Tr × Nat :=
  if dirF A p = true then (A, 0)
  else if (mget A p).isSome = true ∨ fileF A p = true then (A, 54)
  else if 500 < A.length + ((lackF A p).length + 1) then (A, 55)
  else (makeF A (lackF A p ++ [p]), 0)
def mkdirF (A : Tr) (s : Txt) : Tr × Nat := if (cleanF s).2 = 0 then mkdirP A (cleanF s).1 else (A, (cleanF s).2)
def removeF (A : Tr) (s : Txt) : Tr × Nat :=
  if (cleanF s).2 = 0 then
    if (cleanF s).1 = [] then (A, 54)
    else if mget A (cleanF s).1 = none then (A, 52)
    else (A.filter fun x => !withinF x.1 (cleanF s).1, 0)
  else (A, (cleanF s).2)
def existsF (A : Tr) (s : Txt) : Bool := (cleanF s).2 == 0 && ((cleanF s).1 == [] || (mget A (cleanF s).1).isSome)
/- the invariant -/
structure Okay (A : Tr) : Prop where
  sorted : Sorted A
  clean : ∀ k n, mget A k = some n → CleanP k ∧ k ≠ []
  above : ∀ k n, mget A k = some n → ∀ d ∈ pars k, ∃ t, mget A d = some (true, t)
  size : sizeT A ≤ 1048576
  count : A.length ≤ 500
  file : ∀ k n, mget A k = some n → n.2.length ≤ 65536 ∧ (n.1 = true → n.2 = [])
theorem mget_makeF (k : Txt) : ∀ (l : List Txt) (A : Tr), mget (makeF A l) k = if k ∈ l then some (true, []) else mget A k
  | [], A => rfl
  | d :: l, A => by
    show mget (makeF (putF A d (true, [])) l) k = _
    rw [mget_makeF k l, mget_putF]
    by_cases h1 : k ∈ l
    · simp [h1]
    · by_cases h2 : k = d <;> simp [h1, h2]
theorem makeF_sorted : ∀ (l : List Txt) {A : Tr}, Sorted A → Sorted (makeF A l)
  | [], _, h => h
  | d :: l, _, h => makeF_sorted l (putF_sorted h d _)
theorem makeF_same {A : Tr} (h : Sorted A) {l m : List Txt} (hm : ∀ x, x ∈ l ↔ x ∈ m) : makeF A l = makeF A m :=
  sorted_ext (makeF_sorted l h) (makeF_sorted m h) fun k => by rw [mget_makeF, mget_makeF]; simp only [hm]
theorem makeF_size {A : Tr} (h : Sorted A) : ∀ {l : List Txt}, (∀ d ∈ l, mget A d = none) → sizeT (makeF A l) = sizeT A := by
  suffices hh : ∀ (l : List Txt) (A : Tr), Sorted A → (∀ d ∈ l, oldF A d = 0) → sizeT (makeF A l) = sizeT A from
    fun {l} hl => hh l A h fun d hd => by unfold oldF; rw [hl d hd]
  intro l
  induction l with
  | nil => intro A _ _; rfl
  | cons d l ih =>
    intro A h hl
    show sizeT (makeF (putF A d (true, [])) l) = _
    have h1 := putF_size h d (true, [])
    rw [hl d (by simp)] at h1
    rw [ih _ (putF_sorted h d _) fun k hk => ?_]
    · simpa using h1
    · unfold oldF; rw [mget_putF]
      by_cases e : k = d
      · simp [e]
      · rw [if_neg e]; exact hl k (by simp [hk])
theorem makeF_len {A : Tr} (h : Sorted A) : ∀ {l : List Txt}, l.Nodup → (∀ d ∈ l, mget A d = none) → (makeF A l).length = A.length + l.length := by
  intro l
  induction l generalizing A with
  | nil => intro _ _; rfl
  | cons d l ih =>
    intro hn hl
    rw [List.nodup_cons] at hn
    show (makeF (putF A d (true, [])) l).length = _
    rw [ih (putF_sorted h d _) hn.2 fun k hk => ?_, putF_len h, if_pos (hl d (by simp)), List.length_cons]
    · omega
    · rw [mget_putF, if_neg (fun e => hn.1 (by rw [← e]; exact hk))]; exact hl k (by simp [hk])
end Go.Tre
