import Derived.Test.YtlgcfcdmldlefaaDoorTe
set_option linter.unusedVariables false
set_option linter.unusedSimpArgs false
set_option maxRecDepth 100000
/- Build scripts: what is plain of lines and words. -/
namespace Go.Scr
theorem wordsN_all : ∀ (n : Nat) (l : Txt) (ws : List Txt), wordsN n l = some ws → ws.length ≤ l.length ∧ ∀ x ∈ ws, x ≠ [] ∧ x.length ≤ l.length
  | n, [], ws, h => by cases n <;> (cases h; exact ⟨Nat.le_refl _, fun x hx => by cases hx⟩)
  | 0, c :: t, ws, h => by cases h
  | n + 1, c :: t, ws, h => by
    unfold wordsN at h
    simp only [List.length_cons]
    split at h
    · obtain ⟨h1, h2⟩ := wordsN_all n t ws h
      exact ⟨by omega, fun x hx => ⟨(h2 x hx).1, by have := (h2 x hx).2; omega⟩⟩
    · split at h
      · cases hq : quotedF t with
        | none => rw [hq] at h; cases h
        | some p =>
          obtain ⟨w, r⟩ := p
          have h3 := quotedF_len _ t (Nat.le_refl _) hq
          have h4 := Go.Proofs.YtlgcfcdmldlefaaDoor.quotedF_wlen _ t (Nat.le_refl _) hq
          rw [hq] at h
          dsimp only at h
          split at h
          · cases h
          · cases hr : wordsN n r with
            | none => rw [hr] at h; cases h
            | some l =>
              rw [hr] at h; cases h
              obtain ⟨h1, h2⟩ := wordsN_all n r l hr
              refine ⟨by simp only [List.length_cons]; omega, fun x hx => ?_⟩
              rcases List.mem_cons.1 hx with rfl | hx
              · exact ⟨by simp, by simp only [List.length_cons]; omega⟩
              · exact ⟨(h2 x hx).1, by have := (h2 x hx).2; omega⟩
      · have h3 := dropWhile_len (p := fun x => !isB x) t
        have h4 := (List.takeWhile_sublist (fun x => !isB x) (l := t)).length_le
        cases hr : wordsN n (t.dropWhile fun x => !isB x) with
        | none => rw [hr] at h; cases h
        | some l =>
          rw [hr] at h; cases h
          obtain ⟨h1, h2⟩ := wordsN_all n _ l hr
          refine ⟨by simp only [List.length_cons]; omega, fun x hx => ?_⟩
          rcases List.mem_cons.1 hx with rfl | hx
          · exact ⟨by simp, by simp only [List.length_cons]; omega⟩
          · exact ⟨(h2 x hx).1, by have := (h2 x hx).2; omega⟩
theorem wordsF_all {l : Txt} {ws : List Txt} (h : wordsF l = some ws) : ws.length ≤ l.length ∧ ∀ x ∈ ws, x ≠ [] ∧ x.length ≤ l.length := wordsN_all _ l ws h
theorem dropWhile_head {p : UInt8 → Bool} : ∀ {l : Txt} {c : UInt8} {t : Txt}, l.dropWhile p = c :: t → p c = false
  | [], _, _, h => by cases h
  | d :: l, c, t, h => by
    rw [List.dropWhile_cons] at h
    split at h
    · exact dropWhile_head h
    · rename_i hd; cases h; simpa using hd
theorem words_head {l : Txt} {c : UInt8} {t : Txt} (h : l.dropWhile isB = c :: t) : wordsF l = none ∨ ∃ w ws, wordsF l = some ((c :: w) :: ws) := by
  have hb := dropWhile_head h
  rw [← wordsF_drop l, h]
  by_cases h34 : c = 34
  · subst h34
    rw [wordsF_quote]
    cases quotedF t with
    | none => exact .inl rfl
    | some p =>
      obtain ⟨w, r⟩ := p
      dsimp only
      split
      · exact .inl rfl
      · cases wordsF r with
        | none => exact .inl rfl
        | some l => exact .inr ⟨w, l, rfl⟩
  · rw [wordsF_word hb h34]
    cases wordsF (t.dropWhile fun x => !isB x) with
    | none => exact .inl rfl
    | some l => exact .inr ⟨_, l, rfl⟩
theorem words_skip {l : Txt} (h : l.dropWhile isB = []) : wordsF l = some [] := by rw [← wordsF_drop l, h]; rfl
theorem splitF_ne (c : UInt8) : ∀ l : Txt, splitF c l ≠ []
  | [] => by simp [splitF]
  | x :: t => by
    unfold splitF
    split
    · simp
    · cases h : splitF c t <;> simp
theorem splitF_len (c : UInt8) : ∀ l : Txt, (splitF c l).length ≤ l.length + 1 ∧ ∀ x ∈ splitF c l, x.length ≤ l.length
  | [] => by simp [splitF]
  | x :: t => by
    obtain ⟨h1, h2⟩ := splitF_len c t
    unfold splitF
    simp only [List.length_cons]
    split
    · refine ⟨by simp only [List.length_cons]; omega, fun y hy => ?_⟩
      rcases List.mem_cons.1 hy with rfl | hy
      · simp
      · have := h2 y hy; omega
    · cases h : splitF c t with
      | nil => exact absurd h (splitF_ne c t)
      | cons w l =>
        rw [h] at h1 h2
        simp only [List.length_cons] at h1
        refine ⟨by simp only [List.length_cons]; omega, fun y hy => ?_⟩
        rcases List.mem_cons.1 hy with rfl | hy
        · have := h2 w (by simp); simp only [List.length_cons]; omega
        · have := h2 y (by simp [hy]); omega
theorem linesF_len (s : Txt) : (linesF s).length ≤ s.length + 1 ∧ ∀ x ∈ linesF s, x.length ≤ s.length := by
  obtain ⟨h1, h2⟩ := splitF_len 10 s
  unfold linesF
  dsimp only
  split
  · exact ⟨by rw [List.length_dropLast]; omega, fun x hx => h2 x (List.dropLast_subset _ hx)⟩
  · exact ⟨h1, h2⟩
/-- a text's lines and their last one -/
theorem linesF_last (s : Txt) : ∃ q m, splitF 10 s = q ++ [m] ∧ linesF s = if m = [] then q else q ++ [m] := by
  rcases List.eq_nil_or_concat (splitF 10 s) with h | ⟨q, m, h⟩
  · exact absurd h (splitF_ne _ _)
  · rw [List.concat_eq_append] at h
    refine ⟨q, m, h, ?_⟩
    unfold linesF
    dsimp only
    rw [h, List.getLast?_concat, List.dropLast_concat]
    by_cases hm : m = []
    · rw [if_pos hm, if_pos (by rw [hm])]
    · rw [if_neg hm, if_neg (by simpa using hm)]
theorem skipF_nil {l : Txt} (h : l.dropWhile isB = []) : skipF l = true := by unfold skipF; rw [h]
theorem skipF_cons {l : Txt} {c : UInt8} {t : Txt} (h : l.dropWhile isB = c :: t) : skipF l = (c == 35) := by unfold skipF; rw [h]
theorem takeF_len {o o' : List Nat} {k : Nat} (h : takeF o k = some o') (hl : o.length ≤ 8) : o'.length ≤ 8 := by
  unfold takeF at h
  split at h
  · split at h
    · cases h
    · cases h; rw [List.length_append]; simp; omega
  · split at h
    · split at h
      · cases h
        rw [List.length_append, List.length_dropLast]
        rename_i h1
        cases o with
        | nil => cases h1
        | cons a t => simp; simp at hl; omega
      · cases h
    · split at h
      · split at h
        · cases h
        · cases h; rw [List.length_dropLast]; omega
      · cases h; exact hl
/-- one line of a script -/
theorem parseL_step (l : Txt) (ls : List Txt) (i : Nat) (out : List Ln) (o : List Nat) : parseL (l :: ls) i out o = if skipF l then parseL ls (i + 1) out o
    else match wordsF l with
      | none => (none, i + 1)
      | some w => match lineF w with
        | none => (none, i + 1)
        | some x => if out.length = 200 then (none, i + 1) else match takeF o x.k with
          | none => (none, i + 1)
          | some o' => parseL ls (i + 1) (out ++ [x]) o' := by rw [parseL]; rfl
end Go.Scr
