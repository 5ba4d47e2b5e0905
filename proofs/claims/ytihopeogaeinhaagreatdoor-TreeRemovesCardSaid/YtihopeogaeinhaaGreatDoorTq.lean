import Derived.Test.YtihopeogaeinhaaGreatDoorTp
set_option linter.unusedVariables false
set_option linter.unusedSimpArgs false
set_option maxRecDepth 100000
/- Build scripts, plain: texts in quotes, noise, how many. -/
namespace Go.Scr

theorem splitF_line {c : UInt8} : ∀ (l r : Txt), c ∉ l → splitF c (l ++ c :: r) = l :: splitF c r
  | [], r, _ => by show splitF c (c :: r) = _; rw [splitF, if_pos rfl]
  | x :: l, r, h => by
    have hx : x ≠ c := fun e => h (by simp [e])
    show splitF c (x :: (l ++ c :: r)) = _
    rw [splitF, if_neg hx, splitF_line l r fun hm => h (by simp [hm])]
def catF (ls : List Txt) : Txt := ls.flatMap fun l => l ++ [10]
theorem splitF_cat : ∀ (ls : List Txt), (∀ l ∈ ls, (10 : UInt8) ∉ l) → splitF 10 (catF ls) = ls ++ [[]]
  | [], _ => rfl
  | l :: ls, h => by
    show splitF 10 ((l ++ [10]) ++ catF ls) = _
    rw [List.append_assoc]
    show splitF 10 (l ++ 10 :: catF ls) = _
    rw [splitF_line _ _ (h l (by simp)), splitF_cat ls fun x hx => h x (by simp [hx])]
    rfl
theorem linesF_cat (ls : List Txt) (h : ∀ l ∈ ls, (10 : UInt8) ∉ l) : linesF (catF ls) = ls := by
  unfold linesF
  dsimp only
  rw [splitF_cat ls h, List.getLast?_concat, if_pos rfl, List.dropLast_concat]
theorem catF_append (a b : List Txt) : catF (a ++ b) = catF a ++ catF b := by simp [catF]
theorem parseF_cat (ls : List Txt) (h : ∀ l ∈ ls, (10 : UInt8) ∉ l) (hl : (catF ls).length ≤ 65536) : parseF (catF ls) = parseL ls 0 [] [] := by
  unfold parseF
  rw [if_neg (by omega), linesF_cat ls h]

/- texts in quotes -/
def escB (c : UInt8) : Txt := if c = 34 ∨ c = 92 then [92, c] else if c = 10 then [92, 110] else [c]
def escF (t : Txt) : Txt := t.flatMap escB
theorem quotedF_esc : ∀ (t r : Txt), quotedF (escF t ++ 34 :: r) = some (t, r)
  | [], r => by show quotedF (34 :: r) = _; unfold quotedF; rw [if_pos rfl]
  | c :: t, r => by
    have ih := quotedF_esc t r
    have e : escF (c :: t) ++ 34 :: r = escB c ++ (escF t ++ 34 :: r) := by simp [escF]
    rw [e]
    unfold escB
    by_cases h1 : c = 34 ∨ c = 92
    · rw [if_pos h1]
      show quotedF (92 :: c :: (escF t ++ 34 :: r)) = _
      unfold quotedF
      rw [if_neg (by decide), if_pos rfl]
      dsimp only
      rw [if_pos h1, ih]; rfl
    · rw [if_neg h1]
      have h34 : c ≠ 34 := fun e => h1 (.inl e)
      have h92 : c ≠ 92 := fun e => h1 (.inr e)
      by_cases h2 : c = 10
      · rw [if_pos h2]
        subst h2
        show quotedF (92 :: 110 :: (escF t ++ 34 :: r)) = _
        unfold quotedF
        rw [if_neg (by decide), if_pos rfl]
        dsimp only
        rw [if_neg (by decide), if_pos rfl, ih]; rfl
      · rw [if_neg h2]
        show quotedF (c :: (escF t ++ 34 :: r)) = _
        unfold quotedF
        rw [if_neg h34, if_neg h92, ih]; rfl
theorem escF_ten (t : Txt) : (10 : UInt8) ∉ escF t := by
  intro h
  obtain ⟨c, _, hc⟩ := List.mem_flatMap.1 h
  unfold escB at hc
  split at hc
  · simp at hc; rename_i h; rcases h with rfl | rfl <;> simp at hc
  · split at hc
    · simp at hc
    · rename_i h2; simp at hc; exact h2 hc.symm
theorem escF_len (t : Txt) : (escF t).length ≤ 2 * t.length := by
  induction t with
  | nil => simp [escF]
  | cons c t ih =>
    have : escF (c :: t) = escB c ++ escF t := by simp [escF]
    rw [this, List.length_append, List.length_cons]
    have : (escB c).length ≤ 2 := by unfold escB; split <;> (try split) <;> simp
    omega
/-- write f "t" -/
def qLine (t : Txt) : Txt := [119, 114, 105, 116, 101, 32, 102, 32, 34] ++ escF t ++ [34]
def qLn (t : Txt) : Ln := ⟨1, [102], [], t, 0, false⟩
theorem qLine_words (t : Txt) : wordsF (qLine t) = some [[119, 114, 105, 116, 101], [102], 34 :: t] := by
  have e : qLine t = 119 :: ([114, 105, 116, 101] ++ 32 :: 102 :: 32 :: 34 :: (escF t ++ [34])) := by simp [qLine]
  rw [e, wordsF_word (by decide) (by decide)]
  show (wordsF (32 :: 102 :: 32 :: 34 :: (escF t ++ [34]))).map _ = _
  rw [wordsF_blank (by decide), wordsF_word (by decide) (by decide)]
  show ((wordsF (32 :: 34 :: (escF t ++ [34]))).map _).map _ = _
  rw [wordsF_blank (by decide), wordsF_quote, quotedF_esc t []]
  rfl
theorem parse_q : ∀ (ts : List Txt) (i : Nat) (out : List Ln), out.length + ts.length ≤ 200 → parseL (ts.map qLine) i out [] = (some (out ++ ts.map qLn), 0)
  | [], i, out, _ => by show (if ([] : List Nat) = [] then _ else _) = _; rw [if_pos rfl]; simp
  | t :: ts, i, out, h => by
    simp only [List.length_cons] at h
    show parseL (qLine t :: ts.map qLine) i out [] = _
    unfold parseL
    rw [if_neg (fun e => by have : skipF (qLine t) = false := rfl; rw [this] at e; cases e), qLine_words]
    show (if out.length = 200 then _ else parseL (ts.map qLine) (i + 1) (out ++ [qLn t]) []) = _
    rw [if_neg (by omega), parse_q ts (i + 1) _ (by rw [List.length_append]; simp; omega)]
    simp
theorem qLine_ten (t : Txt) : (10 : UInt8) ∉ qLine t := by
  unfold qLine
  intro h
  rw [List.mem_append, List.mem_append] at h
  rcases h with (h | h) | h
  · revert h; decide
  · exact escF_ten t h
  · revert h; decide
theorem parse_quotes (ts : List Txt) (h : ts.length ≤ 10) (hl : ∀ t ∈ ts, t.length ≤ 200) : parseF (catF (ts.map qLine)) = (some (ts.map qLn), 0) := by
  have hlen : ∀ (ts : List Txt), (∀ t ∈ ts, t.length ≤ 200) → (catF (ts.map qLine)).length ≤ 411 * ts.length := by
    intro ts
    induction ts with
    | nil => intro _; simp [catF]
    | cons t ts ih =>
      intro h
      have h1 := h t (by simp)
      have h2 := ih fun x hx => h x (by simp [hx])
      have h3 := escF_len t
      have : (catF ((t :: ts).map qLine)).length = (qLine t).length + 1 + (catF (ts.map qLine)).length := by simp [catF]; omega
      rw [this, List.length_cons]
      have : (qLine t).length = 10 + (escF t).length := by unfold qLine; simp; omega
      omega
  have := hlen ts hl
  rw [parseF_cat _ (fun l hl => by obtain ⟨t, _, rfl⟩ := List.mem_map.1 hl; exact qLine_ten t) (by omega), parse_q ts 0 [] (by simp; omega)]
  simp

/- texts -/
/-- a line's text (kinds 1, 7, 10) -/
def oneText (x : Ln) : Txt :=
  if x.k = 1 then [119, 114, 105, 116, 101, 32] ++ x.a ++ [32, 34] ++ escF x.tx ++ [34]
  else if x.k = 7 then [105, 102, 32] ++ (if x.nt then [110, 111, 116, 32] else []) ++ [101, 120, 105, 115, 116, 115, 32] ++ x.a
  else [101, 110, 100]
def tabsOf (deep k : Nat) : Nat := if k = 10 then deep - 1 - 0 else deep
def deepOf (deep k : Nat) : Nat := if k = 10 then deep - 1 else if k = 7 then deep + 1 else deep
def textL : Nat → List Ln → Txt
  | _, [] => []
  | d, x :: l => List.replicate (tabsOf d x.k) 9 ++ oneText x ++ [10] ++ textL (deepOf d x.k) l
theorem text_quotes : ∀ ts : List Txt, textL 0 (ts.map qLn) = catF (ts.map qLine)
  | [] => rfl
  | t :: ts => by
    show ([] ++ oneText (qLn t) ++ [10]) ++ textL 0 (ts.map qLn) = _
    rw [text_quotes ts]
    have : oneText (qLn t) = qLine t := by unfold oneText qLine qLn; simp
    rw [this]
    simp [catF]

/- noise -/
def textsF : List Txt := [[99, 111, 112, 121, 32, 97, 32, 98], [119, 114, 105, 116, 101, 32, 97, 32, 34, 120, 34], [97, 112, 112, 101, 110, 100, 32, 98, 47, 99, 32, 34, 36, 118, 92, 110, 34], [109, 107, 100, 105, 114, 32, 100], [114, 101, 109, 111, 118, 101, 32, 97], [114, 101, 110, 97, 109, 101, 32, 97, 32, 101], [115, 101, 116, 32, 118, 32, 34, 49, 34], [105, 102, 32, 101, 120, 105, 115, 116, 115, 32, 97], [105, 102, 32, 110, 111, 116, 32, 101, 120, 105, 115, 116, 115, 32, 97], [114, 101, 112, 101, 97, 116, 32, 50], [101, 108, 115, 101], [101, 110, 100], [102, 97, 105, 108, 32, 34, 110, 111, 34]]
def textN (k : Nat) : Txt := textsF.getD k []
/-- the lines ahead of a text that is noisy, what stands ahead of it and behind it -/
def noiseA : Nat → List Txt × Txt
  | 0 => ([], [])
  | 1 => ([[]], [])
  | 2 => ([[35, 32, 34]], [])
  | 3 => ([], [32, 32, 9])
  | _ => ([[9, 35, 32, 120]], [32, 32, 32])
def noiseB : Nat → Txt
  | 0 => []
  | 1 => [32]
  | _ => [9, 32]
def noisy (k n : Nat) : List Txt := (noiseA (n % 5)).1 ++ [(noiseA (n % 5)).2 ++ textN k ++ noiseB (n % 3)]
theorem noise_ok' : (List.range 13).all (fun k => (List.range 15).all fun n => ((noiseA (n % 5)).1.all skipF) && (wordsF ((noiseA (n % 5)).2 ++ textN k ++ noiseB (n % 3)) == wordsF (textN k)) && (skipF ((noiseA (n % 5)).2 ++ textN k ++ noiseB (n % 3)) == skipF (textN k)) && ((noisy k n).all fun l => !l.contains 10) && (!(textN k).contains 10) && ((catF (noisy k n)).length ≤ 40) && ((catF [textN k]).length ≤ 40)) = true := by decide +kernel
theorem noise_mod (n : Nat) : (n % 15) % 5 = n % 5 ∧ (n % 15) % 3 = n % 3 := by omega
theorem noisy_mod (k n : Nat) : noisy k (n % 15) = noisy k n := by unfold noisy; rw [(noise_mod n).1, (noise_mod n).2]
structure NoiseOk (k n : Nat) : Prop where
  skip : ∀ l ∈ (noiseA (n % 5)).1, skipF l = true
  words : wordsF ((noiseA (n % 5)).2 ++ textN k ++ noiseB (n % 3)) = wordsF (textN k)
  same : skipF ((noiseA (n % 5)).2 ++ textN k ++ noiseB (n % 3)) = skipF (textN k)
  ten : ∀ l ∈ noisy k n, (10 : UInt8) ∉ l
  ten0 : (10 : UInt8) ∉ textN k
  len : (catF (noisy k n)).length ≤ 40
  len0 : (catF [textN k]).length ≤ 40
theorem noise_ok (k n : Nat) (hk : k < 13) : NoiseOk k n := by
  have h := List.all_eq_true.1 (List.all_eq_true.1 noise_ok' k (by simpa using hk)) (n % 15) (by simp; omega)
  rw [(noise_mod n).1, (noise_mod n).2, noisy_mod] at h
  simp only [Bool.and_eq_true, List.all_eq_true, beq_iff_eq, decide_eq_true_eq, Bool.not_eq_true', List.contains_eq_mem, decide_eq_false_iff_not] at h
  obtain ⟨⟨⟨⟨⟨⟨h1, h2⟩, h3⟩, h4⟩, h5⟩, h6⟩, h7⟩ := h
  exact ⟨h1, h2, h3, h4, h5, h6, h7⟩
/-- noise says nothing, but for where an error is -/
theorem parse_skips : ∀ (ns : List Txt) (ls : List Txt) (i : Nat) (out : List Ln) (o : List Nat), (∀ l ∈ ns, skipF l = true) → parseL (ns ++ ls) i out o = parseL ls (i + ns.length) out o
  | [], ls, i, out, o, _ => rfl
  | n :: ns, ls, i, out, o, h => by
    show parseL (n :: (ns ++ ls)) i out o = _
    rw [parseL, if_pos (h n (by simp)), parse_skips ns ls (i + 1) out o fun l hl => h l (by simp [hl])]
    rw [List.length_cons]; congr 1; omega
theorem parse_noise : ∀ (l : List (Nat × Nat)) (i j : Nat) (out : List Ln) (o : List Nat), (∀ p ∈ l, p.1 < 13) → (parseL (l.flatMap fun p => noisy p.1 p.2) i out o).1 = (parseL (l.map fun p => textN p.1) j out o).1
  | [], i, j, out, o, _ => by
    show (parseL [] i out o).1 = (parseL [] j out o).1
    unfold parseL
    split <;> rfl
  | (k, n) :: l, i, j, out, o, h => by
    have hk := noise_ok k n (h (k, n) (by simp))
    have hr := fun i j out o => parse_noise l i j out o fun p hp => h p (by simp [hp])
    show (parseL (((noiseA (n % 5)).1 ++ [(noiseA (n % 5)).2 ++ textN k ++ noiseB (n % 3)]) ++ _) i out o).1 = (parseL (textN k :: _) j out o).1
    rw [List.append_assoc, parse_skips _ _ _ _ _ hk.skip]
    show (parseL (((noiseA (n % 5)).2 ++ textN k ++ noiseB (n % 3)) :: _) _ out o).1 = _
    unfold parseL
    rw [hk.same, hk.words]
    split
    · exact hr _ _ _ _
    · cases wordsF (textN k) with
      | none => rfl
      | some w =>
        dsimp only
        cases lineF w with
        | none => rfl
        | some x =>
          dsimp only
          split
          · rfl
          · cases takeF o x.k with
            | none => rfl
            | some o' => exact hr _ _ _ _
def plainS (l : List (Nat × Nat)) : Txt := catF (l.map fun p => textN p.1)
def noisyS (l : List (Nat × Nat)) : Txt := catF (l.flatMap fun p => noisy p.1 p.2)
theorem parse_noisy (l : List (Nat × Nat)) (h : ∀ p ∈ l, p.1 < 13) (hl : l.length ≤ 20) : (parseF (noisyS l)).1 = (parseF (plainS l)).1 := by
  have h1 : ∀ (l : List (Nat × Nat)), (∀ p ∈ l, p.1 < 13) → (noisyS l).length ≤ 40 * l.length ∧ (plainS l).length ≤ 40 * l.length := by
    intro l
    induction l with
    | nil => intro _; exact ⟨Nat.le_refl _, Nat.le_refl _⟩
    | cons p l ih =>
      intro h
      obtain ⟨i1, i2⟩ := ih fun x hx => h x (by simp [hx])
      have hk := noise_ok p.1 p.2 (h p (by simp))
      have e1 : noisyS (p :: l) = catF (noisy p.1 p.2) ++ noisyS l := by unfold noisyS; rw [List.flatMap_cons, catF_append]
      have e2 : plainS (p :: l) = catF [textN p.1] ++ plainS l := by unfold plainS; rw [List.map_cons]; exact catF_append [_] _
      have := hk.len
      have := hk.len0
      rw [e1, e2, List.length_append, List.length_append, List.length_cons]
      omega
  obtain ⟨h2, h3⟩ := h1 l h
  unfold noisyS plainS
  rw [parseF_cat _ (fun x hx => ?_) (by have := h2; unfold noisyS at this; omega), parseF_cat _ (fun x hx => ?_) (by have := h3; unfold plainS at this; omega)]
  · exact parse_noise l 0 0 [] [] h
  · obtain ⟨p, hp, rfl⟩ := List.mem_map.1 hx
    exact (noise_ok p.1 0 (h p hp)).ten0
  · obtain ⟨p, hp, hx⟩ := List.mem_flatMap.1 hx
    exact (noise_ok p.1 p.2 (h p hp)).ten x hx

/- how many -/
def mkL : Txt := [109, 107, 100, 105, 114, 32, 97]
theorem many_ok : (List.range 5).all (fun j => parseF (catF (List.replicate (198 + j) mkL)) == (if j ≤ 2 then (some (List.replicate (198 + j) ⟨3, [97], [], [], 0, false⟩), 0) else (none, 201))) = true := by decide +kernel
def ifL : Txt := [105, 102, 32, 101, 120, 105, 115, 116, 115, 32, 97]
def rpL : Txt := [114, 101, 112, 101, 97, 116, 32, 49]
def endL : Txt := [101, 110, 100]
def deepL (d n : Nat) : List Txt := (List.range d).map (fun i => if (i + n) % 2 = 0 then ifL else rpL) ++ List.replicate d endL
theorem deep_ok : (List.range 12).all (fun d => (List.range 2).all fun n => match parseF (catF (deepL d n)) with
    | (some l, at_) => d ≤ 8 && l.length == 2 * d && at_ == 0
    | (none, at_) => 8 < d && at_ == 9) = true := by decide +kernel
end Go.Scr
