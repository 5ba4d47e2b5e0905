set_option linter.unusedVariables false
set_option linter.unusedSimpArgs false
set_option maxRecDepth 100000
/- Build scripts, plain: words, lines, blocks. -/
namespace Go.Scr
abbrev Txt := List UInt8
def isB (c : UInt8) : Bool := c == 32 || c == 9

/-- behind an opening quote: the text, what stands behind the closing one -/
def quotedF : Txt → Option (Txt × Txt)
  | [] => none
  | c :: t =>
    if c = 34 then some ([], t)
    else if c = 92 then match t with
      | [] => none
      | d :: u =>
        if d = 34 ∨ d = 92 then (quotedF u).map fun p => (d :: p.1, p.2)
        else if d = 110 then (quotedF u).map fun p => (10 :: p.1, p.2)
        else none
    else (quotedF t).map fun p => (c :: p.1, p.2)
theorem quotedF_len : ∀ (n : Nat) (l : Txt), l.length ≤ n → ∀ {w r : Txt}, quotedF l = some (w, r) → r.length < l.length
  | _, [], _, _, _, h => by simp [quotedF] at h
  | 0, c :: t, hn, _, _, _ => by simp at hn
  | n + 1, c :: t, hn, w, r, h => by
    simp only [List.length_cons] at hn ⊢
    unfold quotedF at h
    split at h
    · cases h; omega
    · split at h
      · split at h
        · cases h
        · rename_i d u
          simp only [List.length_cons] at hn ⊢
          split at h
          · cases hq : quotedF u with
            | none => rw [hq] at h; cases h
            | some p => rw [hq] at h; cases h; have := quotedF_len n u (by omega) (w := p.1) (r := p.2) hq; omega
          · split at h
            · cases hq : quotedF u with
              | none => rw [hq] at h; cases h
              | some p => rw [hq] at h; cases h; have := quotedF_len n u (by omega) (w := p.1) (r := p.2) hq; omega
            · cases h
      · cases hq : quotedF t with
        | none => rw [hq] at h; cases h
        | some p => rw [hq] at h; cases h; have := quotedF_len n t (by omega) (w := p.1) (r := p.2) hq; omega

theorem dropWhile_len {p : UInt8 → Bool} : ∀ l : Txt, (l.dropWhile p).length ≤ l.length
  | [] => Nat.le_refl _
  | c :: t => by
    rw [List.dropWhile_cons]
    split
    · have := dropWhile_len (p := p) t; simp only [List.length_cons]; omega
    · exact Nat.le_refl _
def wordsN : Nat → Txt → Option (List Txt)
  | _, [] => some []
  | 0, _ => none
  | n + 1, c :: t =>
    if isB c then wordsN n t
    else if c = 34 then match quotedF t with
      | none => none
      | some (w, r) => if r ≠ [] ∧ ¬ isB (r.headD 0) = true then none else (wordsN n r).map fun l => (34 :: w) :: l
    else (wordsN n (t.dropWhile fun x => !isB x)).map fun l => (c :: t.takeWhile fun x => !isB x) :: l
def wordsF (l : Txt) : Option (List Txt) := wordsN l.length l
theorem wordsN_big : ∀ (n m : Nat) (l : Txt), l.length ≤ n → l.length ≤ m → wordsN n l = wordsN m l
  | n, m, [], _, _ => by cases n <;> cases m <;> rfl
  | 0, m, c :: t, h, _ => by simp at h
  | n + 1, 0, c :: t, _, h => by simp at h
  | n + 1, m + 1, c :: t, h1, h2 => by
    simp only [List.length_cons] at h1 h2
    unfold wordsN
    have hd := dropWhile_len (p := fun x => !isB x) t
    split
    · exact wordsN_big n m t (by omega) (by omega)
    · split
      · cases hq : quotedF t with
        | none => rfl
        | some p =>
          obtain ⟨w, r⟩ := p
          have := quotedF_len _ t (Nat.le_refl _) hq
          dsimp only
          rw [wordsN_big n m r (by omega) (by omega)]
      · rw [wordsN_big n m _ (by omega) (by omega)]
theorem wordsF_nil : wordsF [] = some [] := rfl
theorem wordsF_blank {c : UInt8} {t : Txt} (h : isB c = true) : wordsF (c :: t) = wordsF t := by
  show wordsN (t.length + 1) (c :: t) = _
  unfold wordsN
  rw [if_pos h]; rfl
theorem wordsF_quote {t : Txt} : wordsF (34 :: t) = match quotedF t with
    | none => none
    | some (w, r) => if r ≠ [] ∧ ¬ isB (r.headD 0) = true then none else (wordsF r).map fun l => (34 :: w) :: l := by
  show wordsN (t.length + 1) (34 :: t) = _
  unfold wordsN
  rw [if_neg (by decide), if_pos rfl]
  cases hq : quotedF t with
  | none => rfl
  | some p =>
    obtain ⟨w, r⟩ := p
    have := quotedF_len _ t (Nat.le_refl _) hq
    dsimp only
    rw [wordsN_big t.length r.length r (by omega) (Nat.le_refl _)]
    rfl
theorem wordsF_word {c : UInt8} {t : Txt} (h1 : isB c = false) (h2 : c ≠ 34) : wordsF (c :: t) = (wordsF (t.dropWhile fun x => !isB x)).map fun l => (c :: t.takeWhile fun x => !isB x) :: l := by
  show wordsN (t.length + 1) (c :: t) = _
  unfold wordsN
  rw [if_neg (by rw [h1]; decide), if_neg h2]
  have hd := dropWhile_len (p := fun x => !isB x) t
  rw [wordsN_big t.length _ _ hd (Nat.le_refl _)]
  rfl
theorem wordsF_drop : ∀ l : Txt, wordsF (l.dropWhile isB) = wordsF l
  | [] => rfl
  | c :: t => by
    rw [List.dropWhile_cons]
    split
    · rename_i h; rw [wordsF_drop t, wordsF_blank h]
    · rfl

/-- a line -/
structure Ln where
  k : Nat
  a : Txt
  b : Txt
  tx : Txt
  n : Nat
  nt : Bool
deriving DecidableEq
def kws : List Txt := [[99, 111, 112, 121], [119, 114, 105, 116, 101], [97, 112, 112, 101, 110, 100], [109, 107, 100, 105, 114], [114, 101, 109, 111, 118, 101], [114, 101, 110, 97, 109, 101], [115, 101, 116], [105, 102], [114, 101, 112, 101, 97, 116], [101, 108, 115, 101], [101, 110, 100], [102, 97, 105, 108]]
def wNot : Txt := [110, 111, 116]
def wExists : Txt := [101, 120, 105, 115, 116, 115]
def kindF (w : Txt) : Nat := kws.findIdx (· == w)
/-- is a word unquoted -/
def plainW (w : Txt) : Bool := w.head? != some 34
def numL : Nat → Txt → Option Nat
  | n, [] => some n
  | n, c :: t => if 48 ≤ c.toNat ∧ c.toNat ≤ 57 then numL (10 * n + (c.toNat - 48)) t else none
def numberF (w : Txt) : Option Nat := if 9 < w.length then none else match numL 0 w with
  | none => none
  | some n => if n ≤ 1000 then some n else none
def twoF (k : Nat) : List Txt → Option Ln
  | [x, y] => if plainW x ∧ plainW y then some ⟨k, x, y, [], 0, false⟩ else none
  | _ => none
def textF (k : Nat) : List Txt → Option Ln
  | [x, y] => if plainW x ∧ ¬ plainW y then some ⟨k, x, [], y.tail, 0, false⟩ else none
  | _ => none
def oneF (k : Nat) : List Txt → Option Ln
  | [x] => if plainW x then some ⟨k, x, [], [], 0, false⟩ else none
  | _ => none
def askedF : List Txt → Option Ln
  | [e, x] => if e = wExists ∧ plainW x then some ⟨7, x, [], [], 0, false⟩ else none
  | [n, e, x] => if n = wNot ∧ e = wExists ∧ plainW x then some ⟨7, x, [], [], 0, true⟩ else none
  | _ => none
def repeatF : List Txt → Option Ln
  | [x] => (numberF x).map fun n => ⟨8, [], [], [], n, false⟩
  | _ => none
def bareF (k : Nat) : List Txt → Option Ln
  | [] => some ⟨k, [], [], [], 0, false⟩
  | _ => none
def failF : List Txt → Option Ln
  | [x] => if ¬ plainW x then some ⟨11, [], [], x.tail, 0, false⟩ else none
  | _ => none
def lineF : List Txt → Option Ln
  | [] => none
  | w :: ws => match kindF w with
    | 0 => twoF 0 ws
    | 1 => textF 1 ws
    | 2 => textF 2 ws
    | 3 => oneF 3 ws
    | 4 => oneF 4 ws
    | 5 => twoF 5 ws
    | 6 => textF 6 ws
    | 7 => askedF ws
    | 8 => repeatF ws
    | 9 => bareF 9 ws
    | 10 => bareF 10 ws
    | 11 => failF ws
    | _ => none
/-- what is open -/
def takeF (o : List Nat) (k : Nat) : Option (List Nat) :=
  if k = 7 ∨ k = 8 then (if o.length = 8 then none else some (o ++ [k]))
  else if k = 9 then (if o.getLast? = some 7 then some (o.dropLast ++ [9]) else none)
  else if k = 10 then (if o = [] then none else some o.dropLast)
  else some o
def splitF (c : UInt8) : Txt → List Txt
  | [] => [[]]
  | x :: t => if x = c then [] :: splitF c t else match splitF c t with
    | [] => [[x]]
    | w :: l => (x :: w) :: l
def linesF (s : Txt) : List Txt := let l := splitF 10 s; if l.getLast? = some [] then l.dropLast else l
def skipF (l : Txt) : Bool := match l.dropWhile isB with
  | [] => true
  | c :: _ => c == 35
def parseL : List Txt → Nat → List Ln → List Nat → Option (List Ln) × Nat
  | [], _, out, o => if o = [] then (some out, 0) else (none, 0)
  | l :: ls, i, out, o =>
    if skipF l then parseL ls (i + 1) out o
    else match wordsF l with
      | none => (none, i + 1)
      | some w => match lineF w with
        | none => (none, i + 1)
        | some x => if out.length = 200 then (none, i + 1) else match takeF o x.k with
          | none => (none, i + 1)
          | some o' => parseL ls (i + 1) (out ++ [x]) o'
def parseF (s : Txt) : Option (List Ln) × Nat := if 65536 < s.length then (none, 0) else parseL (linesF s) 0 [] []
end Go.Scr
