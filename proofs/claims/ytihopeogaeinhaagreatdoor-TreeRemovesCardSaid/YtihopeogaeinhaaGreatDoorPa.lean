import Derived.Test.YtihopeogaeinhaaGreatDoorTq
set_option linter.unusedVariables false
set_option linter.unusedSimpArgs false
set_option maxRecDepth 100000
/- Paths, plain: parts, what a path is cleaned to, what stands above and below it. -/
namespace Go.Pth
open Go.Scr
def badC (c : UInt8) : Bool := decide (c.toNat < 33) || decide (126 < c.toNat) || c.toNat == 34 || c.toNat == 92 || c.toNat == 42 || c.toNat == 63 || c.toNat == 58
def badP (s : Txt) : Bool := decide (32 < s.length) || s.any badC
def glue : List Txt → Txt
  | [] => []
  | [x] => x
  | x :: y :: l => x ++ 47 :: glue (y :: l)
def walkF (stay : Nat) (l : List Txt) : List Txt → List Txt × Nat
  | [] => if 12 < l.length then ([], 50) else (l, 0)
  | x :: xs => if x = [] ∨ x = [46] then walkF stay l xs
    else if x = [46, 46] then (if l.length ≤ stay then ([], 51) else walkF stay l.dropLast xs)
    else if badP x = true then ([], 50) else walkF stay (l ++ [x]) xs
def partsF (p : Txt) : List Txt := if p = [] then [] else splitF 47 p
def joinP (d s : Txt) : Txt × Nat :=
  if 200 < (if d = [] then 0 else d.length + 1) + s.length then ([], 50)
  else if s.head? = some 47 then ([], 51)
  else (glue (walkF (partsF d).length (partsF d) (splitF 47 s)).1, (walkF (partsF d).length (partsF d) (splitF 47 s)).2)
def cleanF (s : Txt) : Txt × Nat := joinP [] s
def parentF (p : Txt) : Txt := glue (partsF p).dropLast
def withinF (p d : Txt) : Bool := d == [] || p == d || (d ++ [47]).isPrefixOf p
/-- the directories above a path, the outermost first -/
def pars (p : Txt) : List Txt := (List.range ((partsF p).length - 1)).map fun i => glue ((partsF p).take (i + 1))
structure GoodP (x : Txt) : Prop where
  ne : x ≠ []
  dot : x ≠ [46]
  dots : x ≠ [46, 46]
  ok : badP x = false
  no : (47 : UInt8) ∉ x
structure CleanL (l : List Txt) : Prop where
  good : ∀ x ∈ l, GoodP x
  deep : l.length ≤ 12
  long : (glue l).length ≤ 200
def CleanP (p : Txt) : Prop := ∃ l, p = glue l ∧ CleanL l

theorem split_none {c : UInt8} : ∀ {l : Txt}, c ∉ l → splitF c l = [l]
  | [], _ => rfl
  | x :: l, h => by
    have hx : x ≠ c := fun e => h (by simp [e])
    rw [splitF, if_neg hx, split_none (l := l) fun hm => h (by simp [hm])]
theorem glue_cons (x : Txt) {l : List Txt} (h : l ≠ []) : glue (x :: l) = x ++ 47 :: glue l := by
  cases l with
  | nil => exact absurd rfl h
  | cons y l => rfl
theorem split_glue : ∀ {l : List Txt}, (∀ x ∈ l, (47 : UInt8) ∉ x) → l ≠ [] → splitF 47 (glue l) = l
  | [], _, h => absurd rfl h
  | [x], h, _ => split_none (h x (by simp))
  | x :: y :: l, h, _ => by
    rw [glue_cons x (by simp), splitF_line _ _ (h x (by simp)), split_glue (l := y :: l) (fun z hz => h z (by simp [hz])) (by simp)]
theorem split_ne (c : UInt8) : ∀ s : Txt, splitF c s ≠ []
  | [] => by simp [splitF]
  | x :: t => by
    rw [splitF]
    split
    · simp
    · split <;> simp
theorem glue_split : ∀ s : Txt, glue (splitF 47 s) = s
  | [] => rfl
  | x :: t => by
    have ih := glue_split t
    rw [splitF]
    split
    · rename_i h; rw [glue_cons _ (split_ne _ _), ih, h]; rfl
    · cases ht : splitF 47 t with
      | nil => exact absurd ht (split_ne _ _)
      | cons w l =>
        rw [ht] at ih
        cases l with
        | nil => show x :: w = _; rw [← ih]; rfl
        | cons y l => rw [← ih]; rfl
theorem split_no (c : UInt8) : ∀ (s : Txt), ∀ x ∈ splitF c s, c ∉ x
  | [], x, h => by simp [splitF] at h; subst h; simp
  | a :: t, x, h => by
    rw [splitF] at h
    split at h
    · rcases List.mem_cons.1 h with h | h
      · subst h; simp
      · exact split_no c t x h
    · rename_i hac
      cases ht : splitF c t with
      | nil => exact absurd ht (split_ne _ _)
      | cons w l =>
        rw [ht] at h
        have ih := split_no c t
        rw [ht] at ih
        rcases List.mem_cons.1 h with h | h
        · subst h
          intro hm
          rcases List.mem_cons.1 hm with e | e
          · exact hac e.symm
          · exact ih w (by simp) e
        · exact ih x (by simp [h])
/-- the bytes of parts, each with one more -/
def glen (l : List Txt) : Nat := (l.map fun x => x.length + 1).sum
theorem glen_append (a b : List Txt) : glen (a ++ b) = glen a + glen b := by simp [glen]
theorem glue_len : ∀ {l : List Txt}, l ≠ [] → (glue l).length + 1 = glen l
  | [], h => absurd rfl h
  | [x], _ => by simp [glue, glen]
  | x :: y :: l, _ => by
    have := glue_len (l := y :: l) (by simp)
    rw [glue_cons x (by simp), List.length_append, List.length_cons]
    have e : glen (x :: y :: l) = x.length + 1 + glen (y :: l) := by simp [glen]
    omega
theorem glue_le (l : List Txt) : (glue l).length ≤ glen l := by
  by_cases h : l = []
  · subst h; exact Nat.zero_le _
  · have := glue_len h; omega
theorem glen_split (s : Txt) : glen (splitF 47 s) = s.length + 1 := by rw [← glue_len (split_ne 47 s), glue_split]
theorem dropLast_sub {α : Type} (l : List α) : l.dropLast.Sublist l := List.dropLast_sublist l
theorem glen_dropLast (l : List Txt) : glen l.dropLast ≤ glen l := by
  by_cases h : l = []
  · subst h; exact Nat.le_refl _
  · have := congrArg glen (List.dropLast_concat_getLast h)
    rw [glen_append] at this; omega
structure WalkOk (l xs : List Txt) (r : List Txt × Nat) : Prop where
  code : r.2 = 0 ∨ r.2 = 50 ∨ r.2 = 51
  bad : r.2 ≠ 0 → r.1 = []
  deep : r.1.length ≤ 12
  len : glen r.1 ≤ glen l + glen xs
  good : (∀ x ∈ l, GoodP x) → (∀ x ∈ xs, (47 : UInt8) ∉ x) → ∀ x ∈ r.1, GoodP x
theorem walk_ok (stay : Nat) : ∀ (xs l : List Txt), WalkOk l xs (walkF stay l xs)
  | [], l => by
    rw [walkF]
    split
    · exact ⟨by simp, fun _ => rfl, by simp, Nat.zero_le _, fun _ _ x h => by cases h⟩
    · exact ⟨by simp, fun h => absurd rfl h, by show l.length ≤ 12; omega, Nat.le_add_right _ _, fun h _ => h⟩
  | x :: xs, l => by
    have e : glen (x :: xs) = x.length + 1 + glen xs := by simp [glen]
    have hB : ∀ n, (n = 0 ∨ n = 50 ∨ n = 51) → WalkOk l (x :: xs) ([], n) := fun n hn => ⟨hn, fun _ => rfl, by simp, Nat.zero_le _, fun _ _ x h => by cases h⟩
    rw [walkF]
    split
    · have ih := walk_ok stay xs l
      exact ⟨ih.code, ih.bad, ih.deep, by have := ih.len; omega, fun h1 h2 => ih.good h1 fun y hy => h2 y (by simp [hy])⟩
    · rename_i h1
      split
      · split
        · exact hB _ (by simp)
        · have ih := walk_ok stay xs l.dropLast
          exact ⟨ih.code, ih.bad, ih.deep, by have := ih.len; have := glen_dropLast l; omega, fun h1 h2 => ih.good (fun y hy => h1 y ((dropLast_sub l).subset hy)) fun y hy => h2 y (by simp [hy])⟩
      · rename_i h2
        split
        · exact hB _ (by simp)
        · rename_i h3
          have ih := walk_ok stay xs (l ++ [x])
          refine ⟨ih.code, ih.bad, ih.deep, ?_, fun g1 g2 => ih.good (fun y hy => ?_) fun y hy => g2 y (by simp [hy])⟩
          · have := ih.len; rw [glen_append] at this; have : glen [x] = x.length + 1 := by simp [glen]
            omega
          · rcases List.mem_append.1 hy with hy | hy
            · exact g1 y hy
            · rw [List.mem_singleton] at hy; subst hy
              exact ⟨fun e => h1 (.inl e), fun e => h1 (.inr e), h2, by simpa using h3, g2 y (by simp)⟩
theorem walk_id (stay : Nat) : ∀ (xs l : List Txt), (∀ x ∈ xs, GoodP x) → l.length + xs.length ≤ 12 → walkF stay l xs = (l ++ xs, 0)
  | [], l, _, h => by rw [walkF, if_neg (by simp at h; omega), List.append_nil]
  | x :: xs, l, hg, h => by
    have g := hg x (by simp)
    rw [walkF, if_neg (fun e => e.elim g.ne g.dot), if_neg g.dots, if_neg (by rw [g.ok]; simp), walk_id stay xs (l ++ [x]) (fun y hy => hg y (by simp [hy])) (by simp at h ⊢; omega)]
    simp
theorem glue_nil {l : List Txt} (h : ∀ x ∈ l, GoodP x) (hn : l ≠ []) : glue l ≠ [] := by
  cases l with
  | nil => exact absurd rfl hn
  | cons x l =>
    have := (h x (by simp)).ne
    cases l with
    | nil => exact this
    | cons y l => rw [glue_cons x (by simp)]; simp
theorem parts_glue {l : List Txt} (h : ∀ x ∈ l, GoodP x) : partsF (glue l) = l := by
  unfold partsF
  by_cases hn : l = []
  · subst hn; rfl
  · rw [if_neg (glue_nil h hn), split_glue (fun x hx => (h x hx).no) hn]
theorem glue_inj {l k : List Txt} (h : ∀ x ∈ l, GoodP x) (h' : ∀ x ∈ k, GoodP x) (e : glue l = glue k) : l = k := by
  rw [← parts_glue h, e, parts_glue h']
theorem glue_parts (p : Txt) : glue (partsF p) = p := by
  unfold partsF
  split
  · rename_i h; subst h; rfl
  · exact glue_split p
theorem join_cases (s : Txt) : joinP [] s = ([], 50) ∨ joinP [] s = ([], 51) ∨ s.length ≤ 200 ∧ joinP [] s = (glue (walkF 0 [] (splitF 47 s)).1, (walkF 0 [] (splitF 47 s)).2) := by
  unfold joinP
  rw [if_pos (rfl : ([] : Txt) = []), Nat.zero_add]
  by_cases h1 : 200 < s.length
  · rw [if_pos h1]; exact .inl rfl
  · rw [if_neg h1]
    by_cases h2 : s.head? = some 47
    · rw [if_pos h2]; exact .inr (.inl rfl)
    · rw [if_neg h2]; exact .inr (.inr ⟨by omega, rfl⟩)
theorem clean_ok {s p : Txt} (h : cleanF s = (p, 0)) : CleanP p ∧ p.length ≤ s.length := by
  unfold cleanF at h
  have hw := walk_ok 0 (splitF 47 s) []
  rcases join_cases s with e | e | ⟨hs, e⟩ <;> rw [e] at h
  · simp at h
  · simp at h
  · obtain ⟨r, hr⟩ : ∃ r, walkF 0 [] (splitF 47 s) = r := ⟨_, rfl⟩
    rw [hr] at h hw
    have e1 : glue r.1 = p := congrArg Prod.fst h
    have hl := hw.len
    rw [glen_split] at hl
    have hlen : p.length ≤ s.length := by
      rw [← e1]
      by_cases hn : r.1 = []
      · rw [hn]; exact Nat.zero_le _
      · have := glue_len hn
        have e : glen [] = 0 := rfl
        omega
    refine ⟨⟨r.1, e1.symm, hw.good (fun x hx => by cases hx) (split_no 47 s), hw.deep, ?_⟩, hlen⟩
    rw [e1]; omega
theorem clean_code (s : Txt) : ((cleanF s).2 = 0 ∨ (cleanF s).2 = 50 ∨ (cleanF s).2 = 51) ∧ ((cleanF s).2 ≠ 0 → (cleanF s).1 = []) := by
  unfold cleanF
  have hw := walk_ok 0 (splitF 47 s) []
  rcases join_cases s with e | e | ⟨_, e⟩ <;> rw [e]
  · exact ⟨by simp, fun _ => rfl⟩
  · exact ⟨by simp, fun _ => rfl⟩
  · exact ⟨hw.code, fun h => by show glue _ = []; rw [hw.bad h]; rfl⟩
theorem no_head {p : Txt} {l : List Txt} (h : ∀ x ∈ l, GoodP x) : (glue l).head? ≠ some 47 := by
  cases l with
  | nil => simp [glue]
  | cons x l =>
    have g := h x (by simp)
    have hx : x.head? ≠ some 47 := fun e => g.no (List.mem_of_mem_head? e)
    cases l with
    | nil => exact hx
    | cons y l =>
      rw [glue_cons x (by simp)]
      cases x with
      | nil => exact absurd rfl g.ne
      | cons c x => exact hx
theorem clean_id {l : List Txt} (h : CleanL l) : cleanF (glue l) = (glue l, 0) := by
  unfold cleanF joinP
  rw [if_neg (by have := h.long; simp; omega), if_neg (no_head (p := []) h.good)]
  show (glue (walkF 0 [] (splitF 47 (glue l))).1, (walkF 0 [] (splitF 47 (glue l))).2) = _
  by_cases hn : l = []
  · subst hn; rfl
  · rw [split_glue (fun x hx => (h.good x hx).no) hn, walk_id 0 l [] h.good (by simpa using h.deep)]; rfl
theorem CleanP.id {p : Txt} (h : CleanP p) : cleanF p = (p, 0) := by
  obtain ⟨l, rfl, h⟩ := h; exact clean_id h
theorem CleanP.parts {p : Txt} (h : CleanP p) : CleanL (partsF p) := by
  obtain ⟨l, rfl, h⟩ := h; rw [parts_glue h.good]; exact h
theorem CleanP.nil : CleanP [] := ⟨[], rfl, by simp, by simp, by simp [glue]⟩
theorem take_glen (l : List Txt) (k : Nat) : glen (l.take k) ≤ glen l := by
  have := congrArg glen (List.take_append_drop k l); rw [glen_append] at this; omega
theorem CleanL.take {l : List Txt} (h : CleanL l) (k : Nat) : CleanL (l.take k) := by
  refine ⟨fun x hx => h.good x (List.mem_of_mem_take hx), by have := h.deep; simp; omega, ?_⟩
  by_cases h1 : l.take k = []
  · rw [h1]; simp [glue]
  · have h2 : l ≠ [] := fun e => h1 (by simp [e])
    have := glue_len h1; have := glue_len h2; have := take_glen l k; have := h.long; omega
/-- above a path and below it -/
theorem glue_app : ∀ {a b : List Txt}, a ≠ [] → b ≠ [] → glue (a ++ b) = glue a ++ 47 :: glue b
  | [], _, h, _ => absurd rfl h
  | [x], b, _, hb => glue_cons x hb
  | x :: y :: a, b, _, hb => by
    rw [List.cons_append, glue_cons x (by simp), glue_app (a := y :: a) (by simp) hb, glue_cons x (by simp)]
    simp
theorem pre_split : ∀ (a : List Txt) (s t : Txt), a ≠ [] → (∀ x ∈ a, (47 : UInt8) ∉ x) → s = glue a ++ 47 :: t → splitF 47 s = a ++ splitF 47 t
  | [], _, _, h, _, _ => absurd rfl h
  | [x], s, t, _, h, e => by rw [e]; exact splitF_line x t (h x (by simp))
  | x :: y :: a, s, t, _, h, e => by
    rw [e, glue_cons x (by simp)]
    show splitF 47 ((x ++ 47 :: glue (y :: a)) ++ 47 :: t) = _
    rw [List.append_assoc, List.cons_append, splitF_line _ _ (h x (by simp)), pre_split (y :: a) _ t (by simp) (fun z hz => h z (by simp [hz])) rfl]
    rfl
theorem within_iff {l k : List Txt} (h : ∀ x ∈ l, GoodP x) (h' : ∀ x ∈ k, GoodP x) : withinF (glue l) (glue k) = true ↔ k <+: l := by
  unfold withinF
  rw [Bool.or_eq_true, Bool.or_eq_true, beq_iff_eq, beq_iff_eq, List.isPrefixOf_iff_prefix]
  constructor
  · rintro ((e | e) | e)
    · by_cases hk : k = []
      · subst hk; exact List.nil_prefix
      · exact absurd e (glue_nil h' hk)
    · rw [glue_inj h h' e]; exact List.prefix_refl _
    · obtain ⟨t, e⟩ := e
      by_cases hk : k = []
      · subst hk; exact List.nil_prefix
      have hl : l ≠ [] := by rintro rfl; simp [glue] at e
      have e1 := pre_split k (glue l) t hk (fun x hx => (h' x hx).no) (by rw [← e]; simp)
      rw [split_glue (fun x hx => (h x hx).no) hl] at e1
      exact ⟨_, e1.symm⟩
  · rintro ⟨t, rfl⟩
    by_cases hk : k = []
    · subst hk; exact .inl (.inl rfl)
    by_cases ht : t = []
    · subst ht; exact .inl (.inr (by simp))
    · exact .inr ⟨glue t, by rw [glue_app hk ht]; simp⟩
theorem glue_drop {k r : List Txt} (hk : k ≠ []) : (glue (k ++ r)).drop (glue k).length = if r = [] then [] else 47 :: glue r := by
  split
  · rename_i h; subst h; simp
  · rename_i h; rw [glue_app hk h]; simp
theorem glue_move {k r m : List Txt} (hk : k ≠ []) (hm : m ≠ []) : glue m ++ (glue (k ++ r)).drop (glue k).length = glue (m ++ r) := by
  rw [glue_drop hk]
  split
  · rename_i h; subst h; simp
  · rename_i h; rw [glue_app hm h]
/-- a path's parents by its last part's place -/
theorem parent_take (p : Txt) : parentF p = glue ((partsF p).take ((partsF p).length - 1)) := by unfold parentF; rw [List.dropLast_eq_take]
theorem parent_glue {l : List Txt} (h : ∀ x ∈ l, GoodP x) : parentF (glue l) = glue l.dropLast := by unfold parentF; rw [parts_glue h]
theorem pars_len (p : Txt) : (pars p).length = (partsF p).length - 1 := by simp [pars]
theorem pars_get (p : Txt) {i : Nat} (h : i < (partsF p).length - 1) : (pars p)[i]? = some (glue ((partsF p).take (i + 1))) := by
  unfold pars; rw [List.getElem?_map, List.getElem?_range h]; rfl
end Go.Pth
