import Derived.Test.YtphkaogbcfdllaaGreatDoorKd
set_option linter.unusedVariables false
set_option linter.unusedSimpArgs false
set_option maxRecDepth 100000
/- Build scripts: what is plain of lines and words. -/
namespace Go.Scr
theorem wordsN_all : ∀ (n : Nat) (l : Txt) (ws : List Txt), wordsN n l = some ws → ws.length ≤ l.length ∧ ∀ x ∈ ws, x ≠ [] ∧ x.length ≤ l.length
  | n, [], ws, h => by cases n <;> (cases h; exact ⟨Nat.le_refl _, fun x hx => by cases hx⟩)
  | 0, c :: t, ws, h => by cases h
  | n + 1, c :: t, ws, h => by
    unfold wordsN at h
    simp only [List.length_cons]
    split at h
    · obtain ⟨h1, h2⟩ := wordsN_all n t ws h
      exact ⟨by omega, fun x hx => ⟨(h2 x hx).1, by have := (h2 x hx).2; omega⟩⟩
    · split at h
      · cases hq : quotedF t with
        | none => rw [hq] at h; cases h
        | some p =>
          obtain ⟨w, r⟩ := p
          have h3 := quotedF_len _ t (Nat.le_refl _) hq
          have h4 := Go.Proofs.YtphkaogbcfdllaaGreatDoor.quotedF_wlen _ t (Nat.le_refl _) hq
          rw [hq] at h
          dsimp only at h
          split at h
          · cases h
          · cases hr : wordsN n r with
            | none => rw [hr] at h; cases h
            | some l =>
              rw [hr] at h; cases h
              obtain ⟨h1, h2⟩ := wordsN_all n r l hr
              refine ⟨by simp only [List.length_cons]; omega, fun x hx => ?_⟩
              rcases List.mem_cons.1 hx with rfl | hx
              · exact ⟨by simp, by simp only [List.length_cons]; omega⟩
              · exact ⟨(h2 x hx).1, by have := (h2 x hx).2; omega⟩
      · have h3 := dropWhile_len (p := fun x => !isB x) t
        have h4 := (List.takeWhile_sublist (fun x => !isB x) (l := t)).length_le
        cases hr : wordsN n (t.dropWhile fun x => !isB x) with
        | none => rw [hr] at h; cases h
        | some l =>
          rw [hr] at h; cases h
          obtain ⟨h1, h2⟩ := wordsN_all n _ l hr
          refine ⟨by simp only [List.length_cons]; omega, fun x hx => ?_⟩
          rcases List.mem_cons.1 hx with rfl | hx
          · exact ⟨by simp, by simp only [List.length_cons]; omega⟩
          · exact ⟨(h2 x hx).1, by have := (h2 x hx).2; omega⟩
theorem wordsF_all {l : Txt} {ws : List Txt} (h : wordsF l = some ws) : ws.length ≤ l.length ∧ ∀ x ∈ ws, x ≠ [] ∧ x.length ≤ l.length := wordsN_all _ l ws h
theorem dropWhile_head {p : UInt8 → Bool} : ∀ {l : Txt} {c : UInt8} {t : Txt}, l.dropWhile p = c :: t → p c = false
  | [], _, _, h => by cases h
  | d :: l, c, t, h => by
    rw [List.dropWhile_cons] at h
    split at h
    · exact dropWhile_head h
    · rename_i hd; cases h; simpa using hd
theorem words_head {l : Txt} {c : UInt8} {t : Txt} (h : l.dropWhile isB = c :: t) : wordsF l = none ∨ ∃ w ws, wordsF l = some ((c :: w) :: ws) := by
  have hb := dropWhile_head h
  rw [← wordsF_drop l, h]
  by_cases h34 : c = 34
  · subst h34
    rw [wordsF_quote]
    cases quotedF t with
    | none => exact .inl rfl
    | some p =>
      obtain ⟨w, r⟩ := p
      dsimp only
      split
      · exact .inl rfl
      · cases wordsF r with
        | none => exact .inl rfl
        | some l => exact .inr ⟨w, l, rfl⟩
  · rw [wordsF_word hb h34]
    cases wordsF (t.dropWhile fun x => !isB x) with
    | none => exact .inl rfl
    | some l => exact .inr ⟨_, l, rfl⟩
theorem words_skip {l : Txt} (h : l.dropWhile isB = []) : wordsF l = some [] := by rw [← wordsF_drop l, h]; rfl
theorem splitF_ne (c : UInt8) : ∀ l : Txt, splitF c l ≠ []
  | [] => by simp [splitF]
  | x :: t => by
    unfold splitF
    split
    · simp
    · cases h : splitF c t <;> simp
theorem splitF_len (c : UInt8) : ∀ l : Txt, (splitF c l).length ≤ l.length + 1 ∧ ∀ x ∈ splitF c l, x.length ≤ l.length
  | [] => by simp [splitF]
  | x :: t => by
    obtain ⟨h1, h2⟩ := splitF_len c t
    unfold splitF
    simp only [List.length_cons]
    split
    · refine ⟨by simp only [List.length_cons]; omega, fun y hy => ?_⟩
      rcases List.mem_cons.1 hy with rfl | hy
      · simp
      · have := h2 y hy; omega
    · cases h : splitF c t with
      | nil => exact absurd h (splitF_ne c t)
      | cons w l =>
        rw [h] at h1 h2
        simp only [List.length_cons] at h1
        refine ⟨by simp only [List.length_cons]; omega, fun y hy => ?_⟩
        rcases List.mem_cons.1 hy with rfl | hy
        · have := h2 w (by simp); simp only [List.length_cons]; omega
        · have := h2 y (by simp [hy]); omega
theorem linesF_len (s : Txt) : (linesF s).length ≤ s.length + 1 ∧ ∀ x ∈ linesF s, x.length ≤ s.length := by
  obtain ⟨h1, h2⟩ := splitF_len 10 s
  unfold linesF
  dsimp only
  split
  · exact ⟨by rw [List.length_dropLast]; omega, fun x hx => h2 x (List.dropLast_subset _ hx)⟩
  · exact ⟨h1, h2⟩
/-- a text's lines and their last one -/
theorem linesF_last (s : Txt) : ∃ q m, splitF 10 s = q ++ [m] ∧ linesF s = if m = [] then q else q ++ [m] := by
  rcases List.eq_nil_or_concat (splitF 10 s) with h | ⟨q, m, h⟩
  · exact absurd h (splitF_ne _ _)
  · rw [List.concat_eq_append] at h
    refine ⟨q, m, h, ?_⟩
    unfold linesF
    dsimp only
    rw [h, List.getLast?_concat, List.dropLast_concat]
    by_cases hm : m = []
    · rw [if_pos hm, if_pos (by rw [hm])]
    · rw [if_neg hm, if_neg (by simpa using hm)]
theorem skipF_nil {l : Txt} (h : l.dropWhile isB = []) : skipF l = true := by unfold skipF; rw [h]
theorem skipF_cons {l : Txt} {c : UInt8} {t : Txt} (h : l.dropWhile isB = c :: t) : skipF l = (c == 35) := by unfold skipF; rw [h]
theorem takeF_len {o o' : List Nat} {k : Nat} (h : takeF o k = some o') (hl : o.length ≤ 8) : o'.length ≤ 8 := by
  unfold takeF at h
  split at h
  · split at h
    · cases h
    · cases h; rw [List.length_append]; simp; omega
  · split at h
    · split at h
      · cases h
        rw [List.length_append, List.length_dropLast]
        rename_i h1
        cases o with
        | nil => cases h1
        | cons a t => simp; simp at hl; omega
      · cases h
    · split at h
      · split at h
        · cases h
        · cases h; rw [List.length_dropLast]; omega
      · cases h; exact hl
/-- one line of a script -/
theorem parseL_step (l : Txt) (ls : List Txt) (i : Nat) (out : List Ln) (o : List Nat) : parseL (l :: ls) i out o = if skipF l then parseL ls (i + 1) out o
    else match wordsF l with
      | none => (none, i + 1)
      | some w => match lineF w with
        | none => (none, i + 1)
        | some x => if out.length = 200 then (none, i + 1) else match takeF o x.k with
          | none => (none, i + 1)
          | some o' => parseL ls (i + 1) (out ++ [x]) o' := by rw [parseL]; rfl
end Go.Scr
/- Build scripts, the reference: small functions. -/
namespace Go.Scr
theorem kws_self : ∀ j, j < 12 → kindF (kws.getD j []) = j := by decide
theorem kind_eq {w : Txt} {k : Nat} (hK : kindF w = k) (hk : k < 12) : w = kws.getD k [] := by
  subst hK
  have h := List.findIdx_getElem (p := (· == w)) (xs := kws) (w := hk)
  rw [List.getD_eq_getElem?_getD, List.getElem?_eq_getElem hk]
  exact (by simpa using h : kws[kws.findIdx (· == w)] = w).symm
end Go.Scr
namespace Go.Proofs.YtphkaogbcfdllaaGreatDoor
open Go Go.Vc Go.Scr
theorem PureH.build2 {P : Program} {t : TypeId} {l : List Nat} {v v' : Value} {K : Value → Prop} (cells : Array Value) (h : P.built t (l.zip [v, v']) = some cells) (hk : K (.agg cells)) : PureH P (Instr.build t (l.zip [v, v']).toArray) K :=
  PureH.build cells h hk
theorem PureH.build3 {P : Program} {t : TypeId} {l : List Nat} {v v' v'' : Value} {K : Value → Prop} (cells : Array Value) (h : P.built t (l.zip [v, v', v'']) = some cells) (hk : K (.agg cells)) : PureH P (Instr.build t (l.zip [v, v', v'']).toArray) K :=
  PureH.build cells h hk
theorem plain_pos {w : Bs} (h : plainW w = false) : 1 ≤ w.length := by
  cases w with
  | nil => cases h
  | cons c t => simp
theorem kw_t {w : Bs} {K : Nat} (hK : kindF w = K) (j : Nat) (hj : j < 12) (e : j = K) : ((mkS w).toList == (mkS (kws.getD j [])).toList) = true := by
  subst e; rw [str_mk]; exact decide_eq_true (kind_eq hK hj)
theorem kw_f {w : Bs} {K : Nat} (hK : kindF w = K) (j : Nat) (hj : j < 12) (e : j ≠ K) : ((mkS w).toList == (mkS (kws.getD j [])).toList) = false := by
  rw [str_mk]; exact decide_eq_false fun h => e (by rw [← hK, h]; exact (kws_self j hj).symm)
theorem rquoted_any (w : Bs) (H : Heap) : CallH Tryz.prog 109 [.string (mkS w)] H fun v H' => v = .bool (!plainW w) ∧ H = H' := by
  refine Vc.CallH.body Tryz.func109 Tryz.call109 rfl (by decide +kernel) rfl ?_
  cases w with
  | nil =>
    ((conv => whnf); repeat (any_goals (first | (refine Vc.stp ?_; intros; (conv => whnf)) | (refine Vc.spl ?_ ?_ <;> (intro _; (conv => whnf))))))
    exact ⟨rfl, rfl⟩
  | cons c t =>
    have hne := ne_empty c t
    have hsz : (mkS (c :: t)).size = t.length + 1 := rfl
    ((conv => whnf); repeat (any_goals (first | ((refine IdxH.nat 0 rfl (by omega) ?_); (conv => whnf)) | (refine Vc.stp ?_; intros; (conv => whnf)) | (refine Vc.spl ?_ ?_ <;> (intro _; (conv => whnf))))))
    exact ⟨by rw [plain_cons]; simp; rfl, rfl⟩
theorem rplain_any (L : List Bs) (a : Option Addr) (n cap : Nat) (H : Heap) (hr : Row H a (strs L)) (hn : L.length = n) (hm : n ≤ 1000000000) : CallH Tryz.prog 108 [.slice a n cap] H fun v H' => v = .bool (L.all plainW) ∧ H = H' := by
  obtain ⟨F, hF⟩ : ∃ F, L.all plainW = F := ⟨_, rfl⟩
  rw [hF]
  refine Vc.CallH.body Tryz.func108 Tryz.call108 rfl (by decide +kernel) rfl ?_
  ((conv => whnf); repeat (any_goals (first | (refine Vc.sts ?_; (conv => whnf)))))
  refine LoopH.intro (fun (i : Nat) => [(3, .int .i64 i)]) (fun i H' => H = H' ∧ i ≤ n ∧ F = (L.drop i).all plainW) (fun i => n - i) 0 ⟨rfl, trivial⟩ ⟨rfl, Nat.zero_le _, hF.symm⟩ ?_
  rintro i _ ⟨rfl, hi, hinv⟩
  by_cases hlt : i < n
  · have hd : L.drop i = L.getD i [] :: L.drop (i + 1) := by
      rw [List.drop_eq_getElem_cons (by omega), List.getD_eq_getElem?_getD, List.getElem?_eq_getElem (by omega)]; rfl
    rw [hd, List.all_cons] at hinv
    cases hp : plainW (L.getD i [])
    · ((conv => whnf); repeat (any_goals (first | ((refine IdxA.strD hr hn i rfl hlt ?_; intro _ _ _ _ _); (conv => whnf)) | ((refine (rquoted_any _ _).mono ?_; rintro _ _ ⟨rfl, rfl⟩; rw [hp]); (conv => whnf)) | (refine Vc.stp ?_; intros; (conv => whnf)) | (refine Vc.spl ?_ ?_ <;> (intro _; (conv => whnf))))))
      rw [hinv, hp]; exact ⟨rfl, rfl⟩
    · rw [hp, Bool.true_and] at hinv
      ((conv => whnf); repeat (any_goals (first | ((refine IdxA.strD hr hn i rfl hlt ?_; intro _ _ _ _ _); (conv => whnf)) | ((refine (rquoted_any _ _).mono ?_; rintro _ _ ⟨rfl, rfl⟩; rw [hp]); (conv => whnf)) | (refine Vc.stp ?_; intros; (conv => whnf)) | (refine Vc.spl ?_ ?_ <;> (intro _; (conv => whnf))))))
      exact ⟨i + 1, ⟨rfl, trivial⟩, ⟨rfl, by omega, hinv⟩, by omega⟩
  · rw [List.drop_of_length_le (by omega)] at hinv
    ((conv => whnf); repeat (any_goals (first | (refine Vc.stp ?_; intros; (conv => whnf)) | (refine Vc.spl ?_ ?_ <;> (intro _; (conv => whnf))))))
    rw [hinv]; exact ⟨rfl, rfl⟩
def commF (l : Bs) : Bool := match l.dropWhile isB with
  | [] => false
  | c :: _ => c == 35
theorem commF_cons (c : UInt8) (t : Bs) : commF (c :: t) = if isB c then commF t else c == 35 := by
  unfold commF
  rw [List.dropWhile_cons]
  cases isB c <;> rfl
theorem rcomment_any (s : Bs) (hl : s.length ≤ 1000000000) (H : Heap) : CallH Tryz.prog 58 [.string (mkS s)] H fun v H' => v = .bool (commF s) ∧ H = H' := by
  obtain ⟨F, hF⟩ : ∃ F, commF s = F := ⟨_, rfl⟩
  rw [hF]
  have hsz : (mkS s).size = s.length := rfl
  refine Vc.CallH.body Tryz.func58 Tryz.call58 rfl (by decide +kernel) rfl ?_
  ((conv => whnf); repeat (any_goals (first | (refine Vc.sts ?_; (conv => whnf)))))
  refine LoopH.intro (fun (i : Nat) => [(3, .int .i64 i)]) (fun i H' => H = H' ∧ i ≤ s.length ∧ F = commF (s.drop i)) (fun i => s.length - i) 0 ⟨rfl, trivial⟩ ⟨rfl, Nat.zero_le _, hF.symm⟩ ?_
  rintro i _ ⟨rfl, hi, hinv⟩
  by_cases hlt : i < s.length
  · obtain ⟨c, hc, hdr⟩ := drop_get hlt
    rw [hdr, commF_cons] at hinv
    cases hb : isB c
    · obtain ⟨n32, n9⟩ := isB_num_f hb
      rw [hb, if_neg (by decide)] at hinv
      ((conv => whnf); repeat (any_goals (first | ((refine IdxH.nat i rfl (by omega) ?_; (conv => whnf); rw [hc]); (conv => whnf)) | (refine Vc.stp ?_; intros; (conv => whnf)) | (refine Vc.spl ?_ ?_ <;> (intro _; (conv => whnf))))))
      refine ⟨?_, rfl⟩
      rw [hinv]
      show Value.bool ((c.toNat : Int) == 35) = _
      congr 1
      rw [Bool.eq_iff_iff, beq_iff_eq, beq_iff_eq]
      constructor
      · intro h; exact UInt8.toNat_inj.1 (by show c.toNat = 35; omega)
      · intro h; rw [h]; rfl
    · rw [hb, if_pos rfl] at hinv
      rcases isB_num hb with m | m
      · ((conv => whnf); repeat (any_goals (first | ((refine IdxH.nat i rfl (by omega) ?_; (conv => whnf); rw [hc]); (conv => whnf)) | (refine Vc.stp ?_; intros; (conv => whnf)) | (refine Vc.spl ?_ ?_ <;> (intro _; (conv => whnf))))))
        exact ⟨i + 1, ⟨rfl, trivial⟩, ⟨rfl, by omega, hinv⟩, by omega⟩
      · ((conv => whnf); repeat (any_goals (first | ((refine IdxH.nat i rfl (by omega) ?_; (conv => whnf); rw [hc]); (conv => whnf)) | (refine Vc.stp ?_; intros; (conv => whnf)) | (refine Vc.spl ?_ ?_ <;> (intro _; (conv => whnf))))))
        exact ⟨i + 1, ⟨rfl, trivial⟩, ⟨rfl, by omega, hinv⟩, by omega⟩
  · rw [List.drop_of_length_le (by omega)] at hinv
    ((conv => whnf); repeat (any_goals (first | (refine Vc.stp ?_; intros; (conv => whnf)) | (refine Vc.spl ?_ ?_ <;> (intro _; (conv => whnf))))))
    rw [hinv]; exact ⟨rfl, rfl⟩
end Go.Proofs.YtphkaogbcfdllaaGreatDoor
/- Texts' lines: the reference's Split and Lines. -/
namespace Go.Scr
def glueF (cur : Txt) : List Txt → List Txt
  | [] => [cur]
  | w :: l => (cur ++ w) :: l
theorem glueF_nil (l : List Txt) (h : l ≠ []) : glueF [] l = l := by cases l with | nil => exact absurd rfl h | cons w l => rfl
theorem glueF_step {c x : UInt8} (h : x ≠ c) (cur t : Txt) : glueF cur (splitF c (x :: t)) = glueF (cur ++ [x]) (splitF c t) := by
  rw [splitF, if_neg h]
  cases splitF c t with
  | nil => rfl
  | cons w l => simp [glueF]
theorem glueF_cut (c : UInt8) (cur t : Txt) : glueF cur (splitF c (c :: t)) = cur :: splitF c t := by
  rw [splitF, if_pos rfl]; simp [glueF]
/-- what stands from a to b -/
def mid (l : Txt) (a b : Nat) : Txt := (l.drop a).take (b - a)
theorem mid_self (l : Txt) (a : Nat) : mid l a a = [] := by simp [mid]
theorem mid_snoc {l : Txt} {a b : Nat} {c : UInt8} {t : Txt} (hab : a ≤ b) (h : l.drop b = c :: t) : mid l a (b + 1) = mid l a b ++ [c] := by
  unfold mid
  have e : b + 1 - a = (b - a) + 1 := by omega
  have h2 : (l.drop a).drop (b - a) = c :: t := by rw [List.drop_drop, show a + (b - a) = b by omega]; exact h
  rw [e, List.take_add_one]
  congr 1
  have := congrArg (·[0]?) h2
  simp only [List.getElem?_drop, List.getElem?_cons_zero] at this
  simp only [List.getElem?_drop]
  have h3 : (0 : Nat) + (a + (b - a)) = a + (b - a) := by omega
  simp at this
  simp [this]
end Go.Scr
namespace Go.Proofs.YtphkaogbcfdllaaGreatDoor
open Go Go.Vc Go.Scr
structure SSt where
  i : Nat
  fr : Nat
  out : List Bs
  a : Option Addr
  cap : Nat
def splitI (s : Bs) (c : UInt8) (x : SSt) : List Bs := if x.i ≤ s.length then x.out ++ glueF (mid s x.fr x.i) (splitF c (s.drop x.i)) else x.out
set_option maxHeartbeats 4000000 in
theorem rsplit_any (s : Bs) (c : UInt8) (hl : s.length ≤ 100000000) (H : Heap) : CallH Tryz.prog 94 [.string (mkS s), .int .u8 c.toNat] H fun v H' => (∃ a cap, v = .slice a (splitF c s).length cap ∧ Own H' H.size 9 1 a (splitF c s).length cap (strs (splitF c s))) ∧ Ext H H' := by
  obtain ⟨S, hS⟩ : ∃ S, splitF c s = S := ⟨_, rfl⟩
  rw [hS]
  have hsz : (mkS s).size = s.length := rfl
  refine Vc.CallH.body Tryz.func94 Tryz.call94 rfl (by decide +kernel) rfl ?_
  ((conv => whnf); repeat (any_goals (first | (refine Vc.sts ?_; (conv => whnf)))))
  refine LoopH.intro (fun (x : SSt) => [(7, .int .i64 x.i), (6, .int .i64 x.fr), (5, .slice x.a x.out.length x.cap)]) (fun x H' => x.i ≤ s.length + 1 ∧ x.fr ≤ x.i ∧ x.out.length ≤ x.i ∧ S = splitI s c x ∧ Own H' H.size 9 1 x.a x.out.length x.cap (strs x.out) ∧ Ext H H') (fun x => s.length + 1 - x.i) ⟨0, 0, [], none, 0⟩ ⟨rfl, rfl, rfl, trivial⟩ ⟨Nat.zero_le _, Nat.le_refl _, Nat.le_refl _, ?_, Own.nil _ _ _ _, Ext.refl _⟩ ?_
  · unfold splitI
    rw [if_pos (Nat.zero_le _)]
    show S = glueF [] (splitF c s)
    rw [glueF_nil _ (splitF_ne c s), hS]
  rintro ⟨i, fr, out, a, cap⟩ H2 ⟨hi, hfr, hol, hinv, ho2, hx2⟩
  dsimp only at hi hfr hol hinv ho2 ⊢
  unfold splitI at hinv
  dsimp only at hinv
  have hxe : (mkS s).extract fr i = mkS (mid s fr i) := mkS_ext _ _ _
  by_cases hle : i ≤ s.length
  · rw [if_pos hle] at hinv
    by_cases hlt : i < s.length
    · obtain ⟨d, hd, hdr⟩ := drop_get hlt
      rw [hdr] at hinv
      by_cases hdc : d = c
      · subst hdc
        rw [glueF_cut] at hinv
        ((conv => whnf); repeat (any_goals (first | ((refine IdxH.nat i rfl (by omega) ?_; (conv => whnf); rw [hd]); (conv => whnf)) | ((refine BndH.nat fr rfl (by omega) ?_); (conv => whnf)) | ((refine BndH.nat i rfl (by omega) ?_); (conv => whnf)) | (refine Vc.stp ?_; intros; (conv => whnf)) | (refine Vc.spl ?_ ?_ <;> (intro _; (conv => whnf))))))
        rename_i H5 hs5 hb5 hx5 a6 c6 H6 ho6 hx6
        refine ⟨⟨i + 1, i + 1, out ++ [mid s fr i], a6, c6⟩, ⟨rfl, rfl, sl_snocS _ _ _ _, trivial⟩, ⟨by show i + 1 ≤ _; omega, Nat.le_refl _, by show (out ++ [_]).length ≤ i + 1; simp; omega, ?_, own_snocS hxe ho6, hx6⟩, by show s.length + 1 - (i + 1) < s.length + 1 - i; omega⟩
        unfold splitI
        rw [if_pos (show i + 1 ≤ s.length by omega), hinv]
        show _ = (out ++ [mid s fr i]) ++ glueF (mid s (i + 1) (i + 1)) (splitF d (s.drop (i + 1)))
        rw [mid_self, glueF_nil _ (splitF_ne _ _)]; simp
      · have hne : d.toNat ≠ c.toNat := fun e => hdc (UInt8.toNat_inj.1 e)
        rw [glueF_step hdc, ← mid_snoc hfr hdr] at hinv
        ((conv => whnf); repeat (any_goals (first | ((refine IdxH.nat i rfl (by omega) ?_; (conv => whnf); rw [hd]); (conv => whnf)) | (refine Vc.stp ?_; intros; (conv => whnf)) | (refine Vc.spl ?_ ?_ <;> (intro _; (conv => whnf))))))
        refine ⟨⟨i + 1, fr, out, a, cap⟩, ⟨rfl, rfl, rfl, trivial⟩, ⟨by show i + 1 ≤ _; omega, by show fr ≤ i + 1; omega, by show out.length ≤ i + 1; omega, ?_, ho2, hx2⟩, by show s.length + 1 - (i + 1) < s.length + 1 - i; omega⟩
        unfold splitI
        rw [if_pos (show i + 1 ≤ s.length by omega), hinv]
    · have hil : i = s.length := by omega
      subst hil
      rw [List.drop_of_length_le (by omega)] at hinv
      ((conv => whnf); repeat (any_goals (first | ((refine BndH.nat fr rfl (by omega) ?_); (conv => whnf)) | ((refine BndH.nat s.length rfl (by omega) ?_); (conv => whnf)) | (refine Vc.stp ?_; intros; (conv => whnf)) | (refine Vc.spl ?_ ?_ <;> (intro _; (conv => whnf))))))
      rename_i H5 hs5 hb5 hx5 a6 c6 H6 ho6 hx6
      refine ⟨⟨s.length + 1, s.length + 1, out ++ [mid s fr s.length], a6, c6⟩, ⟨rfl, rfl, sl_snocS _ _ _ _, trivial⟩, ⟨Nat.le_refl _, Nat.le_refl _, by show (out ++ [_]).length ≤ s.length + 1; simp; omega, ?_, own_snocS hxe ho6, hx6⟩, by show s.length + 1 - (s.length + 1) < s.length + 1 - s.length; omega⟩
      unfold splitI
      rw [if_neg (show ¬ s.length + 1 ≤ s.length by omega), hinv]
      show _ = out ++ [mid s fr s.length]
      unfold splitF glueF; simp
  · rw [if_neg hle] at hinv
    ((conv => whnf); repeat (any_goals (first | (refine Vc.stp ?_; intros; (conv => whnf)) | (refine Vc.spl ?_ ?_ <;> (intro _; (conv => whnf))))))
    rw [hinv]
    exact ⟨⟨a, cap, rfl, ho2⟩, hx2⟩
theorem rlines_any (s : Bs) (hl : s.length ≤ 100000000) (H : Heap) : CallH Tryz.prog 56 [.string (mkS s)] H fun v H' => (∃ a cap, v = .slice a (linesF s).length cap ∧ Own H' H.size 9 1 a (linesF s).length cap (strs (linesF s))) ∧ Ext H H' := by
  obtain ⟨q, m, hq, hL⟩ := linesF_last s
  have hsp := fun H => rsplit_any s 10 hl H
  have hSl := (splitF_len 10 s).1
  rw [hq] at hsp hSl
  rw [List.length_append] at hSl
  have hln : (q ++ [m]).length = q.length + 1 := by simp
  simp only [List.length_cons, List.length_nil] at hSl
  rw [hL]
  refine Vc.CallH.body Tryz.func56 Tryz.call56 rfl (by decide +kernel) rfl ?_
  cases m with
  | nil =>
    rw [if_pos rfl]
    ((conv => whnf); repeat (any_goals (first | ((refine (hsp _).mono ?_; rintro _ H2 ⟨⟨al, cl, rfl, ho2⟩, hx2⟩; have hz2 := hx2.size; have hcl := ho2.cap_le); (conv => whnf)) | ((refine IdxA.strv ho2.row rfl q.length [] (by omega) (by simp) ?_; intro _ _ _ _ _); (conv => whnf)) | ((refine BndH.nat q.length (by omega) (by omega) ?_); (conv => whnf)) | (refine Vc.stp ?_; intros; (conv => whnf)) | (refine Vc.spl ?_ ?_ <;> (intro _; (conv => whnf))))))
    refine ⟨⟨al, cl, rfl, ?_⟩, hx2⟩
    have := ho2.cut q.length (by omega)
    rw [Nat.mul_one] at this
    have e : (strs (q ++ [[]])).take q.length = strs q := by rw [strs_append, List.take_left' (strs_length q)]
    rw [e] at this; exact this
  | cons c t =>
    have hne := ne_empty c t
    rw [if_neg (by simp)]
    ((conv => whnf); repeat (any_goals (first | ((refine (hsp _).mono ?_; rintro _ H2 ⟨⟨al, cl, rfl, ho2⟩, hx2⟩; have hz2 := hx2.size); (conv => whnf)) | ((refine IdxA.strv ho2.row rfl q.length (c :: t) (by omega) (by simp) ?_; intro _ _ _ _ _); (conv => whnf)) | (refine Vc.stp ?_; intros; (conv => whnf)) | (refine Vc.spl ?_ ?_ <;> (intro _; (conv => whnf))))))
    exact ⟨⟨al, cl, rfl, ho2⟩, hx2⟩
end Go.Proofs.YtphkaogbcfdllaaGreatDoor
/- Build scripts, the code: a line out of its words. -/
namespace Go.Proofs.YtphkaogbcfdllaaGreatDoor
open Go Go.Vc Go.Scr

def readR (v : Value) : Option Ln → Prop
  | some x => v = .tuple #[.agg (lnC x), .bool true]
  | none => ∃ k a b tx n nt, v = .tuple #[.agg (lineC k a b tx n nt), .bool false]
end Go.Proofs.YtphkaogbcfdllaaGreatDoor
/- Build scripts, the reference: a line out of its words. -/
namespace Go.Proofs.YtphkaogbcfdllaaGreatDoor
open Go Go.Vc Go.Scr

set_option maxHeartbeats 4000000 in
theorem rline_0 (w : Bs) (ws : List Bs) (a : Option Addr) (cap : Nat) (H : Heap) (hr : Row H a (strs (w :: ws))) (hc : (w :: ws).length ≤ cap) (hm : (w :: ws).length ≤ 1000000000) (hwl : ∀ x ∈ w :: ws, x.length ≤ 1000000000) (hK : kindF w = 0) : CallH Tryz.prog 59 [.slice a (w :: ws).length cap] H fun v H' => readR v (lineF (w :: ws)) ∧ Ext H H' := by
  refine Vc.CallH.body Tryz.func59 Tryz.call59 rfl (by decide +kernel) rfl ?_
  have hw : w = kws.getD 0 [] := kind_eq hK (by decide)
  have e0 : ((mkS w).toList == (⟨#[99, 111, 112, 121]⟩ : ByteArray).toList) = true := kw_t hK 0 (by decide) rfl
  have e1 : ((mkS w).toList == (⟨#[119, 114, 105, 116, 101]⟩ : ByteArray).toList) = false := kw_f hK 1 (by decide) (by decide)
  have e2 : ((mkS w).toList == (⟨#[97, 112, 112, 101, 110, 100]⟩ : ByteArray).toList) = false := kw_f hK 2 (by decide) (by decide)
  have e3 : ((mkS w).toList == (⟨#[109, 107, 100, 105, 114]⟩ : ByteArray).toList) = false := kw_f hK 3 (by decide) (by decide)
  have e4 : ((mkS w).toList == (⟨#[114, 101, 109, 111, 118, 101]⟩ : ByteArray).toList) = false := kw_f hK 4 (by decide) (by decide)
  have e5 : ((mkS w).toList == (⟨#[114, 101, 110, 97, 109, 101]⟩ : ByteArray).toList) = false := kw_f hK 5 (by decide) (by decide)
  have e6 : ((mkS w).toList == (⟨#[115, 101, 116]⟩ : ByteArray).toList) = false := kw_f hK 6 (by decide) (by decide)
  have e7 : ((mkS w).toList == (⟨#[105, 102]⟩ : ByteArray).toList) = false := kw_f hK 7 (by decide) (by decide)
  have e8 : ((mkS w).toList == (⟨#[114, 101, 112, 101, 97, 116]⟩ : ByteArray).toList) = false := kw_f hK 8 (by decide) (by decide)
  have e9 : ((mkS w).toList == (⟨#[101, 108, 115, 101]⟩ : ByteArray).toList) = false := kw_f hK 9 (by decide) (by decide)
  have e10 : ((mkS w).toList == (⟨#[101, 110, 100]⟩ : ByteArray).toList) = false := kw_f hK 10 (by decide) (by decide)
  have e11 : ((mkS w).toList == (⟨#[102, 97, 105, 108]⟩ : ByteArray).toList) = false := kw_f hK 11 (by decide) (by decide)
  have hpw : plainW w = true := by rw [hw]; rfl
  match ws, hr, hc, hm, hwl with
  | [], hr, hc, hm, hwl =>
    have hlen : (w :: ([] : List Bs)).length = 0 + 1 := by simp
    simp only [List.length_cons, List.length_nil] at hc hm
    ((conv => whnf); repeat (any_goals (first | ((refine IdxA.strv hr rfl 0 _ rfl rfl ?_; intro _ _ _ _ _); (conv => whnf)) | ((refine IdxA.strv hr rfl 1 _ rfl rfl ?_; intro _ _ _ _ _); (conv => whnf)) | ((refine IdxA.strv hr rfl 2 _ rfl rfl ?_; intro _ _ _ _ _); (conv => whnf)) | ((refine IdxA.strv hr rfl 3 _ rfl rfl ?_; intro _ _ _ _ _); (conv => whnf)) | ((refine BndH.nat 2 rfl (by omega) ?_); (conv => whnf)) | ((refine BndH.nat 1 rfl (by omega) ?_); (conv => whnf)) | ((refine (cp _ (by exact Vc.xt)).mono ?_; rintro _ _ ⟨rfl, rfl⟩); (conv => whnf)) | ((refine (cp2 _ (by exact Vc.xt)).mono ?_; rintro _ _ ⟨rfl, rfl⟩); (conv => whnf)) | ((refine (rquoted_any _ _).mono ?_; rintro _ _ ⟨rfl, rfl⟩); (conv => whnf)) | ((refine PureH.build0 (lineC 0 [] [] [] 0 false) (by kernel_rfl) ?_); (conv => whnf)) | (refine Vc.stp ?_; intros; (conv => whnf)) | (refine Vc.spl ?_ ?_ <;> (intro _; (conv => whnf))))))
    all_goals exact ⟨by rw [show lineF (w :: []) = none from by simp [lineF, hK, twoF]]; exact ⟨_, _, _, _, _, _, rfl⟩, by exact Vc.xt⟩
  | [x], hr, hc, hm, hwl =>
    have hlen : (w :: ([x] : List Bs)).length = 1 + 1 := by simp
    simp only [List.length_cons, List.length_nil] at hc hm
    have hlx : x.length ≤ 1000000000 := hwl x (by simp)
    ((conv => whnf); repeat (any_goals (first | ((refine IdxA.strv hr rfl 0 _ rfl rfl ?_; intro _ _ _ _ _); (conv => whnf)) | ((refine IdxA.strv hr rfl 1 _ rfl rfl ?_; intro _ _ _ _ _); (conv => whnf)) | ((refine IdxA.strv hr rfl 2 _ rfl rfl ?_; intro _ _ _ _ _); (conv => whnf)) | ((refine IdxA.strv hr rfl 3 _ rfl rfl ?_; intro _ _ _ _ _); (conv => whnf)) | ((refine BndH.nat 2 rfl (by omega) ?_); (conv => whnf)) | ((refine BndH.nat 1 rfl (by omega) ?_); (conv => whnf)) | ((refine (cp _ (by exact Vc.xt)).mono ?_; rintro _ _ ⟨rfl, rfl⟩); (conv => whnf)) | ((refine (cp2 _ (by exact Vc.xt)).mono ?_; rintro _ _ ⟨rfl, rfl⟩); (conv => whnf)) | ((refine (rquoted_any _ _).mono ?_; rintro _ _ ⟨rfl, rfl⟩); (conv => whnf)) | ((refine PureH.build0 (lineC 0 [] [] [] 0 false) (by kernel_rfl) ?_); (conv => whnf)) | (refine Vc.stp ?_; intros; (conv => whnf)) | (refine Vc.spl ?_ ?_ <;> (intro _; (conv => whnf))))))
    all_goals exact ⟨by rw [show lineF (w :: [x]) = none from by simp [lineF, hK, twoF]]; exact ⟨_, _, _, _, _, _, rfl⟩, by exact Vc.xt⟩
  | [x, y], hr, hc, hm, hwl =>
    have hlen : (w :: ([x, y] : List Bs)).length = 2 + 1 := by simp
    simp only [List.length_cons, List.length_nil] at hc hm
    have hlx : x.length ≤ 1000000000 := hwl x (by simp)
    have hly : y.length ≤ 1000000000 := hwl y (by simp)
    have cp := fun H2 (k : Ext H H2) => rplain_any (w :: [x, y]) a _ cap H2 (hr.ext k) rfl hm
    cases hpx : plainW x
    · cases hpy : plainW y
      · have hpa : (w :: [x, y]).all plainW = false := by simp [hpw, hpx, hpy]
        rw [hpa] at cp
        ((conv => whnf); repeat (any_goals (first | ((refine IdxA.strv hr rfl 0 _ rfl rfl ?_; intro _ _ _ _ _); (conv => whnf)) | ((refine IdxA.strv hr rfl 1 _ rfl rfl ?_; intro _ _ _ _ _); (conv => whnf)) | ((refine IdxA.strv hr rfl 2 _ rfl rfl ?_; intro _ _ _ _ _); (conv => whnf)) | ((refine IdxA.strv hr rfl 3 _ rfl rfl ?_; intro _ _ _ _ _); (conv => whnf)) | ((refine BndH.nat 2 rfl (by omega) ?_); (conv => whnf)) | ((refine BndH.nat 1 rfl (by omega) ?_); (conv => whnf)) | ((refine (cp _ (by exact Vc.xt)).mono ?_; rintro _ _ ⟨rfl, rfl⟩); (conv => whnf)) | ((refine (cp2 _ (by exact Vc.xt)).mono ?_; rintro _ _ ⟨rfl, rfl⟩); (conv => whnf)) | ((refine (rquoted_any _ _).mono ?_; rintro _ _ ⟨rfl, rfl⟩); (conv => whnf)) | ((refine PureH.build0 (lineC 0 [] [] [] 0 false) (by kernel_rfl) ?_); (conv => whnf)) | ((refine PureH.build3 (lineC 0 x y [] 0 false) (by kernel_rfl) ?_); (conv => whnf)) | (refine Vc.stp ?_; intros; (conv => whnf)) | (refine Vc.spl ?_ ?_ <;> (intro _; (conv => whnf))))))
        all_goals exact ⟨by rw [show lineF (w :: [x, y]) = none from by simp [lineF, hK, twoF, hpx, hpy]]; exact ⟨_, _, _, _, _, _, rfl⟩, by exact Vc.xt⟩
      · have hpa : (w :: [x, y]).all plainW = false := by simp [hpw, hpx, hpy]
        rw [hpa] at cp
        ((conv => whnf); repeat (any_goals (first | ((refine IdxA.strv hr rfl 0 _ rfl rfl ?_; intro _ _ _ _ _); (conv => whnf)) | ((refine IdxA.strv hr rfl 1 _ rfl rfl ?_; intro _ _ _ _ _); (conv => whnf)) | ((refine IdxA.strv hr rfl 2 _ rfl rfl ?_; intro _ _ _ _ _); (conv => whnf)) | ((refine IdxA.strv hr rfl 3 _ rfl rfl ?_; intro _ _ _ _ _); (conv => whnf)) | ((refine BndH.nat 2 rfl (by omega) ?_); (conv => whnf)) | ((refine BndH.nat 1 rfl (by omega) ?_); (conv => whnf)) | ((refine (cp _ (by exact Vc.xt)).mono ?_; rintro _ _ ⟨rfl, rfl⟩); (conv => whnf)) | ((refine (cp2 _ (by exact Vc.xt)).mono ?_; rintro _ _ ⟨rfl, rfl⟩); (conv => whnf)) | ((refine (rquoted_any _ _).mono ?_; rintro _ _ ⟨rfl, rfl⟩); (conv => whnf)) | ((refine PureH.build0 (lineC 0 [] [] [] 0 false) (by kernel_rfl) ?_); (conv => whnf)) | ((refine PureH.build3 (lineC 0 x y [] 0 false) (by kernel_rfl) ?_); (conv => whnf)) | (refine Vc.stp ?_; intros; (conv => whnf)) | (refine Vc.spl ?_ ?_ <;> (intro _; (conv => whnf))))))
        all_goals exact ⟨by rw [show lineF (w :: [x, y]) = none from by simp [lineF, hK, twoF, hpx, hpy]]; exact ⟨_, _, _, _, _, _, rfl⟩, by exact Vc.xt⟩
    · cases hpy : plainW y
      · have hpa : (w :: [x, y]).all plainW = false := by simp [hpw, hpx, hpy]
        rw [hpa] at cp
        ((conv => whnf); repeat (any_goals (first | ((refine IdxA.strv hr rfl 0 _ rfl rfl ?_; intro _ _ _ _ _); (conv => whnf)) | ((refine IdxA.strv hr rfl 1 _ rfl rfl ?_; intro _ _ _ _ _); (conv => whnf)) | ((refine IdxA.strv hr rfl 2 _ rfl rfl ?_; intro _ _ _ _ _); (conv => whnf)) | ((refine IdxA.strv hr rfl 3 _ rfl rfl ?_; intro _ _ _ _ _); (conv => whnf)) | ((refine BndH.nat 2 rfl (by omega) ?_); (conv => whnf)) | ((refine BndH.nat 1 rfl (by omega) ?_); (conv => whnf)) | ((refine (cp _ (by exact Vc.xt)).mono ?_; rintro _ _ ⟨rfl, rfl⟩); (conv => whnf)) | ((refine (cp2 _ (by exact Vc.xt)).mono ?_; rintro _ _ ⟨rfl, rfl⟩); (conv => whnf)) | ((refine (rquoted_any _ _).mono ?_; rintro _ _ ⟨rfl, rfl⟩); (conv => whnf)) | ((refine PureH.build0 (lineC 0 [] [] [] 0 false) (by kernel_rfl) ?_); (conv => whnf)) | ((refine PureH.build3 (lineC 0 x y [] 0 false) (by kernel_rfl) ?_); (conv => whnf)) | (refine Vc.stp ?_; intros; (conv => whnf)) | (refine Vc.spl ?_ ?_ <;> (intro _; (conv => whnf))))))
        all_goals exact ⟨by rw [show lineF (w :: [x, y]) = none from by simp [lineF, hK, twoF, hpx, hpy]]; exact ⟨_, _, _, _, _, _, rfl⟩, by exact Vc.xt⟩
      · have hpa : (w :: [x, y]).all plainW = true := by simp [hpw, hpx, hpy]
        rw [hpa] at cp
        ((conv => whnf); repeat (any_goals (first | ((refine IdxA.strv hr rfl 0 _ rfl rfl ?_; intro _ _ _ _ _); (conv => whnf)) | ((refine IdxA.strv hr rfl 1 _ rfl rfl ?_; intro _ _ _ _ _); (conv => whnf)) | ((refine IdxA.strv hr rfl 2 _ rfl rfl ?_; intro _ _ _ _ _); (conv => whnf)) | ((refine IdxA.strv hr rfl 3 _ rfl rfl ?_; intro _ _ _ _ _); (conv => whnf)) | ((refine BndH.nat 2 rfl (by omega) ?_); (conv => whnf)) | ((refine BndH.nat 1 rfl (by omega) ?_); (conv => whnf)) | ((refine (cp _ (by exact Vc.xt)).mono ?_; rintro _ _ ⟨rfl, rfl⟩); (conv => whnf)) | ((refine (cp2 _ (by exact Vc.xt)).mono ?_; rintro _ _ ⟨rfl, rfl⟩); (conv => whnf)) | ((refine (rquoted_any _ _).mono ?_; rintro _ _ ⟨rfl, rfl⟩); (conv => whnf)) | ((refine PureH.build0 (lineC 0 [] [] [] 0 false) (by kernel_rfl) ?_); (conv => whnf)) | ((refine PureH.build3 (lineC 0 x y [] 0 false) (by kernel_rfl) ?_); (conv => whnf)) | (refine Vc.stp ?_; intros; (conv => whnf)) | (refine Vc.spl ?_ ?_ <;> (intro _; (conv => whnf))))))
        all_goals exact ⟨by rw [show lineF (w :: [x, y]) = some ⟨0, x, y, [], 0, false⟩ from by simp [lineF, hK, twoF, hpx, hpy]]; rfl, by exact Vc.xt⟩
  | x :: y :: z :: t, hr, hc, hm, hwl =>
    have hlen : (w :: (x :: y :: z :: t : List Bs)).length = t.length + 3 + 1 := by simp
    simp only [List.length_cons, List.length_nil] at hc hm
    have hlx : x.length ≤ 1000000000 := hwl x (by simp)
    have hly : y.length ≤ 1000000000 := hwl y (by simp)
    have hlz : z.length ≤ 1000000000 := hwl z (by simp)
    ((conv => whnf); repeat (any_goals (first | ((refine IdxA.strv hr rfl 0 _ rfl rfl ?_; intro _ _ _ _ _); (conv => whnf)) | ((refine IdxA.strv hr rfl 1 _ rfl rfl ?_; intro _ _ _ _ _); (conv => whnf)) | ((refine IdxA.strv hr rfl 2 _ rfl rfl ?_; intro _ _ _ _ _); (conv => whnf)) | ((refine IdxA.strv hr rfl 3 _ rfl rfl ?_; intro _ _ _ _ _); (conv => whnf)) | ((refine BndH.nat 2 rfl (by omega) ?_); (conv => whnf)) | ((refine BndH.nat 1 rfl (by omega) ?_); (conv => whnf)) | ((refine (cp _ (by exact Vc.xt)).mono ?_; rintro _ _ ⟨rfl, rfl⟩); (conv => whnf)) | ((refine (cp2 _ (by exact Vc.xt)).mono ?_; rintro _ _ ⟨rfl, rfl⟩); (conv => whnf)) | ((refine (rquoted_any _ _).mono ?_; rintro _ _ ⟨rfl, rfl⟩); (conv => whnf)) | ((refine PureH.build0 (lineC 0 [] [] [] 0 false) (by kernel_rfl) ?_); (conv => whnf)) | (refine Vc.stp ?_; intros; (conv => whnf)) | (refine Vc.spl ?_ ?_ <;> (intro _; (conv => whnf))))))
    all_goals exact ⟨by rw [show lineF (w :: (x :: y :: z :: t)) = none from by simp [lineF, hK, twoF]]; exact ⟨_, _, _, _, _, _, rfl⟩, by exact Vc.xt⟩
set_option maxHeartbeats 4000000 in
theorem rline_1 (w : Bs) (ws : List Bs) (a : Option Addr) (cap : Nat) (H : Heap) (hr : Row H a (strs (w :: ws))) (hc : (w :: ws).length ≤ cap) (hm : (w :: ws).length ≤ 1000000000) (hwl : ∀ x ∈ w :: ws, x.length ≤ 1000000000) (hK : kindF w = 1) : CallH Tryz.prog 59 [.slice a (w :: ws).length cap] H fun v H' => readR v (lineF (w :: ws)) ∧ Ext H H' := by
  refine Vc.CallH.body Tryz.func59 Tryz.call59 rfl (by decide +kernel) rfl ?_
  have hw : w = kws.getD 1 [] := kind_eq hK (by decide)
  have e0 : ((mkS w).toList == (⟨#[99, 111, 112, 121]⟩ : ByteArray).toList) = false := kw_f hK 0 (by decide) (by decide)
  have e1 : ((mkS w).toList == (⟨#[119, 114, 105, 116, 101]⟩ : ByteArray).toList) = true := kw_t hK 1 (by decide) rfl
  have e2 : ((mkS w).toList == (⟨#[97, 112, 112, 101, 110, 100]⟩ : ByteArray).toList) = false := kw_f hK 2 (by decide) (by decide)
  have e3 : ((mkS w).toList == (⟨#[109, 107, 100, 105, 114]⟩ : ByteArray).toList) = false := kw_f hK 3 (by decide) (by decide)
  have e4 : ((mkS w).toList == (⟨#[114, 101, 109, 111, 118, 101]⟩ : ByteArray).toList) = false := kw_f hK 4 (by decide) (by decide)
  have e5 : ((mkS w).toList == (⟨#[114, 101, 110, 97, 109, 101]⟩ : ByteArray).toList) = false := kw_f hK 5 (by decide) (by decide)
  have e6 : ((mkS w).toList == (⟨#[115, 101, 116]⟩ : ByteArray).toList) = false := kw_f hK 6 (by decide) (by decide)
  have e7 : ((mkS w).toList == (⟨#[105, 102]⟩ : ByteArray).toList) = false := kw_f hK 7 (by decide) (by decide)
  have e8 : ((mkS w).toList == (⟨#[114, 101, 112, 101, 97, 116]⟩ : ByteArray).toList) = false := kw_f hK 8 (by decide) (by decide)
  have e9 : ((mkS w).toList == (⟨#[101, 108, 115, 101]⟩ : ByteArray).toList) = false := kw_f hK 9 (by decide) (by decide)
  have e10 : ((mkS w).toList == (⟨#[101, 110, 100]⟩ : ByteArray).toList) = false := kw_f hK 10 (by decide) (by decide)
  have e11 : ((mkS w).toList == (⟨#[102, 97, 105, 108]⟩ : ByteArray).toList) = false := kw_f hK 11 (by decide) (by decide)
  have hpw : plainW w = true := by rw [hw]; rfl
  match ws, hr, hc, hm, hwl with
  | [], hr, hc, hm, hwl =>
    have hlen : (w :: ([] : List Bs)).length = 0 + 1 := by simp
    simp only [List.length_cons, List.length_nil] at hc hm
    ((conv => whnf); repeat (any_goals (first | ((refine IdxA.strv hr rfl 0 _ rfl rfl ?_; intro _ _ _ _ _); (conv => whnf)) | ((refine IdxA.strv hr rfl 1 _ rfl rfl ?_; intro _ _ _ _ _); (conv => whnf)) | ((refine IdxA.strv hr rfl 2 _ rfl rfl ?_; intro _ _ _ _ _); (conv => whnf)) | ((refine IdxA.strv hr rfl 3 _ rfl rfl ?_; intro _ _ _ _ _); (conv => whnf)) | ((refine BndH.nat 2 rfl (by omega) ?_); (conv => whnf)) | ((refine BndH.nat 1 rfl (by omega) ?_); (conv => whnf)) | ((refine (cp _ (by exact Vc.xt)).mono ?_; rintro _ _ ⟨rfl, rfl⟩); (conv => whnf)) | ((refine (cp2 _ (by exact Vc.xt)).mono ?_; rintro _ _ ⟨rfl, rfl⟩); (conv => whnf)) | ((refine (rquoted_any _ _).mono ?_; rintro _ _ ⟨rfl, rfl⟩); (conv => whnf)) | ((refine PureH.build0 (lineC 0 [] [] [] 0 false) (by kernel_rfl) ?_); (conv => whnf)) | (refine Vc.stp ?_; intros; (conv => whnf)) | (refine Vc.spl ?_ ?_ <;> (intro _; (conv => whnf))))))
    all_goals exact ⟨by rw [show lineF (w :: []) = none from by simp [lineF, hK, textF]]; exact ⟨_, _, _, _, _, _, rfl⟩, by exact Vc.xt⟩
  | [x], hr, hc, hm, hwl =>
    have hlen : (w :: ([x] : List Bs)).length = 1 + 1 := by simp
    simp only [List.length_cons, List.length_nil] at hc hm
    have hlx : x.length ≤ 1000000000 := hwl x (by simp)
    ((conv => whnf); repeat (any_goals (first | ((refine IdxA.strv hr rfl 0 _ rfl rfl ?_; intro _ _ _ _ _); (conv => whnf)) | ((refine IdxA.strv hr rfl 1 _ rfl rfl ?_; intro _ _ _ _ _); (conv => whnf)) | ((refine IdxA.strv hr rfl 2 _ rfl rfl ?_; intro _ _ _ _ _); (conv => whnf)) | ((refine IdxA.strv hr rfl 3 _ rfl rfl ?_; intro _ _ _ _ _); (conv => whnf)) | ((refine BndH.nat 2 rfl (by omega) ?_); (conv => whnf)) | ((refine BndH.nat 1 rfl (by omega) ?_); (conv => whnf)) | ((refine (cp _ (by exact Vc.xt)).mono ?_; rintro _ _ ⟨rfl, rfl⟩); (conv => whnf)) | ((refine (cp2 _ (by exact Vc.xt)).mono ?_; rintro _ _ ⟨rfl, rfl⟩); (conv => whnf)) | ((refine (rquoted_any _ _).mono ?_; rintro _ _ ⟨rfl, rfl⟩); (conv => whnf)) | ((refine PureH.build0 (lineC 0 [] [] [] 0 false) (by kernel_rfl) ?_); (conv => whnf)) | (refine Vc.stp ?_; intros; (conv => whnf)) | (refine Vc.spl ?_ ?_ <;> (intro _; (conv => whnf))))))
    all_goals exact ⟨by rw [show lineF (w :: [x]) = none from by simp [lineF, hK, textF]]; exact ⟨_, _, _, _, _, _, rfl⟩, by exact Vc.xt⟩
  | [x, y], hr, hc, hm, hwl =>
    have hlen : (w :: ([x, y] : List Bs)).length = 2 + 1 := by simp
    simp only [List.length_cons, List.length_nil] at hc hm
    have hlx : x.length ≤ 1000000000 := hwl x (by simp)
    have hly : y.length ≤ 1000000000 := hwl y (by simp)
    have cp2 := fun H2 (k : Ext H H2) => rplain_any [w, x] a 2 cap H2 ((hr.ext k).take 2) rfl (by decide)
    cases hpx : plainW x
    · cases hpy : plainW y
      · have hpa : [w, x].all plainW = false := by simp [hpw, hpx]
        rw [hpa] at cp2
        have hzy : 1 ≤ y.length := plain_pos hpy
        have hszy : (mkS y).size = y.length := rfl
        ((conv => whnf); repeat (any_goals (first | ((refine IdxA.strv hr rfl 0 _ rfl rfl ?_; intro _ _ _ _ _); (conv => whnf)) | ((refine IdxA.strv hr rfl 1 _ rfl rfl ?_; intro _ _ _ _ _); (conv => whnf)) | ((refine IdxA.strv hr rfl 2 _ rfl rfl ?_; intro _ _ _ _ _); (conv => whnf)) | ((refine IdxA.strv hr rfl 3 _ rfl rfl ?_; intro _ _ _ _ _); (conv => whnf)) | ((refine BndH.nat 2 rfl (by omega) ?_); (conv => whnf)) | ((refine BndH.nat 1 rfl (by omega) ?_); (conv => whnf)) | ((refine (cp _ (by exact Vc.xt)).mono ?_; rintro _ _ ⟨rfl, rfl⟩); (conv => whnf)) | ((refine (cp2 _ (by exact Vc.xt)).mono ?_; rintro _ _ ⟨rfl, rfl⟩); (conv => whnf)) | ((refine (rquoted_any _ _).mono ?_; rintro _ _ ⟨rfl, rfl⟩); (conv => whnf)) | ((refine PureH.build0 (lineC 0 [] [] [] 0 false) (by kernel_rfl) ?_); (conv => whnf)) | ((refine PureH.build3 #[.int .i64 1, .string (mkS x), .string (mkS []), .string ((mkS y).extract 1 (mkS y).size), .int .i64 0, .bool false] (by kernel_rfl) ?_); (conv => whnf)) | (refine Vc.stp ?_; intros; (conv => whnf)) | (refine Vc.spl ?_ ?_ <;> (intro _; (conv => whnf))))))
        all_goals exact ⟨by rw [show lineF (w :: [x, y]) = none from by simp [lineF, hK, textF, hpx, hpy]]; exact ⟨_, _, _, _, _, _, rfl⟩, by exact Vc.xt⟩
      · have hpa : [w, x].all plainW = false := by simp [hpw, hpx]
        rw [hpa] at cp2
        ((conv => whnf); repeat (any_goals (first | ((refine IdxA.strv hr rfl 0 _ rfl rfl ?_; intro _ _ _ _ _); (conv => whnf)) | ((refine IdxA.strv hr rfl 1 _ rfl rfl ?_; intro _ _ _ _ _); (conv => whnf)) | ((refine IdxA.strv hr rfl 2 _ rfl rfl ?_; intro _ _ _ _ _); (conv => whnf)) | ((refine IdxA.strv hr rfl 3 _ rfl rfl ?_; intro _ _ _ _ _); (conv => whnf)) | ((refine BndH.nat 2 rfl (by omega) ?_); (conv => whnf)) | ((refine BndH.nat 1 rfl (by omega) ?_); (conv => whnf)) | ((refine (cp _ (by exact Vc.xt)).mono ?_; rintro _ _ ⟨rfl, rfl⟩); (conv => whnf)) | ((refine (cp2 _ (by exact Vc.xt)).mono ?_; rintro _ _ ⟨rfl, rfl⟩); (conv => whnf)) | ((refine (rquoted_any _ _).mono ?_; rintro _ _ ⟨rfl, rfl⟩); (conv => whnf)) | ((refine PureH.build0 (lineC 0 [] [] [] 0 false) (by kernel_rfl) ?_); (conv => whnf)) | ((refine PureH.build3 #[.int .i64 1, .string (mkS x), .string (mkS []), .string ((mkS y).extract 1 (mkS y).size), .int .i64 0, .bool false] (by kernel_rfl) ?_); (conv => whnf)) | (refine Vc.stp ?_; intros; (conv => whnf)) | (refine Vc.spl ?_ ?_ <;> (intro _; (conv => whnf))))))
        all_goals exact ⟨by rw [show lineF (w :: [x, y]) = none from by simp [lineF, hK, textF, hpx, hpy]]; exact ⟨_, _, _, _, _, _, rfl⟩, by exact Vc.xt⟩
    · cases hpy : plainW y
      · have hpa : [w, x].all plainW = true := by simp [hpw, hpx]
        rw [hpa] at cp2
        have hzy : 1 ≤ y.length := plain_pos hpy
        have hszy : (mkS y).size = y.length := rfl
        ((conv => whnf); repeat (any_goals (first | ((refine IdxA.strv hr rfl 0 _ rfl rfl ?_; intro _ _ _ _ _); (conv => whnf)) | ((refine IdxA.strv hr rfl 1 _ rfl rfl ?_; intro _ _ _ _ _); (conv => whnf)) | ((refine IdxA.strv hr rfl 2 _ rfl rfl ?_; intro _ _ _ _ _); (conv => whnf)) | ((refine IdxA.strv hr rfl 3 _ rfl rfl ?_; intro _ _ _ _ _); (conv => whnf)) | ((refine BndH.nat 2 rfl (by omega) ?_); (conv => whnf)) | ((refine BndH.nat 1 rfl (by omega) ?_); (conv => whnf)) | ((refine (cp _ (by exact Vc.xt)).mono ?_; rintro _ _ ⟨rfl, rfl⟩); (conv => whnf)) | ((refine (cp2 _ (by exact Vc.xt)).mono ?_; rintro _ _ ⟨rfl, rfl⟩); (conv => whnf)) | ((refine (rquoted_any _ _).mono ?_; rintro _ _ ⟨rfl, rfl⟩); (conv => whnf)) | ((refine PureH.build0 (lineC 0 [] [] [] 0 false) (by kernel_rfl) ?_); (conv => whnf)) | ((refine PureH.build3 #[.int .i64 1, .string (mkS x), .string (mkS []), .string ((mkS y).extract 1 (mkS y).size), .int .i64 0, .bool false] (by kernel_rfl) ?_); (conv => whnf)) | (refine Vc.stp ?_; intros; (conv => whnf)) | (refine Vc.spl ?_ ?_ <;> (intro _; (conv => whnf))))))
        all_goals exact ⟨by rw [show lineF (w :: [x, y]) = some ⟨1, x, [], y.tail, 0, false⟩ from by simp [lineF, hK, textF, hpx, hpy]]; show Value.tuple #[.agg #[.int .i64 1, .string (mkS x), .string (mkS []), .string ((mkS y).extract 1 (mkS y).size), .int .i64 0, .bool false], .bool true] = _; rw [mkS_drop, List.drop_one]; rfl, by exact Vc.xt⟩
      · have hpa : [w, x].all plainW = true := by simp [hpw, hpx]
        rw [hpa] at cp2
        ((conv => whnf); repeat (any_goals (first | ((refine IdxA.strv hr rfl 0 _ rfl rfl ?_; intro _ _ _ _ _); (conv => whnf)) | ((refine IdxA.strv hr rfl 1 _ rfl rfl ?_; intro _ _ _ _ _); (conv => whnf)) | ((refine IdxA.strv hr rfl 2 _ rfl rfl ?_; intro _ _ _ _ _); (conv => whnf)) | ((refine IdxA.strv hr rfl 3 _ rfl rfl ?_; intro _ _ _ _ _); (conv => whnf)) | ((refine BndH.nat 2 rfl (by omega) ?_); (conv => whnf)) | ((refine BndH.nat 1 rfl (by omega) ?_); (conv => whnf)) | ((refine (cp _ (by exact Vc.xt)).mono ?_; rintro _ _ ⟨rfl, rfl⟩); (conv => whnf)) | ((refine (cp2 _ (by exact Vc.xt)).mono ?_; rintro _ _ ⟨rfl, rfl⟩); (conv => whnf)) | ((refine (rquoted_any _ _).mono ?_; rintro _ _ ⟨rfl, rfl⟩); (conv => whnf)) | ((refine PureH.build0 (lineC 0 [] [] [] 0 false) (by kernel_rfl) ?_); (conv => whnf)) | ((refine PureH.build3 #[.int .i64 1, .string (mkS x), .string (mkS []), .string ((mkS y).extract 1 (mkS y).size), .int .i64 0, .bool false] (by kernel_rfl) ?_); (conv => whnf)) | (refine Vc.stp ?_; intros; (conv => whnf)) | (refine Vc.spl ?_ ?_ <;> (intro _; (conv => whnf))))))
        all_goals exact ⟨by rw [show lineF (w :: [x, y]) = none from by simp [lineF, hK, textF, hpx, hpy]]; exact ⟨_, _, _, _, _, _, rfl⟩, by exact Vc.xt⟩
  | x :: y :: z :: t, hr, hc, hm, hwl =>
    have hlen : (w :: (x :: y :: z :: t : List Bs)).length = t.length + 3 + 1 := by simp
    simp only [List.length_cons, List.length_nil] at hc hm
    have hlx : x.length ≤ 1000000000 := hwl x (by simp)
    have hly : y.length ≤ 1000000000 := hwl y (by simp)
    have hlz : z.length ≤ 1000000000 := hwl z (by simp)
    ((conv => whnf); repeat (any_goals (first | ((refine IdxA.strv hr rfl 0 _ rfl rfl ?_; intro _ _ _ _ _); (conv => whnf)) | ((refine IdxA.strv hr rfl 1 _ rfl rfl ?_; intro _ _ _ _ _); (conv => whnf)) | ((refine IdxA.strv hr rfl 2 _ rfl rfl ?_; intro _ _ _ _ _); (conv => whnf)) | ((refine IdxA.strv hr rfl 3 _ rfl rfl ?_; intro _ _ _ _ _); (conv => whnf)) | ((refine BndH.nat 2 rfl (by omega) ?_); (conv => whnf)) | ((refine BndH.nat 1 rfl (by omega) ?_); (conv => whnf)) | ((refine (cp _ (by exact Vc.xt)).mono ?_; rintro _ _ ⟨rfl, rfl⟩); (conv => whnf)) | ((refine (cp2 _ (by exact Vc.xt)).mono ?_; rintro _ _ ⟨rfl, rfl⟩); (conv => whnf)) | ((refine (rquoted_any _ _).mono ?_; rintro _ _ ⟨rfl, rfl⟩); (conv => whnf)) | ((refine PureH.build0 (lineC 0 [] [] [] 0 false) (by kernel_rfl) ?_); (conv => whnf)) | (refine Vc.stp ?_; intros; (conv => whnf)) | (refine Vc.spl ?_ ?_ <;> (intro _; (conv => whnf))))))
    all_goals exact ⟨by rw [show lineF (w :: (x :: y :: z :: t)) = none from by simp [lineF, hK, textF]]; exact ⟨_, _, _, _, _, _, rfl⟩, by exact Vc.xt⟩
set_option maxHeartbeats 4000000 in
theorem rline_2 (w : Bs) (ws : List Bs) (a : Option Addr) (cap : Nat) (H : Heap) (hr : Row H a (strs (w :: ws))) (hc : (w :: ws).length ≤ cap) (hm : (w :: ws).length ≤ 1000000000) (hwl : ∀ x ∈ w :: ws, x.length ≤ 1000000000) (hK : kindF w = 2) : CallH Tryz.prog 59 [.slice a (w :: ws).length cap] H fun v H' => readR v (lineF (w :: ws)) ∧ Ext H H' := by
  refine Vc.CallH.body Tryz.func59 Tryz.call59 rfl (by decide +kernel) rfl ?_
  have hw : w = kws.getD 2 [] := kind_eq hK (by decide)
  have e0 : ((mkS w).toList == (⟨#[99, 111, 112, 121]⟩ : ByteArray).toList) = false := kw_f hK 0 (by decide) (by decide)
  have e1 : ((mkS w).toList == (⟨#[119, 114, 105, 116, 101]⟩ : ByteArray).toList) = false := kw_f hK 1 (by decide) (by decide)
  have e2 : ((mkS w).toList == (⟨#[97, 112, 112, 101, 110, 100]⟩ : ByteArray).toList) = true := kw_t hK 2 (by decide) rfl
  have e3 : ((mkS w).toList == (⟨#[109, 107, 100, 105, 114]⟩ : ByteArray).toList) = false := kw_f hK 3 (by decide) (by decide)
  have e4 : ((mkS w).toList == (⟨#[114, 101, 109, 111, 118, 101]⟩ : ByteArray).toList) = false := kw_f hK 4 (by decide) (by decide)
  have e5 : ((mkS w).toList == (⟨#[114, 101, 110, 97, 109, 101]⟩ : ByteArray).toList) = false := kw_f hK 5 (by decide) (by decide)
  have e6 : ((mkS w).toList == (⟨#[115, 101, 116]⟩ : ByteArray).toList) = false := kw_f hK 6 (by decide) (by decide)
  have e7 : ((mkS w).toList == (⟨#[105, 102]⟩ : ByteArray).toList) = false := kw_f hK 7 (by decide) (by decide)
  have e8 : ((mkS w).toList == (⟨#[114, 101, 112, 101, 97, 116]⟩ : ByteArray).toList) = false := kw_f hK 8 (by decide) (by decide)
  have e9 : ((mkS w).toList == (⟨#[101, 108, 115, 101]⟩ : ByteArray).toList) = false := kw_f hK 9 (by decide) (by decide)
  have e10 : ((mkS w).toList == (⟨#[101, 110, 100]⟩ : ByteArray).toList) = false := kw_f hK 10 (by decide) (by decide)
  have e11 : ((mkS w).toList == (⟨#[102, 97, 105, 108]⟩ : ByteArray).toList) = false := kw_f hK 11 (by decide) (by decide)
  have hpw : plainW w = true := by rw [hw]; rfl
  match ws, hr, hc, hm, hwl with
  | [], hr, hc, hm, hwl =>
    have hlen : (w :: ([] : List Bs)).length = 0 + 1 := by simp
    simp only [List.length_cons, List.length_nil] at hc hm
    ((conv => whnf); repeat (any_goals (first | ((refine IdxA.strv hr rfl 0 _ rfl rfl ?_; intro _ _ _ _ _); (conv => whnf)) | ((refine IdxA.strv hr rfl 1 _ rfl rfl ?_; intro _ _ _ _ _); (conv => whnf)) | ((refine IdxA.strv hr rfl 2 _ rfl rfl ?_; intro _ _ _ _ _); (conv => whnf)) | ((refine IdxA.strv hr rfl 3 _ rfl rfl ?_; intro _ _ _ _ _); (conv => whnf)) | ((refine BndH.nat 2 rfl (by omega) ?_); (conv => whnf)) | ((refine BndH.nat 1 rfl (by omega) ?_); (conv => whnf)) | ((refine (cp _ (by exact Vc.xt)).mono ?_; rintro _ _ ⟨rfl, rfl⟩); (conv => whnf)) | ((refine (cp2 _ (by exact Vc.xt)).mono ?_; rintro _ _ ⟨rfl, rfl⟩); (conv => whnf)) | ((refine (rquoted_any _ _).mono ?_; rintro _ _ ⟨rfl, rfl⟩); (conv => whnf)) | ((refine PureH.build0 (lineC 0 [] [] [] 0 false) (by kernel_rfl) ?_); (conv => whnf)) | (refine Vc.stp ?_; intros; (conv => whnf)) | (refine Vc.spl ?_ ?_ <;> (intro _; (conv => whnf))))))
    all_goals exact ⟨by rw [show lineF (w :: []) = none from by simp [lineF, hK, textF]]; exact ⟨_, _, _, _, _, _, rfl⟩, by exact Vc.xt⟩
  | [x], hr, hc, hm, hwl =>
    have hlen : (w :: ([x] : List Bs)).length = 1 + 1 := by simp
    simp only [List.length_cons, List.length_nil] at hc hm
    have hlx : x.length ≤ 1000000000 := hwl x (by simp)
    ((conv => whnf); repeat (any_goals (first | ((refine IdxA.strv hr rfl 0 _ rfl rfl ?_; intro _ _ _ _ _); (conv => whnf)) | ((refine IdxA.strv hr rfl 1 _ rfl rfl ?_; intro _ _ _ _ _); (conv => whnf)) | ((refine IdxA.strv hr rfl 2 _ rfl rfl ?_; intro _ _ _ _ _); (conv => whnf)) | ((refine IdxA.strv hr rfl 3 _ rfl rfl ?_; intro _ _ _ _ _); (conv => whnf)) | ((refine BndH.nat 2 rfl (by omega) ?_); (conv => whnf)) | ((refine BndH.nat 1 rfl (by omega) ?_); (conv => whnf)) | ((refine (cp _ (by exact Vc.xt)).mono ?_; rintro _ _ ⟨rfl, rfl⟩); (conv => whnf)) | ((refine (cp2 _ (by exact Vc.xt)).mono ?_; rintro _ _ ⟨rfl, rfl⟩); (conv => whnf)) | ((refine (rquoted_any _ _).mono ?_; rintro _ _ ⟨rfl, rfl⟩); (conv => whnf)) | ((refine PureH.build0 (lineC 0 [] [] [] 0 false) (by kernel_rfl) ?_); (conv => whnf)) | (refine Vc.stp ?_; intros; (conv => whnf)) | (refine Vc.spl ?_ ?_ <;> (intro _; (conv => whnf))))))
    all_goals exact ⟨by rw [show lineF (w :: [x]) = none from by simp [lineF, hK, textF]]; exact ⟨_, _, _, _, _, _, rfl⟩, by exact Vc.xt⟩
  | [x, y], hr, hc, hm, hwl =>
    have hlen : (w :: ([x, y] : List Bs)).length = 2 + 1 := by simp
    simp only [List.length_cons, List.length_nil] at hc hm
    have hlx : x.length ≤ 1000000000 := hwl x (by simp)
    have hly : y.length ≤ 1000000000 := hwl y (by simp)
    have cp2 := fun H2 (k : Ext H H2) => rplain_any [w, x] a 2 cap H2 ((hr.ext k).take 2) rfl (by decide)
    cases hpx : plainW x
    · cases hpy : plainW y
      · have hpa : [w, x].all plainW = false := by simp [hpw, hpx]
        rw [hpa] at cp2
        have hzy : 1 ≤ y.length := plain_pos hpy
        have hszy : (mkS y).size = y.length := rfl
        ((conv => whnf); repeat (any_goals (first | ((refine IdxA.strv hr rfl 0 _ rfl rfl ?_; intro _ _ _ _ _); (conv => whnf)) | ((refine IdxA.strv hr rfl 1 _ rfl rfl ?_; intro _ _ _ _ _); (conv => whnf)) | ((refine IdxA.strv hr rfl 2 _ rfl rfl ?_; intro _ _ _ _ _); (conv => whnf)) | ((refine IdxA.strv hr rfl 3 _ rfl rfl ?_; intro _ _ _ _ _); (conv => whnf)) | ((refine BndH.nat 2 rfl (by omega) ?_); (conv => whnf)) | ((refine BndH.nat 1 rfl (by omega) ?_); (conv => whnf)) | ((refine (cp _ (by exact Vc.xt)).mono ?_; rintro _ _ ⟨rfl, rfl⟩); (conv => whnf)) | ((refine (cp2 _ (by exact Vc.xt)).mono ?_; rintro _ _ ⟨rfl, rfl⟩); (conv => whnf)) | ((refine (rquoted_any _ _).mono ?_; rintro _ _ ⟨rfl, rfl⟩); (conv => whnf)) | ((refine PureH.build0 (lineC 0 [] [] [] 0 false) (by kernel_rfl) ?_); (conv => whnf)) | ((refine PureH.build3 #[.int .i64 2, .string (mkS x), .string (mkS []), .string ((mkS y).extract 1 (mkS y).size), .int .i64 0, .bool false] (by kernel_rfl) ?_); (conv => whnf)) | (refine Vc.stp ?_; intros; (conv => whnf)) | (refine Vc.spl ?_ ?_ <;> (intro _; (conv => whnf))))))
        all_goals exact ⟨by rw [show lineF (w :: [x, y]) = none from by simp [lineF, hK, textF, hpx, hpy]]; exact ⟨_, _, _, _, _, _, rfl⟩, by exact Vc.xt⟩
      · have hpa : [w, x].all plainW = false := by simp [hpw, hpx]
        rw [hpa] at cp2
        ((conv => whnf); repeat (any_goals (first | ((refine IdxA.strv hr rfl 0 _ rfl rfl ?_; intro _ _ _ _ _); (conv => whnf)) | ((refine IdxA.strv hr rfl 1 _ rfl rfl ?_; intro _ _ _ _ _); (conv => whnf)) | ((refine IdxA.strv hr rfl 2 _ rfl rfl ?_; intro _ _ _ _ _); (conv => whnf)) | ((refine IdxA.strv hr rfl 3 _ rfl rfl ?_; intro _ _ _ _ _); (conv => whnf)) | ((refine BndH.nat 2 rfl (by omega) ?_); (conv => whnf)) | ((refine BndH.nat 1 rfl (by omega) ?_); (conv => whnf)) | ((refine (cp _ (by exact Vc.xt)).mono ?_; rintro _ _ ⟨rfl, rfl⟩); (conv => whnf)) | ((refine (cp2 _ (by exact Vc.xt)).mono ?_; rintro _ _ ⟨rfl, rfl⟩); (conv => whnf)) | ((refine (rquoted_any _ _).mono ?_; rintro _ _ ⟨rfl, rfl⟩); (conv => whnf)) | ((refine PureH.build0 (lineC 0 [] [] [] 0 false) (by kernel_rfl) ?_); (conv => whnf)) | ((refine PureH.build3 #[.int .i64 2, .string (mkS x), .string (mkS []), .string ((mkS y).extract 1 (mkS y).size), .int .i64 0, .bool false] (by kernel_rfl) ?_); (conv => whnf)) | (refine Vc.stp ?_; intros; (conv => whnf)) | (refine Vc.spl ?_ ?_ <;> (intro _; (conv => whnf))))))
        all_goals exact ⟨by rw [show lineF (w :: [x, y]) = none from by simp [lineF, hK, textF, hpx, hpy]]; exact ⟨_, _, _, _, _, _, rfl⟩, by exact Vc.xt⟩
    · cases hpy : plainW y
      · have hpa : [w, x].all plainW = true := by simp [hpw, hpx]
        rw [hpa] at cp2
        have hzy : 1 ≤ y.length := plain_pos hpy
        have hszy : (mkS y).size = y.length := rfl
        ((conv => whnf); repeat (any_goals (first | ((refine IdxA.strv hr rfl 0 _ rfl rfl ?_; intro _ _ _ _ _); (conv => whnf)) | ((refine IdxA.strv hr rfl 1 _ rfl rfl ?_; intro _ _ _ _ _); (conv => whnf)) | ((refine IdxA.strv hr rfl 2 _ rfl rfl ?_; intro _ _ _ _ _); (conv => whnf)) | ((refine IdxA.strv hr rfl 3 _ rfl rfl ?_; intro _ _ _ _ _); (conv => whnf)) | ((refine BndH.nat 2 rfl (by omega) ?_); (conv => whnf)) | ((refine BndH.nat 1 rfl (by omega) ?_); (conv => whnf)) | ((refine (cp _ (by exact Vc.xt)).mono ?_; rintro _ _ ⟨rfl, rfl⟩); (conv => whnf)) | ((refine (cp2 _ (by exact Vc.xt)).mono ?_; rintro _ _ ⟨rfl, rfl⟩); (conv => whnf)) | ((refine (rquoted_any _ _).mono ?_; rintro _ _ ⟨rfl, rfl⟩); (conv => whnf)) | ((refine PureH.build0 (lineC 0 [] [] [] 0 false) (by kernel_rfl) ?_); (conv => whnf)) | ((refine PureH.build3 #[.int .i64 2, .string (mkS x), .string (mkS []), .string ((mkS y).extract 1 (mkS y).size), .int .i64 0, .bool false] (by kernel_rfl) ?_); (conv => whnf)) | (refine Vc.stp ?_; intros; (conv => whnf)) | (refine Vc.spl ?_ ?_ <;> (intro _; (conv => whnf))))))
        all_goals exact ⟨by rw [show lineF (w :: [x, y]) = some ⟨2, x, [], y.tail, 0, false⟩ from by simp [lineF, hK, textF, hpx, hpy]]; show Value.tuple #[.agg #[.int .i64 2, .string (mkS x), .string (mkS []), .string ((mkS y).extract 1 (mkS y).size), .int .i64 0, .bool false], .bool true] = _; rw [mkS_drop, List.drop_one]; rfl, by exact Vc.xt⟩
      · have hpa : [w, x].all plainW = true := by simp [hpw, hpx]
        rw [hpa] at cp2
        ((conv => whnf); repeat (any_goals (first | ((refine IdxA.strv hr rfl 0 _ rfl rfl ?_; intro _ _ _ _ _); (conv => whnf)) | ((refine IdxA.strv hr rfl 1 _ rfl rfl ?_; intro _ _ _ _ _); (conv => whnf)) | ((refine IdxA.strv hr rfl 2 _ rfl rfl ?_; intro _ _ _ _ _); (conv => whnf)) | ((refine IdxA.strv hr rfl 3 _ rfl rfl ?_; intro _ _ _ _ _); (conv => whnf)) | ((refine BndH.nat 2 rfl (by omega) ?_); (conv => whnf)) | ((refine BndH.nat 1 rfl (by omega) ?_); (conv => whnf)) | ((refine (cp _ (by exact Vc.xt)).mono ?_; rintro _ _ ⟨rfl, rfl⟩); (conv => whnf)) | ((refine (cp2 _ (by exact Vc.xt)).mono ?_; rintro _ _ ⟨rfl, rfl⟩); (conv => whnf)) | ((refine (rquoted_any _ _).mono ?_; rintro _ _ ⟨rfl, rfl⟩); (conv => whnf)) | ((refine PureH.build0 (lineC 0 [] [] [] 0 false) (by kernel_rfl) ?_); (conv => whnf)) | ((refine PureH.build3 #[.int .i64 2, .string (mkS x), .string (mkS []), .string ((mkS y).extract 1 (mkS y).size), .int .i64 0, .bool false] (by kernel_rfl) ?_); (conv => whnf)) | (refine Vc.stp ?_; intros; (conv => whnf)) | (refine Vc.spl ?_ ?_ <;> (intro _; (conv => whnf))))))
        all_goals exact ⟨by rw [show lineF (w :: [x, y]) = none from by simp [lineF, hK, textF, hpx, hpy]]; exact ⟨_, _, _, _, _, _, rfl⟩, by exact Vc.xt⟩
  | x :: y :: z :: t, hr, hc, hm, hwl =>
    have hlen : (w :: (x :: y :: z :: t : List Bs)).length = t.length + 3 + 1 := by simp
    simp only [List.length_cons, List.length_nil] at hc hm
    have hlx : x.length ≤ 1000000000 := hwl x (by simp)
    have hly : y.length ≤ 1000000000 := hwl y (by simp)
    have hlz : z.length ≤ 1000000000 := hwl z (by simp)
    ((conv => whnf); repeat (any_goals (first | ((refine IdxA.strv hr rfl 0 _ rfl rfl ?_; intro _ _ _ _ _); (conv => whnf)) | ((refine IdxA.strv hr rfl 1 _ rfl rfl ?_; intro _ _ _ _ _); (conv => whnf)) | ((refine IdxA.strv hr rfl 2 _ rfl rfl ?_; intro _ _ _ _ _); (conv => whnf)) | ((refine IdxA.strv hr rfl 3 _ rfl rfl ?_; intro _ _ _ _ _); (conv => whnf)) | ((refine BndH.nat 2 rfl (by omega) ?_); (conv => whnf)) | ((refine BndH.nat 1 rfl (by omega) ?_); (conv => whnf)) | ((refine (cp _ (by exact Vc.xt)).mono ?_; rintro _ _ ⟨rfl, rfl⟩); (conv => whnf)) | ((refine (cp2 _ (by exact Vc.xt)).mono ?_; rintro _ _ ⟨rfl, rfl⟩); (conv => whnf)) | ((refine (rquoted_any _ _).mono ?_; rintro _ _ ⟨rfl, rfl⟩); (conv => whnf)) | ((refine PureH.build0 (lineC 0 [] [] [] 0 false) (by kernel_rfl) ?_); (conv => whnf)) | (refine Vc.stp ?_; intros; (conv => whnf)) | (refine Vc.spl ?_ ?_ <;> (intro _; (conv => whnf))))))
    all_goals exact ⟨by rw [show lineF (w :: (x :: y :: z :: t)) = none from by simp [lineF, hK, textF]]; exact ⟨_, _, _, _, _, _, rfl⟩, by exact Vc.xt⟩
set_option maxHeartbeats 4000000 in
theorem rline_3 (w : Bs) (ws : List Bs) (a : Option Addr) (cap : Nat) (H : Heap) (hr : Row H a (strs (w :: ws))) (hc : (w :: ws).length ≤ cap) (hm : (w :: ws).length ≤ 1000000000) (hwl : ∀ x ∈ w :: ws, x.length ≤ 1000000000) (hK : kindF w = 3) : CallH Tryz.prog 59 [.slice a (w :: ws).length cap] H fun v H' => readR v (lineF (w :: ws)) ∧ Ext H H' := by
  refine Vc.CallH.body Tryz.func59 Tryz.call59 rfl (by decide +kernel) rfl ?_
  have hw : w = kws.getD 3 [] := kind_eq hK (by decide)
  have e0 : ((mkS w).toList == (⟨#[99, 111, 112, 121]⟩ : ByteArray).toList) = false := kw_f hK 0 (by decide) (by decide)
  have e1 : ((mkS w).toList == (⟨#[119, 114, 105, 116, 101]⟩ : ByteArray).toList) = false := kw_f hK 1 (by decide) (by decide)
  have e2 : ((mkS w).toList == (⟨#[97, 112, 112, 101, 110, 100]⟩ : ByteArray).toList) = false := kw_f hK 2 (by decide) (by decide)
  have e3 : ((mkS w).toList == (⟨#[109, 107, 100, 105, 114]⟩ : ByteArray).toList) = true := kw_t hK 3 (by decide) rfl
  have e4 : ((mkS w).toList == (⟨#[114, 101, 109, 111, 118, 101]⟩ : ByteArray).toList) = false := kw_f hK 4 (by decide) (by decide)
  have e5 : ((mkS w).toList == (⟨#[114, 101, 110, 97, 109, 101]⟩ : ByteArray).toList) = false := kw_f hK 5 (by decide) (by decide)
  have e6 : ((mkS w).toList == (⟨#[115, 101, 116]⟩ : ByteArray).toList) = false := kw_f hK 6 (by decide) (by decide)
  have e7 : ((mkS w).toList == (⟨#[105, 102]⟩ : ByteArray).toList) = false := kw_f hK 7 (by decide) (by decide)
  have e8 : ((mkS w).toList == (⟨#[114, 101, 112, 101, 97, 116]⟩ : ByteArray).toList) = false := kw_f hK 8 (by decide) (by decide)
  have e9 : ((mkS w).toList == (⟨#[101, 108, 115, 101]⟩ : ByteArray).toList) = false := kw_f hK 9 (by decide) (by decide)
  have e10 : ((mkS w).toList == (⟨#[101, 110, 100]⟩ : ByteArray).toList) = false := kw_f hK 10 (by decide) (by decide)
  have e11 : ((mkS w).toList == (⟨#[102, 97, 105, 108]⟩ : ByteArray).toList) = false := kw_f hK 11 (by decide) (by decide)
  have hpw : plainW w = true := by rw [hw]; rfl
  match ws, hr, hc, hm, hwl with
  | [], hr, hc, hm, hwl =>
    have hlen : (w :: ([] : List Bs)).length = 0 + 1 := by simp
    simp only [List.length_cons, List.length_nil] at hc hm
    ((conv => whnf); repeat (any_goals (first | ((refine IdxA.strv hr rfl 0 _ rfl rfl ?_; intro _ _ _ _ _); (conv => whnf)) | ((refine IdxA.strv hr rfl 1 _ rfl rfl ?_; intro _ _ _ _ _); (conv => whnf)) | ((refine IdxA.strv hr rfl 2 _ rfl rfl ?_; intro _ _ _ _ _); (conv => whnf)) | ((refine IdxA.strv hr rfl 3 _ rfl rfl ?_; intro _ _ _ _ _); (conv => whnf)) | ((refine BndH.nat 2 rfl (by omega) ?_); (conv => whnf)) | ((refine BndH.nat 1 rfl (by omega) ?_); (conv => whnf)) | ((refine (cp _ (by exact Vc.xt)).mono ?_; rintro _ _ ⟨rfl, rfl⟩); (conv => whnf)) | ((refine (cp2 _ (by exact Vc.xt)).mono ?_; rintro _ _ ⟨rfl, rfl⟩); (conv => whnf)) | ((refine (rquoted_any _ _).mono ?_; rintro _ _ ⟨rfl, rfl⟩); (conv => whnf)) | ((refine PureH.build0 (lineC 0 [] [] [] 0 false) (by kernel_rfl) ?_); (conv => whnf)) | (refine Vc.stp ?_; intros; (conv => whnf)) | (refine Vc.spl ?_ ?_ <;> (intro _; (conv => whnf))))))
    all_goals exact ⟨by rw [show lineF (w :: []) = none from by simp [lineF, hK, oneF]]; exact ⟨_, _, _, _, _, _, rfl⟩, by exact Vc.xt⟩
  | [x], hr, hc, hm, hwl =>
    have hlen : (w :: ([x] : List Bs)).length = 1 + 1 := by simp
    simp only [List.length_cons, List.length_nil] at hc hm
    have hlx : x.length ≤ 1000000000 := hwl x (by simp)
    have cp := fun H2 (k : Ext H H2) => rplain_any (w :: [x]) a _ cap H2 (hr.ext k) rfl hm
    cases hpx : plainW x
    · have hpa : (w :: [x]).all plainW = false := by simp [hpw, hpx]
      rw [hpa] at cp
      ((conv => whnf); repeat (any_goals (first | ((refine IdxA.strv hr rfl 0 _ rfl rfl ?_; intro _ _ _ _ _); (conv => whnf)) | ((refine IdxA.strv hr rfl 1 _ rfl rfl ?_; intro _ _ _ _ _); (conv => whnf)) | ((refine IdxA.strv hr rfl 2 _ rfl rfl ?_; intro _ _ _ _ _); (conv => whnf)) | ((refine IdxA.strv hr rfl 3 _ rfl rfl ?_; intro _ _ _ _ _); (conv => whnf)) | ((refine BndH.nat 2 rfl (by omega) ?_); (conv => whnf)) | ((refine BndH.nat 1 rfl (by omega) ?_); (conv => whnf)) | ((refine (cp _ (by exact Vc.xt)).mono ?_; rintro _ _ ⟨rfl, rfl⟩); (conv => whnf)) | ((refine (cp2 _ (by exact Vc.xt)).mono ?_; rintro _ _ ⟨rfl, rfl⟩); (conv => whnf)) | ((refine (rquoted_any _ _).mono ?_; rintro _ _ ⟨rfl, rfl⟩); (conv => whnf)) | ((refine PureH.build0 (lineC 0 [] [] [] 0 false) (by kernel_rfl) ?_); (conv => whnf)) | ((refine PureH.build2 (lineC 3 x [] [] 0 false) (by kernel_rfl) ?_); (conv => whnf)) | (refine Vc.stp ?_; intros; (conv => whnf)) | (refine Vc.spl ?_ ?_ <;> (intro _; (conv => whnf))))))
      all_goals exact ⟨by rw [show lineF (w :: [x]) = none from by simp [lineF, hK, oneF, hpx]]; exact ⟨_, _, _, _, _, _, rfl⟩, by exact Vc.xt⟩
    · have hpa : (w :: [x]).all plainW = true := by simp [hpw, hpx]
      rw [hpa] at cp
      ((conv => whnf); repeat (any_goals (first | ((refine IdxA.strv hr rfl 0 _ rfl rfl ?_; intro _ _ _ _ _); (conv => whnf)) | ((refine IdxA.strv hr rfl 1 _ rfl rfl ?_; intro _ _ _ _ _); (conv => whnf)) | ((refine IdxA.strv hr rfl 2 _ rfl rfl ?_; intro _ _ _ _ _); (conv => whnf)) | ((refine IdxA.strv hr rfl 3 _ rfl rfl ?_; intro _ _ _ _ _); (conv => whnf)) | ((refine BndH.nat 2 rfl (by omega) ?_); (conv => whnf)) | ((refine BndH.nat 1 rfl (by omega) ?_); (conv => whnf)) | ((refine (cp _ (by exact Vc.xt)).mono ?_; rintro _ _ ⟨rfl, rfl⟩); (conv => whnf)) | ((refine (cp2 _ (by exact Vc.xt)).mono ?_; rintro _ _ ⟨rfl, rfl⟩); (conv => whnf)) | ((refine (rquoted_any _ _).mono ?_; rintro _ _ ⟨rfl, rfl⟩); (conv => whnf)) | ((refine PureH.build0 (lineC 0 [] [] [] 0 false) (by kernel_rfl) ?_); (conv => whnf)) | ((refine PureH.build2 (lineC 3 x [] [] 0 false) (by kernel_rfl) ?_); (conv => whnf)) | (refine Vc.stp ?_; intros; (conv => whnf)) | (refine Vc.spl ?_ ?_ <;> (intro _; (conv => whnf))))))
      all_goals exact ⟨by rw [show lineF (w :: [x]) = some ⟨3, x, [], [], 0, false⟩ from by simp [lineF, hK, oneF, hpx]]; rfl, by exact Vc.xt⟩
  | x :: y :: t, hr, hc, hm, hwl =>
    have hlen : (w :: (x :: y :: t : List Bs)).length = t.length + 2 + 1 := by simp
    simp only [List.length_cons, List.length_nil] at hc hm
    have hlx : x.length ≤ 1000000000 := hwl x (by simp)
    have hly : y.length ≤ 1000000000 := hwl y (by simp)
    ((conv => whnf); repeat (any_goals (first | ((refine IdxA.strv hr rfl 0 _ rfl rfl ?_; intro _ _ _ _ _); (conv => whnf)) | ((refine IdxA.strv hr rfl 1 _ rfl rfl ?_; intro _ _ _ _ _); (conv => whnf)) | ((refine IdxA.strv hr rfl 2 _ rfl rfl ?_; intro _ _ _ _ _); (conv => whnf)) | ((refine IdxA.strv hr rfl 3 _ rfl rfl ?_; intro _ _ _ _ _); (conv => whnf)) | ((refine BndH.nat 2 rfl (by omega) ?_); (conv => whnf)) | ((refine BndH.nat 1 rfl (by omega) ?_); (conv => whnf)) | ((refine (cp _ (by exact Vc.xt)).mono ?_; rintro _ _ ⟨rfl, rfl⟩); (conv => whnf)) | ((refine (cp2 _ (by exact Vc.xt)).mono ?_; rintro _ _ ⟨rfl, rfl⟩); (conv => whnf)) | ((refine (rquoted_any _ _).mono ?_; rintro _ _ ⟨rfl, rfl⟩); (conv => whnf)) | ((refine PureH.build0 (lineC 0 [] [] [] 0 false) (by kernel_rfl) ?_); (conv => whnf)) | (refine Vc.stp ?_; intros; (conv => whnf)) | (refine Vc.spl ?_ ?_ <;> (intro _; (conv => whnf))))))
    all_goals exact ⟨by rw [show lineF (w :: (x :: y :: t)) = none from by simp [lineF, hK, oneF]]; exact ⟨_, _, _, _, _, _, rfl⟩, by exact Vc.xt⟩
set_option maxHeartbeats 4000000 in
theorem rline_4 (w : Bs) (ws : List Bs) (a : Option Addr) (cap : Nat) (H : Heap) (hr : Row H a (strs (w :: ws))) (hc : (w :: ws).length ≤ cap) (hm : (w :: ws).length ≤ 1000000000) (hwl : ∀ x ∈ w :: ws, x.length ≤ 1000000000) (hK : kindF w = 4) : CallH Tryz.prog 59 [.slice a (w :: ws).length cap] H fun v H' => readR v (lineF (w :: ws)) ∧ Ext H H' := by
  refine Vc.CallH.body Tryz.func59 Tryz.call59 rfl (by decide +kernel) rfl ?_
  have hw : w = kws.getD 4 [] := kind_eq hK (by decide)
  have e0 : ((mkS w).toList == (⟨#[99, 111, 112, 121]⟩ : ByteArray).toList) = false := kw_f hK 0 (by decide) (by decide)
  have e1 : ((mkS w).toList == (⟨#[119, 114, 105, 116, 101]⟩ : ByteArray).toList) = false := kw_f hK 1 (by decide) (by decide)
  have e2 : ((mkS w).toList == (⟨#[97, 112, 112, 101, 110, 100]⟩ : ByteArray).toList) = false := kw_f hK 2 (by decide) (by decide)
  have e3 : ((mkS w).toList == (⟨#[109, 107, 100, 105, 114]⟩ : ByteArray).toList) = false := kw_f hK 3 (by decide) (by decide)
  have e4 : ((mkS w).toList == (⟨#[114, 101, 109, 111, 118, 101]⟩ : ByteArray).toList) = true := kw_t hK 4 (by decide) rfl
  have e5 : ((mkS w).toList == (⟨#[114, 101, 110, 97, 109, 101]⟩ : ByteArray).toList) = false := kw_f hK 5 (by decide) (by decide)
  have e6 : ((mkS w).toList == (⟨#[115, 101, 116]⟩ : ByteArray).toList) = false := kw_f hK 6 (by decide) (by decide)
  have e7 : ((mkS w).toList == (⟨#[105, 102]⟩ : ByteArray).toList) = false := kw_f hK 7 (by decide) (by decide)
  have e8 : ((mkS w).toList == (⟨#[114, 101, 112, 101, 97, 116]⟩ : ByteArray).toList) = false := kw_f hK 8 (by decide) (by decide)
  have e9 : ((mkS w).toList == (⟨#[101, 108, 115, 101]⟩ : ByteArray).toList) = false := kw_f hK 9 (by decide) (by decide)
  have e10 : ((mkS w).toList == (⟨#[101, 110, 100]⟩ : ByteArray).toList) = false := kw_f hK 10 (by decide) (by decide)
  have e11 : ((mkS w).toList == (⟨#[102, 97, 105, 108]⟩ : ByteArray).toList) = false := kw_f hK 11 (by decide) (by decide)
  have hpw : plainW w = true := by rw [hw]; rfl
  match ws, hr, hc, hm, hwl with
  | [], hr, hc, hm, hwl =>
    have hlen : (w :: ([] : List Bs)).length = 0 + 1 := by simp
    simp only [List.length_cons, List.length_nil] at hc hm
    ((conv => whnf); repeat (any_goals (first | ((refine IdxA.strv hr rfl 0 _ rfl rfl ?_; intro _ _ _ _ _); (conv => whnf)) | ((refine IdxA.strv hr rfl 1 _ rfl rfl ?_; intro _ _ _ _ _); (conv => whnf)) | ((refine IdxA.strv hr rfl 2 _ rfl rfl ?_; intro _ _ _ _ _); (conv => whnf)) | ((refine IdxA.strv hr rfl 3 _ rfl rfl ?_; intro _ _ _ _ _); (conv => whnf)) | ((refine BndH.nat 2 rfl (by omega) ?_); (conv => whnf)) | ((refine BndH.nat 1 rfl (by omega) ?_); (conv => whnf)) | ((refine (cp _ (by exact Vc.xt)).mono ?_; rintro _ _ ⟨rfl, rfl⟩); (conv => whnf)) | ((refine (cp2 _ (by exact Vc.xt)).mono ?_; rintro _ _ ⟨rfl, rfl⟩); (conv => whnf)) | ((refine (rquoted_any _ _).mono ?_; rintro _ _ ⟨rfl, rfl⟩); (conv => whnf)) | ((refine PureH.build0 (lineC 0 [] [] [] 0 false) (by kernel_rfl) ?_); (conv => whnf)) | (refine Vc.stp ?_; intros; (conv => whnf)) | (refine Vc.spl ?_ ?_ <;> (intro _; (conv => whnf))))))
    all_goals exact ⟨by rw [show lineF (w :: []) = none from by simp [lineF, hK, oneF]]; exact ⟨_, _, _, _, _, _, rfl⟩, by exact Vc.xt⟩
  | [x], hr, hc, hm, hwl =>
    have hlen : (w :: ([x] : List Bs)).length = 1 + 1 := by simp
    simp only [List.length_cons, List.length_nil] at hc hm
    have hlx : x.length ≤ 1000000000 := hwl x (by simp)
    have cp := fun H2 (k : Ext H H2) => rplain_any (w :: [x]) a _ cap H2 (hr.ext k) rfl hm
    cases hpx : plainW x
    · have hpa : (w :: [x]).all plainW = false := by simp [hpw, hpx]
      rw [hpa] at cp
      ((conv => whnf); repeat (any_goals (first | ((refine IdxA.strv hr rfl 0 _ rfl rfl ?_; intro _ _ _ _ _); (conv => whnf)) | ((refine IdxA.strv hr rfl 1 _ rfl rfl ?_; intro _ _ _ _ _); (conv => whnf)) | ((refine IdxA.strv hr rfl 2 _ rfl rfl ?_; intro _ _ _ _ _); (conv => whnf)) | ((refine IdxA.strv hr rfl 3 _ rfl rfl ?_; intro _ _ _ _ _); (conv => whnf)) | ((refine BndH.nat 2 rfl (by omega) ?_); (conv => whnf)) | ((refine BndH.nat 1 rfl (by omega) ?_); (conv => whnf)) | ((refine (cp _ (by exact Vc.xt)).mono ?_; rintro _ _ ⟨rfl, rfl⟩); (conv => whnf)) | ((refine (cp2 _ (by exact Vc.xt)).mono ?_; rintro _ _ ⟨rfl, rfl⟩); (conv => whnf)) | ((refine (rquoted_any _ _).mono ?_; rintro _ _ ⟨rfl, rfl⟩); (conv => whnf)) | ((refine PureH.build0 (lineC 0 [] [] [] 0 false) (by kernel_rfl) ?_); (conv => whnf)) | ((refine PureH.build2 (lineC 4 x [] [] 0 false) (by kernel_rfl) ?_); (conv => whnf)) | (refine Vc.stp ?_; intros; (conv => whnf)) | (refine Vc.spl ?_ ?_ <;> (intro _; (conv => whnf))))))
      all_goals exact ⟨by rw [show lineF (w :: [x]) = none from by simp [lineF, hK, oneF, hpx]]; exact ⟨_, _, _, _, _, _, rfl⟩, by exact Vc.xt⟩
    · have hpa : (w :: [x]).all plainW = true := by simp [hpw, hpx]
      rw [hpa] at cp
      ((conv => whnf); repeat (any_goals (first | ((refine IdxA.strv hr rfl 0 _ rfl rfl ?_; intro _ _ _ _ _); (conv => whnf)) | ((refine IdxA.strv hr rfl 1 _ rfl rfl ?_; intro _ _ _ _ _); (conv => whnf)) | ((refine IdxA.strv hr rfl 2 _ rfl rfl ?_; intro _ _ _ _ _); (conv => whnf)) | ((refine IdxA.strv hr rfl 3 _ rfl rfl ?_; intro _ _ _ _ _); (conv => whnf)) | ((refine BndH.nat 2 rfl (by omega) ?_); (conv => whnf)) | ((refine BndH.nat 1 rfl (by omega) ?_); (conv => whnf)) | ((refine (cp _ (by exact Vc.xt)).mono ?_; rintro _ _ ⟨rfl, rfl⟩); (conv => whnf)) | ((refine (cp2 _ (by exact Vc.xt)).mono ?_; rintro _ _ ⟨rfl, rfl⟩); (conv => whnf)) | ((refine (rquoted_any _ _).mono ?_; rintro _ _ ⟨rfl, rfl⟩); (conv => whnf)) | ((refine PureH.build0 (lineC 0 [] [] [] 0 false) (by kernel_rfl) ?_); (conv => whnf)) | ((refine PureH.build2 (lineC 4 x [] [] 0 false) (by kernel_rfl) ?_); (conv => whnf)) | (refine Vc.stp ?_; intros; (conv => whnf)) | (refine Vc.spl ?_ ?_ <;> (intro _; (conv => whnf))))))
      all_goals exact ⟨by rw [show lineF (w :: [x]) = some ⟨4, x, [], [], 0, false⟩ from by simp [lineF, hK, oneF, hpx]]; rfl, by exact Vc.xt⟩
  | x :: y :: t, hr, hc, hm, hwl =>
    have hlen : (w :: (x :: y :: t : List Bs)).length = t.length + 2 + 1 := by simp
    simp only [List.length_cons, List.length_nil] at hc hm
    have hlx : x.length ≤ 1000000000 := hwl x (by simp)
    have hly : y.length ≤ 1000000000 := hwl y (by simp)
    ((conv => whnf); repeat (any_goals (first | ((refine IdxA.strv hr rfl 0 _ rfl rfl ?_; intro _ _ _ _ _); (conv => whnf)) | ((refine IdxA.strv hr rfl 1 _ rfl rfl ?_; intro _ _ _ _ _); (conv => whnf)) | ((refine IdxA.strv hr rfl 2 _ rfl rfl ?_; intro _ _ _ _ _); (conv => whnf)) | ((refine IdxA.strv hr rfl 3 _ rfl rfl ?_; intro _ _ _ _ _); (conv => whnf)) | ((refine BndH.nat 2 rfl (by omega) ?_); (conv => whnf)) | ((refine BndH.nat 1 rfl (by omega) ?_); (conv => whnf)) | ((refine (cp _ (by exact Vc.xt)).mono ?_; rintro _ _ ⟨rfl, rfl⟩); (conv => whnf)) | ((refine (cp2 _ (by exact Vc.xt)).mono ?_; rintro _ _ ⟨rfl, rfl⟩); (conv => whnf)) | ((refine (rquoted_any _ _).mono ?_; rintro _ _ ⟨rfl, rfl⟩); (conv => whnf)) | ((refine PureH.build0 (lineC 0 [] [] [] 0 false) (by kernel_rfl) ?_); (conv => whnf)) | (refine Vc.stp ?_; intros; (conv => whnf)) | (refine Vc.spl ?_ ?_ <;> (intro _; (conv => whnf))))))
    all_goals exact ⟨by rw [show lineF (w :: (x :: y :: t)) = none from by simp [lineF, hK, oneF]]; exact ⟨_, _, _, _, _, _, rfl⟩, by exact Vc.xt⟩
set_option maxHeartbeats 4000000 in
theorem rline_5 (w : Bs) (ws : List Bs) (a : Option Addr) (cap : Nat) (H : Heap) (hr : Row H a (strs (w :: ws))) (hc : (w :: ws).length ≤ cap) (hm : (w :: ws).length ≤ 1000000000) (hwl : ∀ x ∈ w :: ws, x.length ≤ 1000000000) (hK : kindF w = 5) : CallH Tryz.prog 59 [.slice a (w :: ws).length cap] H fun v H' => readR v (lineF (w :: ws)) ∧ Ext H H' := by
  refine Vc.CallH.body Tryz.func59 Tryz.call59 rfl (by decide +kernel) rfl ?_
  have hw : w = kws.getD 5 [] := kind_eq hK (by decide)
  have e0 : ((mkS w).toList == (⟨#[99, 111, 112, 121]⟩ : ByteArray).toList) = false := kw_f hK 0 (by decide) (by decide)
  have e1 : ((mkS w).toList == (⟨#[119, 114, 105, 116, 101]⟩ : ByteArray).toList) = false := kw_f hK 1 (by decide) (by decide)
  have e2 : ((mkS w).toList == (⟨#[97, 112, 112, 101, 110, 100]⟩ : ByteArray).toList) = false := kw_f hK 2 (by decide) (by decide)
  have e3 : ((mkS w).toList == (⟨#[109, 107, 100, 105, 114]⟩ : ByteArray).toList) = false := kw_f hK 3 (by decide) (by decide)
  have e4 : ((mkS w).toList == (⟨#[114, 101, 109, 111, 118, 101]⟩ : ByteArray).toList) = false := kw_f hK 4 (by decide) (by decide)
  have e5 : ((mkS w).toList == (⟨#[114, 101, 110, 97, 109, 101]⟩ : ByteArray).toList) = true := kw_t hK 5 (by decide) rfl
  have e6 : ((mkS w).toList == (⟨#[115, 101, 116]⟩ : ByteArray).toList) = false := kw_f hK 6 (by decide) (by decide)
  have e7 : ((mkS w).toList == (⟨#[105, 102]⟩ : ByteArray).toList) = false := kw_f hK 7 (by decide) (by decide)
  have e8 : ((mkS w).toList == (⟨#[114, 101, 112, 101, 97, 116]⟩ : ByteArray).toList) = false := kw_f hK 8 (by decide) (by decide)
  have e9 : ((mkS w).toList == (⟨#[101, 108, 115, 101]⟩ : ByteArray).toList) = false := kw_f hK 9 (by decide) (by decide)
  have e10 : ((mkS w).toList == (⟨#[101, 110, 100]⟩ : ByteArray).toList) = false := kw_f hK 10 (by decide) (by decide)
  have e11 : ((mkS w).toList == (⟨#[102, 97, 105, 108]⟩ : ByteArray).toList) = false := kw_f hK 11 (by decide) (by decide)
  have hpw : plainW w = true := by rw [hw]; rfl
  match ws, hr, hc, hm, hwl with
  | [], hr, hc, hm, hwl =>
    have hlen : (w :: ([] : List Bs)).length = 0 + 1 := by simp
    simp only [List.length_cons, List.length_nil] at hc hm
    ((conv => whnf); repeat (any_goals (first | ((refine IdxA.strv hr rfl 0 _ rfl rfl ?_; intro _ _ _ _ _); (conv => whnf)) | ((refine IdxA.strv hr rfl 1 _ rfl rfl ?_; intro _ _ _ _ _); (conv => whnf)) | ((refine IdxA.strv hr rfl 2 _ rfl rfl ?_; intro _ _ _ _ _); (conv => whnf)) | ((refine IdxA.strv hr rfl 3 _ rfl rfl ?_; intro _ _ _ _ _); (conv => whnf)) | ((refine BndH.nat 2 rfl (by omega) ?_); (conv => whnf)) | ((refine BndH.nat 1 rfl (by omega) ?_); (conv => whnf)) | ((refine (cp _ (by exact Vc.xt)).mono ?_; rintro _ _ ⟨rfl, rfl⟩); (conv => whnf)) | ((refine (cp2 _ (by exact Vc.xt)).mono ?_; rintro _ _ ⟨rfl, rfl⟩); (conv => whnf)) | ((refine (rquoted_any _ _).mono ?_; rintro _ _ ⟨rfl, rfl⟩); (conv => whnf)) | ((refine PureH.build0 (lineC 0 [] [] [] 0 false) (by kernel_rfl) ?_); (conv => whnf)) | (refine Vc.stp ?_; intros; (conv => whnf)) | (refine Vc.spl ?_ ?_ <;> (intro _; (conv => whnf))))))
    all_goals exact ⟨by rw [show lineF (w :: []) = none from by simp [lineF, hK, twoF]]; exact ⟨_, _, _, _, _, _, rfl⟩, by exact Vc.xt⟩
  | [x], hr, hc, hm, hwl =>
    have hlen : (w :: ([x] : List Bs)).length = 1 + 1 := by simp
    simp only [List.length_cons, List.length_nil] at hc hm
    have hlx : x.length ≤ 1000000000 := hwl x (by simp)
    ((conv => whnf); repeat (any_goals (first | ((refine IdxA.strv hr rfl 0 _ rfl rfl ?_; intro _ _ _ _ _); (conv => whnf)) | ((refine IdxA.strv hr rfl 1 _ rfl rfl ?_; intro _ _ _ _ _); (conv => whnf)) | ((refine IdxA.strv hr rfl 2 _ rfl rfl ?_; intro _ _ _ _ _); (conv => whnf)) | ((refine IdxA.strv hr rfl 3 _ rfl rfl ?_; intro _ _ _ _ _); (conv => whnf)) | ((refine BndH.nat 2 rfl (by omega) ?_); (conv => whnf)) | ((refine BndH.nat 1 rfl (by omega) ?_); (conv => whnf)) | ((refine (cp _ (by exact Vc.xt)).mono ?_; rintro _ _ ⟨rfl, rfl⟩); (conv => whnf)) | ((refine (cp2 _ (by exact Vc.xt)).mono ?_; rintro _ _ ⟨rfl, rfl⟩); (conv => whnf)) | ((refine (rquoted_any _ _).mono ?_; rintro _ _ ⟨rfl, rfl⟩); (conv => whnf)) | ((refine PureH.build0 (lineC 0 [] [] [] 0 false) (by kernel_rfl) ?_); (conv => whnf)) | (refine Vc.stp ?_; intros; (conv => whnf)) | (refine Vc.spl ?_ ?_ <;> (intro _; (conv => whnf))))))
    all_goals exact ⟨by rw [show lineF (w :: [x]) = none from by simp [lineF, hK, twoF]]; exact ⟨_, _, _, _, _, _, rfl⟩, by exact Vc.xt⟩
  | [x, y], hr, hc, hm, hwl =>
    have hlen : (w :: ([x, y] : List Bs)).length = 2 + 1 := by simp
    simp only [List.length_cons, List.length_nil] at hc hm
    have hlx : x.length ≤ 1000000000 := hwl x (by simp)
    have hly : y.length ≤ 1000000000 := hwl y (by simp)
    have cp := fun H2 (k : Ext H H2) => rplain_any (w :: [x, y]) a _ cap H2 (hr.ext k) rfl hm
    cases hpx : plainW x
    · cases hpy : plainW y
      · have hpa : (w :: [x, y]).all plainW = false := by simp [hpw, hpx, hpy]
        rw [hpa] at cp
        ((conv => whnf); repeat (any_goals (first | ((refine IdxA.strv hr rfl 0 _ rfl rfl ?_; intro _ _ _ _ _); (conv => whnf)) | ((refine IdxA.strv hr rfl 1 _ rfl rfl ?_; intro _ _ _ _ _); (conv => whnf)) | ((refine IdxA.strv hr rfl 2 _ rfl rfl ?_; intro _ _ _ _ _); (conv => whnf)) | ((refine IdxA.strv hr rfl 3 _ rfl rfl ?_; intro _ _ _ _ _); (conv => whnf)) | ((refine BndH.nat 2 rfl (by omega) ?_); (conv => whnf)) | ((refine BndH.nat 1 rfl (by omega) ?_); (conv => whnf)) | ((refine (cp _ (by exact Vc.xt)).mono ?_; rintro _ _ ⟨rfl, rfl⟩); (conv => whnf)) | ((refine (cp2 _ (by exact Vc.xt)).mono ?_; rintro _ _ ⟨rfl, rfl⟩); (conv => whnf)) | ((refine (rquoted_any _ _).mono ?_; rintro _ _ ⟨rfl, rfl⟩); (conv => whnf)) | ((refine PureH.build0 (lineC 0 [] [] [] 0 false) (by kernel_rfl) ?_); (conv => whnf)) | ((refine PureH.build3 (lineC 5 x y [] 0 false) (by kernel_rfl) ?_); (conv => whnf)) | (refine Vc.stp ?_; intros; (conv => whnf)) | (refine Vc.spl ?_ ?_ <;> (intro _; (conv => whnf))))))
        all_goals exact ⟨by rw [show lineF (w :: [x, y]) = none from by simp [lineF, hK, twoF, hpx, hpy]]; exact ⟨_, _, _, _, _, _, rfl⟩, by exact Vc.xt⟩
      · have hpa : (w :: [x, y]).all plainW = false := by simp [hpw, hpx, hpy]
        rw [hpa] at cp
        ((conv => whnf); repeat (any_goals (first | ((refine IdxA.strv hr rfl 0 _ rfl rfl ?_; intro _ _ _ _ _); (conv => whnf)) | ((refine IdxA.strv hr rfl 1 _ rfl rfl ?_; intro _ _ _ _ _); (conv => whnf)) | ((refine IdxA.strv hr rfl 2 _ rfl rfl ?_; intro _ _ _ _ _); (conv => whnf)) | ((refine IdxA.strv hr rfl 3 _ rfl rfl ?_; intro _ _ _ _ _); (conv => whnf)) | ((refine BndH.nat 2 rfl (by omega) ?_); (conv => whnf)) | ((refine BndH.nat 1 rfl (by omega) ?_); (conv => whnf)) | ((refine (cp _ (by exact Vc.xt)).mono ?_; rintro _ _ ⟨rfl, rfl⟩); (conv => whnf)) | ((refine (cp2 _ (by exact Vc.xt)).mono ?_; rintro _ _ ⟨rfl, rfl⟩); (conv => whnf)) | ((refine (rquoted_any _ _).mono ?_; rintro _ _ ⟨rfl, rfl⟩); (conv => whnf)) | ((refine PureH.build0 (lineC 0 [] [] [] 0 false) (by kernel_rfl) ?_); (conv => whnf)) | ((refine PureH.build3 (lineC 5 x y [] 0 false) (by kernel_rfl) ?_); (conv => whnf)) | (refine Vc.stp ?_; intros; (conv => whnf)) | (refine Vc.spl ?_ ?_ <;> (intro _; (conv => whnf))))))
        all_goals exact ⟨by rw [show lineF (w :: [x, y]) = none from by simp [lineF, hK, twoF, hpx, hpy]]; exact ⟨_, _, _, _, _, _, rfl⟩, by exact Vc.xt⟩
    · cases hpy : plainW y
      · have hpa : (w :: [x, y]).all plainW = false := by simp [hpw, hpx, hpy]
        rw [hpa] at cp
        ((conv => whnf); repeat (any_goals (first | ((refine IdxA.strv hr rfl 0 _ rfl rfl ?_; intro _ _ _ _ _); (conv => whnf)) | ((refine IdxA.strv hr rfl 1 _ rfl rfl ?_; intro _ _ _ _ _); (conv => whnf)) | ((refine IdxA.strv hr rfl 2 _ rfl rfl ?_; intro _ _ _ _ _); (conv => whnf)) | ((refine IdxA.strv hr rfl 3 _ rfl rfl ?_; intro _ _ _ _ _); (conv => whnf)) | ((refine BndH.nat 2 rfl (by omega) ?_); (conv => whnf)) | ((refine BndH.nat 1 rfl (by omega) ?_); (conv => whnf)) | ((refine (cp _ (by exact Vc.xt)).mono ?_; rintro _ _ ⟨rfl, rfl⟩); (conv => whnf)) | ((refine (cp2 _ (by exact Vc.xt)).mono ?_; rintro _ _ ⟨rfl, rfl⟩); (conv => whnf)) | ((refine (rquoted_any _ _).mono ?_; rintro _ _ ⟨rfl, rfl⟩); (conv => whnf)) | ((refine PureH.build0 (lineC 0 [] [] [] 0 false) (by kernel_rfl) ?_); (conv => whnf)) | ((refine PureH.build3 (lineC 5 x y [] 0 false) (by kernel_rfl) ?_); (conv => whnf)) | (refine Vc.stp ?_; intros; (conv => whnf)) | (refine Vc.spl ?_ ?_ <;> (intro _; (conv => whnf))))))
        all_goals exact ⟨by rw [show lineF (w :: [x, y]) = none from by simp [lineF, hK, twoF, hpx, hpy]]; exact ⟨_, _, _, _, _, _, rfl⟩, by exact Vc.xt⟩
      · have hpa : (w :: [x, y]).all plainW = true := by simp [hpw, hpx, hpy]
        rw [hpa] at cp
        ((conv => whnf); repeat (any_goals (first | ((refine IdxA.strv hr rfl 0 _ rfl rfl ?_; intro _ _ _ _ _); (conv => whnf)) | ((refine IdxA.strv hr rfl 1 _ rfl rfl ?_; intro _ _ _ _ _); (conv => whnf)) | ((refine IdxA.strv hr rfl 2 _ rfl rfl ?_; intro _ _ _ _ _); (conv => whnf)) | ((refine IdxA.strv hr rfl 3 _ rfl rfl ?_; intro _ _ _ _ _); (conv => whnf)) | ((refine BndH.nat 2 rfl (by omega) ?_); (conv => whnf)) | ((refine BndH.nat 1 rfl (by omega) ?_); (conv => whnf)) | ((refine (cp _ (by exact Vc.xt)).mono ?_; rintro _ _ ⟨rfl, rfl⟩); (conv => whnf)) | ((refine (cp2 _ (by exact Vc.xt)).mono ?_; rintro _ _ ⟨rfl, rfl⟩); (conv => whnf)) | ((refine (rquoted_any _ _).mono ?_; rintro _ _ ⟨rfl, rfl⟩); (conv => whnf)) | ((refine PureH.build0 (lineC 0 [] [] [] 0 false) (by kernel_rfl) ?_); (conv => whnf)) | ((refine PureH.build3 (lineC 5 x y [] 0 false) (by kernel_rfl) ?_); (conv => whnf)) | (refine Vc.stp ?_; intros; (conv => whnf)) | (refine Vc.spl ?_ ?_ <;> (intro _; (conv => whnf))))))
        all_goals exact ⟨by rw [show lineF (w :: [x, y]) = some ⟨5, x, y, [], 0, false⟩ from by simp [lineF, hK, twoF, hpx, hpy]]; rfl, by exact Vc.xt⟩
  | x :: y :: z :: t, hr, hc, hm, hwl =>
    have hlen : (w :: (x :: y :: z :: t : List Bs)).length = t.length + 3 + 1 := by simp
    simp only [List.length_cons, List.length_nil] at hc hm
    have hlx : x.length ≤ 1000000000 := hwl x (by simp)
    have hly : y.length ≤ 1000000000 := hwl y (by simp)
    have hlz : z.length ≤ 1000000000 := hwl z (by simp)
    ((conv => whnf); repeat (any_goals (first | ((refine IdxA.strv hr rfl 0 _ rfl rfl ?_; intro _ _ _ _ _); (conv => whnf)) | ((refine IdxA.strv hr rfl 1 _ rfl rfl ?_; intro _ _ _ _ _); (conv => whnf)) | ((refine IdxA.strv hr rfl 2 _ rfl rfl ?_; intro _ _ _ _ _); (conv => whnf)) | ((refine IdxA.strv hr rfl 3 _ rfl rfl ?_; intro _ _ _ _ _); (conv => whnf)) | ((refine BndH.nat 2 rfl (by omega) ?_); (conv => whnf)) | ((refine BndH.nat 1 rfl (by omega) ?_); (conv => whnf)) | ((refine (cp _ (by exact Vc.xt)).mono ?_; rintro _ _ ⟨rfl, rfl⟩); (conv => whnf)) | ((refine (cp2 _ (by exact Vc.xt)).mono ?_; rintro _ _ ⟨rfl, rfl⟩); (conv => whnf)) | ((refine (rquoted_any _ _).mono ?_; rintro _ _ ⟨rfl, rfl⟩); (conv => whnf)) | ((refine PureH.build0 (lineC 0 [] [] [] 0 false) (by kernel_rfl) ?_); (conv => whnf)) | (refine Vc.stp ?_; intros; (conv => whnf)) | (refine Vc.spl ?_ ?_ <;> (intro _; (conv => whnf))))))
    all_goals exact ⟨by rw [show lineF (w :: (x :: y :: z :: t)) = none from by simp [lineF, hK, twoF]]; exact ⟨_, _, _, _, _, _, rfl⟩, by exact Vc.xt⟩
set_option maxHeartbeats 4000000 in
theorem rline_6 (w : Bs) (ws : List Bs) (a : Option Addr) (cap : Nat) (H : Heap) (hr : Row H a (strs (w :: ws))) (hc : (w :: ws).length ≤ cap) (hm : (w :: ws).length ≤ 1000000000) (hwl : ∀ x ∈ w :: ws, x.length ≤ 1000000000) (hK : kindF w = 6) : CallH Tryz.prog 59 [.slice a (w :: ws).length cap] H fun v H' => readR v (lineF (w :: ws)) ∧ Ext H H' := by
  refine Vc.CallH.body Tryz.func59 Tryz.call59 rfl (by decide +kernel) rfl ?_
  have hw : w = kws.getD 6 [] := kind_eq hK (by decide)
  have e0 : ((mkS w).toList == (⟨#[99, 111, 112, 121]⟩ : ByteArray).toList) = false := kw_f hK 0 (by decide) (by decide)
  have e1 : ((mkS w).toList == (⟨#[119, 114, 105, 116, 101]⟩ : ByteArray).toList) = false := kw_f hK 1 (by decide) (by decide)
  have e2 : ((mkS w).toList == (⟨#[97, 112, 112, 101, 110, 100]⟩ : ByteArray).toList) = false := kw_f hK 2 (by decide) (by decide)
  have e3 : ((mkS w).toList == (⟨#[109, 107, 100, 105, 114]⟩ : ByteArray).toList) = false := kw_f hK 3 (by decide) (by decide)
  have e4 : ((mkS w).toList == (⟨#[114, 101, 109, 111, 118, 101]⟩ : ByteArray).toList) = false := kw_f hK 4 (by decide) (by decide)
  have e5 : ((mkS w).toList == (⟨#[114, 101, 110, 97, 109, 101]⟩ : ByteArray).toList) = false := kw_f hK 5 (by decide) (by decide)
  have e6 : ((mkS w).toList == (⟨#[115, 101, 116]⟩ : ByteArray).toList) = true := kw_t hK 6 (by decide) rfl
  have e7 : ((mkS w).toList == (⟨#[105, 102]⟩ : ByteArray).toList) = false := kw_f hK 7 (by decide) (by decide)
  have e8 : ((mkS w).toList == (⟨#[114, 101, 112, 101, 97, 116]⟩ : ByteArray).toList) = false := kw_f hK 8 (by decide) (by decide)
  have e9 : ((mkS w).toList == (⟨#[101, 108, 115, 101]⟩ : ByteArray).toList) = false := kw_f hK 9 (by decide) (by decide)
  have e10 : ((mkS w).toList == (⟨#[101, 110, 100]⟩ : ByteArray).toList) = false := kw_f hK 10 (by decide) (by decide)
  have e11 : ((mkS w).toList == (⟨#[102, 97, 105, 108]⟩ : ByteArray).toList) = false := kw_f hK 11 (by decide) (by decide)
  have hpw : plainW w = true := by rw [hw]; rfl
  match ws, hr, hc, hm, hwl with
  | [], hr, hc, hm, hwl =>
    have hlen : (w :: ([] : List Bs)).length = 0 + 1 := by simp
    simp only [List.length_cons, List.length_nil] at hc hm
    ((conv => whnf); repeat (any_goals (first | ((refine IdxA.strv hr rfl 0 _ rfl rfl ?_; intro _ _ _ _ _); (conv => whnf)) | ((refine IdxA.strv hr rfl 1 _ rfl rfl ?_; intro _ _ _ _ _); (conv => whnf)) | ((refine IdxA.strv hr rfl 2 _ rfl rfl ?_; intro _ _ _ _ _); (conv => whnf)) | ((refine IdxA.strv hr rfl 3 _ rfl rfl ?_; intro _ _ _ _ _); (conv => whnf)) | ((refine BndH.nat 2 rfl (by omega) ?_); (conv => whnf)) | ((refine BndH.nat 1 rfl (by omega) ?_); (conv => whnf)) | ((refine (cp _ (by exact Vc.xt)).mono ?_; rintro _ _ ⟨rfl, rfl⟩); (conv => whnf)) | ((refine (cp2 _ (by exact Vc.xt)).mono ?_; rintro _ _ ⟨rfl, rfl⟩); (conv => whnf)) | ((refine (rquoted_any _ _).mono ?_; rintro _ _ ⟨rfl, rfl⟩); (conv => whnf)) | ((refine PureH.build0 (lineC 0 [] [] [] 0 false) (by kernel_rfl) ?_); (conv => whnf)) | (refine Vc.stp ?_; intros; (conv => whnf)) | (refine Vc.spl ?_ ?_ <;> (intro _; (conv => whnf))))))
    all_goals exact ⟨by rw [show lineF (w :: []) = none from by simp [lineF, hK, textF]]; exact ⟨_, _, _, _, _, _, rfl⟩, by exact Vc.xt⟩
  | [x], hr, hc, hm, hwl =>
    have hlen : (w :: ([x] : List Bs)).length = 1 + 1 := by simp
    simp only [List.length_cons, List.length_nil] at hc hm
    have hlx : x.length ≤ 1000000000 := hwl x (by simp)
    ((conv => whnf); repeat (any_goals (first | ((refine IdxA.strv hr rfl 0 _ rfl rfl ?_; intro _ _ _ _ _); (conv => whnf)) | ((refine IdxA.strv hr rfl 1 _ rfl rfl ?_; intro _ _ _ _ _); (conv => whnf)) | ((refine IdxA.strv hr rfl 2 _ rfl rfl ?_; intro _ _ _ _ _); (conv => whnf)) | ((refine IdxA.strv hr rfl 3 _ rfl rfl ?_; intro _ _ _ _ _); (conv => whnf)) | ((refine BndH.nat 2 rfl (by omega) ?_); (conv => whnf)) | ((refine BndH.nat 1 rfl (by omega) ?_); (conv => whnf)) | ((refine (cp _ (by exact Vc.xt)).mono ?_; rintro _ _ ⟨rfl, rfl⟩); (conv => whnf)) | ((refine (cp2 _ (by exact Vc.xt)).mono ?_; rintro _ _ ⟨rfl, rfl⟩); (conv => whnf)) | ((refine (rquoted_any _ _).mono ?_; rintro _ _ ⟨rfl, rfl⟩); (conv => whnf)) | ((refine PureH.build0 (lineC 0 [] [] [] 0 false) (by kernel_rfl) ?_); (conv => whnf)) | (refine Vc.stp ?_; intros; (conv => whnf)) | (refine Vc.spl ?_ ?_ <;> (intro _; (conv => whnf))))))
    all_goals exact ⟨by rw [show lineF (w :: [x]) = none from by simp [lineF, hK, textF]]; exact ⟨_, _, _, _, _, _, rfl⟩, by exact Vc.xt⟩
  | [x, y], hr, hc, hm, hwl =>
    have hlen : (w :: ([x, y] : List Bs)).length = 2 + 1 := by simp
    simp only [List.length_cons, List.length_nil] at hc hm
    have hlx : x.length ≤ 1000000000 := hwl x (by simp)
    have hly : y.length ≤ 1000000000 := hwl y (by simp)
    have cp2 := fun H2 (k : Ext H H2) => rplain_any [w, x] a 2 cap H2 ((hr.ext k).take 2) rfl (by decide)
    cases hpx : plainW x
    · cases hpy : plainW y
      · have hpa : [w, x].all plainW = false := by simp [hpw, hpx]
        rw [hpa] at cp2
        have hzy : 1 ≤ y.length := plain_pos hpy
        have hszy : (mkS y).size = y.length := rfl
        ((conv => whnf); repeat (any_goals (first | ((refine IdxA.strv hr rfl 0 _ rfl rfl ?_; intro _ _ _ _ _); (conv => whnf)) | ((refine IdxA.strv hr rfl 1 _ rfl rfl ?_; intro _ _ _ _ _); (conv => whnf)) | ((refine IdxA.strv hr rfl 2 _ rfl rfl ?_; intro _ _ _ _ _); (conv => whnf)) | ((refine IdxA.strv hr rfl 3 _ rfl rfl ?_; intro _ _ _ _ _); (conv => whnf)) | ((refine BndH.nat 2 rfl (by omega) ?_); (conv => whnf)) | ((refine BndH.nat 1 rfl (by omega) ?_); (conv => whnf)) | ((refine (cp _ (by exact Vc.xt)).mono ?_; rintro _ _ ⟨rfl, rfl⟩); (conv => whnf)) | ((refine (cp2 _ (by exact Vc.xt)).mono ?_; rintro _ _ ⟨rfl, rfl⟩); (conv => whnf)) | ((refine (rquoted_any _ _).mono ?_; rintro _ _ ⟨rfl, rfl⟩); (conv => whnf)) | ((refine PureH.build0 (lineC 0 [] [] [] 0 false) (by kernel_rfl) ?_); (conv => whnf)) | ((refine PureH.build3 #[.int .i64 6, .string (mkS x), .string (mkS []), .string ((mkS y).extract 1 (mkS y).size), .int .i64 0, .bool false] (by kernel_rfl) ?_); (conv => whnf)) | (refine Vc.stp ?_; intros; (conv => whnf)) | (refine Vc.spl ?_ ?_ <;> (intro _; (conv => whnf))))))
        all_goals exact ⟨by rw [show lineF (w :: [x, y]) = none from by simp [lineF, hK, textF, hpx, hpy]]; exact ⟨_, _, _, _, _, _, rfl⟩, by exact Vc.xt⟩
      · have hpa : [w, x].all plainW = false := by simp [hpw, hpx]
        rw [hpa] at cp2
        ((conv => whnf); repeat (any_goals (first | ((refine IdxA.strv hr rfl 0 _ rfl rfl ?_; intro _ _ _ _ _); (conv => whnf)) | ((refine IdxA.strv hr rfl 1 _ rfl rfl ?_; intro _ _ _ _ _); (conv => whnf)) | ((refine IdxA.strv hr rfl 2 _ rfl rfl ?_; intro _ _ _ _ _); (conv => whnf)) | ((refine IdxA.strv hr rfl 3 _ rfl rfl ?_; intro _ _ _ _ _); (conv => whnf)) | ((refine BndH.nat 2 rfl (by omega) ?_); (conv => whnf)) | ((refine BndH.nat 1 rfl (by omega) ?_); (conv => whnf)) | ((refine (cp _ (by exact Vc.xt)).mono ?_; rintro _ _ ⟨rfl, rfl⟩); (conv => whnf)) | ((refine (cp2 _ (by exact Vc.xt)).mono ?_; rintro _ _ ⟨rfl, rfl⟩); (conv => whnf)) | ((refine (rquoted_any _ _).mono ?_; rintro _ _ ⟨rfl, rfl⟩); (conv => whnf)) | ((refine PureH.build0 (lineC 0 [] [] [] 0 false) (by kernel_rfl) ?_); (conv => whnf)) | ((refine PureH.build3 #[.int .i64 6, .string (mkS x), .string (mkS []), .string ((mkS y).extract 1 (mkS y).size), .int .i64 0, .bool false] (by kernel_rfl) ?_); (conv => whnf)) | (refine Vc.stp ?_; intros; (conv => whnf)) | (refine Vc.spl ?_ ?_ <;> (intro _; (conv => whnf))))))
        all_goals exact ⟨by rw [show lineF (w :: [x, y]) = none from by simp [lineF, hK, textF, hpx, hpy]]; exact ⟨_, _, _, _, _, _, rfl⟩, by exact Vc.xt⟩
    · cases hpy : plainW y
      · have hpa : [w, x].all plainW = true := by simp [hpw, hpx]
        rw [hpa] at cp2
        have hzy : 1 ≤ y.length := plain_pos hpy
        have hszy : (mkS y).size = y.length := rfl
        ((conv => whnf); repeat (any_goals (first | ((refine IdxA.strv hr rfl 0 _ rfl rfl ?_; intro _ _ _ _ _); (conv => whnf)) | ((refine IdxA.strv hr rfl 1 _ rfl rfl ?_; intro _ _ _ _ _); (conv => whnf)) | ((refine IdxA.strv hr rfl 2 _ rfl rfl ?_; intro _ _ _ _ _); (conv => whnf)) | ((refine IdxA.strv hr rfl 3 _ rfl rfl ?_; intro _ _ _ _ _); (conv => whnf)) | ((refine BndH.nat 2 rfl (by omega) ?_); (conv => whnf)) | ((refine BndH.nat 1 rfl (by omega) ?_); (conv => whnf)) | ((refine (cp _ (by exact Vc.xt)).mono ?_; rintro _ _ ⟨rfl, rfl⟩); (conv => whnf)) | ((refine (cp2 _ (by exact Vc.xt)).mono ?_; rintro _ _ ⟨rfl, rfl⟩); (conv => whnf)) | ((refine (rquoted_any _ _).mono ?_; rintro _ _ ⟨rfl, rfl⟩); (conv => whnf)) | ((refine PureH.build0 (lineC 0 [] [] [] 0 false) (by kernel_rfl) ?_); (conv => whnf)) | ((refine PureH.build3 #[.int .i64 6, .string (mkS x), .string (mkS []), .string ((mkS y).extract 1 (mkS y).size), .int .i64 0, .bool false] (by kernel_rfl) ?_); (conv => whnf)) | (refine Vc.stp ?_; intros; (conv => whnf)) | (refine Vc.spl ?_ ?_ <;> (intro _; (conv => whnf))))))
        all_goals exact ⟨by rw [show lineF (w :: [x, y]) = some ⟨6, x, [], y.tail, 0, false⟩ from by simp [lineF, hK, textF, hpx, hpy]]; show Value.tuple #[.agg #[.int .i64 6, .string (mkS x), .string (mkS []), .string ((mkS y).extract 1 (mkS y).size), .int .i64 0, .bool false], .bool true] = _; rw [mkS_drop, List.drop_one]; rfl, by exact Vc.xt⟩
      · have hpa : [w, x].all plainW = true := by simp [hpw, hpx]
        rw [hpa] at cp2
        ((conv => whnf); repeat (any_goals (first | ((refine IdxA.strv hr rfl 0 _ rfl rfl ?_; intro _ _ _ _ _); (conv => whnf)) | ((refine IdxA.strv hr rfl 1 _ rfl rfl ?_; intro _ _ _ _ _); (conv => whnf)) | ((refine IdxA.strv hr rfl 2 _ rfl rfl ?_; intro _ _ _ _ _); (conv => whnf)) | ((refine IdxA.strv hr rfl 3 _ rfl rfl ?_; intro _ _ _ _ _); (conv => whnf)) | ((refine BndH.nat 2 rfl (by omega) ?_); (conv => whnf)) | ((refine BndH.nat 1 rfl (by omega) ?_); (conv => whnf)) | ((refine (cp _ (by exact Vc.xt)).mono ?_; rintro _ _ ⟨rfl, rfl⟩); (conv => whnf)) | ((refine (cp2 _ (by exact Vc.xt)).mono ?_; rintro _ _ ⟨rfl, rfl⟩); (conv => whnf)) | ((refine (rquoted_any _ _).mono ?_; rintro _ _ ⟨rfl, rfl⟩); (conv => whnf)) | ((refine PureH.build0 (lineC 0 [] [] [] 0 false) (by kernel_rfl) ?_); (conv => whnf)) | ((refine PureH.build3 #[.int .i64 6, .string (mkS x), .string (mkS []), .string ((mkS y).extract 1 (mkS y).size), .int .i64 0, .bool false] (by kernel_rfl) ?_); (conv => whnf)) | (refine Vc.stp ?_; intros; (conv => whnf)) | (refine Vc.spl ?_ ?_ <;> (intro _; (conv => whnf))))))
        all_goals exact ⟨by rw [show lineF (w :: [x, y]) = none from by simp [lineF, hK, textF, hpx, hpy]]; exact ⟨_, _, _, _, _, _, rfl⟩, by exact Vc.xt⟩
  | x :: y :: z :: t, hr, hc, hm, hwl =>
    have hlen : (w :: (x :: y :: z :: t : List Bs)).length = t.length + 3 + 1 := by simp
    simp only [List.length_cons, List.length_nil] at hc hm
    have hlx : x.length ≤ 1000000000 := hwl x (by simp)
    have hly : y.length ≤ 1000000000 := hwl y (by simp)
    have hlz : z.length ≤ 1000000000 := hwl z (by simp)
    ((conv => whnf); repeat (any_goals (first | ((refine IdxA.strv hr rfl 0 _ rfl rfl ?_; intro _ _ _ _ _); (conv => whnf)) | ((refine IdxA.strv hr rfl 1 _ rfl rfl ?_; intro _ _ _ _ _); (conv => whnf)) | ((refine IdxA.strv hr rfl 2 _ rfl rfl ?_; intro _ _ _ _ _); (conv => whnf)) | ((refine IdxA.strv hr rfl 3 _ rfl rfl ?_; intro _ _ _ _ _); (conv => whnf)) | ((refine BndH.nat 2 rfl (by omega) ?_); (conv => whnf)) | ((refine BndH.nat 1 rfl (by omega) ?_); (conv => whnf)) | ((refine (cp _ (by exact Vc.xt)).mono ?_; rintro _ _ ⟨rfl, rfl⟩); (conv => whnf)) | ((refine (cp2 _ (by exact Vc.xt)).mono ?_; rintro _ _ ⟨rfl, rfl⟩); (conv => whnf)) | ((refine (rquoted_any _ _).mono ?_; rintro _ _ ⟨rfl, rfl⟩); (conv => whnf)) | ((refine PureH.build0 (lineC 0 [] [] [] 0 false) (by kernel_rfl) ?_); (conv => whnf)) | (refine Vc.stp ?_; intros; (conv => whnf)) | (refine Vc.spl ?_ ?_ <;> (intro _; (conv => whnf))))))
    all_goals exact ⟨by rw [show lineF (w :: (x :: y :: z :: t)) = none from by simp [lineF, hK, textF]]; exact ⟨_, _, _, _, _, _, rfl⟩, by exact Vc.xt⟩
set_option maxHeartbeats 4000000 in
theorem rline_7 (w : Bs) (ws : List Bs) (a : Option Addr) (cap : Nat) (H : Heap) (hr : Row H a (strs (w :: ws))) (hc : (w :: ws).length ≤ cap) (hm : (w :: ws).length ≤ 1000000000) (hwl : ∀ x ∈ w :: ws, x.length ≤ 1000000000) (hK : kindF w = 7) : CallH Tryz.prog 59 [.slice a (w :: ws).length cap] H fun v H' => readR v (lineF (w :: ws)) ∧ Ext H H' := by
  refine Vc.CallH.body Tryz.func59 Tryz.call59 rfl (by decide +kernel) rfl ?_
  have hw : w = kws.getD 7 [] := kind_eq hK (by decide)
  have e0 : ((mkS w).toList == (⟨#[99, 111, 112, 121]⟩ : ByteArray).toList) = false := kw_f hK 0 (by decide) (by decide)
  have e1 : ((mkS w).toList == (⟨#[119, 114, 105, 116, 101]⟩ : ByteArray).toList) = false := kw_f hK 1 (by decide) (by decide)
  have e2 : ((mkS w).toList == (⟨#[97, 112, 112, 101, 110, 100]⟩ : ByteArray).toList) = false := kw_f hK 2 (by decide) (by decide)
  have e3 : ((mkS w).toList == (⟨#[109, 107, 100, 105, 114]⟩ : ByteArray).toList) = false := kw_f hK 3 (by decide) (by decide)
  have e4 : ((mkS w).toList == (⟨#[114, 101, 109, 111, 118, 101]⟩ : ByteArray).toList) = false := kw_f hK 4 (by decide) (by decide)
  have e5 : ((mkS w).toList == (⟨#[114, 101, 110, 97, 109, 101]⟩ : ByteArray).toList) = false := kw_f hK 5 (by decide) (by decide)
  have e6 : ((mkS w).toList == (⟨#[115, 101, 116]⟩ : ByteArray).toList) = false := kw_f hK 6 (by decide) (by decide)
  have e7 : ((mkS w).toList == (⟨#[105, 102]⟩ : ByteArray).toList) = true := kw_t hK 7 (by decide) rfl
  have e8 : ((mkS w).toList == (⟨#[114, 101, 112, 101, 97, 116]⟩ : ByteArray).toList) = false := kw_f hK 8 (by decide) (by decide)
  have e9 : ((mkS w).toList == (⟨#[101, 108, 115, 101]⟩ : ByteArray).toList) = false := kw_f hK 9 (by decide) (by decide)
  have e10 : ((mkS w).toList == (⟨#[101, 110, 100]⟩ : ByteArray).toList) = false := kw_f hK 10 (by decide) (by decide)
  have e11 : ((mkS w).toList == (⟨#[102, 97, 105, 108]⟩ : ByteArray).toList) = false := kw_f hK 11 (by decide) (by decide)
  have hpw : plainW w = true := by rw [hw]; rfl
  match ws, hr, hc, hm, hwl with
  | [], hr, hc, hm, hwl =>
    have hlen : (w :: ([] : List Bs)).length = 0 + 1 := by simp
    simp only [List.length_cons, List.length_nil] at hc hm
    ((conv => whnf); repeat (any_goals (first | ((refine IdxA.strv hr rfl 0 _ rfl rfl ?_; intro _ _ _ _ _); (conv => whnf)) | ((refine IdxA.strv hr rfl 1 _ rfl rfl ?_; intro _ _ _ _ _); (conv => whnf)) | ((refine IdxA.strv hr rfl 2 _ rfl rfl ?_; intro _ _ _ _ _); (conv => whnf)) | ((refine IdxA.strv hr rfl 3 _ rfl rfl ?_; intro _ _ _ _ _); (conv => whnf)) | ((refine BndH.nat 2 rfl (by omega) ?_); (conv => whnf)) | ((refine BndH.nat 1 rfl (by omega) ?_); (conv => whnf)) | ((refine (cp _ (by exact Vc.xt)).mono ?_; rintro _ _ ⟨rfl, rfl⟩); (conv => whnf)) | ((refine (cp2 _ (by exact Vc.xt)).mono ?_; rintro _ _ ⟨rfl, rfl⟩); (conv => whnf)) | ((refine (rquoted_any _ _).mono ?_; rintro _ _ ⟨rfl, rfl⟩); (conv => whnf)) | ((refine PureH.build0 (lineC 0 [] [] [] 0 false) (by kernel_rfl) ?_); (conv => whnf)) | (refine Vc.stp ?_; intros; (conv => whnf)) | (refine Vc.spl ?_ ?_ <;> (intro _; (conv => whnf))))))
    all_goals exact ⟨by rw [show lineF (w :: []) = none from by simp [lineF, hK, askedF]]; exact ⟨_, _, _, _, _, _, rfl⟩, by exact Vc.xt⟩
  | [x], hr, hc, hm, hwl =>
    have hlen : (w :: ([x] : List Bs)).length = 1 + 1 := by simp
    simp only [List.length_cons, List.length_nil] at hc hm
    have hlx : x.length ≤ 1000000000 := hwl x (by simp)
    ((conv => whnf); repeat (any_goals (first | ((refine IdxA.strv hr rfl 0 _ rfl rfl ?_; intro _ _ _ _ _); (conv => whnf)) | ((refine IdxA.strv hr rfl 1 _ rfl rfl ?_; intro _ _ _ _ _); (conv => whnf)) | ((refine IdxA.strv hr rfl 2 _ rfl rfl ?_; intro _ _ _ _ _); (conv => whnf)) | ((refine IdxA.strv hr rfl 3 _ rfl rfl ?_; intro _ _ _ _ _); (conv => whnf)) | ((refine BndH.nat 2 rfl (by omega) ?_); (conv => whnf)) | ((refine BndH.nat 1 rfl (by omega) ?_); (conv => whnf)) | ((refine (cp _ (by exact Vc.xt)).mono ?_; rintro _ _ ⟨rfl, rfl⟩); (conv => whnf)) | ((refine (cp2 _ (by exact Vc.xt)).mono ?_; rintro _ _ ⟨rfl, rfl⟩); (conv => whnf)) | ((refine (rquoted_any _ _).mono ?_; rintro _ _ ⟨rfl, rfl⟩); (conv => whnf)) | ((refine PureH.build0 (lineC 0 [] [] [] 0 false) (by kernel_rfl) ?_); (conv => whnf)) | (refine Vc.stp ?_; intros; (conv => whnf)) | (refine Vc.spl ?_ ?_ <;> (intro _; (conv => whnf))))))
    all_goals exact ⟨by rw [show lineF (w :: [x]) = none from by simp [lineF, hK, askedF]]; exact ⟨_, _, _, _, _, _, rfl⟩, by exact Vc.xt⟩
  | [x, y], hr, hc, hm, hwl =>
    have hlen : (w :: ([x, y] : List Bs)).length = 2 + 1 := by simp
    simp only [List.length_cons, List.length_nil] at hc hm
    have hlx : x.length ≤ 1000000000 := hwl x (by simp)
    have hly : y.length ≤ 1000000000 := hwl y (by simp)
    have cp := fun H2 (k : Ext H H2) => rplain_any (w :: [x, y]) a _ cap H2 (hr.ext k) rfl hm
    by_cases hx : x = wExists
    · have ex : ((mkS x).toList == (⟨#[101, 120, 105, 115, 116, 115]⟩ : ByteArray).toList) = true := by show ((mkS x).toList == (mkS wExists).toList) = true; rw [str_mk]; exact decide_eq_true hx
      have hpx : plainW x = true := by rw [hx]; rfl
      cases hpy : plainW y
      · have hpa : (w :: [x, y]).all plainW = false := by simp [hpw, hpx, hpy]
        rw [hpa] at cp
        ((conv => whnf); repeat (any_goals (first | ((refine IdxA.strv hr rfl 0 _ rfl rfl ?_; intro _ _ _ _ _); (conv => whnf)) | ((refine IdxA.strv hr rfl 1 _ rfl rfl ?_; intro _ _ _ _ _); (conv => whnf)) | ((refine IdxA.strv hr rfl 2 _ rfl rfl ?_; intro _ _ _ _ _); (conv => whnf)) | ((refine IdxA.strv hr rfl 3 _ rfl rfl ?_; intro _ _ _ _ _); (conv => whnf)) | ((refine BndH.nat 2 rfl (by omega) ?_); (conv => whnf)) | ((refine BndH.nat 1 rfl (by omega) ?_); (conv => whnf)) | ((refine (cp _ (by exact Vc.xt)).mono ?_; rintro _ _ ⟨rfl, rfl⟩); (conv => whnf)) | ((refine (cp2 _ (by exact Vc.xt)).mono ?_; rintro _ _ ⟨rfl, rfl⟩); (conv => whnf)) | ((refine (rquoted_any _ _).mono ?_; rintro _ _ ⟨rfl, rfl⟩); (conv => whnf)) | ((refine PureH.build0 (lineC 0 [] [] [] 0 false) (by kernel_rfl) ?_); (conv => whnf)) | ((refine PureH.build2 (lineC 7 y [] [] 0 false) (by kernel_rfl) ?_); (conv => whnf)) | (refine Vc.stp ?_; intros; (conv => whnf)) | (refine Vc.spl ?_ ?_ <;> (intro _; (conv => whnf))))))
        all_goals exact ⟨by rw [show lineF (w :: [x, y]) = none from by simp [lineF, hK, askedF, hx, hpy]]; exact ⟨_, _, _, _, _, _, rfl⟩, by exact Vc.xt⟩
      · have hpa : (w :: [x, y]).all plainW = true := by simp [hpw, hpx, hpy]
        rw [hpa] at cp
        ((conv => whnf); repeat (any_goals (first | ((refine IdxA.strv hr rfl 0 _ rfl rfl ?_; intro _ _ _ _ _); (conv => whnf)) | ((refine IdxA.strv hr rfl 1 _ rfl rfl ?_; intro _ _ _ _ _); (conv => whnf)) | ((refine IdxA.strv hr rfl 2 _ rfl rfl ?_; intro _ _ _ _ _); (conv => whnf)) | ((refine IdxA.strv hr rfl 3 _ rfl rfl ?_; intro _ _ _ _ _); (conv => whnf)) | ((refine BndH.nat 2 rfl (by omega) ?_); (conv => whnf)) | ((refine BndH.nat 1 rfl (by omega) ?_); (conv => whnf)) | ((refine (cp _ (by exact Vc.xt)).mono ?_; rintro _ _ ⟨rfl, rfl⟩); (conv => whnf)) | ((refine (cp2 _ (by exact Vc.xt)).mono ?_; rintro _ _ ⟨rfl, rfl⟩); (conv => whnf)) | ((refine (rquoted_any _ _).mono ?_; rintro _ _ ⟨rfl, rfl⟩); (conv => whnf)) | ((refine PureH.build0 (lineC 0 [] [] [] 0 false) (by kernel_rfl) ?_); (conv => whnf)) | ((refine PureH.build2 (lineC 7 y [] [] 0 false) (by kernel_rfl) ?_); (conv => whnf)) | (refine Vc.stp ?_; intros; (conv => whnf)) | (refine Vc.spl ?_ ?_ <;> (intro _; (conv => whnf))))))
        all_goals exact ⟨by rw [show lineF (w :: [x, y]) = some ⟨7, y, [], [], 0, false⟩ from by simp [lineF, hK, askedF, hx, hpy]]; rfl, by exact Vc.xt⟩
    · have ex : ((mkS x).toList == (⟨#[101, 120, 105, 115, 116, 115]⟩ : ByteArray).toList) = false := by show ((mkS x).toList == (mkS wExists).toList) = false; rw [str_mk]; exact decide_eq_false hx
      ((conv => whnf); repeat (any_goals (first | ((refine IdxA.strv hr rfl 0 _ rfl rfl ?_; intro _ _ _ _ _); (conv => whnf)) | ((refine IdxA.strv hr rfl 1 _ rfl rfl ?_; intro _ _ _ _ _); (conv => whnf)) | ((refine IdxA.strv hr rfl 2 _ rfl rfl ?_; intro _ _ _ _ _); (conv => whnf)) | ((refine IdxA.strv hr rfl 3 _ rfl rfl ?_; intro _ _ _ _ _); (conv => whnf)) | ((refine BndH.nat 2 rfl (by omega) ?_); (conv => whnf)) | ((refine BndH.nat 1 rfl (by omega) ?_); (conv => whnf)) | ((refine (cp _ (by exact Vc.xt)).mono ?_; rintro _ _ ⟨rfl, rfl⟩); (conv => whnf)) | ((refine (cp2 _ (by exact Vc.xt)).mono ?_; rintro _ _ ⟨rfl, rfl⟩); (conv => whnf)) | ((refine (rquoted_any _ _).mono ?_; rintro _ _ ⟨rfl, rfl⟩); (conv => whnf)) | ((refine PureH.build0 (lineC 0 [] [] [] 0 false) (by kernel_rfl) ?_); (conv => whnf)) | (refine Vc.stp ?_; intros; (conv => whnf)) | (refine Vc.spl ?_ ?_ <;> (intro _; (conv => whnf))))))
      all_goals exact ⟨by rw [show lineF (w :: [x, y]) = none from by simp [lineF, hK, askedF, hx]]; exact ⟨_, _, _, _, _, _, rfl⟩, by exact Vc.xt⟩
  | [x, y, z], hr, hc, hm, hwl =>
    have hlen : (w :: ([x, y, z] : List Bs)).length = 3 + 1 := by simp
    simp only [List.length_cons, List.length_nil] at hc hm
    have hlx : x.length ≤ 1000000000 := hwl x (by simp)
    have hly : y.length ≤ 1000000000 := hwl y (by simp)
    have hlz : z.length ≤ 1000000000 := hwl z (by simp)
    have cp := fun H2 (k : Ext H H2) => rplain_any (w :: [x, y, z]) a _ cap H2 (hr.ext k) rfl hm
    by_cases hx : x = wNot
    · have ex : ((mkS x).toList == (⟨#[110, 111, 116]⟩ : ByteArray).toList) = true := by show ((mkS x).toList == (mkS wNot).toList) = true; rw [str_mk]; exact decide_eq_true hx
      have hpx : plainW x = true := by rw [hx]; rfl
      by_cases hy : y = wExists
      · have ey : ((mkS y).toList == (⟨#[101, 120, 105, 115, 116, 115]⟩ : ByteArray).toList) = true := by show ((mkS y).toList == (mkS wExists).toList) = true; rw [str_mk]; exact decide_eq_true hy
        have hpy : plainW y = true := by rw [hy]; rfl
        cases hpz : plainW z
        · have hpa : (w :: [x, y, z]).all plainW = false := by simp [hpw, hpx, hpy, hpz]
          rw [hpa] at cp
          ((conv => whnf); repeat (any_goals (first | ((refine IdxA.strv hr rfl 0 _ rfl rfl ?_; intro _ _ _ _ _); (conv => whnf)) | ((refine IdxA.strv hr rfl 1 _ rfl rfl ?_; intro _ _ _ _ _); (conv => whnf)) | ((refine IdxA.strv hr rfl 2 _ rfl rfl ?_; intro _ _ _ _ _); (conv => whnf)) | ((refine IdxA.strv hr rfl 3 _ rfl rfl ?_; intro _ _ _ _ _); (conv => whnf)) | ((refine BndH.nat 2 rfl (by omega) ?_); (conv => whnf)) | ((refine BndH.nat 1 rfl (by omega) ?_); (conv => whnf)) | ((refine (cp _ (by exact Vc.xt)).mono ?_; rintro _ _ ⟨rfl, rfl⟩); (conv => whnf)) | ((refine (cp2 _ (by exact Vc.xt)).mono ?_; rintro _ _ ⟨rfl, rfl⟩); (conv => whnf)) | ((refine (rquoted_any _ _).mono ?_; rintro _ _ ⟨rfl, rfl⟩); (conv => whnf)) | ((refine PureH.build0 (lineC 0 [] [] [] 0 false) (by kernel_rfl) ?_); (conv => whnf)) | ((refine PureH.build3 (lineC 7 z [] [] 0 true) (by kernel_rfl) ?_); (conv => whnf)) | (refine Vc.stp ?_; intros; (conv => whnf)) | (refine Vc.spl ?_ ?_ <;> (intro _; (conv => whnf))))))
          all_goals exact ⟨by rw [show lineF (w :: [x, y, z]) = none from by simp [lineF, hK, askedF, hx, hy, hpz]]; exact ⟨_, _, _, _, _, _, rfl⟩, by exact Vc.xt⟩
        · have hpa : (w :: [x, y, z]).all plainW = true := by simp [hpw, hpx, hpy, hpz]
          rw [hpa] at cp
          ((conv => whnf); repeat (any_goals (first | ((refine IdxA.strv hr rfl 0 _ rfl rfl ?_; intro _ _ _ _ _); (conv => whnf)) | ((refine IdxA.strv hr rfl 1 _ rfl rfl ?_; intro _ _ _ _ _); (conv => whnf)) | ((refine IdxA.strv hr rfl 2 _ rfl rfl ?_; intro _ _ _ _ _); (conv => whnf)) | ((refine IdxA.strv hr rfl 3 _ rfl rfl ?_; intro _ _ _ _ _); (conv => whnf)) | ((refine BndH.nat 2 rfl (by omega) ?_); (conv => whnf)) | ((refine BndH.nat 1 rfl (by omega) ?_); (conv => whnf)) | ((refine (cp _ (by exact Vc.xt)).mono ?_; rintro _ _ ⟨rfl, rfl⟩); (conv => whnf)) | ((refine (cp2 _ (by exact Vc.xt)).mono ?_; rintro _ _ ⟨rfl, rfl⟩); (conv => whnf)) | ((refine (rquoted_any _ _).mono ?_; rintro _ _ ⟨rfl, rfl⟩); (conv => whnf)) | ((refine PureH.build0 (lineC 0 [] [] [] 0 false) (by kernel_rfl) ?_); (conv => whnf)) | ((refine PureH.build3 (lineC 7 z [] [] 0 true) (by kernel_rfl) ?_); (conv => whnf)) | (refine Vc.stp ?_; intros; (conv => whnf)) | (refine Vc.spl ?_ ?_ <;> (intro _; (conv => whnf))))))
          all_goals exact ⟨by rw [show lineF (w :: [x, y, z]) = some ⟨7, z, [], [], 0, true⟩ from by simp [lineF, hK, askedF, hx, hy, hpz]]; rfl, by exact Vc.xt⟩
      · have ey : ((mkS y).toList == (⟨#[101, 120, 105, 115, 116, 115]⟩ : ByteArray).toList) = false := by show ((mkS y).toList == (mkS wExists).toList) = false; rw [str_mk]; exact decide_eq_false hy
        ((conv => whnf); repeat (any_goals (first | ((refine IdxA.strv hr rfl 0 _ rfl rfl ?_; intro _ _ _ _ _); (conv => whnf)) | ((refine IdxA.strv hr rfl 1 _ rfl rfl ?_; intro _ _ _ _ _); (conv => whnf)) | ((refine IdxA.strv hr rfl 2 _ rfl rfl ?_; intro _ _ _ _ _); (conv => whnf)) | ((refine IdxA.strv hr rfl 3 _ rfl rfl ?_; intro _ _ _ _ _); (conv => whnf)) | ((refine BndH.nat 2 rfl (by omega) ?_); (conv => whnf)) | ((refine BndH.nat 1 rfl (by omega) ?_); (conv => whnf)) | ((refine (cp _ (by exact Vc.xt)).mono ?_; rintro _ _ ⟨rfl, rfl⟩); (conv => whnf)) | ((refine (cp2 _ (by exact Vc.xt)).mono ?_; rintro _ _ ⟨rfl, rfl⟩); (conv => whnf)) | ((refine (rquoted_any _ _).mono ?_; rintro _ _ ⟨rfl, rfl⟩); (conv => whnf)) | ((refine PureH.build0 (lineC 0 [] [] [] 0 false) (by kernel_rfl) ?_); (conv => whnf)) | (refine Vc.stp ?_; intros; (conv => whnf)) | (refine Vc.spl ?_ ?_ <;> (intro _; (conv => whnf))))))
        all_goals exact ⟨by rw [show lineF (w :: [x, y, z]) = none from by simp [lineF, hK, askedF, hx, hy]]; exact ⟨_, _, _, _, _, _, rfl⟩, by exact Vc.xt⟩
    · have ex : ((mkS x).toList == (⟨#[110, 111, 116]⟩ : ByteArray).toList) = false := by show ((mkS x).toList == (mkS wNot).toList) = false; rw [str_mk]; exact decide_eq_false hx
      ((conv => whnf); repeat (any_goals (first | ((refine IdxA.strv hr rfl 0 _ rfl rfl ?_; intro _ _ _ _ _); (conv => whnf)) | ((refine IdxA.strv hr rfl 1 _ rfl rfl ?_; intro _ _ _ _ _); (conv => whnf)) | ((refine IdxA.strv hr rfl 2 _ rfl rfl ?_; intro _ _ _ _ _); (conv => whnf)) | ((refine IdxA.strv hr rfl 3 _ rfl rfl ?_; intro _ _ _ _ _); (conv => whnf)) | ((refine BndH.nat 2 rfl (by omega) ?_); (conv => whnf)) | ((refine BndH.nat 1 rfl (by omega) ?_); (conv => whnf)) | ((refine (cp _ (by exact Vc.xt)).mono ?_; rintro _ _ ⟨rfl, rfl⟩); (conv => whnf)) | ((refine (cp2 _ (by exact Vc.xt)).mono ?_; rintro _ _ ⟨rfl, rfl⟩); (conv => whnf)) | ((refine (rquoted_any _ _).mono ?_; rintro _ _ ⟨rfl, rfl⟩); (conv => whnf)) | ((refine PureH.build0 (lineC 0 [] [] [] 0 false) (by kernel_rfl) ?_); (conv => whnf)) | (refine Vc.stp ?_; intros; (conv => whnf)) | (refine Vc.spl ?_ ?_ <;> (intro _; (conv => whnf))))))
      all_goals exact ⟨by rw [show lineF (w :: [x, y, z]) = none from by simp [lineF, hK, askedF, hx]]; exact ⟨_, _, _, _, _, _, rfl⟩, by exact Vc.xt⟩
  | x :: y :: z :: u :: t, hr, hc, hm, hwl =>
    have hlen : (w :: (x :: y :: z :: u :: t : List Bs)).length = t.length + 4 + 1 := by simp
    simp only [List.length_cons, List.length_nil] at hc hm
    have hlx : x.length ≤ 1000000000 := hwl x (by simp)
    have hly : y.length ≤ 1000000000 := hwl y (by simp)
    have hlz : z.length ≤ 1000000000 := hwl z (by simp)
    have hlu : u.length ≤ 1000000000 := hwl u (by simp)
    ((conv => whnf); repeat (any_goals (first | ((refine IdxA.strv hr rfl 0 _ rfl rfl ?_; intro _ _ _ _ _); (conv => whnf)) | ((refine IdxA.strv hr rfl 1 _ rfl rfl ?_; intro _ _ _ _ _); (conv => whnf)) | ((refine IdxA.strv hr rfl 2 _ rfl rfl ?_; intro _ _ _ _ _); (conv => whnf)) | ((refine IdxA.strv hr rfl 3 _ rfl rfl ?_; intro _ _ _ _ _); (conv => whnf)) | ((refine BndH.nat 2 rfl (by omega) ?_); (conv => whnf)) | ((refine BndH.nat 1 rfl (by omega) ?_); (conv => whnf)) | ((refine (cp _ (by exact Vc.xt)).mono ?_; rintro _ _ ⟨rfl, rfl⟩); (conv => whnf)) | ((refine (cp2 _ (by exact Vc.xt)).mono ?_; rintro _ _ ⟨rfl, rfl⟩); (conv => whnf)) | ((refine (rquoted_any _ _).mono ?_; rintro _ _ ⟨rfl, rfl⟩); (conv => whnf)) | ((refine PureH.build0 (lineC 0 [] [] [] 0 false) (by kernel_rfl) ?_); (conv => whnf)) | (refine Vc.stp ?_; intros; (conv => whnf)) | (refine Vc.spl ?_ ?_ <;> (intro _; (conv => whnf))))))
    all_goals exact ⟨by rw [show lineF (w :: (x :: y :: z :: u :: t)) = none from by simp [lineF, hK, askedF]]; exact ⟨_, _, _, _, _, _, rfl⟩, by exact Vc.xt⟩
set_option maxHeartbeats 4000000 in
theorem rline_8 (w : Bs) (ws : List Bs) (a : Option Addr) (cap : Nat) (H : Heap) (hr : Row H a (strs (w :: ws))) (hc : (w :: ws).length ≤ cap) (hm : (w :: ws).length ≤ 1000000000) (hwl : ∀ x ∈ w :: ws, x.length ≤ 1000000000) (hK : kindF w = 8) : CallH Tryz.prog 59 [.slice a (w :: ws).length cap] H fun v H' => readR v (lineF (w :: ws)) ∧ Ext H H' := by
  refine Vc.CallH.body Tryz.func59 Tryz.call59 rfl (by decide +kernel) rfl ?_
  have hw : w = kws.getD 8 [] := kind_eq hK (by decide)
  have e0 : ((mkS w).toList == (⟨#[99, 111, 112, 121]⟩ : ByteArray).toList) = false := kw_f hK 0 (by decide) (by decide)
  have e1 : ((mkS w).toList == (⟨#[119, 114, 105, 116, 101]⟩ : ByteArray).toList) = false := kw_f hK 1 (by decide) (by decide)
  have e2 : ((mkS w).toList == (⟨#[97, 112, 112, 101, 110, 100]⟩ : ByteArray).toList) = false := kw_f hK 2 (by decide) (by decide)
  have e3 : ((mkS w).toList == (⟨#[109, 107, 100, 105, 114]⟩ : ByteArray).toList) = false := kw_f hK 3 (by decide) (by decide)
  have e4 : ((mkS w).toList == (⟨#[114, 101, 109, 111, 118, 101]⟩ : ByteArray).toList) = false := kw_f hK 4 (by decide) (by decide)
  have e5 : ((mkS w).toList == (⟨#[114, 101, 110, 97, 109, 101]⟩ : ByteArray).toList) = false := kw_f hK 5 (by decide) (by decide)
  have e6 : ((mkS w).toList == (⟨#[115, 101, 116]⟩ : ByteArray).toList) = false := kw_f hK 6 (by decide) (by decide)
  have e7 : ((mkS w).toList == (⟨#[105, 102]⟩ : ByteArray).toList) = false := kw_f hK 7 (by decide) (by decide)
  have e8 : ((mkS w).toList == (⟨#[114, 101, 112, 101, 97, 116]⟩ : ByteArray).toList) = true := kw_t hK 8 (by decide) rfl
  have e9 : ((mkS w).toList == (⟨#[101, 108, 115, 101]⟩ : ByteArray).toList) = false := kw_f hK 9 (by decide) (by decide)
  have e10 : ((mkS w).toList == (⟨#[101, 110, 100]⟩ : ByteArray).toList) = false := kw_f hK 10 (by decide) (by decide)
  have e11 : ((mkS w).toList == (⟨#[102, 97, 105, 108]⟩ : ByteArray).toList) = false := kw_f hK 11 (by decide) (by decide)
  have hpw : plainW w = true := by rw [hw]; rfl
  match ws, hr, hc, hm, hwl with
  | [], hr, hc, hm, hwl =>
    have hlen : (w :: ([] : List Bs)).length = 0 + 1 := by simp
    simp only [List.length_cons, List.length_nil] at hc hm
    ((conv => whnf); repeat (any_goals (first | ((refine IdxA.strv hr rfl 0 _ rfl rfl ?_; intro _ _ _ _ _); (conv => whnf)) | ((refine IdxA.strv hr rfl 1 _ rfl rfl ?_; intro _ _ _ _ _); (conv => whnf)) | ((refine IdxA.strv hr rfl 2 _ rfl rfl ?_; intro _ _ _ _ _); (conv => whnf)) | ((refine IdxA.strv hr rfl 3 _ rfl rfl ?_; intro _ _ _ _ _); (conv => whnf)) | ((refine BndH.nat 2 rfl (by omega) ?_); (conv => whnf)) | ((refine BndH.nat 1 rfl (by omega) ?_); (conv => whnf)) | ((refine (cp _ (by exact Vc.xt)).mono ?_; rintro _ _ ⟨rfl, rfl⟩); (conv => whnf)) | ((refine (cp2 _ (by exact Vc.xt)).mono ?_; rintro _ _ ⟨rfl, rfl⟩); (conv => whnf)) | ((refine (rquoted_any _ _).mono ?_; rintro _ _ ⟨rfl, rfl⟩); (conv => whnf)) | ((refine PureH.build0 (lineC 0 [] [] [] 0 false) (by kernel_rfl) ?_); (conv => whnf)) | (refine Vc.stp ?_; intros; (conv => whnf)) | (refine Vc.spl ?_ ?_ <;> (intro _; (conv => whnf))))))
    all_goals exact ⟨by rw [show lineF (w :: []) = none from by simp [lineF, hK, repeatF]]; exact ⟨_, _, _, _, _, _, rfl⟩, by exact Vc.xt⟩
  | [x], hr, hc, hm, hwl =>
    have hlen : (w :: ([x] : List Bs)).length = 1 + 1 := by simp
    simp only [List.length_cons, List.length_nil] at hc hm
    have hlx : x.length ≤ 1000000000 := hwl x (by simp)
    have hln : lineF (w :: [x]) = (numberF x).map fun n => ⟨8, [], [], [], n, false⟩ := by show (match kindF w with | 0 => _ | 1 => _ | 2 => _ | 3 => _ | 4 => _ | 5 => _ | 6 => _ | 7 => _ | 8 => _ | 9 => _ | 10 => _ | 11 => _ | _ => _) = _; rw [hK]; rfl
    rw [hln]
    by_cases h9 : 9 < x.length
    · have hn : numberF x = none := by unfold numberF; rw [if_pos h9]
      have hszx : (mkS x).size = x.length := rfl
      rw [hn]
      ((conv => whnf); repeat (any_goals (first | ((refine IdxA.strv hr rfl 0 _ rfl rfl ?_; intro _ _ _ _ _); (conv => whnf)) | ((refine IdxA.strv hr rfl 1 _ rfl rfl ?_; intro _ _ _ _ _); (conv => whnf)) | ((refine IdxA.strv hr rfl 2 _ rfl rfl ?_; intro _ _ _ _ _); (conv => whnf)) | ((refine IdxA.strv hr rfl 3 _ rfl rfl ?_; intro _ _ _ _ _); (conv => whnf)) | ((refine BndH.nat 2 rfl (by omega) ?_); (conv => whnf)) | ((refine BndH.nat 1 rfl (by omega) ?_); (conv => whnf)) | ((refine (cp _ (by exact Vc.xt)).mono ?_; rintro _ _ ⟨rfl, rfl⟩); (conv => whnf)) | ((refine (cp2 _ (by exact Vc.xt)).mono ?_; rintro _ _ ⟨rfl, rfl⟩); (conv => whnf)) | ((refine (rquoted_any _ _).mono ?_; rintro _ _ ⟨rfl, rfl⟩); (conv => whnf)) | ((refine PureH.build0 (lineC 0 [] [] [] 0 false) (by kernel_rfl) ?_); (conv => whnf)) | (refine Vc.stp ?_; intros; (conv => whnf)) | (refine Vc.spl ?_ ?_ <;> (intro _; (conv => whnf))))))
      all_goals exact ⟨⟨_, _, _, _, _, _, rfl⟩, by exact Vc.xt⟩
    · obtain ⟨R, hR⟩ : ∃ R, numL 0 x = R := ⟨_, rfl⟩
      have hnf : numberF x = capN R := by unfold numberF; rw [if_neg h9, hR]; cases R <;> rfl
      have hszx : (mkS x).size = x.length := rfl
      ((conv => whnf); repeat (any_goals (first | ((refine IdxA.strv hr rfl 0 _ rfl rfl ?_; intro _ _ _ _ _); (conv => whnf)) | ((refine IdxA.strv hr rfl 1 _ rfl rfl ?_; intro _ _ _ _ _); (conv => whnf)) | ((refine IdxA.strv hr rfl 2 _ rfl rfl ?_; intro _ _ _ _ _); (conv => whnf)) | ((refine IdxA.strv hr rfl 3 _ rfl rfl ?_; intro _ _ _ _ _); (conv => whnf)) | ((refine BndH.nat 2 rfl (by omega) ?_); (conv => whnf)) | ((refine BndH.nat 1 rfl (by omega) ?_); (conv => whnf)) | ((refine (cp _ (by exact Vc.xt)).mono ?_; rintro _ _ ⟨rfl, rfl⟩); (conv => whnf)) | ((refine (cp2 _ (by exact Vc.xt)).mono ?_; rintro _ _ ⟨rfl, rfl⟩); (conv => whnf)) | ((refine (rquoted_any _ _).mono ?_; rintro _ _ ⟨rfl, rfl⟩); (conv => whnf)) | ((refine PureH.build0 (lineC 0 [] [] [] 0 false) (by kernel_rfl) ?_); (conv => whnf)) | (refine Vc.stp ?_; intros; (conv => whnf)) | (refine Vc.spl ?_ ?_ <;> (intro _; (conv => whnf))))))
      rename_i H1 hs1 hb1 hx1 b1 o1 q1 q2 q3 b2 o2 q4 q5 q6
      refine LoopH.intro (fun (y : Nat × Nat) => [(9, .int .i64 y.1), (8, .int .i64 y.2)]) (fun y H' => H1 = H' ∧ y.1 ≤ x.length ∧ y.2 < 10 ^ y.1 ∧ R = numL y.2 (x.drop y.1)) (fun y => x.length - y.1) (0, 0) ⟨rfl, rfl, trivial⟩ ⟨rfl, Nat.zero_le _, by decide, hR.symm⟩ ?_
      rintro ⟨i, n⟩ _ ⟨rfl, hi, hn, hinv⟩
      dsimp only at hi hn hinv ⊢
      have hn9 : n < 1000000000 := Nat.lt_of_lt_of_le hn (Nat.le_trans (Nat.pow_le_pow_right (by decide) (show i ≤ 9 by omega)) (by decide))
      by_cases hlt : i < x.length
      · obtain ⟨c, hcc, hdr⟩ := drop_get hlt
        have hc8 := c.toNat_lt
        rw [hdr] at hinv
        unfold numL at hinv
        by_cases hdig : 48 ≤ c.toNat ∧ c.toNat ≤ 57
        · rw [if_pos hdig] at hinv
          ((conv => whnf); repeat (any_goals (first | ((refine IdxA.strv hr rfl 0 _ rfl rfl ?_; intro _ _ _ _ _); (conv => whnf)) | ((refine IdxA.strv hr rfl 1 _ rfl rfl ?_; intro _ _ _ _ _); (conv => whnf)) | ((refine IdxA.strv hr rfl 2 _ rfl rfl ?_; intro _ _ _ _ _); (conv => whnf)) | ((refine IdxA.strv hr rfl 3 _ rfl rfl ?_; intro _ _ _ _ _); (conv => whnf)) | ((refine BndH.nat 2 rfl (by omega) ?_); (conv => whnf)) | ((refine BndH.nat 1 rfl (by omega) ?_); (conv => whnf)) | ((refine (cp _ (by exact Vc.xt)).mono ?_; rintro _ _ ⟨rfl, rfl⟩); (conv => whnf)) | ((refine (cp2 _ (by exact Vc.xt)).mono ?_; rintro _ _ ⟨rfl, rfl⟩); (conv => whnf)) | ((refine (rquoted_any _ _).mono ?_; rintro _ _ ⟨rfl, rfl⟩); (conv => whnf)) | ((refine IdxH.nat i rfl (by omega) ?_; (conv => whnf); rw [hcc]); (conv => whnf)) | ((refine PureH.build0 (lineC 0 [] [] [] 0 false) (by kernel_rfl) ?_); (conv => whnf)) | ((refine PureH.build2 (lineC 8 [] [] [] (n : Int) false) (by kernel_rfl) ?_); (conv => whnf)) | (refine Vc.stp ?_; intros; (conv => whnf)) | (refine Vc.spl ?_ ?_ <;> (intro _; (conv => whnf))))))
          refine ⟨(i + 1, 10 * n + (c.toNat - 48)), ⟨rfl, by show Value.int .i64 _ = Value.int .i64 _; congr 1; omega, trivial⟩, ⟨rfl, by show i + 1 ≤ _; omega, ?_, hinv⟩, by show x.length - (i + 1) < x.length - i; omega⟩
          show 10 * n + (c.toNat - 48) < 10 ^ (i + 1)
          rw [Nat.pow_succ]; omega
        · rw [if_neg hdig] at hinv
          rw [hinv] at hnf
          rw [hnf]
          by_cases h48 : c.toNat < 48
          · ((conv => whnf); repeat (any_goals (first | ((refine IdxA.strv hr rfl 0 _ rfl rfl ?_; intro _ _ _ _ _); (conv => whnf)) | ((refine IdxA.strv hr rfl 1 _ rfl rfl ?_; intro _ _ _ _ _); (conv => whnf)) | ((refine IdxA.strv hr rfl 2 _ rfl rfl ?_; intro _ _ _ _ _); (conv => whnf)) | ((refine IdxA.strv hr rfl 3 _ rfl rfl ?_; intro _ _ _ _ _); (conv => whnf)) | ((refine BndH.nat 2 rfl (by omega) ?_); (conv => whnf)) | ((refine BndH.nat 1 rfl (by omega) ?_); (conv => whnf)) | ((refine (cp _ (by exact Vc.xt)).mono ?_; rintro _ _ ⟨rfl, rfl⟩); (conv => whnf)) | ((refine (cp2 _ (by exact Vc.xt)).mono ?_; rintro _ _ ⟨rfl, rfl⟩); (conv => whnf)) | ((refine (rquoted_any _ _).mono ?_; rintro _ _ ⟨rfl, rfl⟩); (conv => whnf)) | ((refine IdxH.nat i rfl (by omega) ?_; (conv => whnf); rw [hcc]); (conv => whnf)) | ((refine PureH.build0 (lineC 0 [] [] [] 0 false) (by kernel_rfl) ?_); (conv => whnf)) | ((refine PureH.build2 (lineC 8 [] [] [] (n : Int) false) (by kernel_rfl) ?_); (conv => whnf)) | (refine Vc.stp ?_; intros; (conv => whnf)) | (refine Vc.spl ?_ ?_ <;> (intro _; (conv => whnf))))))
            all_goals exact ⟨⟨_, _, _, _, _, _, rfl⟩, by exact Vc.xt⟩
          · ((conv => whnf); repeat (any_goals (first | ((refine IdxA.strv hr rfl 0 _ rfl rfl ?_; intro _ _ _ _ _); (conv => whnf)) | ((refine IdxA.strv hr rfl 1 _ rfl rfl ?_; intro _ _ _ _ _); (conv => whnf)) | ((refine IdxA.strv hr rfl 2 _ rfl rfl ?_; intro _ _ _ _ _); (conv => whnf)) | ((refine IdxA.strv hr rfl 3 _ rfl rfl ?_; intro _ _ _ _ _); (conv => whnf)) | ((refine BndH.nat 2 rfl (by omega) ?_); (conv => whnf)) | ((refine BndH.nat 1 rfl (by omega) ?_); (conv => whnf)) | ((refine (cp _ (by exact Vc.xt)).mono ?_; rintro _ _ ⟨rfl, rfl⟩); (conv => whnf)) | ((refine (cp2 _ (by exact Vc.xt)).mono ?_; rintro _ _ ⟨rfl, rfl⟩); (conv => whnf)) | ((refine (rquoted_any _ _).mono ?_; rintro _ _ ⟨rfl, rfl⟩); (conv => whnf)) | ((refine IdxH.nat i rfl (by omega) ?_; (conv => whnf); rw [hcc]); (conv => whnf)) | ((refine PureH.build0 (lineC 0 [] [] [] 0 false) (by kernel_rfl) ?_); (conv => whnf)) | ((refine PureH.build2 (lineC 8 [] [] [] (n : Int) false) (by kernel_rfl) ?_); (conv => whnf)) | (refine Vc.stp ?_; intros; (conv => whnf)) | (refine Vc.spl ?_ ?_ <;> (intro _; (conv => whnf))))))
            all_goals exact ⟨⟨_, _, _, _, _, _, rfl⟩, by exact Vc.xt⟩
      · rw [List.drop_of_length_le (by omega)] at hinv
        rw [hinv, show capN (numL n []) = if n ≤ 1000 then some n else none from rfl] at hnf
        rw [hnf]
        by_cases h1 : n ≤ 1000
        · rw [if_pos h1]
          ((conv => whnf); repeat (any_goals (first | ((refine IdxA.strv hr rfl 0 _ rfl rfl ?_; intro _ _ _ _ _); (conv => whnf)) | ((refine IdxA.strv hr rfl 1 _ rfl rfl ?_; intro _ _ _ _ _); (conv => whnf)) | ((refine IdxA.strv hr rfl 2 _ rfl rfl ?_; intro _ _ _ _ _); (conv => whnf)) | ((refine IdxA.strv hr rfl 3 _ rfl rfl ?_; intro _ _ _ _ _); (conv => whnf)) | ((refine BndH.nat 2 rfl (by omega) ?_); (conv => whnf)) | ((refine BndH.nat 1 rfl (by omega) ?_); (conv => whnf)) | ((refine (cp _ (by exact Vc.xt)).mono ?_; rintro _ _ ⟨rfl, rfl⟩); (conv => whnf)) | ((refine (cp2 _ (by exact Vc.xt)).mono ?_; rintro _ _ ⟨rfl, rfl⟩); (conv => whnf)) | ((refine (rquoted_any _ _).mono ?_; rintro _ _ ⟨rfl, rfl⟩); (conv => whnf)) | ((refine IdxH.nat i rfl (by omega) ?_; (conv => whnf); rw [hcc]); (conv => whnf)) | ((refine PureH.build0 (lineC 0 [] [] [] 0 false) (by kernel_rfl) ?_); (conv => whnf)) | ((refine PureH.build2 (lineC 8 [] [] [] (n : Int) false) (by kernel_rfl) ?_); (conv => whnf)) | (refine Vc.stp ?_; intros; (conv => whnf)) | (refine Vc.spl ?_ ?_ <;> (intro _; (conv => whnf))))))
          all_goals exact ⟨by show Value.tuple #[_, .bool (decide ((n : Int) ≤ 1000))] = _; rw [decide_eq_true (by omega)]; rfl, by exact Vc.xt⟩
        · rw [if_neg h1]
          ((conv => whnf); repeat (any_goals (first | ((refine IdxA.strv hr rfl 0 _ rfl rfl ?_; intro _ _ _ _ _); (conv => whnf)) | ((refine IdxA.strv hr rfl 1 _ rfl rfl ?_; intro _ _ _ _ _); (conv => whnf)) | ((refine IdxA.strv hr rfl 2 _ rfl rfl ?_; intro _ _ _ _ _); (conv => whnf)) | ((refine IdxA.strv hr rfl 3 _ rfl rfl ?_; intro _ _ _ _ _); (conv => whnf)) | ((refine BndH.nat 2 rfl (by omega) ?_); (conv => whnf)) | ((refine BndH.nat 1 rfl (by omega) ?_); (conv => whnf)) | ((refine (cp _ (by exact Vc.xt)).mono ?_; rintro _ _ ⟨rfl, rfl⟩); (conv => whnf)) | ((refine (cp2 _ (by exact Vc.xt)).mono ?_; rintro _ _ ⟨rfl, rfl⟩); (conv => whnf)) | ((refine (rquoted_any _ _).mono ?_; rintro _ _ ⟨rfl, rfl⟩); (conv => whnf)) | ((refine IdxH.nat i rfl (by omega) ?_; (conv => whnf); rw [hcc]); (conv => whnf)) | ((refine PureH.build0 (lineC 0 [] [] [] 0 false) (by kernel_rfl) ?_); (conv => whnf)) | ((refine PureH.build2 (lineC 8 [] [] [] (n : Int) false) (by kernel_rfl) ?_); (conv => whnf)) | (refine Vc.stp ?_; intros; (conv => whnf)) | (refine Vc.spl ?_ ?_ <;> (intro _; (conv => whnf))))))
          all_goals exact ⟨⟨8, [], [], [], n, false, by show Value.tuple #[_, .bool (decide ((n : Int) ≤ 1000))] = _; rw [decide_eq_false (by omega)]⟩, by exact Vc.xt⟩
  | x :: y :: t, hr, hc, hm, hwl =>
    have hlen : (w :: (x :: y :: t : List Bs)).length = t.length + 2 + 1 := by simp
    simp only [List.length_cons, List.length_nil] at hc hm
    have hlx : x.length ≤ 1000000000 := hwl x (by simp)
    have hly : y.length ≤ 1000000000 := hwl y (by simp)
    ((conv => whnf); repeat (any_goals (first | ((refine IdxA.strv hr rfl 0 _ rfl rfl ?_; intro _ _ _ _ _); (conv => whnf)) | ((refine IdxA.strv hr rfl 1 _ rfl rfl ?_; intro _ _ _ _ _); (conv => whnf)) | ((refine IdxA.strv hr rfl 2 _ rfl rfl ?_; intro _ _ _ _ _); (conv => whnf)) | ((refine IdxA.strv hr rfl 3 _ rfl rfl ?_; intro _ _ _ _ _); (conv => whnf)) | ((refine BndH.nat 2 rfl (by omega) ?_); (conv => whnf)) | ((refine BndH.nat 1 rfl (by omega) ?_); (conv => whnf)) | ((refine (cp _ (by exact Vc.xt)).mono ?_; rintro _ _ ⟨rfl, rfl⟩); (conv => whnf)) | ((refine (cp2 _ (by exact Vc.xt)).mono ?_; rintro _ _ ⟨rfl, rfl⟩); (conv => whnf)) | ((refine (rquoted_any _ _).mono ?_; rintro _ _ ⟨rfl, rfl⟩); (conv => whnf)) | ((refine PureH.build0 (lineC 0 [] [] [] 0 false) (by kernel_rfl) ?_); (conv => whnf)) | (refine Vc.stp ?_; intros; (conv => whnf)) | (refine Vc.spl ?_ ?_ <;> (intro _; (conv => whnf))))))
    all_goals exact ⟨by rw [show lineF (w :: (x :: y :: t)) = none from by simp [lineF, hK, repeatF]]; exact ⟨_, _, _, _, _, _, rfl⟩, by exact Vc.xt⟩
set_option maxHeartbeats 4000000 in
theorem rline_9 (w : Bs) (ws : List Bs) (a : Option Addr) (cap : Nat) (H : Heap) (hr : Row H a (strs (w :: ws))) (hc : (w :: ws).length ≤ cap) (hm : (w :: ws).length ≤ 1000000000) (hwl : ∀ x ∈ w :: ws, x.length ≤ 1000000000) (hK : kindF w = 9) : CallH Tryz.prog 59 [.slice a (w :: ws).length cap] H fun v H' => readR v (lineF (w :: ws)) ∧ Ext H H' := by
  refine Vc.CallH.body Tryz.func59 Tryz.call59 rfl (by decide +kernel) rfl ?_
  have hw : w = kws.getD 9 [] := kind_eq hK (by decide)
  have e0 : ((mkS w).toList == (⟨#[99, 111, 112, 121]⟩ : ByteArray).toList) = false := kw_f hK 0 (by decide) (by decide)
  have e1 : ((mkS w).toList == (⟨#[119, 114, 105, 116, 101]⟩ : ByteArray).toList) = false := kw_f hK 1 (by decide) (by decide)
  have e2 : ((mkS w).toList == (⟨#[97, 112, 112, 101, 110, 100]⟩ : ByteArray).toList) = false := kw_f hK 2 (by decide) (by decide)
  have e3 : ((mkS w).toList == (⟨#[109, 107, 100, 105, 114]⟩ : ByteArray).toList) = false := kw_f hK 3 (by decide) (by decide)
  have e4 : ((mkS w).toList == (⟨#[114, 101, 109, 111, 118, 101]⟩ : ByteArray).toList) = false := kw_f hK 4 (by decide) (by decide)
  have e5 : ((mkS w).toList == (⟨#[114, 101, 110, 97, 109, 101]⟩ : ByteArray).toList) = false := kw_f hK 5 (by decide) (by decide)
  have e6 : ((mkS w).toList == (⟨#[115, 101, 116]⟩ : ByteArray).toList) = false := kw_f hK 6 (by decide) (by decide)
  have e7 : ((mkS w).toList == (⟨#[105, 102]⟩ : ByteArray).toList) = false := kw_f hK 7 (by decide) (by decide)
  have e8 : ((mkS w).toList == (⟨#[114, 101, 112, 101, 97, 116]⟩ : ByteArray).toList) = false := kw_f hK 8 (by decide) (by decide)
  have e9 : ((mkS w).toList == (⟨#[101, 108, 115, 101]⟩ : ByteArray).toList) = true := kw_t hK 9 (by decide) rfl
  have e10 : ((mkS w).toList == (⟨#[101, 110, 100]⟩ : ByteArray).toList) = false := kw_f hK 10 (by decide) (by decide)
  have e11 : ((mkS w).toList == (⟨#[102, 97, 105, 108]⟩ : ByteArray).toList) = false := kw_f hK 11 (by decide) (by decide)
  have hpw : plainW w = true := by rw [hw]; rfl
  match ws, hr, hc, hm, hwl with
  | [], hr, hc, hm, hwl =>
    have hlen : (w :: ([] : List Bs)).length = 0 + 1 := by simp
    simp only [List.length_cons, List.length_nil] at hc hm
    ((conv => whnf); repeat (any_goals (first | ((refine IdxA.strv hr rfl 0 _ rfl rfl ?_; intro _ _ _ _ _); (conv => whnf)) | ((refine IdxA.strv hr rfl 1 _ rfl rfl ?_; intro _ _ _ _ _); (conv => whnf)) | ((refine IdxA.strv hr rfl 2 _ rfl rfl ?_; intro _ _ _ _ _); (conv => whnf)) | ((refine IdxA.strv hr rfl 3 _ rfl rfl ?_; intro _ _ _ _ _); (conv => whnf)) | ((refine BndH.nat 2 rfl (by omega) ?_); (conv => whnf)) | ((refine BndH.nat 1 rfl (by omega) ?_); (conv => whnf)) | ((refine (cp _ (by exact Vc.xt)).mono ?_; rintro _ _ ⟨rfl, rfl⟩); (conv => whnf)) | ((refine (cp2 _ (by exact Vc.xt)).mono ?_; rintro _ _ ⟨rfl, rfl⟩); (conv => whnf)) | ((refine (rquoted_any _ _).mono ?_; rintro _ _ ⟨rfl, rfl⟩); (conv => whnf)) | ((refine PureH.build1 (lineC 9 [] [] [] 0 false) (by kernel_rfl) ?_); (conv => whnf)) | (refine Vc.stp ?_; intros; (conv => whnf)) | (refine Vc.spl ?_ ?_ <;> (intro _; (conv => whnf))))))
    all_goals exact ⟨by rw [show lineF (w :: []) = some ⟨9, [], [], [], 0, false⟩ from by simp [lineF, hK, bareF]]; rfl, by exact Vc.xt⟩
  | x :: t, hr, hc, hm, hwl =>
    have hlen : (w :: (x :: t : List Bs)).length = t.length + 1 + 1 := by simp
    simp only [List.length_cons, List.length_nil] at hc hm
    have hlx : x.length ≤ 1000000000 := hwl x (by simp)
    ((conv => whnf); repeat (any_goals (first | ((refine IdxA.strv hr rfl 0 _ rfl rfl ?_; intro _ _ _ _ _); (conv => whnf)) | ((refine IdxA.strv hr rfl 1 _ rfl rfl ?_; intro _ _ _ _ _); (conv => whnf)) | ((refine IdxA.strv hr rfl 2 _ rfl rfl ?_; intro _ _ _ _ _); (conv => whnf)) | ((refine IdxA.strv hr rfl 3 _ rfl rfl ?_; intro _ _ _ _ _); (conv => whnf)) | ((refine BndH.nat 2 rfl (by omega) ?_); (conv => whnf)) | ((refine BndH.nat 1 rfl (by omega) ?_); (conv => whnf)) | ((refine (cp _ (by exact Vc.xt)).mono ?_; rintro _ _ ⟨rfl, rfl⟩); (conv => whnf)) | ((refine (cp2 _ (by exact Vc.xt)).mono ?_; rintro _ _ ⟨rfl, rfl⟩); (conv => whnf)) | ((refine (rquoted_any _ _).mono ?_; rintro _ _ ⟨rfl, rfl⟩); (conv => whnf)) | ((refine PureH.build1 (lineC 9 [] [] [] 0 false) (by kernel_rfl) ?_); (conv => whnf)) | (refine Vc.stp ?_; intros; (conv => whnf)) | (refine Vc.spl ?_ ?_ <;> (intro _; (conv => whnf))))))
    all_goals exact ⟨by rw [show lineF (w :: (x :: t)) = none from by simp [lineF, hK, bareF]]; exact ⟨_, _, _, _, _, _, rfl⟩, by exact Vc.xt⟩
set_option maxHeartbeats 4000000 in
theorem rline_10 (w : Bs) (ws : List Bs) (a : Option Addr) (cap : Nat) (H : Heap) (hr : Row H a (strs (w :: ws))) (hc : (w :: ws).length ≤ cap) (hm : (w :: ws).length ≤ 1000000000) (hwl : ∀ x ∈ w :: ws, x.length ≤ 1000000000) (hK : kindF w = 10) : CallH Tryz.prog 59 [.slice a (w :: ws).length cap] H fun v H' => readR v (lineF (w :: ws)) ∧ Ext H H' := by
  refine Vc.CallH.body Tryz.func59 Tryz.call59 rfl (by decide +kernel) rfl ?_
  have hw : w = kws.getD 10 [] := kind_eq hK (by decide)
  have e0 : ((mkS w).toList == (⟨#[99, 111, 112, 121]⟩ : ByteArray).toList) = false := kw_f hK 0 (by decide) (by decide)
  have e1 : ((mkS w).toList == (⟨#[119, 114, 105, 116, 101]⟩ : ByteArray).toList) = false := kw_f hK 1 (by decide) (by decide)
  have e2 : ((mkS w).toList == (⟨#[97, 112, 112, 101, 110, 100]⟩ : ByteArray).toList) = false := kw_f hK 2 (by decide) (by decide)
  have e3 : ((mkS w).toList == (⟨#[109, 107, 100, 105, 114]⟩ : ByteArray).toList) = false := kw_f hK 3 (by decide) (by decide)
  have e4 : ((mkS w).toList == (⟨#[114, 101, 109, 111, 118, 101]⟩ : ByteArray).toList) = false := kw_f hK 4 (by decide) (by decide)
  have e5 : ((mkS w).toList == (⟨#[114, 101, 110, 97, 109, 101]⟩ : ByteArray).toList) = false := kw_f hK 5 (by decide) (by decide)
  have e6 : ((mkS w).toList == (⟨#[115, 101, 116]⟩ : ByteArray).toList) = false := kw_f hK 6 (by decide) (by decide)
  have e7 : ((mkS w).toList == (⟨#[105, 102]⟩ : ByteArray).toList) = false := kw_f hK 7 (by decide) (by decide)
  have e8 : ((mkS w).toList == (⟨#[114, 101, 112, 101, 97, 116]⟩ : ByteArray).toList) = false := kw_f hK 8 (by decide) (by decide)
  have e9 : ((mkS w).toList == (⟨#[101, 108, 115, 101]⟩ : ByteArray).toList) = false := kw_f hK 9 (by decide) (by decide)
  have e10 : ((mkS w).toList == (⟨#[101, 110, 100]⟩ : ByteArray).toList) = true := kw_t hK 10 (by decide) rfl
  have e11 : ((mkS w).toList == (⟨#[102, 97, 105, 108]⟩ : ByteArray).toList) = false := kw_f hK 11 (by decide) (by decide)
  have hpw : plainW w = true := by rw [hw]; rfl
  match ws, hr, hc, hm, hwl with
  | [], hr, hc, hm, hwl =>
    have hlen : (w :: ([] : List Bs)).length = 0 + 1 := by simp
    simp only [List.length_cons, List.length_nil] at hc hm
    ((conv => whnf); repeat (any_goals (first | ((refine IdxA.strv hr rfl 0 _ rfl rfl ?_; intro _ _ _ _ _); (conv => whnf)) | ((refine IdxA.strv hr rfl 1 _ rfl rfl ?_; intro _ _ _ _ _); (conv => whnf)) | ((refine IdxA.strv hr rfl 2 _ rfl rfl ?_; intro _ _ _ _ _); (conv => whnf)) | ((refine IdxA.strv hr rfl 3 _ rfl rfl ?_; intro _ _ _ _ _); (conv => whnf)) | ((refine BndH.nat 2 rfl (by omega) ?_); (conv => whnf)) | ((refine BndH.nat 1 rfl (by omega) ?_); (conv => whnf)) | ((refine (cp _ (by exact Vc.xt)).mono ?_; rintro _ _ ⟨rfl, rfl⟩); (conv => whnf)) | ((refine (cp2 _ (by exact Vc.xt)).mono ?_; rintro _ _ ⟨rfl, rfl⟩); (conv => whnf)) | ((refine (rquoted_any _ _).mono ?_; rintro _ _ ⟨rfl, rfl⟩); (conv => whnf)) | ((refine PureH.build1 (lineC 10 [] [] [] 0 false) (by kernel_rfl) ?_); (conv => whnf)) | (refine Vc.stp ?_; intros; (conv => whnf)) | (refine Vc.spl ?_ ?_ <;> (intro _; (conv => whnf))))))
    all_goals exact ⟨by rw [show lineF (w :: []) = some ⟨10, [], [], [], 0, false⟩ from by simp [lineF, hK, bareF]]; rfl, by exact Vc.xt⟩
  | x :: t, hr, hc, hm, hwl =>
    have hlen : (w :: (x :: t : List Bs)).length = t.length + 1 + 1 := by simp
    simp only [List.length_cons, List.length_nil] at hc hm
    have hlx : x.length ≤ 1000000000 := hwl x (by simp)
    ((conv => whnf); repeat (any_goals (first | ((refine IdxA.strv hr rfl 0 _ rfl rfl ?_; intro _ _ _ _ _); (conv => whnf)) | ((refine IdxA.strv hr rfl 1 _ rfl rfl ?_; intro _ _ _ _ _); (conv => whnf)) | ((refine IdxA.strv hr rfl 2 _ rfl rfl ?_; intro _ _ _ _ _); (conv => whnf)) | ((refine IdxA.strv hr rfl 3 _ rfl rfl ?_; intro _ _ _ _ _); (conv => whnf)) | ((refine BndH.nat 2 rfl (by omega) ?_); (conv => whnf)) | ((refine BndH.nat 1 rfl (by omega) ?_); (conv => whnf)) | ((refine (cp _ (by exact Vc.xt)).mono ?_; rintro _ _ ⟨rfl, rfl⟩); (conv => whnf)) | ((refine (cp2 _ (by exact Vc.xt)).mono ?_; rintro _ _ ⟨rfl, rfl⟩); (conv => whnf)) | ((refine (rquoted_any _ _).mono ?_; rintro _ _ ⟨rfl, rfl⟩); (conv => whnf)) | ((refine PureH.build1 (lineC 10 [] [] [] 0 false) (by kernel_rfl) ?_); (conv => whnf)) | (refine Vc.stp ?_; intros; (conv => whnf)) | (refine Vc.spl ?_ ?_ <;> (intro _; (conv => whnf))))))
    all_goals exact ⟨by rw [show lineF (w :: (x :: t)) = none from by simp [lineF, hK, bareF]]; exact ⟨_, _, _, _, _, _, rfl⟩, by exact Vc.xt⟩
set_option maxHeartbeats 4000000 in
theorem rline_11 (w : Bs) (ws : List Bs) (a : Option Addr) (cap : Nat) (H : Heap) (hr : Row H a (strs (w :: ws))) (hc : (w :: ws).length ≤ cap) (hm : (w :: ws).length ≤ 1000000000) (hwl : ∀ x ∈ w :: ws, x.length ≤ 1000000000) (hK : kindF w = 11) : CallH Tryz.prog 59 [.slice a (w :: ws).length cap] H fun v H' => readR v (lineF (w :: ws)) ∧ Ext H H' := by
  refine Vc.CallH.body Tryz.func59 Tryz.call59 rfl (by decide +kernel) rfl ?_
  have hw : w = kws.getD 11 [] := kind_eq hK (by decide)
  have e0 : ((mkS w).toList == (⟨#[99, 111, 112, 121]⟩ : ByteArray).toList) = false := kw_f hK 0 (by decide) (by decide)
  have e1 : ((mkS w).toList == (⟨#[119, 114, 105, 116, 101]⟩ : ByteArray).toList) = false := kw_f hK 1 (by decide) (by decide)
  have e2 : ((mkS w).toList == (⟨#[97, 112, 112, 101, 110, 100]⟩ : ByteArray).toList) = false := kw_f hK 2 (by decide) (by decide)
  have e3 : ((mkS w).toList == (⟨#[109, 107, 100, 105, 114]⟩ : ByteArray).toList) = false := kw_f hK 3 (by decide) (by decide)
  have e4 : ((mkS w).toList == (⟨#[114, 101, 109, 111, 118, 101]⟩ : ByteArray).toList) = false := kw_f hK 4 (by decide) (by decide)
  have e5 : ((mkS w).toList == (⟨#[114, 101, 110, 97, 109, 101]⟩ : ByteArray).toList) = false := kw_f hK 5 (by decide) (by decide)
  have e6 : ((mkS w).toList == (⟨#[115, 101, 116]⟩ : ByteArray).toList) = false := kw_f hK 6 (by decide) (by decide)
  have e7 : ((mkS w).toList == (⟨#[105, 102]⟩ : ByteArray).toList) = false := kw_f hK 7 (by decide) (by decide)
  have e8 : ((mkS w).toList == (⟨#[114, 101, 112, 101, 97, 116]⟩ : ByteArray).toList) = false := kw_f hK 8 (by decide) (by decide)
  have e9 : ((mkS w).toList == (⟨#[101, 108, 115, 101]⟩ : ByteArray).toList) = false := kw_f hK 9 (by decide) (by decide)
  have e10 : ((mkS w).toList == (⟨#[101, 110, 100]⟩ : ByteArray).toList) = false := kw_f hK 10 (by decide) (by decide)
  have e11 : ((mkS w).toList == (⟨#[102, 97, 105, 108]⟩ : ByteArray).toList) = true := kw_t hK 11 (by decide) rfl
  have hpw : plainW w = true := by rw [hw]; rfl
  match ws, hr, hc, hm, hwl with
  | [], hr, hc, hm, hwl =>
    have hlen : (w :: ([] : List Bs)).length = 0 + 1 := by simp
    simp only [List.length_cons, List.length_nil] at hc hm
    ((conv => whnf); repeat (any_goals (first | ((refine IdxA.strv hr rfl 0 _ rfl rfl ?_; intro _ _ _ _ _); (conv => whnf)) | ((refine IdxA.strv hr rfl 1 _ rfl rfl ?_; intro _ _ _ _ _); (conv => whnf)) | ((refine IdxA.strv hr rfl 2 _ rfl rfl ?_; intro _ _ _ _ _); (conv => whnf)) | ((refine IdxA.strv hr rfl 3 _ rfl rfl ?_; intro _ _ _ _ _); (conv => whnf)) | ((refine BndH.nat 2 rfl (by omega) ?_); (conv => whnf)) | ((refine BndH.nat 1 rfl (by omega) ?_); (conv => whnf)) | ((refine (cp _ (by exact Vc.xt)).mono ?_; rintro _ _ ⟨rfl, rfl⟩); (conv => whnf)) | ((refine (cp2 _ (by exact Vc.xt)).mono ?_; rintro _ _ ⟨rfl, rfl⟩); (conv => whnf)) | ((refine (rquoted_any _ _).mono ?_; rintro _ _ ⟨rfl, rfl⟩); (conv => whnf)) | ((refine PureH.build0 (lineC 0 [] [] [] 0 false) (by kernel_rfl) ?_); (conv => whnf)) | (refine Vc.stp ?_; intros; (conv => whnf)) | (refine Vc.spl ?_ ?_ <;> (intro _; (conv => whnf))))))
    all_goals exact ⟨by rw [show lineF (w :: []) = none from by simp [lineF, hK, failF]]; exact ⟨_, _, _, _, _, _, rfl⟩, by exact Vc.xt⟩
  | [x], hr, hc, hm, hwl =>
    have hlen : (w :: ([x] : List Bs)).length = 1 + 1 := by simp
    simp only [List.length_cons, List.length_nil] at hc hm
    have hlx : x.length ≤ 1000000000 := hwl x (by simp)
    cases hpx : plainW x
    · have hzx : 1 ≤ x.length := plain_pos hpx
      have hszx : (mkS x).size = x.length := rfl
      ((conv => whnf); repeat (any_goals (first | ((refine IdxA.strv hr rfl 0 _ rfl rfl ?_; intro _ _ _ _ _); (conv => whnf)) | ((refine IdxA.strv hr rfl 1 _ rfl rfl ?_; intro _ _ _ _ _); (conv => whnf)) | ((refine IdxA.strv hr rfl 2 _ rfl rfl ?_; intro _ _ _ _ _); (conv => whnf)) | ((refine IdxA.strv hr rfl 3 _ rfl rfl ?_; intro _ _ _ _ _); (conv => whnf)) | ((refine BndH.nat 2 rfl (by omega) ?_); (conv => whnf)) | ((refine BndH.nat 1 rfl (by omega) ?_); (conv => whnf)) | ((refine (cp _ (by exact Vc.xt)).mono ?_; rintro _ _ ⟨rfl, rfl⟩); (conv => whnf)) | ((refine (cp2 _ (by exact Vc.xt)).mono ?_; rintro _ _ ⟨rfl, rfl⟩); (conv => whnf)) | ((refine (rquoted_any _ _).mono ?_; rintro _ _ ⟨rfl, rfl⟩); (conv => whnf)) | ((refine PureH.build0 (lineC 0 [] [] [] 0 false) (by kernel_rfl) ?_); (conv => whnf)) | ((refine PureH.build2 #[.int .i64 11, .string (mkS []), .string (mkS []), .string ((mkS x).extract 1 (mkS x).size), .int .i64 0, .bool false] (by kernel_rfl) ?_); (conv => whnf)) | (refine Vc.stp ?_; intros; (conv => whnf)) | (refine Vc.spl ?_ ?_ <;> (intro _; (conv => whnf))))))
      all_goals exact ⟨by rw [show lineF (w :: [x]) = some ⟨11, [], [], x.tail, 0, false⟩ from by simp [lineF, hK, failF, hpx]]; show Value.tuple #[.agg #[.int .i64 11, .string (mkS []), .string (mkS []), .string ((mkS x).extract 1 (mkS x).size), .int .i64 0, .bool false], .bool true] = _; rw [mkS_drop, List.drop_one]; rfl, by exact Vc.xt⟩
    · ((conv => whnf); repeat (any_goals (first | ((refine IdxA.strv hr rfl 0 _ rfl rfl ?_; intro _ _ _ _ _); (conv => whnf)) | ((refine IdxA.strv hr rfl 1 _ rfl rfl ?_; intro _ _ _ _ _); (conv => whnf)) | ((refine IdxA.strv hr rfl 2 _ rfl rfl ?_; intro _ _ _ _ _); (conv => whnf)) | ((refine IdxA.strv hr rfl 3 _ rfl rfl ?_; intro _ _ _ _ _); (conv => whnf)) | ((refine BndH.nat 2 rfl (by omega) ?_); (conv => whnf)) | ((refine BndH.nat 1 rfl (by omega) ?_); (conv => whnf)) | ((refine (cp _ (by exact Vc.xt)).mono ?_; rintro _ _ ⟨rfl, rfl⟩); (conv => whnf)) | ((refine (cp2 _ (by exact Vc.xt)).mono ?_; rintro _ _ ⟨rfl, rfl⟩); (conv => whnf)) | ((refine (rquoted_any _ _).mono ?_; rintro _ _ ⟨rfl, rfl⟩); (conv => whnf)) | ((refine PureH.build0 (lineC 0 [] [] [] 0 false) (by kernel_rfl) ?_); (conv => whnf)) | ((refine PureH.build2 #[.int .i64 11, .string (mkS []), .string (mkS []), .string ((mkS x).extract 1 (mkS x).size), .int .i64 0, .bool false] (by kernel_rfl) ?_); (conv => whnf)) | (refine Vc.stp ?_; intros; (conv => whnf)) | (refine Vc.spl ?_ ?_ <;> (intro _; (conv => whnf))))))
      all_goals exact ⟨by rw [show lineF (w :: [x]) = none from by simp [lineF, hK, failF, hpx]]; exact ⟨_, _, _, _, _, _, rfl⟩, by exact Vc.xt⟩
  | x :: y :: t, hr, hc, hm, hwl =>
    have hlen : (w :: (x :: y :: t : List Bs)).length = t.length + 2 + 1 := by simp
    simp only [List.length_cons, List.length_nil] at hc hm
    have hlx : x.length ≤ 1000000000 := hwl x (by simp)
    have hly : y.length ≤ 1000000000 := hwl y (by simp)
    ((conv => whnf); repeat (any_goals (first | ((refine IdxA.strv hr rfl 0 _ rfl rfl ?_; intro _ _ _ _ _); (conv => whnf)) | ((refine IdxA.strv hr rfl 1 _ rfl rfl ?_; intro _ _ _ _ _); (conv => whnf)) | ((refine IdxA.strv hr rfl 2 _ rfl rfl ?_; intro _ _ _ _ _); (conv => whnf)) | ((refine IdxA.strv hr rfl 3 _ rfl rfl ?_; intro _ _ _ _ _); (conv => whnf)) | ((refine BndH.nat 2 rfl (by omega) ?_); (conv => whnf)) | ((refine BndH.nat 1 rfl (by omega) ?_); (conv => whnf)) | ((refine (cp _ (by exact Vc.xt)).mono ?_; rintro _ _ ⟨rfl, rfl⟩); (conv => whnf)) | ((refine (cp2 _ (by exact Vc.xt)).mono ?_; rintro _ _ ⟨rfl, rfl⟩); (conv => whnf)) | ((refine (rquoted_any _ _).mono ?_; rintro _ _ ⟨rfl, rfl⟩); (conv => whnf)) | ((refine PureH.build0 (lineC 0 [] [] [] 0 false) (by kernel_rfl) ?_); (conv => whnf)) | (refine Vc.stp ?_; intros; (conv => whnf)) | (refine Vc.spl ?_ ?_ <;> (intro _; (conv => whnf))))))
    all_goals exact ⟨by rw [show lineF (w :: (x :: y :: t)) = none from by simp [lineF, hK, failF]]; exact ⟨_, _, _, _, _, _, rfl⟩, by exact Vc.xt⟩
set_option maxHeartbeats 4000000 in
theorem rline_12 (w : Bs) (ws : List Bs) (a : Option Addr) (cap : Nat) (H : Heap) (hr : Row H a (strs (w :: ws))) (hc : (w :: ws).length ≤ cap) (hm : (w :: ws).length ≤ 1000000000) (hwl : ∀ x ∈ w :: ws, x.length ≤ 1000000000) (hK : kindF w = 12) : CallH Tryz.prog 59 [.slice a (w :: ws).length cap] H fun v H' => readR v (lineF (w :: ws)) ∧ Ext H H' := by
  refine Vc.CallH.body Tryz.func59 Tryz.call59 rfl (by decide +kernel) rfl ?_
  have e0 : ((mkS w).toList == (⟨#[99, 111, 112, 121]⟩ : ByteArray).toList) = false := kw_f hK 0 (by decide) (by decide)
  have e1 : ((mkS w).toList == (⟨#[119, 114, 105, 116, 101]⟩ : ByteArray).toList) = false := kw_f hK 1 (by decide) (by decide)
  have e2 : ((mkS w).toList == (⟨#[97, 112, 112, 101, 110, 100]⟩ : ByteArray).toList) = false := kw_f hK 2 (by decide) (by decide)
  have e3 : ((mkS w).toList == (⟨#[109, 107, 100, 105, 114]⟩ : ByteArray).toList) = false := kw_f hK 3 (by decide) (by decide)
  have e4 : ((mkS w).toList == (⟨#[114, 101, 109, 111, 118, 101]⟩ : ByteArray).toList) = false := kw_f hK 4 (by decide) (by decide)
  have e5 : ((mkS w).toList == (⟨#[114, 101, 110, 97, 109, 101]⟩ : ByteArray).toList) = false := kw_f hK 5 (by decide) (by decide)
  have e6 : ((mkS w).toList == (⟨#[115, 101, 116]⟩ : ByteArray).toList) = false := kw_f hK 6 (by decide) (by decide)
  have e7 : ((mkS w).toList == (⟨#[105, 102]⟩ : ByteArray).toList) = false := kw_f hK 7 (by decide) (by decide)
  have e8 : ((mkS w).toList == (⟨#[114, 101, 112, 101, 97, 116]⟩ : ByteArray).toList) = false := kw_f hK 8 (by decide) (by decide)
  have e9 : ((mkS w).toList == (⟨#[101, 108, 115, 101]⟩ : ByteArray).toList) = false := kw_f hK 9 (by decide) (by decide)
  have e10 : ((mkS w).toList == (⟨#[101, 110, 100]⟩ : ByteArray).toList) = false := kw_f hK 10 (by decide) (by decide)
  have e11 : ((mkS w).toList == (⟨#[102, 97, 105, 108]⟩ : ByteArray).toList) = false := kw_f hK 11 (by decide) (by decide)
  have hlen : (w :: ws).length = ws.length + 1 := rfl
  ((conv => whnf); repeat (any_goals (first | ((refine IdxA.strv hr rfl 0 _ rfl rfl ?_; intro _ _ _ _ _); (conv => whnf)) | ((refine IdxA.strv hr rfl 1 _ rfl rfl ?_; intro _ _ _ _ _); (conv => whnf)) | ((refine IdxA.strv hr rfl 2 _ rfl rfl ?_; intro _ _ _ _ _); (conv => whnf)) | ((refine IdxA.strv hr rfl 3 _ rfl rfl ?_; intro _ _ _ _ _); (conv => whnf)) | ((refine BndH.nat 2 rfl (by omega) ?_); (conv => whnf)) | ((refine BndH.nat 1 rfl (by omega) ?_); (conv => whnf)) | ((refine (cp _ (by exact Vc.xt)).mono ?_; rintro _ _ ⟨rfl, rfl⟩); (conv => whnf)) | ((refine (cp2 _ (by exact Vc.xt)).mono ?_; rintro _ _ ⟨rfl, rfl⟩); (conv => whnf)) | ((refine (rquoted_any _ _).mono ?_; rintro _ _ ⟨rfl, rfl⟩); (conv => whnf)) | ((refine PureH.build0 (lineC 0 [] [] [] 0 false) (by kernel_rfl) ?_); (conv => whnf)) | (refine Vc.stp ?_; intros; (conv => whnf)) | (refine Vc.spl ?_ ?_ <;> (intro _; (conv => whnf))))))
  all_goals exact ⟨by rw [show lineF (w :: ws) = none from by show (match kindF w with | 0 => _ | 1 => _ | 2 => _ | 3 => _ | 4 => _ | 5 => _ | 6 => _ | 7 => _ | 8 => _ | 9 => _ | 10 => _ | 11 => _ | _ => _) = _; rw [hK]; rfl]; exact ⟨_, _, _, _, _, _, rfl⟩, by exact Vc.xt⟩
theorem rline_any (w : Bs) (ws : List Bs) (a : Option Addr) (n cap : Nat) (H : Heap) (hr : Row H a (strs (w :: ws))) (hn : (w :: ws).length = n) (hc : n ≤ cap) (hm : n ≤ 1000000000) (hwl : ∀ x ∈ w :: ws, x.length ≤ 1000000000) : CallH Tryz.prog 59 [.slice a n cap] H fun v H' => readR v (lineF (w :: ws)) ∧ Ext H H' := by
  subst hn
  obtain ⟨K, hK⟩ : ∃ K, kindF w = K := ⟨_, rfl⟩
  have hle : K ≤ 12 := by rw [← hK]; exact List.findIdx_le_length
  have cases13 : K = 0 ∨ K = 1 ∨ K = 2 ∨ K = 3 ∨ K = 4 ∨ K = 5 ∨ K = 6 ∨ K = 7 ∨ K = 8 ∨ K = 9 ∨ K = 10 ∨ K = 11 ∨ K = 12 := by omega
  rcases cases13 with rfl | rfl | rfl | rfl | rfl | rfl | rfl | rfl | rfl | rfl | rfl | rfl | rfl
  · exact rline_0 w ws a cap H hr hc hm hwl hK
  · exact rline_1 w ws a cap H hr hc hm hwl hK
  · exact rline_2 w ws a cap H hr hc hm hwl hK
  · exact rline_3 w ws a cap H hr hc hm hwl hK
  · exact rline_4 w ws a cap H hr hc hm hwl hK
  · exact rline_5 w ws a cap H hr hc hm hwl hK
  · exact rline_6 w ws a cap H hr hc hm hwl hK
  · exact rline_7 w ws a cap H hr hc hm hwl hK
  · exact rline_8 w ws a cap H hr hc hm hwl hK
  · exact rline_9 w ws a cap H hr hc hm hwl hK
  · exact rline_10 w ws a cap H hr hc hm hwl hK
  · exact rline_11 w ws a cap H hr hc hm hwl hK
  · exact rline_12 w ws a cap H hr hc hm hwl hK
end Go.Proofs.YtphkaogbcfdllaaGreatDoor
/- Build scripts, the reference: a script read. -/
namespace Go.Proofs.YtphkaogbcfdllaaGreatDoor
open Go Go.Vc Go.Scr
def opc (k : Nat) : Nat := if k = 7 then 0 else if k = 9 then 1 else 2
def opV (o : List Nat) : List Value := natV (o.map opc)
theorem opV_append (o m : List Nat) : opV (o ++ m) = opV o ++ opV m := by simp [opV, natV]
theorem opV_length (o : List Nat) : (opV o).length = o.length := by simp [opV, natV]
structure RInv (H H' : Heap) (al : Option Addr) (cl : Nat) (L : List Bs) (out : List Ln) (ao : Option Addr) (co : Nat) (o : List Nat) (a : Option Addr) (cap : Nat) : Prop where
  op : Own H' H.size 3 1 a o.length cap (opV o)
  lines : Own H' H.size 9 1 al L.length cl (strs L)
  own : Own H' H.size 43 6 ao out.length co (lnsV out)
  d1 : Apart al a
  d2 : Apart ao a
  d3 : Apart al ao
  ext : Ext H H'
variable {H H' H'' : Heap} {al : Option Addr} {cl : Nat} {L : List Bs} {out : List Ln} {x : Ln} {ao ao' : Option Addr} {co co' : Nat} {o o' : List Nat} {a a' : Option Addr} {cap cap' : Nat}
theorem RInv.grow (h : RInv H H' al cl L out ao co o a cap) (k : Ext H' H'') : RInv H H'' al cl L out ao co o a cap :=
  ⟨h.op.ext k, h.lines.ext k, h.own.ext k, h.d1, h.d2, h.d3, h.ext.trans k⟩
theorem RInv.open (h : RInv H H' al cl L out ao co o a cap) (ho : Own H'' H.size 3 1 a' o'.length cap' (opV o')) (k : Wr a H' H'') (hf : ∀ p, a' = some p → a' = a ∨ H'.size ≤ p.block) : RInv H H'' al cl L out ao co o' a' cap' := by
  refine ⟨ho, h.lines.keep k fun p hp ⟨q, hq, e⟩ => h.d1 p q hp hq e.symm, h.own.keep k fun p hp ⟨q, hq, e⟩ => h.d2 p q hp hq e.symm, fun p q hp hq e => ?_, fun p q hp hq e => ?_, h.d3, h.ext.wr h.op (Nat.le_refl _) k⟩
  · rcases hf q hq with e1 | e1
    · exact h.d1 p q hp (e1 ▸ hq) e
    · have := (h.lines.block p hp).2; omega
  · rcases hf q hq with e1 | e1
    · exact h.d2 p q hp (e1 ▸ hq) e
    · have := (h.own.block p hp).2; omega
theorem RInv.push (h : RInv H H' al cl L out ao co o a cap) (ho : Own H'' H.size 43 6 ao' (out.length + 1) co' (lnsV out ++ (lnC x).toList)) (k : Wr ao H' H'') (hf : ∀ p, ao' = some p → ao' = ao ∨ H'.size ≤ p.block) : RInv H H'' al cl L (out ++ [x]) ao' co' o a cap := by
  have e : lnsV (out ++ [x]) = lnsV out ++ (lnC x).toList := by rw [lnsV_append]; simp [lnsV]
  refine ⟨h.op.keep k fun p hp ⟨q, hq, e⟩ => h.d2 q p hq hp e, h.lines.keep k fun p hp ⟨q, hq, e⟩ => h.d3 p q hp hq e.symm, by rw [e, List.length_append]; exact ho, h.d1, fun p q hp hq e => ?_, fun p q hp hq e => ?_, h.ext.wr h.own (Nat.le_refl _) k⟩
  · rcases hf p hp with e1 | e1
    · exact h.d2 p q (e1 ▸ hp) hq e
    · have := (h.op.block q hq).2; omega
  · rcases hf q hq with e1 | e1
    · exact h.d3 p q hp (e1 ▸ hq) e
    · have := (h.lines.block p hp).2; omega
theorem commF_head {l : Bs} {c : UInt8} {t : Bs} (h : l.dropWhile isB = c :: t) : commF l = (c == 35) := by unfold commF; rw [h]
set_option maxHeartbeats 8000000 in
theorem rparse_any (s : Bs) (hl : s.length ≤ 10000000) (H : Heap) : CallH Tryz.prog 16 [.string (mkS s)] H fun v H' => parseR H' H.size v (parseF s) ∧ Ext H H' := by
  have hsz : (mkS s).size = s.length := rfl
  refine Vc.CallH.body Tryz.func16 Tryz.call16 rfl (by decide +kernel) rfl ?_
  by_cases hbig : 65536 < s.length
  · have e : parseF s = (none, 0) := by unfold parseF; rw [if_pos hbig]
    ((conv => whnf); repeat (any_goals (first | (refine Vc.stp ?_; intros; (conv => whnf)) | (refine Vc.spl ?_ ?_ <;> (intro _; (conv => whnf))))))
    rw [e]; exact ⟨rfl, Ext.refl _⟩
  · have e : parseF s = parseL (linesF s) 0 [] [] := by unfold parseF; rw [if_neg hbig]
    rw [e]
    have hls := fun H => rlines_any s (by omega) H
    obtain ⟨hLn, hLl⟩ := linesF_len s
    generalize linesF s = L at *
    obtain ⟨R, hR⟩ : ∃ R, parseL L 0 [] [] = R := ⟨_, rfl⟩
    rw [hR]
    ((conv => whnf); repeat (any_goals (first | ((refine (hls _).mono ?_; rintro _ H2 ⟨⟨al, cl, rfl, hol⟩, hx2⟩; have hz2 := hx2.size); (conv => whnf)) | (refine Vc.stp ?_; intros; (conv => whnf)) | (refine Vc.spl ?_ ?_ <;> (intro _; (conv => whnf))))))
    refine LoopH.intro (fun (x : PSt) => [(8, .int .i64 x.i), (5, .slice x.ao x.out.length x.co), (6, .slice x.a x.o.length x.cap)]) (fun x H' => x.i ≤ L.length ∧ x.out.length ≤ 200 ∧ x.o.length ≤ 8 ∧ R = parseL (L.drop x.i) x.i x.out x.o ∧ RInv H H' al cl L x.out x.ao x.co x.o x.a x.cap) (fun x => L.length - x.i) ⟨0, [], none, 0, [], none, 0⟩ ⟨rfl, rfl, rfl, trivial⟩ ⟨Nat.zero_le _, Nat.zero_le _, Nat.zero_le _, hR.symm, ⟨Own.nil _ _ _ _, hol, Own.nil _ _ _ _, fun p q _ hq => (by cases hq), fun p q hp => (by cases hp), fun p q _ hq => (by cases hq), hx2⟩⟩ ?_
    rintro ⟨i, out, ao, co, o, a, cap⟩ H3 ⟨hi, hout, ho8, hinv, hp3⟩
    dsimp only at hi hout ho8 hinv hp3 ⊢
    have hz3 := hp3.ext.size
    by_cases hlt : i < L.length
    · have hd : L.drop i = L.getD i [] :: L.drop (i + 1) := by
        rw [List.drop_eq_getElem_cons hlt, List.getD_eq_getElem?_getD, List.getElem?_eq_getElem hlt]; rfl
      have hmem : L.getD i [] ∈ L := by
        rw [List.getD_eq_getElem?_getD, List.getElem?_eq_getElem hlt]; exact List.getElem_mem hlt
      have hget : L[i]? = some (L.getD i []) := by rw [List.getD_eq_getElem?_getD, List.getElem?_eq_getElem hlt]; rfl
      have hll := hLl _ hmem
      generalize L.getD i [] = l at *
      rw [hd, parseL_step] at hinv
      have hw := fun H => rwords_any l (by omega) H
      have hrow := hp3.lines.row
      obtain ⟨D, hD⟩ : ∃ D, l.dropWhile isB = D := ⟨_, rfl⟩
      cases D with
      | nil =>
        rw [skipF_nil hD, if_pos rfl] at hinv
        rw [words_skip hD] at hw
        have hz0 : ([] : List Bs).length = 0 := rfl
        ((conv => whnf); repeat (any_goals (first | ((refine IdxA.strv hrow rfl i l rfl hget ?_; intro _ _ _ _ _); (conv => whnf)) | ((refine (hw _).mono ?_; rintro _ H5 ⟨⟨aw, cw, rfl, how⟩, hx5⟩; have hz5 := hx5.size; have hrw := how.row; have hcw := how.cap_le); (conv => whnf)) | ((refine (hw _).mono ?_; rintro _ H5 ⟨rfl, hx5⟩; have hz5 := hx5.size); (conv => whnf)) | ((refine (rcomment_any _ (by omega) _).mono ?_; rintro _ _ ⟨rfl, rfl⟩; rw [hcm]); (conv => whnf)) | ((refine IdxA.strv hrw rfl 0 (c :: w) rfl rfl ?_; intro _ _ _ _ _); (conv => whnf)) | ((refine IdxH.nat 0 rfl (by omega) ?_; (conv => whnf); rw [hc0]); (conv => whnf)) | (refine Vc.stp ?_; intros; (conv => whnf)) | (refine Vc.spl ?_ ?_ <;> (intro _; (conv => whnf))))))
        exact ⟨⟨i + 1, out, ao, co, o, a, cap⟩, ⟨rfl, rfl, rfl, trivial⟩, ⟨by show i + 1 ≤ _; omega, hout, ho8, hinv, hp3.grow (by exact Vc.xt)⟩, by show L.length - (i + 1) < L.length - i; omega⟩
      | cons c t =>
        rw [skipF_cons hD] at hinv
        have hcm := commF_head hD
        by_cases h35 : c = 35
        · subst h35
          rw [show ((35 : UInt8) == 35) = true from rfl] at hinv hcm
          rw [if_pos rfl] at hinv
          rcases words_head hD with h0 | ⟨w, wt, h0⟩
          · rw [h0] at hw
            ((conv => whnf); repeat (any_goals (first | ((refine IdxA.strv hrow rfl i l rfl hget ?_; intro _ _ _ _ _); (conv => whnf)) | ((refine (hw _).mono ?_; rintro _ H5 ⟨⟨aw, cw, rfl, how⟩, hx5⟩; have hz5 := hx5.size; have hrw := how.row; have hcw := how.cap_le); (conv => whnf)) | ((refine (hw _).mono ?_; rintro _ H5 ⟨rfl, hx5⟩; have hz5 := hx5.size); (conv => whnf)) | ((refine (rcomment_any _ (by omega) _).mono ?_; rintro _ _ ⟨rfl, rfl⟩; rw [hcm]); (conv => whnf)) | ((refine IdxA.strv hrw rfl 0 (c :: w) rfl rfl ?_; intro _ _ _ _ _); (conv => whnf)) | ((refine IdxH.nat 0 rfl (by omega) ?_; (conv => whnf); rw [hc0]); (conv => whnf)) | (refine Vc.stp ?_; intros; (conv => whnf)) | (refine Vc.spl ?_ ?_ <;> (intro _; (conv => whnf))))))
            exact ⟨⟨i + 1, out, ao, co, o, a, cap⟩, ⟨rfl, rfl, rfl, trivial⟩, ⟨by show i + 1 ≤ _; omega, hout, ho8, hinv, hp3.grow (by exact Vc.xt)⟩, by show L.length - (i + 1) < L.length - i; omega⟩
          · rw [h0] at hw
            have hz0 : ((35 :: w) :: wt : List Bs).length = wt.length + 1 := rfl
            have hc0 : (mkS (35 :: w)).data.toList.getD 0 0 = 35 := rfl
            have hszD : (mkS (35 :: w)).size = w.length + 1 := rfl
            obtain ⟨c, hc⟩ : ∃ c : UInt8, c = 35 := ⟨_, rfl⟩
            rw [← hc] at hw hz0 hc0 hszD
            have hcn : c.toNat = 35 := by rw [hc]; rfl
            ((conv => whnf); repeat (any_goals (first | ((refine IdxA.strv hrow rfl i l rfl hget ?_; intro _ _ _ _ _); (conv => whnf)) | ((refine (hw _).mono ?_; rintro _ H5 ⟨⟨aw, cw, rfl, how⟩, hx5⟩; have hz5 := hx5.size; have hrw := how.row; have hcw := how.cap_le); (conv => whnf)) | ((refine (hw _).mono ?_; rintro _ H5 ⟨rfl, hx5⟩; have hz5 := hx5.size); (conv => whnf)) | ((refine (rcomment_any _ (by omega) _).mono ?_; rintro _ _ ⟨rfl, rfl⟩; rw [hcm]); (conv => whnf)) | ((refine IdxA.strv hrw rfl 0 (c :: w) rfl rfl ?_; intro _ _ _ _ _); (conv => whnf)) | ((refine IdxH.nat 0 rfl (by omega) ?_; (conv => whnf); rw [hc0]); (conv => whnf)) | (refine Vc.stp ?_; intros; (conv => whnf)) | (refine Vc.spl ?_ ?_ <;> (intro _; (conv => whnf))))))
            exact ⟨⟨i + 1, out, ao, co, o, a, cap⟩, ⟨rfl, rfl, rfl, trivial⟩, ⟨by show i + 1 ≤ _; omega, hout, ho8, hinv, hp3.grow (by exact Vc.xt)⟩, by show L.length - (i + 1) < L.length - i; omega⟩
        · have n35 := ne_nat 35 (by decide) h35
          have e35 : (c == 35) = false := by simpa using h35
          rw [e35] at hinv hcm
          rw [if_neg (by decide)] at hinv
          rcases words_head hD with h0 | ⟨w, wt, h0⟩
          · rw [h0] at hw hinv
            dsimp only at hinv
            ((conv => whnf); repeat (any_goals (first | ((refine IdxA.strv hrow rfl i l rfl hget ?_; intro _ _ _ _ _); (conv => whnf)) | ((refine (hw _).mono ?_; rintro _ H5 ⟨⟨aw, cw, rfl, how⟩, hx5⟩; have hz5 := hx5.size; have hrw := how.row; have hcw := how.cap_le); (conv => whnf)) | ((refine (hw _).mono ?_; rintro _ H5 ⟨rfl, hx5⟩; have hz5 := hx5.size); (conv => whnf)) | ((refine (rcomment_any _ (by omega) _).mono ?_; rintro _ _ ⟨rfl, rfl⟩; rw [hcm]); (conv => whnf)) | ((refine IdxA.strv hrw rfl 0 (c :: w) rfl rfl ?_; intro _ _ _ _ _); (conv => whnf)) | ((refine IdxH.nat 0 rfl (by omega) ?_; (conv => whnf); rw [hc0]); (conv => whnf)) | (refine Vc.stp ?_; intros; (conv => whnf)) | (refine Vc.spl ?_ ?_ <;> (intro _; (conv => whnf))))))
            exact ⟨by rw [hinv]; rfl, hp3.ext.trans (by exact Vc.xt)⟩
          · obtain ⟨hw1, hw2⟩ := wordsF_all h0
            rw [h0] at hw hinv
            dsimp only at hinv
            have hz0 : ((c :: w) :: wt : List Bs).length = wt.length + 1 := rfl
            have hc0 : (mkS (c :: w)).data.toList.getD 0 0 = c := rfl
            have hszD : (mkS (c :: w)).size = w.length + 1 := rfl
            have hrd := fun H a cap (hr : Row H a (strs ((c :: w) :: wt))) (hc : ((c :: w) :: wt).length ≤ cap) => rline_any (c :: w) wt a _ cap H hr rfl hc (by omega) (fun x hx => by have := (hw2 x hx).2; omega)
            cases hln : lineF ((c :: w) :: wt) with
            | none =>
              rw [hln] at hrd hinv
              dsimp only at hinv
              ((conv => whnf); repeat (any_goals (first | ((refine IdxA.strv hrow rfl i l rfl hget ?_; intro _ _ _ _ _); (conv => whnf)) | ((refine (hw _).mono ?_; rintro _ H5 ⟨⟨aw, cw, rfl, how⟩, hx5⟩; have hz5 := hx5.size; have hrw := how.row; have hcw := how.cap_le); (conv => whnf)) | ((refine (hw _).mono ?_; rintro _ H5 ⟨rfl, hx5⟩; have hz5 := hx5.size); (conv => whnf)) | ((refine (rcomment_any _ (by omega) _).mono ?_; rintro _ _ ⟨rfl, rfl⟩; rw [hcm]); (conv => whnf)) | ((refine IdxA.strv hrw rfl 0 (c :: w) rfl rfl ?_; intro _ _ _ _ _); (conv => whnf)) | ((refine IdxH.nat 0 rfl (by omega) ?_; (conv => whnf); rw [hc0]); (conv => whnf)) | ((refine (hrd _ _ _ hrw hcw).mono ?_; rintro _ H6 ⟨⟨k6, a6, b6, t6, n6, q6, rfl⟩, hx6⟩; have hz6 := hx6.size); (conv => whnf)) | (refine Vc.stp ?_; intros; (conv => whnf)) | (refine Vc.spl ?_ ?_ <;> (intro _; (conv => whnf))))))
              exact ⟨by rw [hinv]; rfl, hp3.ext.trans (by exact Vc.xt)⟩
            | some x =>
              rw [hln] at hrd hinv
              dsimp only at hinv
              by_cases h200 : out.length = 200
              · rw [if_pos h200] at hinv
                ((conv => whnf); repeat (any_goals (first | ((refine IdxA.strv hrow rfl i l rfl hget ?_; intro _ _ _ _ _); (conv => whnf)) | ((refine (hw _).mono ?_; rintro _ H5 ⟨⟨aw, cw, rfl, how⟩, hx5⟩; have hz5 := hx5.size; have hrw := how.row; have hcw := how.cap_le); (conv => whnf)) | ((refine (hw _).mono ?_; rintro _ H5 ⟨rfl, hx5⟩; have hz5 := hx5.size); (conv => whnf)) | ((refine (rcomment_any _ (by omega) _).mono ?_; rintro _ _ ⟨rfl, rfl⟩; rw [hcm]); (conv => whnf)) | ((refine IdxA.strv hrw rfl 0 (c :: w) rfl rfl ?_; intro _ _ _ _ _); (conv => whnf)) | ((refine IdxH.nat 0 rfl (by omega) ?_; (conv => whnf); rw [hc0]); (conv => whnf)) | ((refine (hrd _ _ _ hrw hcw).mono ?_; rintro _ H6 ⟨rfl, hx6⟩; have hz6 := hx6.size); (conv => whnf)) | (refine Vc.stp ?_; intros; (conv => whnf)) | (refine Vc.spl ?_ ?_ <;> (intro _; (conv => whnf))))))
                exact ⟨by rw [hinv]; rfl, hp3.ext.trans (by exact Vc.xt)⟩
              · rw [if_neg h200] at hinv
                have hnone : takeF o x.k = none → R = (none, i + 1) := fun h => by rw [hinv, h]
                have hsome : ∀ o9, takeF o x.k = some o9 → R = parseL (L.drop (i + 1)) (i + 1) (out ++ [x]) o9 := fun o9 h => by rw [hinv, h]
                have hna : ∀ b, H3.size ≤ b → ¬ ∃ p, a = some p ∧ p.block = b := fun b hb ⟨p, hp, e⟩ => by have := (hp3.op.block p hp).2; omega
                have app : ∀ {H9 HA : Heap} {g : Nat} {ty : TypeId} {cb : Array Bool} {K : Value → Heap → Prop} {a9 : Option Addr} {c9 : Nat} {o9 : List Nat}, RInv H H9 al cl L out ao co o9 a9 c9 → Ext H9 HA → Blk HA g (lnC x) 43 → (∀ a8 c8 HB, RInv H HB al cl L (out ++ [x]) a8 c8 o9 a9 c9 → K (.slice a8 (out.length + 1) c8) HB) → NextH Tryz.prog (builtin .append #[24, 24] ty cb #[.slice ao out.length co, .slice (some ⟨g, 0, none⟩) 1 1]) HA K := by
                  intro H9 HA g ty cb K a9 c9 o9 hr9 hx9 hbA hk
                  have hpA := hr9.grow hx9
                  refine NextH.append (i := Tryz.t43) (z := .agg (lineC 0 [] [] [] 0 false)) (base := H.size) rfl ⟨_, rfl, fun _ h => by cases h⟩ rfl rfl rfl hpA.own (Src.row (c := 1) (Blk.row (c := (lnC x).toList) hbA) rfl (by simp [lnC, lineC, plainV])) (by unfold maxLen; omega) (by show (out.length + 1) * 72 ≤ _; omega) hpA.ext.size ?_
                  intro a8 c8 HB hoB hwB hnB
                  exact hk a8 c8 HB (hpA.push hoB hwB hnB)
                have app2 : ∀ {HA : Heap} {g v : Nat} {ty : TypeId} {cb : Array Bool} {K : Value → Heap → Prop} {o9 : List Nat}, opV o9 = opV o ++ [.int .i64 (v : Int)] → o9.length = o.length + 1 → RInv H HA al cl L out ao co o a cap → Blk HA g #[.int .i64 (v : Int)] 3 → (∀ a9 c9 HB, RInv H HB al cl L out ao co o9 a9 c9 → Wr a HA HB → K (.slice a9 (o.length + 1) c9) HB) → NextH Tryz.prog (builtin .append #[125, 125] ty cb #[.slice a o.length cap, .slice (some ⟨g, 0, none⟩) 1 1]) HA K := by
                  intro HA g v ty cb K o9 e1 e2 hpA hbA hk
                  refine NextH.append (i := Tryz.t3) (z := .int .i64 0) (base := H.size) rfl ⟨_, rfl, fun _ h => by cases h⟩ rfl rfl rfl hpA.op (Src.row (c := 1) (Blk.row (c := [.int .i64 (v : Int)]) hbA) rfl (by simp [plainV])) (by unfold maxLen; omega) (by show (o.length + 1) * 8 ≤ _; omega) hpA.ext.size ?_
                  intro a8 c8 HB hoB hwB hnB
                  exact hk a8 c8 HB (hpA.open (by rw [e1, e2]; exact hoB) hwB hnB) hwB
                ((conv => whnf); repeat (any_goals (first | ((refine IdxA.strv hrow rfl i l rfl hget ?_; intro _ _ _ _ _); (conv => whnf)) | ((refine (hw _).mono ?_; rintro _ H5 ⟨⟨aw, cw, rfl, how⟩, hx5⟩; have hz5 := hx5.size; have hrw := how.row; have hcw := how.cap_le); (conv => whnf)) | ((refine (hw _).mono ?_; rintro _ H5 ⟨rfl, hx5⟩; have hz5 := hx5.size); (conv => whnf)) | ((refine (rcomment_any _ (by omega) _).mono ?_; rintro _ _ ⟨rfl, rfl⟩; rw [hcm]); (conv => whnf)) | ((refine IdxA.strv hrw rfl 0 (c :: w) rfl rfl ?_; intro _ _ _ _ _); (conv => whnf)) | ((refine IdxH.nat 0 rfl (by omega) ?_; (conv => whnf); rw [hc0]); (conv => whnf)) | ((refine (hrd _ _ _ hrw hcw).mono ?_; rintro _ H6 ⟨rfl, hx6⟩; have hz6 := hx6.size); (conv => whnf)) | (refine Vc.stp ?_; intros; (conv => whnf)))))
                rename_i H7 hs7 hb7 hx7 H8 hs8 hb8 hx8
                have hx38 : Ext H3 H8 := by exact Vc.xt
                have hp8 := hp3.grow hx38
                have hz8 := hx38.size
                by_cases h78 : x.k = 7 ∨ x.k = 8
                · by_cases h8 : o.length = 8
                  · have htk : takeF o x.k = none := by unfold takeF; rw [if_pos h78, if_pos h8]
                    rcases h78 with hk | hk
                    · ((conv => whnf); repeat (any_goals (first | (refine Vc.stp ?_; intros; (conv => whnf)))))
                      exact ⟨by rw [hnone htk]; rfl, hp8.ext⟩
                    · ((conv => whnf); repeat (any_goals (first | (refine Vc.stp ?_; intros; (conv => whnf)))))
                      exact ⟨by rw [hnone htk]; rfl, hp8.ext⟩
                  · rcases h78 with hk | hk
                    · skip
                      ((conv => whnf); repeat (any_goals (first | (refine Vc.stp ?_; intros; (conv => whnf)))))
                      rename_i HC hsC hbC hxC
                      have htk : takeF o x.k = some (o ++ [7]) := by unfold takeF; rw [if_pos (by omega), if_neg h8, hk]
                      refine app2 (v := 0) (o9 := o ++ [7]) (by rw [opV_append]; rfl) (by simp) (hp8.grow hxC) hbC ?_
                      intro a9 c9 HD hrD hwD
                      have hbD := (hb8.ext hxC).keep hwD (hna _ (by omega))
                      have hzD := hrD.ext.size
                      ((conv => whnf); repeat (any_goals (first | (refine Vc.stp ?_; intros; (conv => whnf)))))
                      rename_i HE hsE hbE hxE
                      refine app hrD hxE hbE ?_
                      intro a8 c8 HB hrB
                      ((conv => whnf); repeat (any_goals (first | (refine Vc.stp ?_; intros; (conv => whnf)))))
                      exact ⟨⟨i + 1, out ++ [x], a8, c8, o ++ [7], a9, c9⟩, ⟨rfl, by show Value.slice a8 (out.length + 1) c8 = Value.slice a8 (out ++ [x]).length c8; rw [List.length_append]; rfl, by show Value.slice a9 (o.length + 1) c9 = Value.slice a9 (o ++ [7]).length c9; rw [List.length_append]; rfl, trivial⟩, ⟨by show i + 1 ≤ _; omega, by show (out ++ [x]).length ≤ 200; rw [List.length_append]; show out.length + 1 ≤ 200; omega, takeF_len htk ho8, hsome _ htk, hrB⟩, by show L.length - (i + 1) < L.length - i; omega⟩
                    · skip
                      ((conv => whnf); repeat (any_goals (first | (refine Vc.stp ?_; intros; (conv => whnf)))))
                      rename_i HC hsC hbC hxC
                      have htk : takeF o x.k = some (o ++ [8]) := by unfold takeF; rw [if_pos (by omega), if_neg h8, hk]
                      refine app2 (v := 2) (o9 := o ++ [8]) (by rw [opV_append]; rfl) (by simp) (hp8.grow hxC) hbC ?_
                      intro a9 c9 HD hrD hwD
                      have hbD := (hb8.ext hxC).keep hwD (hna _ (by omega))
                      have hzD := hrD.ext.size
                      ((conv => whnf); repeat (any_goals (first | (refine Vc.stp ?_; intros; (conv => whnf)))))
                      rename_i HE hsE hbE hxE
                      refine app hrD hxE hbE ?_
                      intro a8 c8 HB hrB
                      ((conv => whnf); repeat (any_goals (first | (refine Vc.stp ?_; intros; (conv => whnf)))))
                      exact ⟨⟨i + 1, out ++ [x], a8, c8, o ++ [8], a9, c9⟩, ⟨rfl, by show Value.slice a8 (out.length + 1) c8 = Value.slice a8 (out ++ [x]).length c8; rw [List.length_append]; rfl, by show Value.slice a9 (o.length + 1) c9 = Value.slice a9 (o ++ [8]).length c9; rw [List.length_append]; rfl, trivial⟩, ⟨by show i + 1 ≤ _; omega, by show (out ++ [x]).length ≤ 200; rw [List.length_append]; show out.length + 1 ≤ 200; omega, takeF_len htk ho8, hsome _ htk, hrB⟩, by show L.length - (i + 1) < L.length - i; omega⟩
                · have k7 : x.k ≠ 7 := fun e => h78 (.inl e)
                  have k8 : x.k ≠ 8 := fun e => h78 (.inr e)
                  by_cases k9 : x.k = 9
                  · have ht : takeF o x.k = if o.getLast? = some 7 then some (o.dropLast ++ [9]) else none := by unfold takeF; rw [if_neg h78, if_pos k9]
                    rcases List.eq_nil_or_concat o with h0 | ⟨q, m, h0⟩
                    · subst h0
                      have hz : ([] : List Nat).length = 0 := rfl
                      ((conv => whnf); repeat (any_goals (first | (refine Vc.stp ?_; intros; (conv => whnf)))))
                      exact ⟨by rw [hnone (by rw [ht]; rfl)]; rfl, hp8.ext⟩
                    · rw [List.concat_eq_append] at h0
                      subst h0
                      have hqn : (q ++ [m]).length = q.length + 1 := by simp
                      rw [List.getLast?_concat, List.dropLast_concat] at ht
                      obtain ⟨gb, ha⟩ : ∃ gb, a = some ⟨gb, 0, none⟩ := by
                        rcases hp3.op.out with ⟨_, h0, _⟩ | ⟨gb, cur, ha, _⟩
                        · omega
                        · exact ⟨gb, ha⟩
                      subst ha
                      have hop8 := hp8.op
                      have hcl := Own.hcell hop8 (i := q.length) (v := .int .i64 (opc m : Int)) (by rw [opV_append, List.getElem?_append_right (by rw [opV_length]; omega), opV_length]; simp [opV, natV])
                      by_cases hm : m = 7
                      · have hc0 : opc m = 0 := by rw [hm]; rfl
                        rw [if_pos (by rw [hm])] at ht
                        ((conv => whnf); repeat (any_goals (first | ((refine IdxA.at1 q.length (by omega) (by omega) ?_); (conv => whnf)) | (refine Vc.stp ?_; intros; (conv => whnf)))))
                        refine DoH.store_own (o := 0 + q.length) hop8 rfl rfl rfl (by omega) ?_
                        intro HD hsD hoD hwD
                        have e9 : (opV (q ++ [m])).set (0 + q.length) (.int .i64 1) = opV (q ++ [9]) := by rw [Nat.zero_add, opV_append, opV_append, List.set_append_right _ _ (by rw [opV_length]; exact Nat.le_refl _), opV_length, Nat.sub_self]; rfl
                        have hln9 : (q ++ [9]).length = (q ++ [m]).length := by simp
                        have hrD : RInv H HD al cl L out ao co (q ++ [9]) (some ⟨gb, 0, none⟩) cap := hp8.open (by rw [hln9, ← e9]; exact hoD) (Wr.of_but hwD) fun p hp => .inl rfl
                        have hbD := hb8.but hwD fun e => hna H6.size (by omega) ⟨_, rfl, e.symm⟩
                        have hzD := hrD.ext.size
                        ((conv => whnf); repeat (any_goals (first | (refine Vc.stp ?_; intros; (conv => whnf)))))
                        rename_i HE hsE hbE hxE
                        refine app hrD hxE hbE ?_
                        intro a8 c8 HB hrB
                        ((conv => whnf); repeat (any_goals (first | (refine Vc.stp ?_; intros; (conv => whnf)))))
                        exact ⟨⟨i + 1, out ++ [x], a8, c8, q ++ [9], some ⟨gb, 0, none⟩, cap⟩, ⟨rfl, by show Value.slice a8 (out.length + 1) c8 = Value.slice a8 (out ++ [x]).length c8; rw [List.length_append]; rfl, by show Value.slice _ (q ++ [m]).length cap = Value.slice _ (q ++ [9]).length cap; rw [hln9], trivial⟩, ⟨by show i + 1 ≤ _; omega, by show (out ++ [x]).length ≤ 200; rw [List.length_append]; show out.length + 1 ≤ 200; omega, takeF_len ht ho8, hsome _ ht, hrB⟩, by show L.length - (i + 1) < L.length - i; omega⟩
                      · have hc0 : opc m = 1 ∨ opc m = 2 := by unfold opc; rw [if_neg hm]; split <;> simp
                        rw [if_neg (by intro e; cases e; exact hm rfl)] at ht
                        ((conv => whnf); repeat (any_goals (first | ((refine IdxA.at1 q.length (by omega) (by omega) ?_); (conv => whnf)) | (refine Vc.stp ?_; intros; (conv => whnf)))))
                        exact ⟨by rw [hnone ht]; rfl, hp8.ext⟩
                  · by_cases k10 : x.k = 10
                    · have ht : takeF o x.k = if o = [] then none else some o.dropLast := by unfold takeF; rw [if_neg h78, if_neg k9, if_pos k10]
                      by_cases h0 : o = []
                      · rw [if_pos h0] at ht
                        have hz : o.length = 0 := by rw [h0]; rfl
                        ((conv => whnf); repeat (any_goals (first | (refine Vc.stp ?_; intros; (conv => whnf)))))
                        exact ⟨by rw [hnone ht]; rfl, hp8.ext⟩
                      · rw [if_neg h0] at ht
                        have hpos := List.length_pos_iff.2 h0
                        have hcap := hp8.op.cap_le
                        have hrD : RInv H H8 al cl L out ao co o.dropLast a cap := by
                          have hc := hp8.op.cut (o.length - 1) (by omega)
                          have e : opV o.dropLast = (opV o).take ((o.length - 1) * 1) := by rw [Nat.mul_one, List.dropLast_eq_take]; simp [opV, natV, List.map_take]
                          rw [← e] at hc
                          exact hp8.open (by rw [List.length_dropLast]; exact hc) (Only.refl _ _) fun p hp => .inl rfl
                        ((conv => whnf); repeat (any_goals (first | ((refine BndH.nat (o.length - 1) (by omega) (by omega) ?_); (conv => whnf)) | (refine Vc.stp ?_; intros; (conv => whnf)))))
                        rename_i HE hsE hbE hxE
                        refine app hrD hxE hbE ?_
                        intro a8 c8 HB hrB
                        ((conv => whnf); repeat (any_goals (first | (refine Vc.stp ?_; intros; (conv => whnf)))))
                        exact ⟨⟨i + 1, out ++ [x], a8, c8, o.dropLast, a, cap⟩, ⟨rfl, by show Value.slice a8 (out.length + 1) c8 = Value.slice a8 (out ++ [x]).length c8; rw [List.length_append]; rfl, by show Value.slice a (o.length - 1) cap = Value.slice a o.dropLast.length cap; rw [List.length_dropLast], trivial⟩, ⟨by show i + 1 ≤ _; omega, by show (out ++ [x]).length ≤ 200; rw [List.length_append]; show out.length + 1 ≤ 200; omega, takeF_len ht ho8, hsome _ ht, hrB⟩, by show L.length - (i + 1) < L.length - i; omega⟩
                    · have ht : takeF o x.k = some o := by unfold takeF; rw [if_neg h78, if_neg k9, if_neg k10]
                      ((conv => whnf); repeat (any_goals (first | (refine Vc.stp ?_; intros; (conv => whnf)))))
                      rename_i HE hsE hbE hxE
                      refine app hp8 hxE hbE ?_
                      intro a8 c8 HB hrB
                      ((conv => whnf); repeat (any_goals (first | (refine Vc.stp ?_; intros; (conv => whnf)))))
                      exact ⟨⟨i + 1, out ++ [x], a8, c8, o, a, cap⟩, ⟨rfl, by show Value.slice a8 (out.length + 1) c8 = Value.slice a8 (out ++ [x]).length c8; rw [List.length_append]; rfl, rfl, trivial⟩, ⟨by show i + 1 ≤ _; omega, by show (out ++ [x]).length ≤ 200; rw [List.length_append]; show out.length + 1 ≤ 200; omega, takeF_len ht ho8, hsome _ ht, hrB⟩, by show L.length - (i + 1) < L.length - i; omega⟩
    · rw [List.drop_of_length_le (by omega)] at hinv
      rw [parseL] at hinv
      cases o with
      | nil =>
        rw [if_pos rfl] at hinv
        have hz0 : ([] : List Nat).length = 0 := rfl
        ((conv => whnf); repeat (any_goals (first | (refine Vc.stp ?_; intros; (conv => whnf)) | (refine Vc.spl ?_ ?_ <;> (intro _; (conv => whnf))))))
        rw [hinv]
        exact ⟨⟨ao, co, rfl, hp3.own⟩, hp3.ext⟩
      | cons k o =>
        rw [if_neg (by simp)] at hinv
        have hz0 : (k :: o).length = o.length + 1 := rfl
        ((conv => whnf); repeat (any_goals (first | (refine Vc.stp ?_; intros; (conv => whnf)) | (refine Vc.spl ?_ ?_ <;> (intro _; (conv => whnf))))))
        rw [hinv]
        exact ⟨rfl, hp3.ext⟩
end Go.Proofs.YtphkaogbcfdllaaGreatDoor
