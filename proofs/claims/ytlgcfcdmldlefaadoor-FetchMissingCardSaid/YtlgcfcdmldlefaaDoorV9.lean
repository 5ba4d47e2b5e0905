import Derived.Test.YtlgcfcdmldlefaaDoorSa
import Derived.Test.YtlgcfcdmldlefaaDoorHr
import Derived.Test.YtlgcfcdmldlefaaDoorVo
set_option linter.unusedVariables false
set_option linter.unusedSimpArgs false
set_option maxRecDepth 100000
/- The document's versions: pieces of texts, numbers. -/
namespace Go.Proofs.YtlgcfcdmldlefaaDoor
open Go Go.Vc

/-- pieces between bytes c of the first i places of a text: from, to; where the next begins -/
def splitS (l : List UInt8) (c : Int) : Nat → List (Nat × Nat) × Nat
  | 0 => ([], 0)
  | i + 1 => let s := splitS l c i; if i = l.length ∨ ((l.getD i 0).toNat : Int) = c then (s.1 ++ [(s.2, i)], i + 1) else s
def pieces (s : ByteArray) (c : Int) : List ByteArray := (splitS s.data.toList c (s.size + 1)).1.map fun p => s.extract p.1 p.2
def strs (l : List ByteArray) : List Value := l.map Value.string
theorem strs_plain (l : List ByteArray) : ∀ u ∈ strs l, plainV u = true := by
  intro u hu; obtain ⟨b, _, rfl⟩ := List.mem_map.1 hu; rfl
theorem splitS_le (l : List UInt8) (c : Int) : ∀ i, (splitS l c i).2 ≤ i ∧ (splitS l c i).1.length ≤ i
  | 0 => ⟨Nat.le_refl _, Nat.le_refl _⟩
  | i + 1 => by
    have := splitS_le l c i
    unfold splitS
    dsimp only
    split
    · exact ⟨Nat.le_refl _, by rw [List.length_append, List.length_singleton]; omega⟩
    · omega
def piecesTo (s : ByteArray) (c : Int) (i : Nat) : List ByteArray := (splitS s.data.toList c i).1.map fun p => s.extract p.1 p.2

theorem split_any (s : ByteArray) (c : Int) (hm : s.size ≤ 1000000) (H : Heap) : CallH Tryd.prog 81 [.string s, .int .u8 c] H fun v H' => (∃ a cap, v = .slice a (pieces s c).length cap ∧ Own H' H.size 9 1 a (pieces s c).length cap (strs (pieces s c))) ∧ Ext H H' := by
  have hsl : s.data.toList.length = s.size := by simp
  refine Vc.CallH.body Tryd.func81 Tryd.call81 rfl (by decide +kernel) rfl ?_
  ((conv => whnf); repeat (any_goals (first | (refine Vc.sts ?_; (conv => whnf)))))
  refine LoopH.intro (fun (t : Nat × Option Addr × Nat) => [(7, .int .i64 t.1), (6, .int .i64 (splitS s.data.toList c t.1).2), (5, .slice t.2.1 (piecesTo s c t.1).length t.2.2)])
    (fun t H' => t.1 ≤ s.size + 1 ∧ Own H' H.size 9 1 t.2.1 (piecesTo s c t.1).length t.2.2 (strs (piecesTo s c t.1)) ∧ Ext H H') (fun t => s.size + 1 - t.1) (0, none, 0) ⟨rfl, rfl, rfl, trivial⟩ ⟨Nat.zero_le _, Own.nil _ _ _ _, Ext.refl _⟩ ?_
  rintro ⟨i, a, cap⟩ H1 ⟨hi, ho, hx⟩
  dsimp only at hi ho hx ⊢
  have hle := splitS_le s.data.toList c i
  have hpl : (piecesTo s c i).length ≤ i := by unfold piecesTo; rw [List.length_map]; exact hle.2
  by_cases hlt : i ≤ s.size
  · have hlt' : (i : Int) ≤ (s.size : Int) := by omega
    by_cases hc : i = s.size ∨ ((s.data.toList.getD i 0).toNat : Int) = c
    · have hst : splitS s.data.toList c (i + 1) = ((splitS s.data.toList c i).1 ++ [((splitS s.data.toList c i).2, i)], i + 1) := by
        show (if i = s.data.toList.length ∨ _ then _ else _) = _
        rw [hsl, if_pos hc]
      have hpt : piecesTo s c (i + 1) = piecesTo s c i ++ [s.extract (splitS s.data.toList c i).2 i] := by unfold piecesTo; rw [hst, List.map_append]; rfl
      generalize hf : (splitS s.data.toList c i).2 = f at *
      have fin : ∀ a2 cap2 H3, Own H3 H.size 9 1 a2 ((piecesTo s c i).length + 1) cap2 (strs (piecesTo s c i) ++ [.string (s.extract f i)]) → Ext H H3 → ∃ t : Nat × Option Addr × Nat, Bears [(7, .int .i64 ((i : Int) + 1)), (6, .int .i64 ((i : Int) + 1)), (5, .slice a2 ((piecesTo s c i).length + 1) cap2)] [(7, .int .i64 t.1), (6, .int .i64 (splitS s.data.toList c t.1).2), (5, .slice t.2.1 (piecesTo s c t.1).length t.2.2)] ∧ (t.1 ≤ s.size + 1 ∧ Own H3 H.size 9 1 t.2.1 (piecesTo s c t.1).length t.2.2 (strs (piecesTo s c t.1)) ∧ Ext H H3) ∧ s.size + 1 - t.1 < s.size + 1 - i := by
        intro a2 cap2 H3 ho3 hx3
        refine ⟨(i + 1, a2, cap2), ⟨rfl, ?_, ?_, trivial⟩, ⟨by omega, ?_, hx3⟩, by show s.size + 1 - (i + 1) < _; omega⟩
        · show Value.int _ _ = _; rw [hst]; rfl
        · show Value.slice _ _ _ = _; rw [hpt, List.length_append]; rfl
        · show Own _ _ _ _ _ (piecesTo s c (i + 1)).length _ _; rw [hpt, List.length_append]; unfold strs at *; rw [List.map_append]; exact ho3
      by_cases he : i = s.size
      · have hbe : ((i : Int) == (s.size : Int)) = true := by rw [beq_iff_eq]; omega
        ((conv => whnf); repeat (any_goals (first | ((refine SplitH.pos hbe ?_); (conv => whnf)) | ((refine BndH.nat i rfl (by omega) ?_); (conv => whnf)) | ((refine BndH.nat f rfl (by omega) ?_); (conv => whnf)) | (refine Vc.sts ?_; (conv => whnf)))))
        refine SemH.lit (vs := [_]) rfl rfl rfl rfl rfl rfl rfl ?_
        intro H2 hs2 hb2 hx2
        ((conv => whnf); repeat (any_goals (first | (refine Vc.sts ?_; (conv => whnf)))))
        refine NextH.append (i := Tryd.t9) (z := .string ⟨#[]⟩) (base := H.size) (news := [.string (s.extract f i)]) rfl ⟨_, rfl, fun _ h => by cases h⟩ rfl rfl rfl (ho.ext hx2) (Src.row (Blk.row (c := [.string (s.extract f i)]) hb2) rfl (fun u hu => by rw [List.mem_singleton.1 hu]; rfl)) (by unfold maxLen; omega) (by show ((piecesTo s c i).length + 1) * 16 ≤ _; omega) (by have := hx.size; have := hx2.size; omega) ?_
        intro a3 cap3 H3 ho3 hw3 _
        ((conv => whnf); repeat (any_goals (first | (refine Vc.sts ?_; (conv => whnf)))))
        exact fin a3 cap3 H3 ho3 (Only.trans (hx.trans hx2) hw3 fun b hb ⟨p, hp, hq⟩ => by have := (ho.block p hp).1; omega)
      · have hcc := hc.resolve_left he
        have hne : ((i : Int) == (s.size : Int)) = false := by rw [beq_eq_false_iff_ne]; omega
        ((conv => whnf); repeat (any_goals (first | ((refine SplitH.neg hne ?_); (conv => whnf)) | ((refine IdxH.nat i rfl (by omega) ?_); (conv => whnf)) | ((refine CondH.pos (by rw [beq_iff_eq]; exact hcc) ?_); (conv => whnf)) | ((refine BndH.nat i rfl (by omega) ?_); (conv => whnf)) | ((refine BndH.nat f rfl (by omega) ?_); (conv => whnf)) | (refine Vc.sts ?_; (conv => whnf)))))
        refine SemH.lit (vs := [_]) rfl rfl rfl rfl rfl rfl rfl ?_
        intro H2 hs2 hb2 hx2
        ((conv => whnf); repeat (any_goals (first | (refine Vc.sts ?_; (conv => whnf)))))
        refine NextH.append (i := Tryd.t9) (z := .string ⟨#[]⟩) (base := H.size) (news := [.string (s.extract f i)]) rfl ⟨_, rfl, fun _ h => by cases h⟩ rfl rfl rfl (ho.ext hx2) (Src.row (Blk.row (c := [.string (s.extract f i)]) hb2) rfl (fun u hu => by rw [List.mem_singleton.1 hu]; rfl)) (by unfold maxLen; omega) (by show ((piecesTo s c i).length + 1) * 16 ≤ _; omega) (by have := hx.size; have := hx2.size; omega) ?_
        intro a3 cap3 H3 ho3 hw3 _
        ((conv => whnf); repeat (any_goals (first | (refine Vc.sts ?_; (conv => whnf)))))
        exact fin a3 cap3 H3 ho3 (Only.trans (hx.trans hx2) hw3 fun b hb ⟨p, hp, hq⟩ => by have := (ho.block p hp).1; omega)
    · have hne : ((i : Int) == (s.size : Int)) = false := by rw [beq_eq_false_iff_ne]; omega
      have hst : splitS s.data.toList c (i + 1) = splitS s.data.toList c i := by
        show (if i = s.data.toList.length ∨ _ then _ else _) = _
        rw [hsl, if_neg hc]
      have hcc : ¬ ((s.data.toList.getD i 0).toNat : Int) = c := fun e => hc (.inr e)
      ((conv => whnf); repeat (any_goals (first | ((refine SplitH.neg hne ?_); (conv => whnf)) | ((refine IdxH.nat i rfl (by omega) ?_); (conv => whnf)) | ((refine CondH.neg (by rw [beq_eq_false_iff_ne]; exact hcc) ?_); (conv => whnf)) | (refine Vc.sts ?_; (conv => whnf)))))
      have hpt : piecesTo s c (i + 1) = piecesTo s c i := by unfold piecesTo; rw [hst]
      refine ⟨(i + 1, a, cap), ⟨rfl, ?_, ?_, trivial⟩, ⟨by omega, ?_, hx⟩, by show s.size + 1 - (i + 1) < _; omega⟩
      · show Value.int _ _ = Value.int _ (splitS _ _ (i + 1)).2; rw [hst]
      · show Value.slice _ _ _ = Value.slice _ (piecesTo s c (i + 1)).length _; rw [hpt]
      · show Own _ _ _ _ _ (piecesTo s c (i + 1)).length _ (strs (piecesTo s c (i + 1))); rw [hpt]; exact ho
  · obtain rfl : i = s.size + 1 := by omega
    ((conv => whnf); repeat (any_goals (first | (refine Vc.sts ?_; (conv => whnf)))))
    exact ⟨⟨a, cap, rfl, ho⟩, hx⟩

def isD (b : UInt8) : Bool := decide (48 ≤ b.toNat) && decide (b.toNat ≤ 57)
def digB (l : List UInt8) : Bool := l.all isD && !l.isEmpty
theorem digits_any (s : ByteArray) (hm : s.size ≤ 1000000) (H : Heap) : CallH Tryd.prog 112 [.string s] H fun v H' => v = .bool (digB s.data.toList) ∧ H = H' := by
  have hsl : s.data.toList.length = s.size := by simp
  refine Vc.CallH.body Tryd.func112 Tryd.call112 rfl (by decide +kernel) rfl ?_
  ((conv => whnf); repeat (any_goals (first | (refine Vc.sts ?_; (conv => whnf)))))
  refine LoopH.intro (fun (i : Nat) => [(3, .int .i64 i)]) (fun i H' => i ≤ s.size ∧ (∀ j, j < i → isD (s.data.toList.getD j 0) = true) ∧ H = H') (fun i => s.size - i) 0 ⟨rfl, trivial⟩ ⟨Nat.zero_le _, fun j hj => by omega, rfl⟩ ?_
  rintro i _ ⟨hi, hall, rfl⟩
  by_cases hlt : i < s.size
  · have hmem : s.data.toList.getD i 0 ∈ s.data.toList := by rw [List.getD_eq_getElem?_getD, List.getElem?_eq_getElem (by omega)]; exact List.getElem_mem _
    generalize hb : s.data.toList.getD i 0 = b at hmem
    by_cases h1 : b.toNat < 48
    · ((conv => whnf); repeat (any_goals (first | ((refine IdxH.nat i rfl hlt ?_; rw [hb]); (conv => whnf)) | ((refine SplitH.pos (by rw [decide_eq_true_eq]; omega) ?_); (conv => whnf)) | (refine Vc.sts ?_; (conv => whnf)))))
      refine ⟨?_, rfl⟩
      have : digB s.data.toList = false := by
        unfold digB
        have : s.data.toList.all isD = false := by
          rw [List.all_eq_false]
          exact ⟨b, hmem, by simp [isD]; omega⟩
        rw [this]; rfl
      rw [this]; rfl
    · by_cases h2 : 57 < b.toNat
      · ((conv => whnf); repeat (any_goals (first | ((refine IdxH.nat i rfl hlt ?_; rw [hb]); (conv => whnf)) | ((refine SplitH.neg (by rw [decide_eq_false_iff_not]; omega) ?_); (conv => whnf)) | (refine Vc.sts ?_; (conv => whnf)))))
        refine ⟨?_, rfl⟩
        have : digB s.data.toList = false := by
          unfold digB
          have : s.data.toList.all isD = false := by
            rw [List.all_eq_false]
            exact ⟨b, hmem, by simp [isD]; omega⟩
          rw [this]; rfl
        rw [this]; rfl
      · ((conv => whnf); repeat (any_goals (first | ((refine IdxH.nat i rfl hlt ?_; rw [hb]); (conv => whnf)) | ((refine SplitH.neg (by rw [decide_eq_false_iff_not]; omega) ?_); (conv => whnf)) | (refine Vc.sts ?_; (conv => whnf)))))
        refine ⟨i + 1, ⟨rfl, trivial⟩, ⟨by omega, fun j hj => ?_, rfl⟩, by omega⟩
        by_cases hji : j = i
        · subst hji; rw [hb]; simp [isD]; omega
        · exact hall j (by omega)
  · obtain rfl : i = s.size := by omega
    ((conv => whnf); repeat (any_goals (first | (refine Vc.sts ?_; (conv => whnf)))))
    refine ⟨?_, rfl⟩
    have ha : s.data.toList.all isD = true := by
      rw [List.all_eq_true]
      intro b hb
      obtain ⟨j, hj, rfl⟩ := List.getElem_of_mem hb
      have := hall j (by omega)
      rwa [List.getD_eq_getElem?_getD, List.getElem?_eq_getElem hj] at this
    unfold digB
    rw [ha]
    show Value.bool (!(s.toList == (⟨#[]⟩ : ByteArray).toList)) = _
    rw [ByteArray.toList_eq, ByteArray.toList_eq]
    cases s.data.toList <;> rfl

def numL (l : List UInt8) : Nat := l.foldl (fun n b => 10 * n + (b.toNat - 48)) 0
def numOk (l : List UInt8) : Bool := digB l && !(decide (1 < l.length) && (l.getD 0 0).toNat == 48) && decide (l.length ≤ 10)
theorem numL_snoc (l : List UInt8) (i : Nat) (h : i < l.length) : numL (l.take (i + 1)) = 10 * numL (l.take i) + ((l.getD i 0).toNat - 48) := by
  unfold numL
  rw [List.take_succ_eq_append_getElem h, List.foldl_append]
  simp [List.getD_eq_getElem?_getD, h]
theorem digB_get {l : List UInt8} (h : digB l = true) {i : Nat} (hi : i < l.length) : 48 ≤ (l.getD i 0).toNat ∧ (l.getD i 0).toNat ≤ 57 := by
  unfold digB at h
  simp only [Bool.and_eq_true] at h
  have := List.all_eq_true.1 h.1 l[i] (List.getElem_mem hi)
  simp [isD] at this
  rw [List.getD_eq_getElem?_getD, List.getElem?_eq_getElem hi]
  exact this
theorem numL_lt {l : List UInt8} (h : digB l = true) : ∀ i, i ≤ l.length → numL (l.take i) < 10 ^ i
  | 0, _ => by simp [numL]
  | i + 1, hi => by
    have ih := numL_lt h i (by omega)
    have := digB_get h (i := i) (by omega)
    rw [numL_snoc l i (by omega), Nat.pow_succ]
    omega
theorem numOk_iff (l : List UInt8) : numOk l = true ↔ digB l = true ∧ ¬ (1 < l.length ∧ (l.getD 0 0).toNat = 48) ∧ l.length ≤ 10 := by
  unfold numOk
  simp only [Bool.and_eq_true, Bool.not_eq_true', Bool.and_eq_false_iff, decide_eq_true_eq, decide_eq_false_iff_not, beq_eq_false_iff_ne]
  constructor
  · rintro ⟨⟨h1, h2⟩, h3⟩
    exact ⟨h1, fun ⟨h4, h5⟩ => h2.elim (fun h => h h4) (fun h => h h5), h3⟩
  · rintro ⟨h1, h2, h3⟩
    refine ⟨⟨h1, ?_⟩, h3⟩
    by_cases h : 1 < l.length
    · exact .inr fun h5 => h2 ⟨h, h5⟩
    · exact .inl h
def numV (l : List UInt8) (most : Int) : Value := .tuple #[.int .i64 (if numOk l then (numL l : Int) else 0), .bool (numOk l && decide ((numL l : Int) ≤ most))]
theorem number_any (s : ByteArray) (most : Int) (hm : s.size ≤ 1000000) (H : Heap) : CallH Tryd.prog 83 [.string s, .int .i64 most] H fun v H' => v = numV s.data.toList most ∧ H = H' := by
  have hsl : s.data.toList.length = s.size := by simp
  unfold numV
  refine Vc.CallH.body Tryd.func83 Tryd.call83 rfl (by decide +kernel) rfl ?_
  cases hd : digB s.data.toList
  · have hok : numOk s.data.toList = false := by unfold numOk; rw [hd]; rfl
    rw [hok]
    ((conv => whnf); repeat (any_goals (first | ((refine (digits_any s hm _).mono ?_; rw [hd]; rintro _ _ ⟨rfl, rfl⟩); (conv => whnf)) | ((refine SplitH.pos rfl ?_); (conv => whnf)) | (refine Vc.sts ?_; (conv => whnf)))))
    exact ⟨rfl, rfl⟩
  · have hne : 0 < s.size := by
      unfold digB at hd
      simp only [Bool.and_eq_true, Bool.not_eq_true', List.isEmpty_eq_false_iff] at hd
      have := List.length_pos_iff.2 hd.2
      omega
    have hpow : (10 : Nat) ^ 10 = 10000000000 := by decide
    have loop : ∀ i, i ≤ s.size → s.size ≤ 10 → numL (s.data.toList.take i) < 10000000000 := fun i hi hs => by
      have h1 := numL_lt hd i (by omega)
      have h2 : (10 : Nat) ^ i ≤ 10 ^ 10 := Nat.pow_le_pow_right (by decide) (by omega)
      omega
    by_cases h1 : 1 < s.size
    · by_cases h0 : (s.data.toList.getD 0 0).toNat = 48
      · skip
        have hok : numOk s.data.toList = false := by rw [Bool.eq_false_iff]; intro h; rw [numOk_iff, hsl] at h; exact h.2.1 ⟨h1, h0⟩
        rw [hok]
        ((conv => whnf); repeat (any_goals (first | ((refine (digits_any s hm _).mono ?_; rw [hd]; rintro _ _ ⟨rfl, rfl⟩); (conv => whnf)) | ((refine SplitH.neg rfl ?_); (conv => whnf)) | ((refine IdxH.nat 0 rfl (by omega) ?_); (conv => whnf)) | ((refine SplitH.pos (by rw [decide_eq_true_eq]; omega) ?_); (conv => whnf)) | ((refine SplitH.pos (by rw [beq_iff_eq]; omega) ?_); (conv => whnf)) | ((refine SplitH.pos rfl ?_); (conv => whnf)) | (refine Vc.sts ?_; (conv => whnf)))))
        exact ⟨rfl, rfl⟩
      · by_cases h3 : s.size ≤ 10
        · skip
          have hok : numOk s.data.toList = true := by rw [numOk_iff, hsl]; exact ⟨hd, fun h => h0 h.2, h3⟩
          rw [hok]
          ((conv => whnf); repeat (any_goals (first | ((refine (digits_any s hm _).mono ?_; rw [hd]; rintro _ _ ⟨rfl, rfl⟩); (conv => whnf)) | ((refine SplitH.neg rfl ?_); (conv => whnf)) | ((refine IdxH.nat 0 rfl (by omega) ?_); (conv => whnf)) | ((refine SplitH.pos (by rw [decide_eq_true_eq]; omega) ?_); (conv => whnf)) | ((refine SplitH.neg (by rw [beq_eq_false_iff_ne]; omega) ?_); (conv => whnf)) | (refine Vc.sts ?_; (conv => whnf)))))
          refine LoopH.intro (fun (i : Nat) => [(7, .int .i64 i), (6, .int .i64 (numL (s.data.toList.take i)))]) (fun i H' => i ≤ s.size ∧ H = H') (fun i => s.size - i) 0 ⟨rfl, rfl, trivial⟩ ⟨Nat.zero_le _, rfl⟩ ?_
          rintro i _ ⟨hi, rfl⟩
          have hli := loop i hi h3
          by_cases hlt : i < s.size
          · have hdg := digB_get hd (i := i) (by omega)
            have hsn := numL_snoc s.data.toList i (by omega)
            have hln := loop (i + 1) hlt h3
            generalize hb : s.data.toList.getD i 0 = b at hdg hsn
            ((conv => whnf); repeat (any_goals (first | ((refine IdxH.nat i rfl hlt ?_; rw [hb]); (conv => whnf)) | (refine Vc.sts ?_; (conv => whnf)))))
            exact ⟨i + 1, ⟨rfl, by show Value.int _ _ = Value.int _ _; rw [hsn]; congr 1; omega, trivial⟩, ⟨by omega, rfl⟩, by omega⟩
          · obtain rfl : i = s.size := by omega
            ((conv => whnf); repeat (any_goals (first | (refine Vc.sts ?_; (conv => whnf)))))
            refine ⟨?_, rfl⟩
            rw [List.take_of_length_le (by omega)]
            rfl
        · skip
          have hok : numOk s.data.toList = false := by rw [Bool.eq_false_iff]; intro h; rw [numOk_iff, hsl] at h; exact h.2.2 |> h3
          rw [hok]
          ((conv => whnf); repeat (any_goals (first | ((refine (digits_any s hm _).mono ?_; rw [hd]; rintro _ _ ⟨rfl, rfl⟩); (conv => whnf)) | ((refine SplitH.neg rfl ?_); (conv => whnf)) | ((refine IdxH.nat 0 rfl (by omega) ?_); (conv => whnf)) | ((refine SplitH.pos (by rw [decide_eq_true_eq]; omega) ?_); (conv => whnf)) | ((refine SplitH.neg (by rw [beq_eq_false_iff_ne]; omega) ?_); (conv => whnf)) | (refine Vc.sts ?_; (conv => whnf)))))
          exact ⟨rfl, rfl⟩
    · have h3 : s.size ≤ 10 := by omega
      have hok : numOk s.data.toList = true := by rw [numOk_iff, hsl]; exact ⟨hd, fun h => h1 h.1, h3⟩
      rw [hok]
      ((conv => whnf); repeat (any_goals (first | ((refine (digits_any s hm _).mono ?_; rw [hd]; rintro _ _ ⟨rfl, rfl⟩); (conv => whnf)) | ((refine SplitH.neg rfl ?_); (conv => whnf)) | ((refine IdxH.nat 0 rfl (by omega) ?_); (conv => whnf)) | ((refine SplitH.neg (by rw [decide_eq_false_iff_not]; omega) ?_); (conv => whnf)) | (refine Vc.sts ?_; (conv => whnf)))))
      refine LoopH.intro (fun (i : Nat) => [(7, .int .i64 i), (6, .int .i64 (numL (s.data.toList.take i)))]) (fun i H' => i ≤ s.size ∧ H = H') (fun i => s.size - i) 0 ⟨rfl, rfl, trivial⟩ ⟨Nat.zero_le _, rfl⟩ ?_
      rintro i _ ⟨hi, rfl⟩
      have hli := loop i hi h3
      by_cases hlt : i < s.size
      · have hdg := digB_get hd (i := i) (by omega)
        have hsn := numL_snoc s.data.toList i (by omega)
        have hln := loop (i + 1) hlt h3
        generalize hb : s.data.toList.getD i 0 = b at hdg hsn
        ((conv => whnf); repeat (any_goals (first | ((refine IdxH.nat i rfl hlt ?_; rw [hb]); (conv => whnf)) | (refine Vc.sts ?_; (conv => whnf)))))
        exact ⟨i + 1, ⟨rfl, by show Value.int _ _ = Value.int _ _; rw [hsn]; congr 1; omega, trivial⟩, ⟨by omega, rfl⟩, by omega⟩
      · obtain rfl : i = s.size := by omega
        ((conv => whnf); repeat (any_goals (first | (refine Vc.sts ?_; (conv => whnf)))))
        refine ⟨?_, rfl⟩
        rw [List.take_of_length_le (by omega)]
        rfl

def verC (mj mn pt : Int) : Array Value := #[.int .i64 mj, .int .i64 mn, .int .i64 pt, .slice none 0 0]
/-- a version of three numbers, with nothing behind a - -/
theorem version3_any (s p0 p1 p2 : ByteArray) (hm : s.size ≤ 1000000) (hd : ∀ i, i < s.size → (s.data.toList.getD i 0).toNat ≠ 45) (hp : pieces s 46 = [p0, p1, p2]) (h0 : numOk p0.data.toList = true ∧ numL p0.data.toList ≤ 999999999) (h1 : numOk p1.data.toList = true ∧ numL p1.data.toList ≤ 999999999) (h2 : numOk p2.data.toList = true ∧ numL p2.data.toList ≤ 999999999)
    (hz0 : p0.size ≤ 1000000) (hz1 : p1.size ≤ 1000000) (hz2 : p2.size ≤ 1000000) (H : Heap) :
    CallH Tryd.prog 49 [.string s] H fun v H' => v = .tuple #[.agg (verC (numL p0.data.toList) (numL p1.data.toList) (numL p2.data.toList)), .int .i64 0] ∧ Ext H H' := by
  have hv : ∀ p : ByteArray, numOk p.data.toList = true ∧ numL p.data.toList ≤ 999999999 → numV p.data.toList 999999999 = .tuple #[.int .i64 (numL p.data.toList : Int), .bool true] := fun p hp => by
    have : ((numL p.data.toList : Int) ≤ 999999999) := by omega
    unfold numV; rw [hp.1]; simp [this]
  refine Vc.CallH.body Tryd.func49 Tryd.call49 rfl (by decide +kernel) rfl ?_
  ((conv => whnf); repeat (any_goals (first | (refine Vc.sts ?_; (conv => whnf)))))
  refine SemH.alloc rfl rfl ?_
  intro H1 hs1 hb1 hx1
  ((conv => whnf); repeat (any_goals (first | (refine Vc.sts ?_; (conv => whnf)))))
  refine SemH.alloc rfl rfl ?_
  intro H2 hs2 hb2 hx2
  ((conv => whnf); repeat (any_goals (first | (refine Vc.sts ?_; (conv => whnf)))))
  refine LoopH.intro (fun (i : Nat) => [(6, .int .i64 i), (5, .string s)]) (fun i H' => i ≤ s.size ∧ H2 = H') (fun i => s.size - i) 0 ⟨rfl, rfl, trivial⟩ ⟨Nat.zero_le _, rfl⟩ ?_
  rintro i _ ⟨hi, rfl⟩
  by_cases hlt : i < s.size
  · have hdi := hd i hlt
    ((conv => whnf); repeat (any_goals (first | ((refine IdxH.nat i rfl hlt ?_); (conv => whnf)) | (refine Vc.sts ?_; (conv => whnf)))))
    exact ⟨i + 1, ⟨rfl, rfl, trivial⟩, ⟨by omega, rfl⟩, by omega⟩
  · obtain rfl : i = s.size := by omega
    have hsp : CallH Tryd.prog 81 [.string s, .int .u8 46] H2 fun v H' => (∃ g cap, v = .slice (some ⟨g, 0, none⟩) 3 cap ∧ Own H' H2.size 9 1 (some ⟨g, 0, none⟩) 3 cap [.string p0, .string p1, .string p2]) ∧ Ext H2 H' := by
      have := split_any s 46 hm H2
      rw [hp] at this
      refine this.mono ?_
      rintro v H' ⟨⟨a, cap, rfl, ho⟩, hx⟩
      rcases ho.out with ⟨_, h0, _⟩ | ⟨g, cur, rfl, _⟩
      · cases h0
      · exact ⟨⟨g, cap, rfl, ho⟩, hx⟩
    ((conv => whnf); repeat (any_goals (first | ((refine hsp.mono ?_; rintro _ H3 ⟨⟨g, cap, rfl, ho⟩, hx3⟩); (conv => whnf)) | ((refine CondH.neg (by rw [bne_eq_false_iff_eq]; rfl) ?_); (conv => whnf)) | ((refine IdxA.at1 0 rfl (by omega) ?_); (conv => whnf)) | ((refine IdxA.at1 1 rfl (by omega) ?_); (conv => whnf)) | ((refine IdxA.at1 2 rfl (by omega) ?_); (conv => whnf)) | (((with_reducible apply SemH.load); (focus (rfl)); (focus (exact Own.hcell ho (i := 0) rfl))); (conv => whnf)) | ((refine (number_any p0 _ hz0 _).mono ?_; rw [hv p0 h0]; rintro _ _ ⟨rfl, rfl⟩); (conv => whnf)) | ((refine (number_any p1 _ hz1 _).mono ?_; rw [hv p1 h1]; rintro _ _ ⟨rfl, rfl⟩); (conv => whnf)) | ((refine (number_any p2 _ hz2 _).mono ?_; rw [hv p2 h2]; rintro _ _ ⟨rfl, rfl⟩); (conv => whnf)) | (((with_reducible apply SemH.load); (focus (rfl)); (focus (exact Own.hcell ho (i := 1) rfl))); (conv => whnf)) | (((with_reducible apply SemH.load); (focus (rfl)); (focus (exact Own.hcell ho (i := 2) rfl))); (conv => whnf)) | ((refine SplitH.neg rfl ?_); (conv => whnf)) | (refine Vc.sts ?_; (conv => whnf)))))
    have hb3 := hb2.ext hx3
    refine DoH.store1 (o := 0 + 0) hb3 rfl rfl rfl (by show 0 + 0 < 4; omega) ?_
    intro H4 hs4 hb4 hx4
    ((conv => whnf); repeat (any_goals (first | (refine Vc.sts ?_; (conv => whnf)))))
    refine DoH.store1 (o := 0 + 1) hb4 rfl rfl rfl (by rw [Array.size_setIfInBounds]; show 0 + 1 < 4; omega) ?_
    intro H5 hs5 hb5 hx5
    ((conv => whnf); repeat (any_goals (first | (refine Vc.sts ?_; (conv => whnf)))))
    refine DoH.store1 (o := 0 + 2) hb5 rfl rfl rfl (by rw [Array.size_setIfInBounds, Array.size_setIfInBounds]; show 0 + 2 < 4; omega) ?_
    intro H6 hs6 hb6 hx6
    replace hb6 : Blk H6 H1.size (verC (numL p0.data.toList) (numL p1.data.toList) (numL p2.data.toList)) 58 := hb6
    have e26 : But H1.size H2 H6 := ((hx3.only.trans hx4 fun _ _ => id).trans hx5 fun _ _ => id).trans hx6 fun _ _ => id
    ((conv => whnf); repeat (any_goals (first | ((refine SemH.load_blk hb6 rfl rfl rfl ?_); (conv => whnf)) | (refine Vc.sts ?_; (conv => whnf)))))
    have hlt1 := hb1.lt
    have hz2 := hx2.size
    refine DoH.put_all (((hb1.ext hx2).but e26 (by omega))) rfl rfl rfl rfl ?_
    intro H7 hs7 hb7 hx7
    ((conv => whnf); repeat (any_goals (first | ((refine SemH.load_blk hb7 rfl rfl rfl ?_); (conv => whnf)) | (refine Vc.sts ?_; (conv => whnf)))))
    refine ⟨rfl, ?_⟩
    (conv => whnf)
    exact ⟨rfl, ((hx1.trans hx2).but e26 (by omega)).but hx7 (by omega)⟩
def v100 : ByteArray := ⟨#[49, 46, 48, 46, 48]⟩
theorem version100 (H : Heap) : CallH Tryd.prog 49 [.string v100] H fun v H' => v = .tuple #[.agg (verC 1 0 0), .int .i64 0] ∧ Ext H H' :=
  version3_any v100 ⟨#[49]⟩ ⟨#[48]⟩ ⟨#[48]⟩ (by decide) (by decide +kernel) (by decide +kernel) (by decide +kernel) (by decide +kernel) (by decide +kernel) (by decide) (by decide) (by decide) H
end Go.Proofs.YtlgcfcdmldlefaaDoor
