import Derived.Test.YtphkaogbcfdllaaGreatDoorKb
import Derived.Test.YtphkaogbcfdllaaGreatDoorRows
import Derived.KernelRfl
import Derived.Test.YtphkaogbcfdllaaGreatDoorKc
set_option linter.unusedVariables false
set_option linter.unusedSimpArgs false
set_option maxRecDepth 100000
/- Build scripts, the code: words. -/
namespace Go.Proofs.YtphkaogbcfdllaaGreatDoor
open Go Go.Vc Go.Scr

theorem isB_nat (c : UInt8) : isB c = (c.toNat == 32 || c.toNat == 9) := by
  unfold isB
  have h : ∀ d : UInt8, (c == d) = (c.toNat == d.toNat) := fun d => by
    rw [Bool.eq_iff_iff, beq_iff_eq, beq_iff_eq]
    exact ⟨fun e => by rw [e], UInt8.toNat_inj.1⟩
  rw [h, h]; rfl
/-- how far the first word goes -/
def runF (l : Bs) : Nat := (l.takeWhile fun x => !isB x).length
theorem runF_le : ∀ l : Bs, runF l ≤ l.length
  | [] => Nat.le_refl _
  | c :: t => by
    unfold runF
    rw [List.takeWhile_cons]
    split
    · have := runF_le t; unfold runF at this; simp only [List.length_cons]; omega
    · simp
theorem runF_no : ∀ (l : Bs) (j : Nat), j < runF l → isB (l.getD j 0) = false
  | [], j, h => by simp [runF] at h
  | c :: t, j, h => by
    unfold runF at h
    rw [List.takeWhile_cons] at h
    split at h
    · rename_i hc
      cases j with
      | zero => simpa using hc
      | succ j => exact runF_no t j (by simpa [runF] using h)
    · simp at h
theorem runF_at : ∀ (l : Bs), runF l < l.length → isB (l.getD (runF l) 0) = true
  | [], h => by simp at h
  | c :: t, h => by
    unfold runF at h ⊢
    rw [List.takeWhile_cons] at h ⊢
    split
    · rename_i hc
      rw [if_pos hc] at h
      have := runF_at t (by simp only [List.length_cons] at h; unfold runF; omega)
      simpa [runF] using this
    · rename_i hc; simpa using hc
theorem runF_uniq {l : Bs} {p : Nat} (h1 : ∀ j, j < p → isB (l.getD j 0) = false) (h2 : p < l.length) (h3 : isB (l.getD p 0) = true) : runF l = p := by
  have hle := runF_le l
  rcases Nat.lt_trichotomy (runF l) p with h | h | h
  · have := runF_at l (by omega); rw [h1 _ h] at this; cases this
  · exact h
  · have := runF_no l p h; rw [h3] at this; cases this
theorem runF_all {l : Bs} (h1 : ∀ j, j < l.length → isB (l.getD j 0) = false) : runF l = l.length := by
  have hle := runF_le l
  rcases Nat.lt_or_ge (runF l) l.length with h | h
  · have := runF_at l h; rw [h1 _ h] at this; cases this
  · omega
theorem run_take (l : Bs) : l.takeWhile (fun x => !isB x) = l.take (runF l) := by
  unfold runF
  exact (List.prefix_iff_eq_take.1 (List.takeWhile_prefix _))
theorem run_drop : ∀ l : Bs, l.dropWhile (fun x => !isB x) = l.drop (runF l)
  | [] => rfl
  | c :: t => by
    unfold runF
    rw [List.takeWhile_cons, List.dropWhile_cons]
    split
    · rw [run_drop t]; rfl
    · rfl
end Go.Proofs.YtphkaogbcfdllaaGreatDoor
/- Build scripts, the code: texts in quotes, words. -/
namespace Go.Proofs.YtphkaogbcfdllaaGreatDoor
open Go Go.Vc Go.Scr

end Go.Proofs.YtphkaogbcfdllaaGreatDoor
/- Build scripts, the code: a line's words. -/
namespace Go.Proofs.YtphkaogbcfdllaaGreatDoor
open Go Go.Vc Go.Scr

def wordsR (H : Heap) (base : Nat) (v : Value) : Option (List Bs) → Prop
  | none => v = .tuple #[.slice none 0 0, .bool false]
  | some ws => ∃ a cap, v = .tuple #[.slice a ws.length cap, .bool true] ∧ Own H base 9 1 a ws.length cap (strs ws)
theorem run_cons {c : UInt8} {t : Bs} (h : isB c = false) : c :: t.takeWhile (fun x => !isB x) = (c :: t).take (runF (c :: t)) ∧ t.dropWhile (fun x => !isB x) = (c :: t).drop (runF (c :: t)) ∧ 0 < runF (c :: t) := by
  have e1 := run_take (c :: t)
  have e2 := run_drop (c :: t)
  rw [List.takeWhile_cons, if_pos (by rw [h]; rfl)] at e1
  rw [List.dropWhile_cons, if_pos (by rw [h]; rfl)] at e2
  refine ⟨e1, e2, ?_⟩
  have := congrArg List.length e1
  simp only [List.length_cons, List.length_take] at this
  omega
theorem quotedF_wlen : ∀ (n : Nat) (l : Bs), l.length ≤ n → ∀ {w r : Bs}, quotedF l = some (w, r) → w.length ≤ l.length
  | _, [], _, _, _, h => by simp [quotedF] at h
  | 0, c :: t, hn, _, _, _ => by simp at hn
  | n + 1, c :: t, hn, w, r, h => by
    simp only [List.length_cons] at hn ⊢
    unfold quotedF at h
    split at h
    · cases h; simp
    · split at h
      · split at h
        · cases h
        · rename_i d u
          simp only [List.length_cons] at hn ⊢
          split at h
          · cases hq : quotedF u with
            | none => rw [hq] at h; cases h
            | some p => rw [hq] at h; cases h; have := quotedF_wlen n u (by omega) (w := p.1) (r := p.2) hq; simp; omega
          · split at h
            · cases hq : quotedF u with
              | none => rw [hq] at h; cases h
              | some p => rw [hq] at h; cases h; have := quotedF_wlen n u (by omega) (w := p.1) (r := p.2) hq; simp; omega
            · cases h
      · cases hq : quotedF t with
        | none => rw [hq] at h; cases h
        | some p => rw [hq] at h; cases h; have := quotedF_wlen n t (by omega) (w := p.1) (r := p.2) hq; simp; omega
end Go.Proofs.YtphkaogbcfdllaaGreatDoor
/- Build scripts, the reference: a line's words. -/
namespace Go.Proofs.YtphkaogbcfdllaaGreatDoor
open Go Go.Vc Go.Scr

theorem isB_num {c : UInt8} (h : isB c = true) : c.toNat = 32 ∨ c.toNat = 9 := by rw [isB_nat, Bool.or_eq_true, beq_iff_eq, beq_iff_eq] at h; exact h
theorem isB_num_f {c : UInt8} (h : isB c = false) : c.toNat ≠ 32 ∧ c.toNat ≠ 9 := by rw [isB_nat, Bool.or_eq_false_iff, beq_eq_false_iff_ne, beq_eq_false_iff_ne] at h; exact h
theorem sl_snoc2 (a : Option Addr) (l : Bs) (c : UInt8) (cap : Nat) : Value.slice a ((34 :: l).length + 1) cap = Value.slice a (34 :: (l ++ [c])).length cap := by rw [List.length_cons, List.length_cons, List.length_append]; rfl
theorem own_snoc2 {H : Heap} {b : Nat} {e : TypeId} {a : Option Addr} {cap : Nat} {l : Bs} {c : UInt8} (h : Own H b e 1 a ((34 :: l).length + 1) cap (strV (34 :: l) ++ [.int .u8 c.toNat])) : Own H b e 1 a (34 :: (l ++ [c])).length cap (strV (34 :: (l ++ [c]))) := own_snoc (l := 34 :: l) h
structure QSt where
  j : Nat
  acc : Bs
  a : Option Addr
  cap : Nat
set_option maxHeartbeats 8000000 in
theorem rwords_any (s : Bs) (hl : s.length ≤ 1000000000) (H : Heap) : CallH Tryz.prog 57 [.string (mkS s)] H fun v H' => wordsR H' H.size v (wordsF s) ∧ Ext H H' := by
  obtain ⟨W, hW⟩ : ∃ W, wordsF s = W := ⟨_, rfl⟩
  rw [hW]
  have hsz : (mkS s).size = s.length := rfl
  refine Vc.CallH.body Tryz.func57 Tryz.call57 rfl (by decide +kernel) rfl ?_
  ((conv => whnf); repeat (any_goals (first | (refine Vc.sts ?_; (conv => whnf)))))
  refine LoopH.intro (fun (x : Nat × List Bs × Option Addr × Nat) => [(5, .int .i64 x.1), (4, .slice x.2.2.1 x.2.1.length x.2.2.2)]) (fun x H' => x.1 ≤ s.length ∧ x.2.1.length ≤ x.1 ∧ Own H' H.size 9 1 x.2.2.1 x.2.1.length x.2.2.2 (strs x.2.1) ∧ Ext H H' ∧ W = (wordsF (s.drop x.1)).map fun l => x.2.1 ++ l) (fun x => s.length - x.1) (0, [], none, 0) ⟨rfl, rfl, trivial⟩ ⟨Nat.zero_le _, Nat.le_refl _, Own.nil _ _ _ _, Ext.refl _, by show W = (wordsF s).map _; rw [hW]; cases W <;> rfl⟩ ?_
  rintro ⟨i, out, a, cap⟩ H2 ⟨hi, hol, ho2, hx2, hinv⟩
  dsimp only at hi hol ho2 hinv ⊢
  by_cases hlt : i < s.length
  · obtain ⟨c, hc, hdr⟩ := drop_get hlt
    rw [hdr] at hinv
    cases hb : isB c
    · obtain ⟨n32, n9⟩ := isB_num_f hb
      by_cases h34 : c = 34
      · subst h34
        rw [wordsF_quote] at hinv
        obtain ⟨Q, hQ⟩ : ∃ Q, quotedF (s.drop (i + 1)) = Q := ⟨_, rfl⟩
        rw [hQ] at hinv
        ((conv => whnf); repeat (any_goals (first | ((refine IdxH.nat i rfl (by omega) ?_; (conv => whnf); rw [hc]); (conv => whnf)) | (refine Vc.stp ?_; intros; (conv => whnf)) | (refine Vc.spl ?_ ?_ <;> (intro _; (conv => whnf))))))
        rename_i H3 hs3 hb3 hx3
        have hw3 : Own H3 H2.size 5 1 (some ⟨H2.size, 0, none⟩) 1 1 (strV [34]) := own_lit hb3 (Nat.le_refl _) rfl (by decide)
        refine LoopH.intro (fun (x : QSt) => [(5, .int .i64 x.j), (7, .slice x.a (34 :: x.acc).length x.cap)]) (fun x H' => i + 1 ≤ x.j ∧ x.j ≤ s.length ∧ x.acc.length ≤ x.j ∧ Own H' H2.size 5 1 x.a (34 :: x.acc).length x.cap (strV (34 :: x.acc)) ∧ Ext H2 H' ∧ Q = (quotedF (s.drop x.j)).map fun p => (x.acc ++ p.1, p.2)) (fun x => s.length - x.j) ⟨i + 1, [], _, _⟩ ⟨rfl, rfl, trivial⟩ ⟨Nat.le_refl _, by show i + 1 ≤ _; omega, Nat.zero_le _, hw3, hx3, by rw [← hQ]; cases quotedF (s.drop (i + 1)) <;> rfl⟩ ?_
        rintro ⟨j, acc, a2, c2⟩ H4 ⟨hj1, hj, hal, hw4, hx4, hq⟩
        dsimp only at hj1 hj hal hw4 hq ⊢
        have e4 : Ext H H4 := hx2.trans hx4
        have hal2 : (34 :: acc).length = acc.length + 1 := rfl
        by_cases hjl : j < s.length
        · obtain ⟨d, hd, hdr2⟩ := drop_get hjl
          rw [hdr2] at hq
          unfold quotedF at hq
          by_cases d34 : d = 34
          · subst d34
            rw [if_pos rfl] at hq
            simp only [Option.map_some, List.append_nil] at hq
            rw [hq] at hinv
            dsimp only at hinv
            have ho4 := ho2.ext hx4
            by_cases hend : j + 1 < s.length
            · obtain ⟨f, hf, hdr3⟩ := drop_get hend
              rw [hdr3] at hinv
              cases hbf : isB f
              · obtain ⟨m32, m9⟩ := isB_num_f hbf
                rw [if_pos (by simp [hbf])] at hinv
                ((conv => whnf); repeat (any_goals (first | ((refine IdxH.nat j rfl (by omega) ?_; (conv => whnf); rw [hd]); (conv => whnf)) | ((refine IdxH.nat (j + 1) rfl (by omega) ?_; (conv => whnf); rw [hf]); (conv => whnf)) | (refine Vc.stp ?_; intros; (conv => whnf)) | (refine Vc.spl ?_ ?_ <;> (intro _; (conv => whnf))))))
                rw [hinv]
                exact ⟨rfl, e4⟩
              · rw [if_neg (by simp [hbf])] at hinv
                have mB := isB_num hbf
                have fin : ∀ {H6 : Heap} {a6 : Option Addr} {c6 : Nat}, Own H6 H.size 9 1 a6 (out.length + 1) c6 (strs out ++ [.string ⟨(34 :: acc).toArray⟩]) → Own H6 H.size 9 1 a6 (out ++ [34 :: acc]).length c6 (strs (out ++ [34 :: acc])) := fun h => own_snocS rfl h
                have hinv' : W = (wordsF (s.drop (j + 1))).map fun l => (out ++ [34 :: acc]) ++ l := by rw [hinv, hdr3]; cases wordsF (f :: s.drop (j + 1 + 1)) <;> simp
                rcases mB with mB | mB
                · ((conv => whnf); repeat (any_goals (first | ((refine IdxH.nat j rfl (by omega) ?_; (conv => whnf); rw [hd]); (conv => whnf)) | ((refine IdxH.nat (j + 1) rfl (by omega) ?_; (conv => whnf); rw [hf]); (conv => whnf)) | (((with_reducible apply to_string'); (focus (rfl)); (focus (rfl)); (focus (rfl)); (focus (exact hw4.row)); (focus (rfl))); (conv => whnf)) | (refine Vc.stp ?_; intros; (conv => whnf)) | (refine Vc.spl ?_ ?_ <;> (intro _; (conv => whnf))))))
                  rename_i H5 hs5 hb5 hx5 a6 c6 H6 ho6 hx6
                  exact ⟨(j + 1, out ++ [34 :: acc], a6, c6), ⟨rfl, sl_snocS _ _ _ _, trivial⟩, ⟨by show j + 1 ≤ _; omega, by show (out ++ [34 :: acc]).length ≤ j + 1; simp; omega, fin ho6, hx6, hinv'⟩, by show s.length - (j + 1) < s.length - i; omega⟩
                · ((conv => whnf); repeat (any_goals (first | ((refine IdxH.nat j rfl (by omega) ?_; (conv => whnf); rw [hd]); (conv => whnf)) | ((refine IdxH.nat (j + 1) rfl (by omega) ?_; (conv => whnf); rw [hf]); (conv => whnf)) | (((with_reducible apply to_string'); (focus (rfl)); (focus (rfl)); (focus (rfl)); (focus (exact hw4.row)); (focus (rfl))); (conv => whnf)) | (refine Vc.stp ?_; intros; (conv => whnf)) | (refine Vc.spl ?_ ?_ <;> (intro _; (conv => whnf))))))
                  rename_i H5 hs5 hb5 hx5 a6 c6 H6 ho6 hx6
                  exact ⟨(j + 1, out ++ [34 :: acc], a6, c6), ⟨rfl, sl_snocS _ _ _ _, trivial⟩, ⟨by show j + 1 ≤ _; omega, by show (out ++ [34 :: acc]).length ≤ j + 1; simp; omega, fin ho6, hx6, hinv'⟩, by show s.length - (j + 1) < s.length - i; omega⟩
            · rw [List.drop_of_length_le (by omega), if_neg (by simp)] at hinv
              ((conv => whnf); repeat (any_goals (first | ((refine IdxH.nat j rfl (by omega) ?_; (conv => whnf); rw [hd]); (conv => whnf)) | (((with_reducible apply to_string'); (focus (rfl)); (focus (rfl)); (focus (rfl)); (focus (exact hw4.row)); (focus (rfl))); (conv => whnf)) | (refine Vc.stp ?_; intros; (conv => whnf)) | (refine Vc.spl ?_ ?_ <;> (intro _; (conv => whnf))))))
              rename_i H5 hs5 hb5 hx5 a6 c6 H6 ho6 hx6
              refine ⟨(j + 1, out ++ [34 :: acc], a6, c6), ⟨rfl, sl_snocS _ _ _ _, trivial⟩, ⟨by show j + 1 ≤ _; omega, by show (out ++ [34 :: acc]).length ≤ j + 1; simp; omega, own_snocS rfl ho6, hx6, ?_⟩, by show s.length - (j + 1) < s.length - i; omega⟩
              rw [hinv]; dsimp only; rw [List.drop_of_length_le (by omega), wordsF_nil]; simp
          · have m34 := ne_nat 34 (by decide) d34
            rw [if_neg d34] at hq
            by_cases d92 : d = 92
            · subst d92
              rw [if_pos rfl] at hq
              by_cases hend : j + 1 < s.length
              · obtain ⟨f, hf, hdr3⟩ := drop_get hend
                rw [hdr3] at hq
                dsimp only at hq
                by_cases hfq : f = 34 ∨ f = 92
                · rw [if_pos hfq] at hq
                  have hnat : f.toNat = 34 ∨ f.toNat = 92 := by rcases hfq with rfl | rfl <;> simp
                  have hq' : Q = (quotedF (s.drop (j + 1 + 1))).map fun p => ((acc ++ [f]) ++ p.1, p.2) := by rw [hq]; cases quotedF (s.drop (j + 1 + 1)) <;> simp
                  rcases hnat with hnat | hnat
                  · ((conv => whnf); repeat (any_goals (first | ((refine IdxH.nat j rfl (by omega) ?_; (conv => whnf); rw [hd]); (conv => whnf)) | ((refine IdxH.nat (j + 1) rfl (by omega) ?_; (conv => whnf); rw [hf]); (conv => whnf)) | (refine Vc.stp ?_; intros; (conv => whnf)) | (refine Vc.spl ?_ ?_ <;> (intro _; (conv => whnf))))))
                    rename_i H5 hs5 hb5 hx5 a6 c6 H6 ho6 hx6
                    exact ⟨⟨j + 1 + 1, acc ++ [f], a6, c6⟩, ⟨rfl, sl_snoc2 _ acc f _, trivial⟩, ⟨by show i + 1 ≤ j + 1 + 1; omega, by show j + 1 + 1 ≤ _; omega, by show (acc ++ [f]).length ≤ j + 1 + 1; simp; omega, own_snoc2 ho6, hx6, hq'⟩, by show s.length - (j + 1 + 1) < s.length - j; omega⟩
                  · ((conv => whnf); repeat (any_goals (first | ((refine IdxH.nat j rfl (by omega) ?_; (conv => whnf); rw [hd]); (conv => whnf)) | ((refine IdxH.nat (j + 1) rfl (by omega) ?_; (conv => whnf); rw [hf]); (conv => whnf)) | (refine Vc.stp ?_; intros; (conv => whnf)) | (refine Vc.spl ?_ ?_ <;> (intro _; (conv => whnf))))))
                    rename_i H5 hs5 hb5 hx5 a6 c6 H6 ho6 hx6
                    exact ⟨⟨j + 1 + 1, acc ++ [f], a6, c6⟩, ⟨rfl, sl_snoc2 _ acc f _, trivial⟩, ⟨by show i + 1 ≤ j + 1 + 1; omega, by show j + 1 + 1 ≤ _; omega, by show (acc ++ [f]).length ≤ j + 1 + 1; simp; omega, own_snoc2 ho6, hx6, hq'⟩, by show s.length - (j + 1 + 1) < s.length - j; omega⟩
                · rw [if_neg hfq] at hq
                  have f34 := ne_nat 34 (by decide) fun e => hfq (.inl e)
                  have f92 := ne_nat 92 (by decide) fun e => hfq (.inr e)
                  by_cases hfn : f = 110
                  · subst hfn
                    rw [if_pos rfl] at hq
                    have hq' : Q = (quotedF (s.drop (j + 1 + 1))).map fun p => ((acc ++ [10]) ++ p.1, p.2) := by rw [hq]; cases quotedF (s.drop (j + 1 + 1)) <;> simp
                    ((conv => whnf); repeat (any_goals (first | ((refine IdxH.nat j rfl (by omega) ?_; (conv => whnf); rw [hd]); (conv => whnf)) | ((refine IdxH.nat (j + 1) rfl (by omega) ?_; (conv => whnf); rw [hf]); (conv => whnf)) | (refine Vc.stp ?_; intros; (conv => whnf)) | (refine Vc.spl ?_ ?_ <;> (intro _; (conv => whnf))))))
                    rename_i H5 hs5 hb5 hx5 a6 c6 H6 ho6 hx6
                    exact ⟨⟨j + 1 + 1, acc ++ [10], a6, c6⟩, ⟨rfl, sl_snoc2 _ acc 10 _, trivial⟩, ⟨by show i + 1 ≤ j + 1 + 1; omega, by show j + 1 + 1 ≤ _; omega, by show (acc ++ [10]).length ≤ j + 1 + 1; simp; omega, own_snoc2 (c := 10) ho6, hx6, hq'⟩, by show s.length - (j + 1 + 1) < s.length - j; omega⟩
                  · have f110 := ne_nat 110 (by decide) hfn
                    rw [if_neg hfn] at hq
                    rw [hq] at hinv
                    ((conv => whnf); repeat (any_goals (first | ((refine IdxH.nat j rfl (by omega) ?_; (conv => whnf); rw [hd]); (conv => whnf)) | ((refine IdxH.nat (j + 1) rfl (by omega) ?_; (conv => whnf); rw [hf]); (conv => whnf)) | (refine Vc.stp ?_; intros; (conv => whnf)) | (refine Vc.spl ?_ ?_ <;> (intro _; (conv => whnf))))))
                    rw [hinv]; exact ⟨rfl, e4⟩
              · rw [List.drop_of_length_le (by omega)] at hq
                rw [hq] at hinv
                ((conv => whnf); repeat (any_goals (first | ((refine IdxH.nat j rfl (by omega) ?_; (conv => whnf); rw [hd]); (conv => whnf)) | (refine Vc.stp ?_; intros; (conv => whnf)) | (refine Vc.spl ?_ ?_ <;> (intro _; (conv => whnf))))))
                rw [hinv]; exact ⟨rfl, e4⟩
            · have m92 := ne_nat 92 (by decide) d92
              rw [if_neg d92] at hq
              have hq' : Q = (quotedF (s.drop (j + 1))).map fun p => ((acc ++ [d]) ++ p.1, p.2) := by rw [hq]; cases quotedF (s.drop (j + 1)) <;> simp
              ((conv => whnf); repeat (any_goals (first | ((refine IdxH.nat j rfl (by omega) ?_; (conv => whnf); rw [hd]); (conv => whnf)) | (refine Vc.stp ?_; intros; (conv => whnf)) | (refine Vc.spl ?_ ?_ <;> (intro _; (conv => whnf))))))
              rename_i H5 hs5 hb5 hx5 a6 c6 H6 ho6 hx6
              exact ⟨⟨j + 1, acc ++ [d], a6, c6⟩, ⟨rfl, sl_snoc2 _ acc d _, trivial⟩, ⟨by show i + 1 ≤ j + 1; omega, by show j + 1 ≤ _; omega, by show (acc ++ [d]).length ≤ j + 1; simp; omega, own_snoc2 ho6, hx6, hq'⟩, by show s.length - (j + 1) < s.length - j; omega⟩
        · rw [List.drop_of_length_le (by omega)] at hq
          rw [show quotedF [] = none from rfl] at hq
          rw [hq] at hinv
          ((conv => whnf); repeat (any_goals (first | (refine Vc.stp ?_; intros; (conv => whnf)) | (refine Vc.spl ?_ ?_ <;> (intro _; (conv => whnf))))))
          rw [hinv]; exact ⟨rfl, e4⟩
      · have n34 := ne_nat 34 (by decide) h34
        obtain ⟨e1, e2, e3⟩ := run_cons (t := s.drop (i + 1)) hb
        rw [wordsF_word hb h34, e1, e2, ← hdr] at hinv
        have hcd := drop_getD hdr
        ((conv => whnf); repeat (any_goals (first | ((refine IdxH.nat i rfl (by omega) ?_; (conv => whnf); rw [hc]); (conv => whnf)) | (refine Vc.stp ?_; intros; (conv => whnf)) | (refine Vc.spl ?_ ?_ <;> (intro _; (conv => whnf))))))
        refine LoopH.intro (fun (j : Nat) => [(5, .int .i64 j)]) (fun j H' => H2 = H' ∧ i ≤ j ∧ j ≤ s.length ∧ ∀ p, p < j - i → isB ((s.drop i).getD p 0) = false) (fun j => s.length - j) i ⟨rfl, trivial⟩ ⟨rfl, Nat.le_refl _, hi, fun p hp => by omega⟩ ?_
        rintro j _ ⟨rfl, hij, hjl, hno⟩
        have hdl : (s.drop i).length = s.length - i := by simp
        have fin : runF (s.drop i) = j - i → ∀ {H6 : Heap} {a6 : Option Addr} {c6 : Nat}, Own H6 H.size 9 1 a6 (out.length + 1) c6 (strs out ++ [.string ((mkS s).extract i j)]) → i < j ∧ Own H6 H.size 9 1 a6 (out ++ [(s.drop i).take (j - i)]).length c6 (strs (out ++ [(s.drop i).take (j - i)])) ∧ W = (wordsF (s.drop j)).map fun l => (out ++ [(s.drop i).take (j - i)]) ++ l := by
          intro hrun H6 a6 c6 ho6
          have hij' : i < j := by rw [← hdr, hrun] at e3; omega
          refine ⟨hij', own_snocS (mkS_ext _ _ _) ho6, ?_⟩
          rw [hinv, hrun, List.drop_drop, show i + (j - i) = j by omega]
          cases wordsF (s.drop j) <;> simp
        by_cases hjlt : j < s.length
        · obtain ⟨d, hd, hdr2⟩ := drop_get hjlt
          have hdd : (s.drop i).getD (j - i) 0 = d := by rw [getD_drop, show i + (j - i) = j by omega]; exact drop_getD hdr2
          cases hbd : isB d
          · obtain ⟨m32, m9⟩ := isB_num_f hbd
            ((conv => whnf); repeat (any_goals (first | ((refine IdxH.nat j rfl (by omega) ?_; (conv => whnf); rw [hd]); (conv => whnf)) | (refine Vc.stp ?_; intros; (conv => whnf)) | (refine Vc.spl ?_ ?_ <;> (intro _; (conv => whnf))))))
            refine ⟨j + 1, ⟨rfl, trivial⟩, ⟨rfl, by omega, by omega, fun p hp => ?_⟩, by omega⟩
            rcases Nat.lt_or_ge p (j - i) with h | h
            · exact hno p h
            · have : p = j - i := by omega
              rw [this, hdd]; exact hbd
          · have hrun : runF (s.drop i) = j - i := runF_uniq hno (by omega) (by rw [hdd]; exact hbd)
            rcases isB_num hbd with m | m
            · ((conv => whnf); repeat (any_goals (first | ((refine IdxH.nat j rfl (by omega) ?_; (conv => whnf); rw [hd]); (conv => whnf)) | ((refine BndH.nat j rfl (by omega) ?_); (conv => whnf)) | ((refine BndH.nat i rfl (by omega) ?_); (conv => whnf)) | (refine Vc.stp ?_; intros; (conv => whnf)) | (refine Vc.spl ?_ ?_ <;> (intro _; (conv => whnf))))))
              rename_i H5 hs5 hb5 hx5 a6 c6 H6 ho6 hx6
              obtain ⟨hij', ho7, hw7⟩ := fin hrun ho6
              exact ⟨(j, _, a6, c6), ⟨rfl, sl_snocS _ _ _ _, trivial⟩, ⟨hjl, by show (out ++ [_]).length ≤ j; rw [List.length_append]; show out.length + 1 ≤ j; omega, ho7, hx6, hw7⟩, by show s.length - j < s.length - i; omega⟩
            · ((conv => whnf); repeat (any_goals (first | ((refine IdxH.nat j rfl (by omega) ?_; (conv => whnf); rw [hd]); (conv => whnf)) | ((refine BndH.nat j rfl (by omega) ?_); (conv => whnf)) | ((refine BndH.nat i rfl (by omega) ?_); (conv => whnf)) | (refine Vc.stp ?_; intros; (conv => whnf)) | (refine Vc.spl ?_ ?_ <;> (intro _; (conv => whnf))))))
              rename_i H5 hs5 hb5 hx5 a6 c6 H6 ho6 hx6
              obtain ⟨hij', ho7, hw7⟩ := fin hrun ho6
              exact ⟨(j, _, a6, c6), ⟨rfl, sl_snocS _ _ _ _, trivial⟩, ⟨hjl, by show (out ++ [_]).length ≤ j; rw [List.length_append]; show out.length + 1 ≤ j; omega, ho7, hx6, hw7⟩, by show s.length - j < s.length - i; omega⟩
        · have hrun : runF (s.drop i) = j - i := by rw [runF_all fun p hp => hno p (by omega)]; omega
          ((conv => whnf); repeat (any_goals (first | ((refine BndH.nat j rfl (by omega) ?_); (conv => whnf)) | ((refine BndH.nat i rfl (by omega) ?_); (conv => whnf)) | (refine Vc.stp ?_; intros; (conv => whnf)) | (refine Vc.spl ?_ ?_ <;> (intro _; (conv => whnf))))))
          rename_i H5 hs5 hb5 hx5 a6 c6 H6 ho6 hx6
          obtain ⟨hij', ho7, hw7⟩ := fin hrun ho6
          exact ⟨(j, _, a6, c6), ⟨rfl, sl_snocS _ _ _ _, trivial⟩, ⟨hjl, by show (out ++ [_]).length ≤ j; rw [List.length_append]; show out.length + 1 ≤ j; omega, ho7, hx6, hw7⟩, by show s.length - j < s.length - i; omega⟩
    · rw [wordsF_blank hb] at hinv
      rcases isB_num hb with m | m
      · ((conv => whnf); repeat (any_goals (first | ((refine IdxH.nat i rfl (by omega) ?_; (conv => whnf); rw [hc]); (conv => whnf)) | (refine Vc.stp ?_; intros; (conv => whnf)) | (refine Vc.spl ?_ ?_ <;> (intro _; (conv => whnf))))))
        exact ⟨(i + 1, out, a, cap), ⟨rfl, rfl, trivial⟩, ⟨by show i + 1 ≤ _; omega, by show out.length ≤ i + 1; omega, ho2, hx2, hinv⟩, by show s.length - (i + 1) < s.length - i; omega⟩
      · ((conv => whnf); repeat (any_goals (first | ((refine IdxH.nat i rfl (by omega) ?_; (conv => whnf); rw [hc]); (conv => whnf)) | (refine Vc.stp ?_; intros; (conv => whnf)) | (refine Vc.spl ?_ ?_ <;> (intro _; (conv => whnf))))))
        exact ⟨(i + 1, out, a, cap), ⟨rfl, rfl, trivial⟩, ⟨by show i + 1 ≤ _; omega, by show out.length ≤ i + 1; omega, ho2, hx2, hinv⟩, by show s.length - (i + 1) < s.length - i; omega⟩
  · rw [List.drop_of_length_le (by omega), wordsF_nil] at hinv
    ((conv => whnf); repeat (any_goals (first | (refine Vc.stp ?_; intros; (conv => whnf)) | (refine Vc.spl ?_ ?_ <;> (intro _; (conv => whnf))))))
    rw [hinv]
    exact ⟨⟨a, cap, by simp; rfl, by simpa using ho2⟩, hx2⟩
end Go.Proofs.YtphkaogbcfdllaaGreatDoor
/- Build scripts: small functions of lines. -/
namespace Go.Proofs.YtphkaogbcfdllaaGreatDoor
open Go Go.Vc Go.Scr

def lineC (k : Int) (a b tx : Bs) (n : Int) (nt : Bool) : Array Value := #[.int .i64 k, .string (mkS a), .string (mkS b), .string (mkS tx), .int .i64 n, .bool nt]
def lnC (x : Ln) : Array Value := lineC x.k x.a x.b x.tx x.n x.nt
theorem plain_cons (c : UInt8) (t : Bs) : plainW (c :: t) = !((c.toNat : Int) == 34) := by
  unfold plainW
  rw [Bool.eq_iff_iff]
  simp only [List.head?_cons, bne_iff_ne, ne_eq, Option.some.injEq, Bool.not_eq_true', beq_eq_false_iff_ne]
  constructor
  · intro h e; exact h (UInt8.toNat_inj.1 (by show c.toNat = 34; omega))
  · intro h e; exact h (by rw [e]; rfl)
def capN : Option Nat → Option Nat
  | none => none
  | some n => if n ≤ 1000 then some n else none
end Go.Proofs.YtphkaogbcfdllaaGreatDoor
/- strings.TrimLeft of blanks. -/
namespace Go.Proofs.YtphkaogbcfdllaaGreatDoor
open Go Go.Vc Go.Scr

end Go.Proofs.YtphkaogbcfdllaaGreatDoor
/- Build scripts, the code: what is open. -/
namespace Go.Proofs.YtphkaogbcfdllaaGreatDoor
open Go Go.Vc Go.Scr

def natV (l : List Nat) : List Value := l.map fun (n : Nat) => Value.int .i64 (n : Int)
theorem natV_append (l m : List Nat) : natV (l ++ m) = natV l ++ natV m := by simp [natV]
/-- what an object g and the slice in it take up -/
def foot (g : Nat) (a : Option Addr) (x : Nat) : Prop := x = g ∨ ∃ p, a = some p ∧ p.block = x
/-- a shape: what is open -/
structure ShO (H : Heap) (base g : Nat) (o : List Nat) (a : Option Addr) (cap : Nat) : Prop where
  blk : Blk H g #[.slice a o.length cap] 298
  own : Own H base 3 1 a o.length cap (natV o)
  apart : ∀ p, a = some p → p.block ≠ g
  low : base ≤ g
theorem ShO.ext {H H' : Heap} {base g : Nat} {o : List Nat} {a : Option Addr} {cap : Nat} (h : ShO H base g o a cap) (k : Ext H H') : ShO H' base g o a cap := ⟨h.blk.ext k, h.own.ext k, h.apart, h.low⟩
end Go.Proofs.YtphkaogbcfdllaaGreatDoor
/- Build scripts: lines in a heap. -/
namespace Go.Proofs.YtphkaogbcfdllaaGreatDoor
open Go Go.Vc Go.Scr
def lnsV (l : List Ln) : List Value := l.flatMap fun x => (lnC x).toList
theorem lnsV_append (l m : List Ln) : lnsV (l ++ m) = lnsV l ++ lnsV m := by simp [lnsV]
theorem lnsV_length : ∀ l : List Ln, (lnsV l).length = l.length * 6
  | [] => rfl
  | x :: l => by
    have e : lnsV (x :: l) = (lnC x).toList ++ lnsV l := by simp [lnsV]
    rw [e, List.length_append, lnsV_length l]
    show 6 + _ = _
    rw [List.length_cons]; omega
def parseR (H : Heap) (base : Nat) (v : Value) : Option (List Ln) × Nat → Prop
  | (none, i) => v = .tuple #[.slice none 0 0, .int .i64 i, .int .i64 66]
  | (some ls, i) => ∃ a cap, v = .tuple #[.slice a ls.length cap, .int .i64 i, .int .i64 0] ∧ Own H base 43 6 a ls.length cap (lnsV ls)
def Apart (a b : Option Addr) : Prop := ∀ p q, a = some p → b = some q → p.block ≠ q.block
structure PSt where
  i : Nat
  out : List Ln
  ao : Option Addr
  co : Nat
  o : List Nat
  a : Option Addr
  cap : Nat
theorem lnsV_get : ∀ (L : List Ln) (j : Nat) (x : Ln) (k : Nat) (v : Value), L[j]? = some x → (lnC x)[k]? = some v → (lnsV L)[j * 6 + k]? = some v
  | [], j, x, k, v, h, _ => by simp at h
  | y :: L, 0, x, k, v, h, hv => by
    simp only [List.getElem?_cons_zero, Option.some.injEq] at h
    subst h
    have hk : k < 6 := (Array.getElem?_eq_some_iff.1 hv).1
    have e : lnsV (y :: L) = (lnC y).toList ++ lnsV L := by simp [lnsV]
    rw [e, Nat.zero_mul, Nat.zero_add, List.getElem?_append_left (by show k < 6; exact hk)]
    simpa using hv
  | y :: L, j + 1, x, k, v, h, hv => by
    have e : lnsV (y :: L) = (lnC y).toList ++ lnsV L := by simp [lnsV]
    have hl : (lnC y).toList.length = 6 := rfl
    rw [e, List.getElem?_append_right (by rw [hl]; omega), hl, show (j + 1) * 6 + k - 6 = j * 6 + k by omega]
    exact lnsV_get L j x k v (by simpa using h) hv
theorem IdxA.ln {H : Heap} {a : Option Addr} {L : List Ln} {n : Nat} {i : Int} {K : Addr → Prop} (h : Row H a (lnsV L)) (hn : L.length = n) (j : Nat) (x : Ln) (hi : i = j) (hx : L[j]? = some x)
    (hk : ∀ b o, (∀ k v, (lnC x)[k]? = some v → hcell H ⟨b, o + k, none⟩ = some v) → K ⟨b, o, none⟩) : IdxA a n 6 i K := by
  have hj := (List.getElem?_eq_some_iff.1 hx).1
  refine Go.Vc.IdxA.row (size := 6) h (by rw [lnsV_length, hn]) (by decide) j hi (by omega) fun b o h1 h2 h3 => ?_
  exact hk b (o + j * 6) fun k v hv => h3 k v (lnsV_get L j x k v hx hv)
theorem SemH.load_ln {H H0 : Heap} {b o : Nat} {x : Ln} {K : Value → Heap → Prop} (hc : ∀ k v, (lnC x)[k]? = some v → hcell H0 ⟨b, o + k, none⟩ = some v) (he : Ext H0 H) (hk : K (.agg (lnC x)) H) : SemH Tryz.prog (Instr.loadAt 43 (.pointer (some ⟨b, o, none⟩))) H K := by
  have := Go.Vc.SemH.load_agg (P := Tryz.prog) (t := 43) (H := H) (b := b) (o := o) (vs := (lnC x).toList) (K := K) rfl rfl rfl (fun j v hv => hcell_keep (hc j v (by simpa using hv)) he id) hk
  exact this
end Go.Proofs.YtphkaogbcfdllaaGreatDoor
/- Build scripts, plain: which lines belong together. -/
namespace Go.Blk
open Go.Scr
/-- behind a line: its else, its end, as the document looks for them -/
def endsG : List Nat → Nat → Option Nat → Nat → Option Nat × Nat
  | [], _, e, i => (e, i)
  | k :: r, d, e, i =>
    if k = 7 ∨ k = 8 then endsG r (d + 1) e (i + 1)
    else if k = 9 then endsG r d (if d = 0 then some i else e) (i + 1)
    else if k = 10 then (if d = 0 then (e, i) else endsG r (d - 1) e (i + 1))
    else endsG r d e (i + 1)
def endsF (K : List Nat) (h : Nat) : Option Nat × Nat := endsG (K.drop (h + 1)) 0 none (h + 1)
/-- what is open ahead of a line: heads, and what waits for its end; the innermost first -/
def stS (s : List (Nat × Nat)) (k i : Nat) : List (Nat × Nat) :=
  if k = 7 ∨ k = 8 then (i, i) :: s
  else if k = 9 then (match s with | [] => [] | (h, _) :: t => (h, i) :: t)
  else if k = 10 then s.tail
  else s
def stF (K : List Nat) : Nat → List (Nat × Nat)
  | 0 => []
  | i + 1 => match K[i]? with
    | some k => stS (stF K i) k i
    | none => stF K i
theorem stF_succ {K : List Nat} {i k : Nat} (h : K[i]? = some k) : stF K (i + 1) = stS (stF K i) k i := by rw [stF, h]
def nestG : List Nat → List Nat → Option (List Nat)
  | [], o => some o
  | k :: r, o => match takeF o k with
    | none => none
    | some o' => nestG r o'
/-- blocks stand within one another -/
def Nested (K : List Nat) : Prop := nestG K [] = some []
theorem nestG_append : ∀ (l m o : List Nat), nestG (l ++ m) o = match nestG l o with | none => none | some o' => nestG m o'
  | [], m, o => rfl
  | k :: l, m, o => by
    rw [List.cons_append, nestG, nestG]
    cases takeF o k with
    | none => rfl
    | some o' => exact nestG_append l m o'
theorem endsG_ge : ∀ (r : List Nat) (d : Nat) (e : Option Nat) (i : Nat), i ≤ (endsG r d e i).2
  | [], _, _, i => Nat.le_refl _
  | k :: r, d, e, i => by
    unfold endsG
    split
    · have := endsG_ge r (d + 1) e (i + 1); omega
    split
    · have := endsG_ge r d (if d = 0 then some i else e) (i + 1); omega
    split
    · split
      · exact Nat.le_refl _
      · have := endsG_ge r (d - 1) e (i + 1); omega
    · have := endsG_ge r d e (i + 1); omega
theorem endsG_els : ∀ (r : List Nat) (d : Nat) (e e' : Option Nat) (i : Nat), (endsG r d e i).2 = (endsG r d e' i).2
  | [], _, _, _, i => rfl
  | k :: r, d, e, e', i => by
    unfold endsG
    split
    · exact endsG_els r _ _ _ _
    split
    · exact endsG_els r _ _ _ _
    split
    · split
      · rfl
      · exact endsG_els r _ _ _ _
    · exact endsG_els r _ _ _ _
def mark (K : List Nat) (p : Nat × Nat) : Nat := if p.2 = p.1 then K.getD p.1 0 else 9
/-- what is known ahead of line i -/
structure Inv (K : List Nat) (i : Nat) (o : List Nat) : Prop where
  marks : o.reverse = (stF K i).map (mark K)
  lt : ∀ p ∈ stF K i, p.1 < i ∧ p.2 < i ∧ p.1 ≤ p.2
  head : ∀ p ∈ stF K i, K[p.1]? = some 7 ∨ K[p.1]? = some 8
  els : ∀ p ∈ stF K i, p.2 ≠ p.1 → K[p.2]? = some 9 ∧ K[p.1]? = some 7
  ends : ∀ j p, (stF K i)[j]? = some p → endsF K p.1 = endsG (K.drop i) j (if p.2 = p.1 then none else some p.2) i
  ende : ∀ j p, (stF K i)[j]? = some p → p.2 ≠ p.1 → (endsF K p.2).2 = (endsG (K.drop i) j none i).2
  down : ((stF K i).map (·.1)).Pairwise (· > ·)
  done : ∀ y k, y < i → K[y]? = some k → k = 7 ∨ k = 8 ∨ k = 9 → (∃ p ∈ stF K i, p.1 = y ∨ p.2 = y) ∨ (endsF K y).2 < i
theorem Inv.zero (K : List Nat) : Inv K 0 [] :=
  ⟨rfl, fun p hp => by simp [stF] at hp, fun p hp => by simp [stF] at hp, fun p hp => by simp [stF] at hp, fun j p h => by simp [stF] at h, fun j p h => by simp [stF] at h, List.Pairwise.nil, fun y k h => by omega⟩
theorem drop_cons {K : List Nat} {i k : Nat} (h : K[i]? = some k) : K.drop i = k :: K.drop (i + 1) := by
  have hl := (List.getElem?_eq_some_iff.1 h).1
  rw [List.drop_eq_getElem_cons hl]
  congr 1
  exact (List.getElem?_eq_some_iff.1 h).2
theorem Inv.step {K : List Nat} {i k : Nat} {o o' : List Nat} (h : Inv K i o) (hk : K[i]? = some k) (ht : takeF o k = some o') : Inv K (i + 1) o' := by
  have hs := stF_succ hk
  have hd := drop_cons hk
  have hgd : K.getD i 0 = k := by rw [List.getD_eq_getElem?_getD, hk]; rfl
  unfold takeF at ht
  by_cases h1 : k = 7 ∨ k = 8
  · rw [if_pos h1] at ht
    split at ht
    · cases ht
    cases ht
    have hs : stF K (i + 1) = (i, i) :: stF K i := by rw [hs]; unfold stS; rw [if_pos h1]
    refine ⟨?_, ?_, ?_, ?_, ?_, ?_, ?_, ?_⟩
    · rw [hs, List.reverse_append, List.map_cons, ← h.marks]
      show _ = (if i = i then K.getD i 0 else 9) :: _
      rw [if_pos rfl, hgd]; rfl
    · intro p hp
      rw [hs] at hp
      rcases List.mem_cons.1 hp with rfl | hp
      · exact ⟨by simp, by simp, by simp⟩
      · have := h.lt p hp; omega
    · intro p hp
      rw [hs] at hp
      rcases List.mem_cons.1 hp with rfl | hp
      · rw [hk]; rcases h1 with rfl | rfl <;> simp
      · exact h.head p hp
    · intro p hp hne
      rw [hs] at hp
      rcases List.mem_cons.1 hp with rfl | hp
      · exact absurd rfl hne
      · exact h.els p hp hne
    · intro j p hp
      rw [hs] at hp
      cases j with
      | zero =>
        simp only [List.getElem?_cons_zero, Option.some.injEq] at hp
        subst hp
        rw [if_pos rfl]; rfl
      | succ j =>
        have := h.ends j p (by simpa using hp)
        rw [this, hd, endsG, if_pos h1]
    · intro j p hp hne
      rw [hs] at hp
      cases j with
      | zero =>
        simp only [List.getElem?_cons_zero, Option.some.injEq] at hp
        subst hp
        exact absurd rfl hne
      | succ j =>
        have := h.ende j p (by simpa using hp) hne
        rw [this, hd, endsG, if_pos h1]
    · rw [hs, List.map_cons]
      refine List.pairwise_cons.2 ⟨fun y hy => ?_, h.down⟩
      obtain ⟨p, hp, rfl⟩ := List.mem_map.1 hy
      exact (h.lt p hp).1
    · intro y k' hy hky hk'
      rw [hs]
      rcases Nat.lt_or_ge y i with hlt | hge
      · rcases h.done y k' hlt hky hk' with ⟨p, hp, e⟩ | hlt'
        · exact .inl ⟨p, List.mem_cons_of_mem _ hp, e⟩
        · exact .inr (by omega)
      · exact .inl ⟨(i, i), by simp, .inl (by dsimp only; omega)⟩
  rw [if_neg h1] at ht
  by_cases h2 : k = 9
  · rw [if_pos h2] at ht
    split at ht
    · rename_i hlast
      cases ht
      have hm := h.marks
      cases hst : stF K i with
      | nil =>
        rw [hst, List.map_nil, List.reverse_eq_nil_iff] at hm
        rw [hm] at hlast; cases hlast
      | cons p t =>
        obtain ⟨hh, x⟩ := p
        have hs : stF K (i + 1) = (hh, i) :: t := by rw [hs, hst]; unfold stS; rw [if_neg h1, if_pos h2]
        rw [hst, List.map_cons] at hm
        have ho : o = (t.map (mark K)).reverse ++ [mark K (hh, x)] := by
          rw [← List.reverse_reverse o, hm, List.reverse_cons]
        have hmk : mark K (hh, x) = 7 := by
          rw [ho, List.getLast?_append] at hlast
          simpa using hlast
        have hlt := h.lt (hh, x) (by rw [hst]; simp)
        have hhd := h.head (hh, x) (by rw [hst]; simp)
        have hx : x = hh := by
          unfold mark at hmk
          dsimp only at hmk
          split at hmk
          · assumption
          · cases hmk
        subst hx
        have h7 : K[x]? = some 7 := by
          unfold mark at hmk
          rw [if_pos rfl] at hmk
          rcases hhd with hh | hh
          · exact hh
          · dsimp only at hh hmk
            rw [List.getD_eq_getElem?_getD, hh] at hmk; cases hmk
        dsimp only at hlt
        have hne : i ≠ x := by omega
        refine ⟨?_, ?_, ?_, ?_, ?_, ?_, ?_, ?_⟩
        · rw [hs, List.reverse_append, ho]
          simp [mark, hne]
        · intro p hp
          rw [hs] at hp
          rcases List.mem_cons.1 hp with rfl | hp
          · dsimp only; omega
          · have := h.lt p (by rw [hst]; exact List.mem_cons_of_mem _ hp); omega
        · intro p hp
          rw [hs] at hp
          rcases List.mem_cons.1 hp with rfl | hp
          · exact .inl h7
          · exact h.head p (by rw [hst]; exact List.mem_cons_of_mem _ hp)
        · intro p hp hn
          rw [hs] at hp
          rcases List.mem_cons.1 hp with rfl | hp
          · exact ⟨by rw [← h2]; exact hk, h7⟩
          · exact h.els p (by rw [hst]; exact List.mem_cons_of_mem _ hp) hn
        · intro j p hp
          rw [hs] at hp
          cases j with
          | zero =>
            simp only [List.getElem?_cons_zero, Option.some.injEq] at hp
            subst hp
            have := h.ends 0 (x, x) (by rw [hst]; rfl)
            dsimp only at this ⊢
            rw [if_pos rfl, hd, endsG, if_neg h1, if_pos h2, if_pos rfl] at this
            rw [if_neg hne]; exact this
          | succ j =>
            have := h.ends (j + 1) p (by rw [hst]; simpa using hp)
            rw [this, hd, endsG, if_neg h1, if_pos h2, if_neg (by omega)]
        · intro j p hp hn
          rw [hs] at hp
          cases j with
          | zero =>
            simp only [List.getElem?_cons_zero, Option.some.injEq] at hp
            subst hp
            rfl
          | succ j =>
            have := h.ende (j + 1) p (by rw [hst]; simpa using hp) hn
            rw [this, hd, endsG, if_neg h1, if_pos h2, if_neg (by omega)]
        · have := h.down
          rw [hst] at this
          rw [hs]; exact this
        · intro y k' hy hky hk'
          rw [hs]
          rcases Nat.lt_or_ge y i with hlt | hge
          · rcases h.done y k' hlt hky hk' with ⟨p, hp, e⟩ | hlt'
            · rw [hst] at hp
              rcases List.mem_cons.1 hp with rfl | hp
              · exact .inl ⟨(x, i), by simp, .inl (by rcases e with e | e <;> exact e)⟩
              · exact .inl ⟨p, List.mem_cons_of_mem _ hp, e⟩
            · exact .inr (by omega)
          · exact .inl ⟨(x, i), by simp, .inr (by dsimp only; omega)⟩
    · cases ht
  rw [if_neg h2] at ht
  by_cases h3 : k = 10
  · rw [if_pos h3] at ht
    split at ht
    · cases ht
    rename_i hone
    cases ht
    have hm := h.marks
    cases hst : stF K i with
    | nil =>
      rw [hst, List.map_nil, List.reverse_eq_nil_iff] at hm
      exact absurd hm hone
    | cons p t =>
      have hs : stF K (i + 1) = t := by rw [hs, hst]; unfold stS; rw [if_neg h1, if_neg h2, if_pos h3]; rfl
      rw [hst, List.map_cons] at hm
      have ho : o = (t.map (mark K)).reverse ++ [mark K p] := by
        rw [← List.reverse_reverse o, hm, List.reverse_cons]
      have hmem : ∀ q ∈ t, q ∈ stF K i := fun q hq => by rw [hst]; exact List.mem_cons_of_mem _ hq
      refine ⟨?_, ?_, ?_, ?_, ?_, ?_, ?_, ?_⟩
      · rw [hs, ho, List.dropLast_concat, List.reverse_reverse]
      · intro q hq
        rw [hs] at hq
        have := h.lt q (hmem q hq); omega
      · intro q hq; rw [hs] at hq; exact h.head q (hmem q hq)
      · intro q hq; rw [hs] at hq; exact h.els q (hmem q hq)
      · intro j q hq
        rw [hs] at hq
        have := h.ends (j + 1) q (by rw [hst]; simpa using hq)
        rw [this, hd, endsG, if_neg h1, if_neg h2, if_pos h3, if_neg (by omega), Nat.add_sub_cancel]
      · intro j q hq hn
        rw [hs] at hq
        have := h.ende (j + 1) q (by rw [hst]; simpa using hq) hn
        rw [this, hd, endsG, if_neg h1, if_neg h2, if_pos h3, if_neg (by omega), Nat.add_sub_cancel]
      · have := h.down
        rw [hst, List.map_cons] at this
        rw [hs]; exact (List.pairwise_cons.1 this).2
      · intro y k' hy hky hk'
        rw [hs]
        rcases Nat.lt_or_ge y i with hlt | hge
        · rcases h.done y k' hlt hky hk' with ⟨q, hq, e⟩ | hlt'
          · rw [hst] at hq
            rcases List.mem_cons.1 hq with rfl | hq
            · refine .inr ?_
              have e0 := h.ends 0 q (by rw [hst]; rfl)
              rw [hd, endsG, if_neg h1, if_neg h2, if_pos h3, if_pos rfl] at e0
              rcases e with rfl | rfl
              · rw [e0]; dsimp only; omega
              · by_cases hqq : q.2 = q.1
                · rw [hqq, e0]; dsimp only; omega
                · have e1 := h.ende 0 q (by rw [hst]; rfl) hqq
                  rw [hd, endsG, if_neg h1, if_neg h2, if_pos h3, if_pos rfl] at e1
                  rw [e1]; dsimp only; omega
            · exact .inl ⟨q, hq, e⟩
          · exact .inr (by omega)
        · obtain rfl : y = i := by omega
          rw [hk] at hky; cases hky
          omega
  rw [if_neg h3] at ht
  cases ht
  have hs : stF K (i + 1) = stF K i := by rw [hs]; unfold stS; rw [if_neg h1, if_neg h2, if_neg h3]
  refine ⟨by rw [hs]; exact h.marks, ?_, by rw [hs]; exact h.head, by rw [hs]; exact h.els, ?_, ?_, by rw [hs]; exact h.down, ?_⟩
  · intro p hp
    rw [hs] at hp
    have := h.lt p hp; omega
  · intro j p hp
    rw [hs] at hp
    rw [h.ends j p hp, hd, endsG, if_neg h1, if_neg h2, if_neg h3]
  · intro j p hp hn
    rw [hs] at hp
    rw [h.ende j p hp hn, hd, endsG, if_neg h1, if_neg h2, if_neg h3]
  · intro y k' hy hky hk'
    rw [hs]
    rcases Nat.lt_or_ge y i with hlt | hge
    · rcases h.done y k' hlt hky hk' with hp | hlt'
      · exact .inl hp
      · exact .inr (by omega)
    · obtain rfl : y = i := by omega
      rw [hk] at hky; cases hky
      omega
/-- of any prefix -/
theorem inv_at {K : List Nat} (hn : Nested K) : ∀ i, i ≤ K.length → ∃ o, Inv K i o ∧ nestG (K.drop i) o = some []
  | 0, _ => ⟨[], Inv.zero K, by rw [List.drop_zero]; exact hn⟩
  | i + 1, hi => by
    obtain ⟨o, h, hr⟩ := inv_at hn i (by omega)
    have hk : K[i]? = some K[i] := List.getElem?_eq_getElem (by omega)
    rw [drop_cons hk, nestG] at hr
    cases ht : takeF o K[i] with
    | none => rw [ht] at hr; cases hr
    | some o' => rw [ht] at hr; exact ⟨o', h.step hk ht, hr⟩
theorem st_end {K : List Nat} (hn : Nested K) : stF K K.length = [] := by
  obtain ⟨o, h, hr⟩ := inv_at hn K.length (Nat.le_refl _)
  rw [List.drop_length, nestG, Option.some.injEq] at hr
  have := h.marks
  rw [hr] at this
  simpa using this.symm
/-- whatever opens has an end -/
theorem ends_lt {K : List Nat} (hn : Nested K) {y k : Nat} (hk : K[y]? = some k) (h : k = 7 ∨ k = 8 ∨ k = 9) : (endsF K y).2 < K.length := by
  obtain ⟨o, hi, _⟩ := inv_at hn K.length (Nat.le_refl _)
  rcases hi.done y k (List.getElem?_eq_some_iff.1 hk).1 hk h with ⟨p, hp, _⟩ | h
  · rw [st_end hn] at hp; cases hp
  · exact h
/-- the heads that are open ahead of a line -/
def hdF (K : List Nat) (i : Nat) : List Nat := (stF K i).map (·.1)
theorem hd_open {K : List Nat} {h k : Nat} (hk : K[h]? = some k) (h1 : k = 7 ∨ k = 8) : hdF K (h + 1) = h :: hdF K h := by
  unfold hdF
  rw [stF_succ hk]; unfold stS; rw [if_pos h1]; rfl
theorem hd_else {K : List Nat} {h : Nat} (hk : K[h]? = some 9) : hdF K (h + 1) = hdF K h := by
  unfold hdF
  rw [stF_succ hk]; unfold stS; rw [if_neg (by decide), if_pos rfl]
  cases stF K h with
  | nil => rfl
  | cons p t => rfl
theorem hd_end {K : List Nat} {h : Nat} (hk : K[h]? = some 10) : hdF K (h + 1) = (hdF K h).tail := by
  unfold hdF
  rw [stF_succ hk]; unfold stS; rw [if_neg (by decide), if_neg (by decide), if_pos rfl]
  cases stF K h with
  | nil => rfl
  | cons p t => rfl
theorem hd_other {K : List Nat} {h k : Nat} (hk : K[h]? = some k) (h1 : ¬ (k = 7 ∨ k = 8)) (h2 : k ≠ 9) (h3 : k ≠ 10) : hdF K (h + 1) = hdF K h := by
  unfold hdF
  rw [stF_succ hk]; unfold stS; rw [if_neg h1, if_neg h2, if_neg h3]
/-- from a head on -/
theorem scan {K : List Nat} {h : Nat} : ∀ (n i d : Nat) (e : Option Nat) (up : List Nat), K.length - i ≤ n → up.length = d → hdF K i = up ++ h :: hdF K h → (∀ x, e = some x → K[x]? = some 9 ∧ hdF K x = h :: hdF K h) →
    ((endsG (K.drop i) d e i).2 < K.length → K[(endsG (K.drop i) d e i).2]? = some 10 ∧ hdF K (endsG (K.drop i) d e i).2 = h :: hdF K h) ∧
    (∀ x, (endsG (K.drop i) d e i).1 = some x → K[x]? = some 9 ∧ hdF K x = h :: hdF K h) := by
  intro n
  induction n with
  | zero =>
    intro i d e up hn hu hh he
    rw [List.drop_of_length_le (by omega)]
    exact ⟨fun hl => by rw [endsG] at hl; dsimp only at hl; omega, he⟩
  | succ n ih =>
    intro i d e up hn hu hh he
    rcases Nat.lt_or_ge i K.length with hl | hl
    · have hk : K[i]? = some K[i] := List.getElem?_eq_getElem hl
      generalize K[i] = k at hk
      rw [drop_cons hk, endsG]
      by_cases h1 : k = 7 ∨ k = 8
      · rw [if_pos h1]
        exact ih (i + 1) (d + 1) e (i :: up) (by omega) (by rw [List.length_cons, hu]) (by rw [hd_open hk h1, hh]; rfl) he
      rw [if_neg h1]
      by_cases h2 : k = 9
      · rw [if_pos h2]
        subst h2
        refine ih (i + 1) d _ up (by omega) hu (by rw [hd_else hk, hh]) fun x hx => ?_
        split at hx
        · rename_i h0
          cases hx
          rw [h0] at hu
          rw [List.length_eq_zero_iff.1 hu] at hh
          exact ⟨hk, hh⟩
        · exact he x hx
      rw [if_neg h2]
      by_cases h3 : k = 10
      · rw [if_pos h3]
        subst h3
        by_cases h0 : d = 0
        · rw [if_pos h0]
          rw [h0] at hu
          rw [List.length_eq_zero_iff.1 hu] at hh
          exact ⟨fun _ => ⟨hk, hh⟩, he⟩
        · rw [if_neg h0]
          cases up with
          | nil => exact absurd hu.symm h0
          | cons u up =>
            exact ih (i + 1) (d - 1) e up (by omega) (by rw [List.length_cons] at hu; omega) (by rw [hd_end hk, hh]; rfl) he
      · rw [if_neg h3]
        exact ih (i + 1) d e up (by omega) hu (by rw [hd_other hk h1 h2 h3, hh]) he
    · rw [List.drop_of_length_le (by omega)]
      exact ⟨fun hl => by rw [endsG] at hl; dsimp only at hl; omega, he⟩
/-- an opener's end and else -/
structure Ends (K : List Nat) (h : Nat) : Prop where
  lt : (endsF K h).2 < K.length
  kind : K[(endsF K h).2]? = some 10
  hd : hdF K (endsF K h).2 = h :: hdF K h
  behind : hdF K ((endsF K h).2 + 1) = hdF K h
  els : ∀ x, (endsF K h).1 = some x → K[x]? = some 9 ∧ hdF K (x + 1) = h :: hdF K h
theorem ends_of {K : List Nat} (hn : Nested K) {h k : Nat} (hk : K[h]? = some k) (h1 : k = 7 ∨ k = 8) : Ends K h := by
  have hlt := ends_lt hn hk (by omega)
  obtain ⟨s1, s2⟩ := scan (K := K) (h := h) K.length (h + 1) 0 none [] (by omega) rfl (by rw [hd_open hk h1]; rfl) (fun x hx => by cases hx)
  obtain ⟨e1, e2⟩ : K[(endsF K h).2]? = some 10 ∧ hdF K (endsF K h).2 = h :: hdF K h := s1 hlt
  refine ⟨hlt, e1, e2, ?_, fun x hx => ?_⟩
  · rw [hd_end e1, e2]; rfl
  · obtain ⟨f1, f2⟩ := s2 x hx
    exact ⟨f1, by rw [hd_else f1, f2]⟩
/-- an else's end -/
structure EndE (K : List Nat) (x : Nat) : Prop where
  lt : (endsF K x).2 < K.length
  kind : K[(endsF K x).2]? = some 10
  hd : hdF K (endsF K x).2 = hdF K x
theorem ende_of {K : List Nat} (hn : Nested K) {x : Nat} (hk : K[x]? = some 9) : EndE K x := by
  have hlt := ends_lt hn hk (by omega)
  have hxl := (List.getElem?_eq_some_iff.1 hk).1
  obtain ⟨o, hi, hr⟩ := inv_at hn x (by omega)
  cases hst : hdF K x with
  | nil =>
    -- (an else stands within an if)
    exfalso
    rw [drop_cons hk, nestG] at hr
    unfold takeF at hr
    rw [if_neg (by decide), if_pos rfl] at hr
    have hm := hi.marks
    unfold hdF at hst
    rw [List.map_eq_nil_iff] at hst
    rw [hst, List.map_nil, List.reverse_eq_nil_iff] at hm
    rw [hm] at hr
    cases hr
  | cons h t =>
    have hdx : hdF K (x + 1) = h :: t := by rw [hd_else hk, hst]
    -- the same scan, from the else on, below the head h
    have key : ∀ (n i d : Nat) (up : List Nat), K.length - i ≤ n → up.length = d → hdF K i = up ++ h :: t → (endsG (K.drop i) d none i).2 < K.length → K[(endsG (K.drop i) d none i).2]? = some 10 ∧ hdF K (endsG (K.drop i) d none i).2 = h :: t := by
      intro n
      induction n with
      | zero =>
        intro i d up hn hu hh hl
        rw [List.drop_of_length_le (by omega), endsG] at hl
        dsimp only at hl; omega
      | succ n ih =>
        intro i d up hn hu hh hl
        rcases Nat.lt_or_ge i K.length with hlt | hge
        · have hk : K[i]? = some K[i] := List.getElem?_eq_getElem hlt
          generalize K[i] = k at hk
          rw [drop_cons hk, endsG] at hl ⊢
          by_cases h1 : k = 7 ∨ k = 8
          · rw [if_pos h1] at hl ⊢
            exact ih (i + 1) (d + 1) (i :: up) (by omega) (by rw [List.length_cons, hu]) (by rw [hd_open hk h1, hh]; rfl) hl
          rw [if_neg h1] at hl ⊢
          by_cases h2 : k = 9
          · rw [if_pos h2] at hl ⊢
            subst h2
            rw [endsG_els _ _ _ none] at hl ⊢
            exact ih (i + 1) d up (by omega) hu (by rw [hd_else hk, hh]) hl
          rw [if_neg h2] at hl ⊢
          by_cases h3 : k = 10
          · rw [if_pos h3] at hl ⊢
            subst h3
            by_cases h0 : d = 0
            · rw [if_pos h0]
              rw [h0] at hu
              rw [List.length_eq_zero_iff.1 hu] at hh
              exact ⟨hk, hh⟩
            · rw [if_neg h0] at hl ⊢
              cases up with
              | nil => exact absurd hu.symm h0
              | cons u up =>
                exact ih (i + 1) (d - 1) up (by omega) (by rw [List.length_cons] at hu; omega) (by rw [hd_end hk, hh]; rfl) hl
          · rw [if_neg h3] at hl ⊢
            exact ih (i + 1) d up (by omega) hu (by rw [hd_other hk h1 h2 h3, hh]) hl
        · rw [List.drop_of_length_le (by omega), endsG] at hl
          dsimp only at hl; omega
    obtain ⟨k1, k2⟩ := key K.length (x + 1) 0 [] (by omega) rfl hdx hlt
    exact ⟨hlt, k1, by rw [hst]; exact k2⟩
/-- an end's head; the heads further out have their ends behind it -/
theorem end_head {K : List Nat} (hn : Nested K) {y : Nat} (hk : K[y]? = some 10) : ∃ h t, hdF K y = h :: t ∧ (endsF K h).2 = y ∧ (K[h]? = some 7 ∨ K[h]? = some 8) ∧ ∀ g ∈ t, y < (endsF K g).2 := by
  have hyl := (List.getElem?_eq_some_iff.1 hk).1
  obtain ⟨o, hi, hr⟩ := inv_at hn y (by omega)
  have hd := drop_cons hk
  cases hst : stF K y with
  | nil =>
    exfalso
    rw [hd, nestG] at hr
    have hm := hi.marks
    rw [hst, List.map_nil, List.reverse_eq_nil_iff] at hm
    rw [hm] at hr
    unfold takeF at hr
    rw [if_neg (by decide), if_neg (by decide), if_pos rfl, if_pos rfl] at hr
    cases hr
  | cons p t =>
    refine ⟨p.1, t.map (·.1), by unfold hdF; rw [hst]; rfl, ?_, hi.head p (by rw [hst]; simp), fun g hg => ?_⟩
    · rw [hi.ends 0 p (by rw [hst]; rfl), hd, endsG, if_neg (by decide), if_neg (by decide), if_pos rfl, if_pos rfl]
    · obtain ⟨q, hq, rfl⟩ := List.mem_map.1 hg
      obtain ⟨j, hj⟩ := List.getElem?_of_mem hq
      rw [hi.ends (j + 1) q (by rw [hst]; simpa using hj), hd, endsG, if_neg (by decide), if_neg (by decide), if_pos rfl, if_neg (by omega)]
      have := endsG_ge (K.drop (y + 1)) (j + 1 - 1) (if q.2 = q.1 then none else some q.2) (y + 1)
      omega
theorem hd_lt {K : List Nat} (hn : Nested K) {i : Nat} (hi : i ≤ K.length) : ∀ g ∈ hdF K i, g < i := by
  obtain ⟨o, h, _⟩ := inv_at hn i hi
  intro g hg
  obtain ⟨p, hp, rfl⟩ := List.mem_map.1 hg
  exact (h.lt p hp).1
theorem hd_down {K : List Nat} (hn : Nested K) {i : Nat} (hi : i ≤ K.length) : (hdF K i).Pairwise (· > ·) := by
  obtain ⟨o, h, _⟩ := inv_at hn i hi
  exact h.down
end Go.Blk
/- Build scripts at work, plain. -/
namespace Go.Run
open Go.Scr Go.Pth Go.Tre Go.Blk
open Go.Vc (mget mput)
abbrev Vars := List (Txt × Txt)
def lowB (c : UInt8) : Bool := decide (97 ≤ c.toNat ∧ c.toNat ≤ 122)
def digB (c : UInt8) : Bool := decide (48 ≤ c.toNat ∧ c.toNat ≤ 57)
/-- how many bytes of a name stand ahead -/
def nameN : Txt → Nat
  | [] => 0
  | c :: t => if lowB c then 1 + (t.takeWhile fun x => lowB x || digB x).length else 0
theorem takeWhile_len {p : UInt8 → Bool} : ∀ l : Txt, (l.takeWhile p).length ≤ l.length
  | [] => Nat.le_refl _
  | c :: t => by
    rw [List.takeWhile_cons]
    split
    · have := takeWhile_len (p := p) t; simp only [List.length_cons]; omega
    · simp
theorem nameN_le (s : Txt) : nameN s ≤ s.length := by
  cases s with
  | nil => exact Nat.le_refl _
  | cons c t =>
    show (if lowB c = true then 1 + (t.takeWhile fun x => lowB x || digB x).length else 0) ≤ _
    split
    · have := takeWhile_len (p := fun x => lowB x || digB x) t; rw [List.length_cons]; omega
    · simp
def isName (s : Txt) : Bool := decide (s ≠ [] ∧ nameN s = s.length)
def getV (V : Vars) (k : Txt) : Txt := (mget V k).getD []
/-- a text with its variables put in -/
def fillN : Nat → Vars → Txt → Txt
  | _, _, [] => []
  | 0, _, _ => []
  | n + 1, V, c :: t =>
    if c ≠ 36 then c :: fillN n V t
    else if nameN t ≠ 0 then getV V (t.take (nameN t)) ++ fillN n V (t.drop (nameN t))
    else if t.head? = some 36 then 36 :: fillN n V t.tail
    else 36 :: fillN n V t
def fillF (V : Vars) (s : Txt) : Txt := fillN s.length V s
theorem fillN_big (V : Vars) : ∀ (n m : Nat) (s : Txt), s.length ≤ n → s.length ≤ m → fillN n V s = fillN m V s
  | n, m, [], _, _ => by cases n <;> cases m <;> rfl
  | 0, m, c :: t, h, _ => by simp at h
  | n + 1, 0, c :: t, _, h => by simp at h
  | n + 1, m + 1, c :: t, h1, h2 => by
    simp only [List.length_cons] at h1 h2
    unfold fillN
    split
    · rw [fillN_big V n m t (by omega) (by omega)]
    split
    · rw [fillN_big V n m _ (by rw [List.length_drop]; omega) (by rw [List.length_drop]; omega)]
    split
    · rw [fillN_big V n m _ (by rw [List.length_tail]; omega) (by rw [List.length_tail]; omega)]
    · rw [fillN_big V n m t (by omega) (by omega)]
theorem fillF_nil (V : Vars) : fillF V [] = [] := rfl
theorem fillF_cons (V : Vars) (c : UInt8) (t : Txt) : fillF V (c :: t) = if c ≠ 36 then c :: fillF V t
    else if nameN t ≠ 0 then getV V (t.take (nameN t)) ++ fillF V (t.drop (nameN t))
    else if t.head? = some 36 then 36 :: fillF V t.tail
    else 36 :: fillF V t := by
  show fillN (t.length + 1) V (c :: t) = _
  unfold fillN
  split
  · rfl
  split
  · rw [fillN_big V t.length _ (t.drop (nameN t)) (by rw [List.length_drop]; omega) (Nat.le_refl _)]; rfl
  split
  · rw [fillN_big V t.length _ t.tail (by rw [List.length_tail]; omega) (Nat.le_refl _)]; rfl
  · rfl
/-- a script at work: the line, the tree, the variables (or none), the repeats that are open, the innermost first -/
structure St where
  at_ : Nat
  A : Tr
  V : Option Vars
  S : List (Nat × Nat)
def kindsL (L : List Ln) : List Nat := L.map (·.k)
def varsF (V : Option Vars) : Vars := V.getD []
def nextF (s : St) : St := { s with at_ := s.at_ + 1 }
def doneF (s : St) (r : Tr × Nat) : St × Nat := ({ s with at_ := s.at_ + 1, A := r.1 }, r.2)
/-- what a line does -/
def stepP (K : List Nat) (x : Ln) (s : St) : St × Nat :=
  if x.k = 0 then doneF s (Tre.twoF s.A (fillF (varsF s.V) x.a) (fillF (varsF s.V) x.b) true)
  else if x.k = 1 then doneF s (writeF s.A (fillF (varsF s.V) x.a) (fillF (varsF s.V) x.tx))
  else if x.k = 2 then doneF s (appendF s.A (fillF (varsF s.V) x.a) (fillF (varsF s.V) x.tx))
  else if x.k = 3 then doneF s (mkdirF s.A (fillF (varsF s.V) x.a))
  else if x.k = 4 then doneF s (removeF s.A (fillF (varsF s.V) x.a))
  else if x.k = 5 then doneF s (Tre.twoF s.A (fillF (varsF s.V) x.a) (fillF (varsF s.V) x.b) false)
  else if x.k = 6 then
    if isName x.a = false then (s, 72)
    else if 65536 < (fillF (varsF s.V) x.tx).length then (s, 55)
    else ({ nextF s with V := s.V.map fun V => mput V x.a (fillF V x.tx) }, 0)
  else if x.k = 7 then
    if existsF s.A (fillF (varsF s.V) x.a) = x.nt then ({ s with at_ := match (endsF K s.at_).1 with | some e => e + 1 | none => (endsF K s.at_).2 }, 0)
    else (nextF s, 0)
  else if x.k = 8 then
    if x.n = 0 then ({ s with at_ := (endsF K s.at_).2 + 1 }, 0) else ({ nextF s with S := (s.at_, x.n) :: s.S }, 0)
  else if x.k = 9 then ({ s with at_ := (endsF K s.at_).2 }, 0)
  else if x.k = 10 then
    match s.S with
    | [] => (nextF s, 0)
    | (h, n) :: S => if (endsF K h).2 = s.at_ then (if 1 < n then ({ s with at_ := h + 1, S := (h, n - 1) :: S }, 0) else ({ nextF s with S := S }, 0)) else (nextF s, 0)
  else if x.k = 11 then (s, 72)
  else (nextF s, 0)
/-- a run: fuel, what is taken, where it ends -/
def runP (L : List Ln) : Nat → Nat → St → (Nat × Nat) × St
  | 0, u, s => if s.at_ < L.length then ((u, 73), s) else ((u, 0), s)
  | f + 1, u, s => match L[s.at_]? with
    | none => ((u, 0), s)
    | some x => if (stepP (kindsL L) x s).2 = 0 then runP L f (u + 1) (stepP (kindsL L) x s).1 else ((u + 1, (stepP (kindsL L) x s).2), { (stepP (kindsL L) x s).1 with at_ := s.at_ })
theorem runP_end {L : List Ln} {f u : Nat} {s : St} (h : L.length ≤ s.at_) : runP L f u s = ((u, 0), s) := by
  cases f with
  | zero => rw [runP, if_neg (by omega)]
  | succ f => rw [runP, List.getElem?_eq_none h]
theorem runP_out {L : List Ln} {u : Nat} {s : St} (h : s.at_ < L.length) : runP L 0 u s = ((u, 73), s) := by rw [runP, if_pos h]
theorem runP_step {L : List Ln} {f u : Nat} {s : St} {x : Ln} (h : L[s.at_]? = some x) : runP L (f + 1) u s = if (stepP (kindsL L) x s).2 = 0 then runP L f (u + 1) (stepP (kindsL L) x s).1 else ((u + 1, (stepP (kindsL L) x s).2), { (stepP (kindsL L) x s).1 with at_ := s.at_ }) := by
  rw [runP, h]
/-- the paths of a text that is cut are its paths -/
theorem clean_cut (p : Txt) : cleanF (p.take 65537) = cleanF p := by
  rcases Nat.lt_or_ge 65537 p.length with h | h
  · unfold cleanF joinP
    rw [if_pos (by rw [List.length_take]; simp; omega), if_pos (by simp; omega)]
  · rw [List.take_of_length_le h]
theorem write_cut (A : Tr) (p b : Txt) : writeF A (p.take 65537) (b.take 65537) = writeF A p b := by
  unfold writeF
  rw [clean_cut]
  split
  · rcases Nat.lt_or_ge 65537 b.length with h | h
    · unfold writeP
      split
      · rfl
      · rw [if_pos (.inl (by rw [List.length_take]; omega)), if_pos (.inl (by omega))]
    · rw [List.take_of_length_le h]
  · rfl
theorem append_cut (A : Tr) (p b : Txt) : appendF A (p.take 65537) (b.take 65537) = appendF A p b := by
  unfold appendF
  rw [clean_cut]
  split
  · rcases Nat.lt_or_ge 65537 b.length with h | h
    · unfold writeP
      split
      · rfl
      · rw [if_pos (.inl (by rw [List.length_append, List.length_take]; omega)), if_pos (.inl (by rw [List.length_append]; omega))]
    · rw [List.take_of_length_le h]
  · rfl
theorem two_cut (A : Tr) (p q : Txt) (st : Bool) : Tre.twoF A (p.take 65537) (q.take 65537) st = Tre.twoF A p q st := by
  unfold Tre.twoF
  rw [clean_cut, clean_cut]
theorem mkdir_cut (A : Tr) (p : Txt) : mkdirF A (p.take 65537) = mkdirF A p := by unfold mkdirF; rw [clean_cut]
theorem remove_cut (A : Tr) (p : Txt) : removeF A (p.take 65537) = removeF A p := by unfold removeF; rw [clean_cut]
theorem exists_cut (A : Tr) (p : Txt) : existsF A (p.take 65537) = existsF A p := by unfold existsF; rw [clean_cut]
end Go.Run
/- Build scripts, plain: the tables of which lines belong together. -/
namespace Go.Blk
open Go.Scr
/-- the tables up to line i -/
structure FindI (K : List Nat) (i : Nat) (O Hd : List Nat) : Prop where
  lenO : O.length = K.length
  lenH : Hd.length = K.length
  opn : ∀ y k, y < i → K[y]? = some k → k = 7 ∨ k = 8 → (∃ p ∈ stF K i, p.1 = y) ∨ O[y]? = some ((endsF K y).1.getD (endsF K y).2)
  els : ∀ y, y < i → K[y]? = some 9 → (∃ p ∈ stF K i, p.2 = y) ∨ O[y]? = some (endsF K y).2
  hd : ∀ y, y < i → K[y]? = some 10 → ∀ h t, hdF K y = h :: t → Hd[y]? = some h
  ent : ∀ p ∈ stF K i, p.2 ≠ p.1 → O[p.1]? = some p.2
structure Tables (K O Hd : List Nat) : Prop where
  lenO : O.length = K.length
  lenH : Hd.length = K.length
  opn : ∀ y k, K[y]? = some k → k = 7 ∨ k = 8 → O[y]? = some ((endsF K y).1.getD (endsF K y).2)
  els : ∀ y, K[y]? = some 9 → O[y]? = some (endsF K y).2
  hd : ∀ y, K[y]? = some 10 → ∀ h t, hdF K y = h :: t → Hd[y]? = some h
theorem FindI.zero (K : List Nat) : FindI K 0 (List.replicate K.length 0) (List.replicate K.length 0) :=
  ⟨by simp, by simp, fun y k h => by omega, fun y h => by omega, fun y h => by omega, fun p hp => by simp [stF] at hp⟩
theorem FindI.done {K O Hd : List Nat} (hn : Nested K) (h : FindI K K.length O Hd) : Tables K O Hd := by
  have hst := st_end hn
  refine ⟨h.lenO, h.lenH, fun y k hk h1 => ?_, fun y hk => ?_, fun y hk => h.hd y (List.getElem?_eq_some_iff.1 hk).1 hk⟩
  · rcases h.opn y k (List.getElem?_eq_some_iff.1 hk).1 hk h1 with ⟨p, hp, _⟩ | h
    · rw [hst] at hp; cases hp
    · exact h
  · rcases h.els y (List.getElem?_eq_some_iff.1 hk).1 hk with ⟨p, hp, _⟩ | h
    · rw [hst] at hp; cases hp
    · exact h
theorem FindI.open {K O Hd : List Nat} {i k : Nat} (h : FindI K i O Hd) (hk : K[i]? = some k) (h1 : k = 7 ∨ k = 8) : FindI K (i + 1) O Hd := by
  have hs : stF K (i + 1) = (i, i) :: stF K i := by rw [stF_succ hk]; unfold stS; rw [if_pos h1]
  refine ⟨h.lenO, h.lenH, fun y k' hy hky hk' => ?_, fun y hy hky => ?_, fun y hy hky => ?_, fun p hp hne => ?_⟩
  · rw [hs]
    rcases Nat.lt_or_ge y i with hlt | hge
    · rcases h.opn y k' hlt hky hk' with ⟨p, hp, e⟩ | e
      · exact .inl ⟨p, List.mem_cons_of_mem _ hp, e⟩
      · exact .inr e
    · exact .inl ⟨(i, i), by simp, by dsimp only; omega⟩
  · rw [hs]
    rcases Nat.lt_or_ge y i with hlt | hge
    · rcases h.els y hlt hky with ⟨p, hp, e⟩ | e
      · exact .inl ⟨p, List.mem_cons_of_mem _ hp, e⟩
      · exact .inr e
    · exact .inl ⟨(i, i), by simp, by dsimp only; omega⟩
  · rcases Nat.lt_or_ge y i with hlt | hge
    · exact h.hd y hlt hky
    · obtain rfl : y = i := by omega
      rw [hk] at hky; cases hky; omega
  · rw [hs] at hp
    rcases List.mem_cons.1 hp with rfl | hp
    · exact absurd rfl hne
    · exact h.ent p hp hne
theorem FindI.other {K O Hd : List Nat} {i k : Nat} (h : FindI K i O Hd) (hk : K[i]? = some k) (h1 : ¬ (k = 7 ∨ k = 8)) (h2 : k ≠ 9) (h3 : k ≠ 10) : FindI K (i + 1) O Hd := by
  have hs : stF K (i + 1) = stF K i := by rw [stF_succ hk]; unfold stS; rw [if_neg h1, if_neg h2, if_neg h3]
  refine ⟨h.lenO, h.lenH, fun y k' hy hky hk' => ?_, fun y hy hky => ?_, fun y hy hky => ?_, by rw [hs]; exact h.ent⟩
  · rw [hs]
    rcases Nat.lt_or_ge y i with hlt | hge
    · exact h.opn y k' hlt hky hk'
    · obtain rfl : y = i := by omega
      rw [hk] at hky; cases hky; exact absurd hk' h1
  · rw [hs]
    rcases Nat.lt_or_ge y i with hlt | hge
    · exact h.els y hlt hky
    · obtain rfl : y = i := by omega
      rw [hk] at hky; cases hky; exact absurd rfl h2
  · rcases Nat.lt_or_ge y i with hlt | hge
    · exact h.hd y hlt hky
    · obtain rfl : y = i := by omega
      rw [hk] at hky; cases hky; exact absurd rfl h3
/-- what stands ahead of an else -/
theorem else_head {K : List Nat} (hn : Nested K) {i : Nat} (hk : K[i]? = some 9) : ∃ h t, stF K i = (h, h) :: t ∧ K[h]? = some 7 ∧ h < i := by
  obtain ⟨o, hi, hr⟩ := inv_at hn i (by have := (List.getElem?_eq_some_iff.1 hk).1; omega)
  rw [drop_cons hk, nestG] at hr
  unfold takeF at hr
  rw [if_neg (by decide), if_pos rfl] at hr
  have hm := hi.marks
  cases hst : stF K i with
  | nil =>
    rw [hst, List.map_nil, List.reverse_eq_nil_iff] at hm
    rw [hm] at hr; cases hr
  | cons p t =>
    obtain ⟨h, x⟩ := p
    rw [hst, List.map_cons] at hm
    have ho : o = (t.map (mark K)).reverse ++ [mark K (h, x)] := by rw [← List.reverse_reverse o, hm, List.reverse_cons]
    have hlast : o.getLast? = some 7 := by
      cases hg : (if o.getLast? = some 7 then some (o.dropLast ++ [9]) else none) with
      | none => rw [hg] at hr; cases hr
      | some o' => split at hg; assumption; cases hg
    have hmk : mark K (h, x) = 7 := by rw [ho, List.getLast?_append] at hlast; simpa using hlast
    have hlt := hi.lt (h, x) (by rw [hst]; simp)
    have hhd := hi.head (h, x) (by rw [hst]; simp)
    unfold mark at hmk
    dsimp only at hmk hlt hhd
    split at hmk
    · rename_i hx
      subst hx
      refine ⟨x, t, rfl, ?_, hlt.1⟩
      rcases hhd with hh | hh
      · exact hh
      · rw [List.getD_eq_getElem?_getD, hh] at hmk; cases hmk
    · cases hmk
theorem FindI.else {K O Hd : List Nat} (hn : Nested K) {i h : Nat} {t : List (Nat × Nat)} (hf : FindI K i O Hd) (hk : K[i]? = some 9) (hst : stF K i = (h, h) :: t) (h7 : K[h]? = some 7) (hlt : h < i) : FindI K (i + 1) (O.set h i) Hd := by
  have hs : stF K (i + 1) = (h, i) :: t := by rw [stF_succ hk, hst]; unfold stS; rw [if_neg (by decide), if_pos rfl]
  have hil := (List.getElem?_eq_some_iff.1 hk).1
  obtain ⟨o, hi, _⟩ := inv_at hn i (by omega)
  have hdn := hi.down
  rw [hst, List.map_cons, List.pairwise_cons] at hdn
  refine ⟨by rw [List.length_set]; exact hf.lenO, hf.lenH, fun y k' hy hky hk' => ?_, fun y hy hky => ?_, fun y hy hky => ?_, fun p hp hne => ?_⟩
  · rw [hs]
    by_cases hyh : y = h
    · exact .inl ⟨(h, i), by simp, hyh.symm⟩
    rcases Nat.lt_or_ge y i with hlt | hge
    · rcases hf.opn y k' hlt hky hk' with ⟨p, hp, e⟩ | e
      · rw [hst] at hp
        rcases List.mem_cons.1 hp with rfl | hp
        · exact absurd e.symm hyh
        · exact .inl ⟨p, List.mem_cons_of_mem _ hp, e⟩
      · exact .inr (by rw [List.getElem?_set_ne (fun e => hyh e.symm)]; exact e)
    · obtain rfl : y = i := by omega
      rw [hk] at hky; cases hky; omega
  · rw [hs]
    rcases Nat.lt_or_ge y i with hlt | hge
    · have hyh : h ≠ y := fun e => by subst e; rw [h7] at hky; cases hky
      rcases hf.els y hlt hky with ⟨p, hp, e⟩ | e
      · rw [hst] at hp
        rcases List.mem_cons.1 hp with rfl | hp
        · exact absurd e hyh
        · exact .inl ⟨p, List.mem_cons_of_mem _ hp, e⟩
      · exact .inr (by rw [List.getElem?_set_ne hyh]; exact e)
    · exact .inl ⟨(h, i), by simp, by dsimp only; omega⟩
  · rcases Nat.lt_or_ge y i with hlt | hge
    · exact hf.hd y hlt hky
    · obtain rfl : y = i := by omega
      rw [hk] at hky; cases hky
  · rw [hs] at hp
    rcases List.mem_cons.1 hp with rfl | hp
    · dsimp only
      rw [List.getElem?_set_self (by rw [hf.lenO]; omega)]
    · have h1 := hdn.1 p.1 (List.mem_map_of_mem hp)
      rw [List.getElem?_set_ne (by omega)]
      exact hf.ent p (by rw [hst]; exact List.mem_cons_of_mem _ hp) hne
theorem end_top {K : List Nat} (hn : Nested K) {i : Nat} (hk : K[i]? = some 10) : ∃ h x t, stF K i = (h, x) :: t ∧ h < i ∧ x < i := by
  obtain ⟨h, t, hh, _⟩ := end_head hn hk
  obtain ⟨o, hi, _⟩ := inv_at hn i (by have := (List.getElem?_eq_some_iff.1 hk).1; omega)
  cases hst : stF K i with
  | nil => unfold hdF at hh; rw [hst] at hh; cases hh
  | cons p t =>
    have := hi.lt p (by rw [hst]; simp)
    exact ⟨p.1, p.2, t, rfl, this.1, this.2.1⟩
theorem FindI.end {K O Hd : List Nat} (hn : Nested K) {i h x : Nat} {t : List (Nat × Nat)} (hf : FindI K i O Hd) (hk : K[i]? = some 10) (hst : stF K i = (h, x) :: t) : FindI K (i + 1) (O.set x i) (Hd.set i h) := by
  have hs : stF K (i + 1) = t := by rw [stF_succ hk, hst]; unfold stS; rw [if_neg (by decide), if_neg (by decide), if_pos rfl]; rfl
  have hil := (List.getElem?_eq_some_iff.1 hk).1
  have hd := drop_cons hk
  obtain ⟨o, hi, _⟩ := inv_at hn i (by omega)
  have hdn := hi.down
  rw [hst, List.map_cons, List.pairwise_cons] at hdn
  have hm0 : (h, x) ∈ stF K i := by rw [hst]; simp
  have hmt : ∀ p ∈ t, p ∈ stF K i := fun p hp => by rw [hst]; exact List.mem_cons_of_mem _ hp
  have hlt := hi.lt (h, x) hm0
  have hh := hi.head (h, x) hm0
  have hx9 := hi.els (h, x) hm0
  have he := hi.ends 0 (h, x) (by rw [hst]; rfl)
  rw [hd, endsG, if_neg (by decide), if_neg (by decide), if_pos rfl, if_pos rfl] at he
  have hee := hi.ende 0 (h, x) (by rw [hst]; rfl)
  rw [hd, endsG, if_neg (by decide), if_neg (by decide), if_pos rfl, if_pos rfl] at hee
  dsimp only at hlt hh hx9 he hee
  have hxO : x < O.length := by rw [hf.lenO]; omega
  refine ⟨by rw [List.length_set]; exact hf.lenO, by rw [List.length_set]; exact hf.lenH, fun y k' hy hky hk' => ?_, fun y hy hky => ?_, fun y hy hky => ?_, fun p hp hne => ?_⟩
  · rw [hs]
    by_cases hyh : y = h
    · subst hyh
      refine .inr ?_
      rw [he]
      by_cases hxy : x = y
      · subst hxy
        rw [if_pos rfl, List.getElem?_set_self hxO]; rfl
      · rw [if_neg hxy, List.getElem?_set_ne hxy, hf.ent (y, x) hm0 hxy]; rfl
    rcases Nat.lt_or_ge y i with hlt2 | hge
    · have hyx : x ≠ y := fun e => by
        subst e
        rw [(hx9 hyh).1] at hky; cases hky; omega
      rcases hf.opn y k' hlt2 hky hk' with ⟨p, hp, e⟩ | e
      · rw [hst] at hp
        rcases List.mem_cons.1 hp with rfl | hp
        · exact absurd e.symm hyh
        · exact .inl ⟨p, hp, e⟩
      · exact .inr (by rw [List.getElem?_set_ne hyx]; exact e)
    · obtain rfl : y = i := by omega
      rw [hk] at hky; cases hky; omega
  · rw [hs]
    rcases Nat.lt_or_ge y i with hlt2 | hge
    · by_cases hyx : x = y
      · subst hyx
        refine .inr ?_
        rw [List.getElem?_set_self hxO, hee (fun e => by subst e; rcases hh with hh | hh <;> (rw [hh] at hky; cases hky))]
      · rcases hf.els y hlt2 hky with ⟨p, hp, e⟩ | e
        · rw [hst] at hp
          rcases List.mem_cons.1 hp with rfl | hp
          · exact absurd e hyx
          · exact .inl ⟨p, hp, e⟩
        · exact .inr (by rw [List.getElem?_set_ne hyx]; exact e)
    · obtain rfl : y = i := by omega
      rw [hk] at hky; cases hky
  · intro h' t' e
    rcases Nat.lt_or_ge y i with hlt2 | hge
    · rw [List.getElem?_set_ne (by omega)]
      exact hf.hd y hlt2 hky h' t' e
    · obtain rfl : y = i := by omega
      rw [List.getElem?_set_self (by rw [hf.lenH]; omega)]
      unfold hdF at e
      rw [hst] at e
      cases e; rfl
  · rw [hs] at hp
    have h1 := hdn.1 p.1 (List.mem_map_of_mem hp)
    have hpx : x ≠ p.1 := fun e => by
      by_cases hxh : x = h
      · omega
      · have h9 := (hx9 hxh).1
        rcases hi.head p (hmt p hp) with h2 | h2 <;> (rw [← e, h9] at h2; cases h2)
    rw [List.getElem?_set_ne hpx]
    exact hf.ent p (hmt p hp) hne
/- ---------- how often repeats are still to go ---------- -/
/-- the repeats that are open, as the table of how often tells them -/
structure RelM (K : List Nat) (i : Nat) (S : List (Nat × Nat)) (M : List Nat) : Prop where
  len : M.length = K.length
  heads : S.map (·.1) = (hdF K i).filter fun h => K.getD h 0 == 8
  left : ∀ p ∈ S, M[p.1]? = some p.2 ∧ 1 ≤ p.2
theorem RelM.zero (K : List Nat) : RelM K 0 [] (List.replicate K.length 0) := ⟨by simp, rfl, fun p hp => by cases hp⟩
theorem RelM.same {K : List Nat} {i j : Nat} {S : List (Nat × Nat)} {M : List Nat} (h : RelM K i S M) (e : hdF K j = hdF K i) : RelM K j S M := ⟨h.len, by rw [e]; exact h.heads, h.left⟩
theorem RelM.into {K : List Nat} {i j : Nat} {S : List (Nat × Nat)} {M : List Nat} (h : RelM K i S M) (e : hdF K j = i :: hdF K i) (h7 : K[i]? = some 7) : RelM K j S M := ⟨h.len, by
  rw [e, List.filter_cons, if_neg (by rw [List.getD_eq_getElem?_getD, h7]; decide)]; exact h.heads, h.left⟩
theorem RelM.mem {K : List Nat} {i : Nat} {S : List (Nat × Nat)} {M : List Nat} (h : RelM K i S M) {p : Nat × Nat} (hp : p ∈ S) : p.1 ∈ hdF K i := by
  have : p.1 ∈ S.map (·.1) := List.mem_map_of_mem hp
  rw [h.heads] at this
  exact (List.mem_filter.1 this).1
theorem RelM.set {K : List Nat} (hn : Nested K) {i : Nat} (hi : i ≤ K.length) {S : List (Nat × Nat)} {M : List Nat} (h : RelM K i S M) (n : Nat) : RelM K i S (M.set i n) := ⟨by rw [List.length_set]; exact h.len, h.heads, fun p hp => by
  have := hd_lt hn hi p.1 (h.mem hp)
  rw [List.getElem?_set_ne (by omega)]
  exact h.left p hp⟩
theorem RelM.push {K : List Nat} (hn : Nested K) {i : Nat} {S : List (Nat × Nat)} {M : List Nat} (h : RelM K i S M) (h8 : K[i]? = some 8) {n : Nat} (h1 : 1 ≤ n) : RelM K (i + 1) ((i, n) :: S) (M.set i n) := by
  have hil := (List.getElem?_eq_some_iff.1 h8).1
  have h2 := h.set hn (by omega) n
  refine ⟨h2.len, ?_, fun p hp => ?_⟩
  · rw [hd_open h8 (.inr rfl), List.filter_cons, if_pos (by rw [List.getD_eq_getElem?_getD, h8]; decide), List.map_cons, h.heads]
  · rcases List.mem_cons.1 hp with rfl | hp
    · exact ⟨by rw [List.getElem?_set_self (by rw [h.len]; omega)], h1⟩
    · exact h2.left p hp
/-- an end of a repeat -/
theorem RelM.rep {K : List Nat} (hn : Nested K) {i h : Nat} {t : List Nat} {S : List (Nat × Nat)} {M : List Nat} (r : RelM K i S M) (hk : K[i]? = some 10) (hh : hdF K i = h :: t) (h8 : K[h]? = some 8) (he : (endsF K h).2 = i) :
    ∃ n S', S = (h, n) :: S' ∧ M[h]? = some n ∧ 1 ≤ n ∧ h < i ∧ (1 < n → RelM K (h + 1) ((h, n - 1) :: S') (M.set h (n - 1))) ∧ RelM K (i + 1) S' (M.set h (n - 1)) := by
  have hil := (List.getElem?_eq_some_iff.1 hk).1
  have hlt := hd_lt hn (i := i) (by omega) h (by rw [hh]; simp)
  have hdn := hd_down hn (i := i) (by omega)
  rw [hh, List.pairwise_cons] at hdn
  have e8 : (K.getD h 0 == 8) = true := by rw [List.getD_eq_getElem?_getD, h8]; decide
  have hd := r.heads
  rw [hh, List.filter_cons, if_pos e8] at hd
  cases S with
  | nil => cases hd
  | cons p S' =>
    obtain ⟨h', n⟩ := p
    rw [List.map_cons, List.cons.injEq] at hd
    obtain ⟨rfl, hS⟩ := hd
    obtain ⟨hM, h1⟩ := r.left (h', n) (by simp)
    have ho := ends_of hn h8 (.inr rfl)
    have htt : t = hdF K h' := by
      have := ho.hd
      rw [he, hh] at this
      exact (List.cons.inj this).2
    have hleft : ∀ p ∈ S', (M.set h' (n - 1))[p.1]? = some p.2 ∧ 1 ≤ p.2 := fun p hp => by
      have hpt : p.1 ∈ t := by
        have : p.1 ∈ S'.map (·.1) := List.mem_map_of_mem hp
        rw [hS] at this
        exact (List.mem_filter.1 this).1
      have := hdn.1 p.1 hpt
      rw [List.getElem?_set_ne (by omega)]
      exact r.left p (List.mem_cons_of_mem _ hp)
    refine ⟨n, S', rfl, hM, h1, hlt, fun h2 => ⟨by rw [List.length_set]; exact r.len, ?_, fun p hp => ?_⟩, ⟨by rw [List.length_set]; exact r.len, ?_, hleft⟩⟩
    · rw [hd_open h8 (.inr rfl), List.filter_cons, if_pos e8, List.map_cons, ← htt, hS]
    · rcases List.mem_cons.1 hp with rfl | hp
      · exact ⟨by dsimp only; rw [List.getElem?_set_self (by rw [r.len]; omega)], by dsimp only; omega⟩
      · exact hleft p hp
    · rw [hd_end hk, hh, List.tail_cons]; exact hS
/-- an end of an if: the repeat that is open ends further on -/
theorem RelM.iff {K : List Nat} (hn : Nested K) {i h : Nat} {t : List Nat} {S : List (Nat × Nat)} {M : List Nat} (r : RelM K i S M) (hk : K[i]? = some 10) (hh : hdF K i = h :: t) (h7 : K[h]? = some 7) :
    RelM K (i + 1) S M ∧ ∀ p S', S = p :: S' → (endsF K p.1).2 ≠ i := by
  have e7 : ¬ (K.getD h 0 == 8) = true := by rw [List.getD_eq_getElem?_getD, h7]; decide
  have hd := r.heads
  rw [hh, List.filter_cons, if_neg e7] at hd
  refine ⟨⟨r.len, by rw [hd_end hk, hh, List.tail_cons]; exact hd, r.left⟩, fun p S' e => ?_⟩
  obtain ⟨h', t', hh', _, _, hfar⟩ := end_head hn hk
  rw [hh] at hh'
  cases hh'
  have hpt : p.1 ∈ t := by
    have : p.1 ∈ S.map (·.1) := by rw [e]; simp
    rw [hd] at this
    exact (List.mem_filter.1 this).1
  have := hfar p.1 hpt
  omega
/-- what is read is nested -/
theorem nested_parse : ∀ (ls : List Txt) (i : Nat) (out : List Ln) (o : List Nat) (l : List Ln), nestG (out.map (·.k)) [] = some o → (parseL ls i out o).1 = some l → Nested (l.map (·.k))
  | [], i, out, o, l, hn, h => by
    rw [parseL] at h
    split at h
    · rename_i ho
      cases h
      rw [ho] at hn; exact hn
    · cases h
  | x :: ls, i, out, o, l, hn, h => by
    rw [parseL] at h
    split at h
    · exact nested_parse ls _ _ _ _ hn h
    · split at h
      · cases h
      · split at h
        · cases h
        · rename_i w y hy
          split at h
          · cases h
          · split at h
            · cases h
            · rename_i o' ho
              refine nested_parse ls _ _ _ _ ?_ h
              rw [List.map_append, nestG_append, hn]
              simp only [List.map_cons, List.map_nil]
              rw [nestG, ho]; rfl
theorem nested_of {s : Txt} {l : List Ln} {i : Nat} (h : parseF s = (some l, i)) : Nested (l.map (·.k)) := by
  unfold parseF at h
  split at h
  · cases h
  · exact nested_parse _ _ _ _ _ rfl (by rw [h])
end Go.Blk
