import Derived.Test.YtlgcfcdmldlefaaDoorTc
set_option linter.unusedVariables false
set_option linter.unusedSimpArgs false
set_option maxRecDepth 100000
/- Build scripts, the reference: a line's words. -/
namespace Go.Proofs.YtlgcfcdmldlefaaDoor
open Go Go.Vc Go.Scr

theorem isB_num {c : UInt8} (h : isB c = true) : c.toNat = 32 ∨ c.toNat = 9 := by rw [isB_nat, Bool.or_eq_true, beq_iff_eq, beq_iff_eq] at h; exact h
theorem isB_num_f {c : UInt8} (h : isB c = false) : c.toNat ≠ 32 ∧ c.toNat ≠ 9 := by rw [isB_nat, Bool.or_eq_false_iff, beq_eq_false_iff_ne, beq_eq_false_iff_ne] at h; exact h
theorem own_lit {H : Heap} {g base : Nat} {e : TypeId} {xs : List Value} {n : Nat} (h : Blk H g xs.toArray e) (hb : base ≤ g) (hn : xs.length = n) (hm : n ≤ 1000000) : Own H base e 1 (some ⟨g, 0, none⟩) n n xs :=
  ⟨by omega, .inr ⟨g, xs.toArray, rfl, hb, h, Nat.le_refl _, by unfold maxLen; omega, by simp [hn], by simp [← hn]⟩⟩
theorem getD_drop (l : Bs) (i j : Nat) : (l.drop i).getD j 0 = l.getD (i + j) 0 := by rw [List.getD_eq_getElem?_getD, List.getD_eq_getElem?_getD, List.getElem?_drop]
theorem drop_getD {l : Bs} {i : Nat} {c : UInt8} {t : Bs} (h : l.drop i = c :: t) : l.getD i 0 = c := by
  have := getD_drop l i 0
  rw [h] at this; simpa using this.symm
theorem sl_snoc2 (a : Option Addr) (l : Bs) (c : UInt8) (cap : Nat) : Value.slice a ((34 :: l).length + 1) cap = Value.slice a (34 :: (l ++ [c])).length cap := by rw [List.length_cons, List.length_cons, List.length_append]; rfl
theorem own_snoc2 {H : Heap} {b : Nat} {e : TypeId} {a : Option Addr} {cap : Nat} {l : Bs} {c : UInt8} (h : Own H b e 1 a ((34 :: l).length + 1) cap (strV (34 :: l) ++ [.int .u8 c.toNat])) : Own H b e 1 a (34 :: (l ++ [c])).length cap (strV (34 :: (l ++ [c]))) := own_snoc (l := 34 :: l) h
structure QSt where
  j : Nat
  acc : Bs
  a : Option Addr
  cap : Nat
set_option maxHeartbeats 8000000 in
theorem rwords_any (s : Bs) (hl : s.length ≤ 1000000000) (H : Heap) : CallH Tryd.prog 35 [.string (mkS s)] H fun v H' => wordsR H' H.size v (wordsF s) ∧ Ext H H' := by
  obtain ⟨W, hW⟩ : ∃ W, wordsF s = W := ⟨_, rfl⟩
  rw [hW]
  have hsz : (mkS s).size = s.length := rfl
  refine Vc.CallH.body Tryd.func35 Tryd.call35 rfl (by decide +kernel) rfl ?_
  ((conv => whnf); repeat (any_goals (first | (refine Vc.sts ?_; (conv => whnf)))))
  refine LoopH.intro (fun (x : Nat × List Bs × Option Addr × Nat) => [(5, .int .i64 x.1), (4, .slice x.2.2.1 x.2.1.length x.2.2.2)]) (fun x H' => x.1 ≤ s.length ∧ x.2.1.length ≤ x.1 ∧ Own H' H.size 9 1 x.2.2.1 x.2.1.length x.2.2.2 (strs x.2.1) ∧ Ext H H' ∧ W = (wordsF (s.drop x.1)).map fun l => x.2.1 ++ l) (fun x => s.length - x.1) (0, [], none, 0) ⟨rfl, rfl, trivial⟩ ⟨Nat.zero_le _, Nat.le_refl _, Own.nil _ _ _ _, Ext.refl _, by show W = (wordsF s).map _; rw [hW]; cases W <;> rfl⟩ ?_
  rintro ⟨i, out, a, cap⟩ H2 ⟨hi, hol, ho2, hx2, hinv⟩
  dsimp only at hi hol ho2 hinv ⊢
  by_cases hlt : i < s.length
  · obtain ⟨c, hc, hdr⟩ := drop_get hlt
    rw [hdr] at hinv
    cases hb : isB c
    · obtain ⟨n32, n9⟩ := isB_num_f hb
      by_cases h34 : c = 34
      · subst h34
        rw [wordsF_quote] at hinv
        obtain ⟨Q, hQ⟩ : ∃ Q, quotedF (s.drop (i + 1)) = Q := ⟨_, rfl⟩
        rw [hQ] at hinv
        ((conv => whnf); repeat (any_goals (first | ((refine IdxH.nat i rfl (by omega) ?_; (conv => whnf); rw [hc]); (conv => whnf)) | (refine Vc.stp ?_; intros; (conv => whnf)) | (refine Vc.spl ?_ ?_ <;> (intro _; (conv => whnf))))))
        rename_i H3 hs3 hb3 hx3
        have hw3 : Own H3 H2.size 5 1 (some ⟨H2.size, 0, none⟩) 1 1 (strV [34]) := own_lit hb3 (Nat.le_refl _) rfl (by decide)
        refine LoopH.intro (fun (x : QSt) => [(5, .int .i64 x.j), (7, .slice x.a (34 :: x.acc).length x.cap)]) (fun x H' => i + 1 ≤ x.j ∧ x.j ≤ s.length ∧ x.acc.length ≤ x.j ∧ Own H' H2.size 5 1 x.a (34 :: x.acc).length x.cap (strV (34 :: x.acc)) ∧ Ext H2 H' ∧ Q = (quotedF (s.drop x.j)).map fun p => (x.acc ++ p.1, p.2)) (fun x => s.length - x.j) ⟨i + 1, [], _, _⟩ ⟨rfl, rfl, trivial⟩ ⟨Nat.le_refl _, by show i + 1 ≤ _; omega, Nat.zero_le _, hw3, hx3, by rw [← hQ]; cases quotedF (s.drop (i + 1)) <;> rfl⟩ ?_
        rintro ⟨j, acc, a2, c2⟩ H4 ⟨hj1, hj, hal, hw4, hx4, hq⟩
        dsimp only at hj1 hj hal hw4 hq ⊢
        have e4 : Ext H H4 := hx2.trans hx4
        have hal2 : (34 :: acc).length = acc.length + 1 := rfl
        by_cases hjl : j < s.length
        · obtain ⟨d, hd, hdr2⟩ := drop_get hjl
          rw [hdr2] at hq
          unfold quotedF at hq
          by_cases d34 : d = 34
          · subst d34
            rw [if_pos rfl] at hq
            simp only [Option.map_some, List.append_nil] at hq
            rw [hq] at hinv
            dsimp only at hinv
            have ho4 := ho2.ext hx4
            by_cases hend : j + 1 < s.length
            · obtain ⟨f, hf, hdr3⟩ := drop_get hend
              rw [hdr3] at hinv
              cases hbf : isB f
              · obtain ⟨m32, m9⟩ := isB_num_f hbf
                rw [if_pos (by simp [hbf])] at hinv
                ((conv => whnf); repeat (any_goals (first | ((refine IdxH.nat j rfl (by omega) ?_; (conv => whnf); rw [hd]); (conv => whnf)) | ((refine IdxH.nat (j + 1) rfl (by omega) ?_; (conv => whnf); rw [hf]); (conv => whnf)) | (refine Vc.stp ?_; intros; (conv => whnf)) | (refine Vc.spl ?_ ?_ <;> (intro _; (conv => whnf))))))
                rw [hinv]
                exact ⟨rfl, e4⟩
              · rw [if_neg (by simp [hbf])] at hinv
                have mB := isB_num hbf
                have fin : ∀ {H6 : Heap} {a6 : Option Addr} {c6 : Nat}, Own H6 H.size 9 1 a6 (out.length + 1) c6 (strs out ++ [.string ⟨(34 :: acc).toArray⟩]) → Own H6 H.size 9 1 a6 (out ++ [34 :: acc]).length c6 (strs (out ++ [34 :: acc])) := fun h => own_snocS rfl h
                have hinv' : W = (wordsF (s.drop (j + 1))).map fun l => (out ++ [34 :: acc]) ++ l := by rw [hinv, hdr3]; cases wordsF (f :: s.drop (j + 1 + 1)) <;> simp
                rcases mB with mB | mB
                · ((conv => whnf); repeat (any_goals (first | ((refine IdxH.nat j rfl (by omega) ?_; (conv => whnf); rw [hd]); (conv => whnf)) | ((refine IdxH.nat (j + 1) rfl (by omega) ?_; (conv => whnf); rw [hf]); (conv => whnf)) | (((with_reducible apply to_string'); (focus (rfl)); (focus (rfl)); (focus (rfl)); (focus (exact hw4.row)); (focus (rfl))); (conv => whnf)) | (refine Vc.stp ?_; intros; (conv => whnf)) | (refine Vc.spl ?_ ?_ <;> (intro _; (conv => whnf))))))
                  rename_i H5 hs5 hb5 hx5 a6 c6 H6 ho6 hx6
                  exact ⟨(j + 1, out ++ [34 :: acc], a6, c6), ⟨rfl, sl_snocS _ _ _ _, trivial⟩, ⟨by show j + 1 ≤ _; omega, by show (out ++ [34 :: acc]).length ≤ j + 1; simp; omega, fin ho6, hx6, hinv'⟩, by show s.length - (j + 1) < s.length - i; omega⟩
                · ((conv => whnf); repeat (any_goals (first | ((refine IdxH.nat j rfl (by omega) ?_; (conv => whnf); rw [hd]); (conv => whnf)) | ((refine IdxH.nat (j + 1) rfl (by omega) ?_; (conv => whnf); rw [hf]); (conv => whnf)) | (((with_reducible apply to_string'); (focus (rfl)); (focus (rfl)); (focus (rfl)); (focus (exact hw4.row)); (focus (rfl))); (conv => whnf)) | (refine Vc.stp ?_; intros; (conv => whnf)) | (refine Vc.spl ?_ ?_ <;> (intro _; (conv => whnf))))))
                  rename_i H5 hs5 hb5 hx5 a6 c6 H6 ho6 hx6
                  exact ⟨(j + 1, out ++ [34 :: acc], a6, c6), ⟨rfl, sl_snocS _ _ _ _, trivial⟩, ⟨by show j + 1 ≤ _; omega, by show (out ++ [34 :: acc]).length ≤ j + 1; simp; omega, fin ho6, hx6, hinv'⟩, by show s.length - (j + 1) < s.length - i; omega⟩
            · rw [List.drop_of_length_le (by omega), if_neg (by simp)] at hinv
              ((conv => whnf); repeat (any_goals (first | ((refine IdxH.nat j rfl (by omega) ?_; (conv => whnf); rw [hd]); (conv => whnf)) | (((with_reducible apply to_string'); (focus (rfl)); (focus (rfl)); (focus (rfl)); (focus (exact hw4.row)); (focus (rfl))); (conv => whnf)) | (refine Vc.stp ?_; intros; (conv => whnf)) | (refine Vc.spl ?_ ?_ <;> (intro _; (conv => whnf))))))
              rename_i H5 hs5 hb5 hx5 a6 c6 H6 ho6 hx6
              refine ⟨(j + 1, out ++ [34 :: acc], a6, c6), ⟨rfl, sl_snocS _ _ _ _, trivial⟩, ⟨by show j + 1 ≤ _; omega, by show (out ++ [34 :: acc]).length ≤ j + 1; simp; omega, own_snocS rfl ho6, hx6, ?_⟩, by show s.length - (j + 1) < s.length - i; omega⟩
              rw [hinv]; dsimp only; rw [List.drop_of_length_le (by omega), wordsF_nil]; simp
          · have m34 := ne_nat 34 (by decide) d34
            rw [if_neg d34] at hq
            by_cases d92 : d = 92
            · subst d92
              rw [if_pos rfl] at hq
              by_cases hend : j + 1 < s.length
              · obtain ⟨f, hf, hdr3⟩ := drop_get hend
                rw [hdr3] at hq
                dsimp only at hq
                by_cases hfq : f = 34 ∨ f = 92
                · rw [if_pos hfq] at hq
                  have hnat : f.toNat = 34 ∨ f.toNat = 92 := by rcases hfq with rfl | rfl <;> simp
                  have hq' : Q = (quotedF (s.drop (j + 1 + 1))).map fun p => ((acc ++ [f]) ++ p.1, p.2) := by rw [hq]; cases quotedF (s.drop (j + 1 + 1)) <;> simp
                  rcases hnat with hnat | hnat
                  · ((conv => whnf); repeat (any_goals (first | ((refine IdxH.nat j rfl (by omega) ?_; (conv => whnf); rw [hd]); (conv => whnf)) | ((refine IdxH.nat (j + 1) rfl (by omega) ?_; (conv => whnf); rw [hf]); (conv => whnf)) | (refine Vc.stp ?_; intros; (conv => whnf)) | (refine Vc.spl ?_ ?_ <;> (intro _; (conv => whnf))))))
                    rename_i H5 hs5 hb5 hx5 a6 c6 H6 ho6 hx6
                    exact ⟨⟨j + 1 + 1, acc ++ [f], a6, c6⟩, ⟨rfl, sl_snoc2 _ acc f _, trivial⟩, ⟨by show i + 1 ≤ j + 1 + 1; omega, by show j + 1 + 1 ≤ _; omega, by show (acc ++ [f]).length ≤ j + 1 + 1; simp; omega, own_snoc2 ho6, hx6, hq'⟩, by show s.length - (j + 1 + 1) < s.length - j; omega⟩
                  · ((conv => whnf); repeat (any_goals (first | ((refine IdxH.nat j rfl (by omega) ?_; (conv => whnf); rw [hd]); (conv => whnf)) | ((refine IdxH.nat (j + 1) rfl (by omega) ?_; (conv => whnf); rw [hf]); (conv => whnf)) | (refine Vc.stp ?_; intros; (conv => whnf)) | (refine Vc.spl ?_ ?_ <;> (intro _; (conv => whnf))))))
                    rename_i H5 hs5 hb5 hx5 a6 c6 H6 ho6 hx6
                    exact ⟨⟨j + 1 + 1, acc ++ [f], a6, c6⟩, ⟨rfl, sl_snoc2 _ acc f _, trivial⟩, ⟨by show i + 1 ≤ j + 1 + 1; omega, by show j + 1 + 1 ≤ _; omega, by show (acc ++ [f]).length ≤ j + 1 + 1; simp; omega, own_snoc2 ho6, hx6, hq'⟩, by show s.length - (j + 1 + 1) < s.length - j; omega⟩
                · rw [if_neg hfq] at hq
                  have f34 := ne_nat 34 (by decide) fun e => hfq (.inl e)
                  have f92 := ne_nat 92 (by decide) fun e => hfq (.inr e)
                  by_cases hfn : f = 110
                  · subst hfn
                    rw [if_pos rfl] at hq
                    have hq' : Q = (quotedF (s.drop (j + 1 + 1))).map fun p => ((acc ++ [10]) ++ p.1, p.2) := by rw [hq]; cases quotedF (s.drop (j + 1 + 1)) <;> simp
                    ((conv => whnf); repeat (any_goals (first | ((refine IdxH.nat j rfl (by omega) ?_; (conv => whnf); rw [hd]); (conv => whnf)) | ((refine IdxH.nat (j + 1) rfl (by omega) ?_; (conv => whnf); rw [hf]); (conv => whnf)) | (refine Vc.stp ?_; intros; (conv => whnf)) | (refine Vc.spl ?_ ?_ <;> (intro _; (conv => whnf))))))
                    rename_i H5 hs5 hb5 hx5 a6 c6 H6 ho6 hx6
                    exact ⟨⟨j + 1 + 1, acc ++ [10], a6, c6⟩, ⟨rfl, sl_snoc2 _ acc 10 _, trivial⟩, ⟨by show i + 1 ≤ j + 1 + 1; omega, by show j + 1 + 1 ≤ _; omega, by show (acc ++ [10]).length ≤ j + 1 + 1; simp; omega, own_snoc2 (c := 10) ho6, hx6, hq'⟩, by show s.length - (j + 1 + 1) < s.length - j; omega⟩
                  · have f110 := ne_nat 110 (by decide) hfn
                    rw [if_neg hfn] at hq
                    rw [hq] at hinv
                    ((conv => whnf); repeat (any_goals (first | ((refine IdxH.nat j rfl (by omega) ?_; (conv => whnf); rw [hd]); (conv => whnf)) | ((refine IdxH.nat (j + 1) rfl (by omega) ?_; (conv => whnf); rw [hf]); (conv => whnf)) | (refine Vc.stp ?_; intros; (conv => whnf)) | (refine Vc.spl ?_ ?_ <;> (intro _; (conv => whnf))))))
                    rw [hinv]; exact ⟨rfl, e4⟩
              · rw [List.drop_of_length_le (by omega)] at hq
                rw [hq] at hinv
                ((conv => whnf); repeat (any_goals (first | ((refine IdxH.nat j rfl (by omega) ?_; (conv => whnf); rw [hd]); (conv => whnf)) | (refine Vc.stp ?_; intros; (conv => whnf)) | (refine Vc.spl ?_ ?_ <;> (intro _; (conv => whnf))))))
                rw [hinv]; exact ⟨rfl, e4⟩
            · have m92 := ne_nat 92 (by decide) d92
              rw [if_neg d92] at hq
              have hq' : Q = (quotedF (s.drop (j + 1))).map fun p => ((acc ++ [d]) ++ p.1, p.2) := by rw [hq]; cases quotedF (s.drop (j + 1)) <;> simp
              ((conv => whnf); repeat (any_goals (first | ((refine IdxH.nat j rfl (by omega) ?_; (conv => whnf); rw [hd]); (conv => whnf)) | (refine Vc.stp ?_; intros; (conv => whnf)) | (refine Vc.spl ?_ ?_ <;> (intro _; (conv => whnf))))))
              rename_i H5 hs5 hb5 hx5 a6 c6 H6 ho6 hx6
              exact ⟨⟨j + 1, acc ++ [d], a6, c6⟩, ⟨rfl, sl_snoc2 _ acc d _, trivial⟩, ⟨by show i + 1 ≤ j + 1; omega, by show j + 1 ≤ _; omega, by show (acc ++ [d]).length ≤ j + 1; simp; omega, own_snoc2 ho6, hx6, hq'⟩, by show s.length - (j + 1) < s.length - j; omega⟩
        · rw [List.drop_of_length_le (by omega)] at hq
          rw [show quotedF [] = none from rfl] at hq
          rw [hq] at hinv
          ((conv => whnf); repeat (any_goals (first | (refine Vc.stp ?_; intros; (conv => whnf)) | (refine Vc.spl ?_ ?_ <;> (intro _; (conv => whnf))))))
          rw [hinv]; exact ⟨rfl, e4⟩
      · have n34 := ne_nat 34 (by decide) h34
        obtain ⟨e1, e2, e3⟩ := run_cons (t := s.drop (i + 1)) hb
        rw [wordsF_word hb h34, e1, e2, ← hdr] at hinv
        have hcd := drop_getD hdr
        ((conv => whnf); repeat (any_goals (first | ((refine IdxH.nat i rfl (by omega) ?_; (conv => whnf); rw [hc]); (conv => whnf)) | (refine Vc.stp ?_; intros; (conv => whnf)) | (refine Vc.spl ?_ ?_ <;> (intro _; (conv => whnf))))))
        refine LoopH.intro (fun (j : Nat) => [(5, .int .i64 j)]) (fun j H' => H2 = H' ∧ i ≤ j ∧ j ≤ s.length ∧ ∀ p, p < j - i → isB ((s.drop i).getD p 0) = false) (fun j => s.length - j) i ⟨rfl, trivial⟩ ⟨rfl, Nat.le_refl _, hi, fun p hp => by omega⟩ ?_
        rintro j _ ⟨rfl, hij, hjl, hno⟩
        have hdl : (s.drop i).length = s.length - i := by simp
        have fin : runF (s.drop i) = j - i → ∀ {H6 : Heap} {a6 : Option Addr} {c6 : Nat}, Own H6 H.size 9 1 a6 (out.length + 1) c6 (strs out ++ [.string ((mkS s).extract i j)]) → i < j ∧ Own H6 H.size 9 1 a6 (out ++ [(s.drop i).take (j - i)]).length c6 (strs (out ++ [(s.drop i).take (j - i)])) ∧ W = (wordsF (s.drop j)).map fun l => (out ++ [(s.drop i).take (j - i)]) ++ l := by
          intro hrun H6 a6 c6 ho6
          have hij' : i < j := by rw [← hdr, hrun] at e3; omega
          refine ⟨hij', own_snocS (mkS_ext _ _ _) ho6, ?_⟩
          rw [hinv, hrun, List.drop_drop, show i + (j - i) = j by omega]
          cases wordsF (s.drop j) <;> simp
        by_cases hjlt : j < s.length
        · obtain ⟨d, hd, hdr2⟩ := drop_get hjlt
          have hdd : (s.drop i).getD (j - i) 0 = d := by rw [getD_drop, show i + (j - i) = j by omega]; exact drop_getD hdr2
          cases hbd : isB d
          · obtain ⟨m32, m9⟩ := isB_num_f hbd
            ((conv => whnf); repeat (any_goals (first | ((refine IdxH.nat j rfl (by omega) ?_; (conv => whnf); rw [hd]); (conv => whnf)) | (refine Vc.stp ?_; intros; (conv => whnf)) | (refine Vc.spl ?_ ?_ <;> (intro _; (conv => whnf))))))
            refine ⟨j + 1, ⟨rfl, trivial⟩, ⟨rfl, by omega, by omega, fun p hp => ?_⟩, by omega⟩
            rcases Nat.lt_or_ge p (j - i) with h | h
            · exact hno p h
            · have : p = j - i := by omega
              rw [this, hdd]; exact hbd
          · have hrun : runF (s.drop i) = j - i := runF_uniq hno (by omega) (by rw [hdd]; exact hbd)
            rcases isB_num hbd with m | m
            · ((conv => whnf); repeat (any_goals (first | ((refine IdxH.nat j rfl (by omega) ?_; (conv => whnf); rw [hd]); (conv => whnf)) | ((refine BndH.nat j rfl (by omega) ?_); (conv => whnf)) | ((refine BndH.nat i rfl (by omega) ?_); (conv => whnf)) | (refine Vc.stp ?_; intros; (conv => whnf)) | (refine Vc.spl ?_ ?_ <;> (intro _; (conv => whnf))))))
              rename_i H5 hs5 hb5 hx5 a6 c6 H6 ho6 hx6
              obtain ⟨hij', ho7, hw7⟩ := fin hrun ho6
              exact ⟨(j, _, a6, c6), ⟨rfl, sl_snocS _ _ _ _, trivial⟩, ⟨hjl, by show (out ++ [_]).length ≤ j; rw [List.length_append]; show out.length + 1 ≤ j; omega, ho7, hx6, hw7⟩, by show s.length - j < s.length - i; omega⟩
            · ((conv => whnf); repeat (any_goals (first | ((refine IdxH.nat j rfl (by omega) ?_; (conv => whnf); rw [hd]); (conv => whnf)) | ((refine BndH.nat j rfl (by omega) ?_); (conv => whnf)) | ((refine BndH.nat i rfl (by omega) ?_); (conv => whnf)) | (refine Vc.stp ?_; intros; (conv => whnf)) | (refine Vc.spl ?_ ?_ <;> (intro _; (conv => whnf))))))
              rename_i H5 hs5 hb5 hx5 a6 c6 H6 ho6 hx6
              obtain ⟨hij', ho7, hw7⟩ := fin hrun ho6
              exact ⟨(j, _, a6, c6), ⟨rfl, sl_snocS _ _ _ _, trivial⟩, ⟨hjl, by show (out ++ [_]).length ≤ j; rw [List.length_append]; show out.length + 1 ≤ j; omega, ho7, hx6, hw7⟩, by show s.length - j < s.length - i; omega⟩
        · have hrun : runF (s.drop i) = j - i := by rw [runF_all fun p hp => hno p (by omega)]; omega
          ((conv => whnf); repeat (any_goals (first | ((refine BndH.nat j rfl (by omega) ?_); (conv => whnf)) | ((refine BndH.nat i rfl (by omega) ?_); (conv => whnf)) | (refine Vc.stp ?_; intros; (conv => whnf)) | (refine Vc.spl ?_ ?_ <;> (intro _; (conv => whnf))))))
          rename_i H5 hs5 hb5 hx5 a6 c6 H6 ho6 hx6
          obtain ⟨hij', ho7, hw7⟩ := fin hrun ho6
          exact ⟨(j, _, a6, c6), ⟨rfl, sl_snocS _ _ _ _, trivial⟩, ⟨hjl, by show (out ++ [_]).length ≤ j; rw [List.length_append]; show out.length + 1 ≤ j; omega, ho7, hx6, hw7⟩, by show s.length - j < s.length - i; omega⟩
    · rw [wordsF_blank hb] at hinv
      rcases isB_num hb with m | m
      · ((conv => whnf); repeat (any_goals (first | ((refine IdxH.nat i rfl (by omega) ?_; (conv => whnf); rw [hc]); (conv => whnf)) | (refine Vc.stp ?_; intros; (conv => whnf)) | (refine Vc.spl ?_ ?_ <;> (intro _; (conv => whnf))))))
        exact ⟨(i + 1, out, a, cap), ⟨rfl, rfl, trivial⟩, ⟨by show i + 1 ≤ _; omega, by show out.length ≤ i + 1; omega, ho2, hx2, hinv⟩, by show s.length - (i + 1) < s.length - i; omega⟩
      · ((conv => whnf); repeat (any_goals (first | ((refine IdxH.nat i rfl (by omega) ?_; (conv => whnf); rw [hc]); (conv => whnf)) | (refine Vc.stp ?_; intros; (conv => whnf)) | (refine Vc.spl ?_ ?_ <;> (intro _; (conv => whnf))))))
        exact ⟨(i + 1, out, a, cap), ⟨rfl, rfl, trivial⟩, ⟨by show i + 1 ≤ _; omega, by show out.length ≤ i + 1; omega, ho2, hx2, hinv⟩, by show s.length - (i + 1) < s.length - i; omega⟩
  · rw [List.drop_of_length_le (by omega), wordsF_nil] at hinv
    ((conv => whnf); repeat (any_goals (first | (refine Vc.stp ?_; intros; (conv => whnf)) | (refine Vc.spl ?_ ?_ <;> (intro _; (conv => whnf))))))
    rw [hinv]
    exact ⟨⟨a, cap, by simp; rfl, by simpa using ho2⟩, hx2⟩
end Go.Proofs.YtlgcfcdmldlefaaDoor
