import Derived.Test.YtlgcfcdmldlefaaDoorTb
set_option linter.unusedVariables false
set_option linter.unusedSimpArgs false
set_option maxRecDepth 100000
/- Build scripts, the code: a line's words. -/
namespace Go.Proofs.YtlgcfcdmldlefaaDoor
open Go Go.Vc Go.Scr

theorem ne_empty (c : UInt8) (t : Bs) : ((mkS (c :: t)).toList == (⟨#[]⟩ : ByteArray).toList) = false := by
  rw [str_beq, decide_eq_false_iff_not]
  intro h
  have := congrArg ByteArray.size h
  cases this
def wordsR (H : Heap) (base : Nat) (v : Value) : Option (List Bs) → Prop
  | none => v = .tuple #[.slice none 0 0, .bool false]
  | some ws => ∃ a cap, v = .tuple #[.slice a ws.length cap, .bool true] ∧ Own H base 9 1 a ws.length cap (strs ws)
theorem own_snocS {H : Heap} {b : Nat} {e : TypeId} {a : Option Addr} {cap : Nat} {l : List Bs} {c : Bs} {s : ByteArray} (hs : s = mkS c) (h : Own H b e 1 a (l.length + 1) cap (strs l ++ [.string s])) : Own H b e 1 a (l ++ [c]).length cap (strs (l ++ [c])) := by
  rw [strs_append, List.length_append]; subst hs; exact h
theorem sl_snocS (a : Option Addr) (l : List Bs) (c : Bs) (cap : Nat) : Value.slice a (l.length + 1) cap = Value.slice a (l ++ [c]).length cap := by rw [List.length_append]; rfl
theorem run_cons {c : UInt8} {t : Bs} (h : isB c = false) : c :: t.takeWhile (fun x => !isB x) = (c :: t).take (runF (c :: t)) ∧ t.dropWhile (fun x => !isB x) = (c :: t).drop (runF (c :: t)) ∧ 0 < runF (c :: t) := by
  have e1 := run_take (c :: t)
  have e2 := run_drop (c :: t)
  rw [List.takeWhile_cons, if_pos (by rw [h]; rfl)] at e1
  rw [List.dropWhile_cons, if_pos (by rw [h]; rfl)] at e2
  refine ⟨e1, e2, ?_⟩
  have := congrArg List.length e1
  simp only [List.length_cons, List.length_take] at this
  omega
theorem quotedF_wlen : ∀ (n : Nat) (l : Bs), l.length ≤ n → ∀ {w r : Bs}, quotedF l = some (w, r) → w.length ≤ l.length
  | _, [], _, _, _, h => by simp [quotedF] at h
  | 0, c :: t, hn, _, _, _ => by simp at hn
  | n + 1, c :: t, hn, w, r, h => by
    simp only [List.length_cons] at hn ⊢
    unfold quotedF at h
    split at h
    · cases h; simp
    · split at h
      · split at h
        · cases h
        · rename_i d u
          simp only [List.length_cons] at hn ⊢
          split at h
          · cases hq : quotedF u with
            | none => rw [hq] at h; cases h
            | some p => rw [hq] at h; cases h; have := quotedF_wlen n u (by omega) (w := p.1) (r := p.2) hq; simp; omega
          · split at h
            · cases hq : quotedF u with
              | none => rw [hq] at h; cases h
              | some p => rw [hq] at h; cases h; have := quotedF_wlen n u (by omega) (w := p.1) (r := p.2) hq; simp; omega
            · cases h
      · cases hq : quotedF t with
        | none => rw [hq] at h; cases h
        | some p => rw [hq] at h; cases h; have := quotedF_wlen n t (by omega) (w := p.1) (r := p.2) hq; simp; omega
structure WSt where
  r : Bs
  out : List Bs
  a : Option Addr
  cap : Nat
set_option maxHeartbeats 4000000 in
theorem words_any (s : Bs) (hl : s.length ≤ 1000000000) (H : Heap) : CallH Tryd.prog 34 [.string (mkS s)] H fun v H' => wordsR H' H.size v (wordsF s) ∧ Ext H H' := by
  obtain ⟨W, hW⟩ : ∃ W, wordsF s = W := ⟨_, rfl⟩
  rw [hW]
  refine Vc.CallH.body Tryd.func34 Tryd.call34 rfl (by decide +kernel) rfl ?_
  ((conv => whnf); repeat (any_goals (first | (refine Vc.sts ?_; (conv => whnf)))))
  refine LoopH.intro (fun (s : WSt) => [(0, .string (mkS s.r)), (4, .slice s.a s.out.length s.cap)]) (fun x H' => x.out.length + x.r.length ≤ s.length ∧ Own H' H.size 9 1 x.a x.out.length x.cap (strs x.out) ∧ Ext H H' ∧ W = (wordsF x.r).map fun l => x.out ++ l) (fun x => x.r.length) ⟨s, [], none, 0⟩ ⟨rfl, rfl, trivial⟩ ⟨by simp, Own.nil _ _ _ _, Ext.refl _, by rw [hW]; cases W <;> rfl⟩ ?_
  rintro ⟨r, out, a, cap⟩ H2 ⟨hlen, ho2, hx2, hinv⟩
  dsimp only at hlen ho2 hinv ⊢
  cases r with
  | nil =>
    rw [wordsF_nil] at hinv
    ((conv => whnf); repeat (any_goals (first | (refine Vc.stp ?_; intros; (conv => whnf)) | (refine Vc.spl ?_ ?_ <;> (intro _; (conv => whnf))))))
    rw [hinv]
    exact ⟨⟨a, cap, by simp; rfl, by simpa using ho2⟩, hx2⟩
  | cons c t =>
    have hne := ne_empty c t
    have hc0 : (mkS (c :: t)).data.toList.getD 0 0 = c := rfl
    have hsz : (mkS (c :: t)).size = t.length + 1 := rfl
    simp only [List.length_cons] at hlen
    cases hb : isB c
    · by_cases h34 : c = 34
      · subst h34
        rw [wordsF_quote] at hinv
        have hq := fun H => quoted_any t (by omega) H
        cases hqt : quotedF t with
        | none =>
          rw [hqt] at hq hinv
          ((conv => whnf); repeat (any_goals (first | ((refine IdxH.nat 0 rfl (by omega) ?_; (conv => whnf); rw [hc0]); (conv => whnf)) | ((refine (blank_any _ _).mono ?_; rintro _ _ ⟨rfl, rfl⟩); (conv => whnf)) | ((refine (hq _).mono ?_; rintro _ H3 ⟨rfl, hx3⟩); (conv => whnf)) | (refine Vc.stp ?_; intros; (conv => whnf)) | (refine Vc.spl ?_ ?_ <;> (intro _; (conv => whnf))))))
          rw [hinv]
          exact ⟨rfl, hx2.trans hx3⟩
        | some p =>
          obtain ⟨w, q⟩ := p
          have hql := quotedF_len _ t (Nat.le_refl _) hqt
          rw [hqt] at hq hinv
          dsimp only at hinv
          have hww : (mkS w).size = w.length := rfl
          have h1 : (⟨#[34]⟩ : ByteArray).size = 1 := rfl
          have hwl : w.length ≤ 1000000000 := by
            have := quotedF_wlen _ t (Nat.le_refl _) hqt; omega
          cases q with
          | nil =>
            rw [if_neg (by simp), wordsF_nil] at hinv
            ((conv => whnf); repeat (any_goals (first | ((refine IdxH.nat 0 rfl (by omega) ?_; (conv => whnf); rw [hc0]); (conv => whnf)) | ((refine (blank_any _ _).mono ?_; rintro _ _ ⟨rfl, rfl⟩); (conv => whnf)) | ((refine (hq _).mono ?_; rintro _ H3 ⟨rfl, hx3⟩); (conv => whnf)) | (refine Vc.stp ?_; intros; (conv => whnf)) | (refine Vc.spl ?_ ?_ <;> (intro _; (conv => whnf))))))
            rename_i H4 hs4 hb4 hx4 a5 c5 H5 ho5 hx5
            refine ⟨⟨[], out ++ [34 :: w], a5, c5⟩, ⟨rfl, sl_snocS _ _ _ _, trivial⟩, ⟨by show (out ++ [34 :: w]).length + 0 ≤ _; simp; omega, own_snocS (mkS_app [34] w) ho5, hx5, ?_⟩, by show 0 < t.length + 1; omega⟩
            rw [hinv, wordsF_nil]; simp
          | cons d u =>
            have hne2 := ne_empty d u
            have hd0 : (mkS (d :: u)).data.toList.getD 0 0 = d := rfl
            have hsz2 : (mkS (d :: u)).size = u.length + 1 := rfl
            simp only [List.length_cons] at hql
            cases hbd : isB d
            · rw [if_pos (by simp [hbd])] at hinv
              ((conv => whnf); repeat (any_goals (first | ((refine IdxH.nat 0 rfl (by omega) ?_; (conv => whnf); first | rw [hc0] | rw [hd0]); (conv => whnf)) | ((refine (blank_any _ _).mono ?_; rintro _ _ ⟨rfl, rfl⟩); (conv => whnf)) | ((refine (hq _).mono ?_; rintro _ H3 ⟨rfl, hx3⟩); (conv => whnf)) | (refine Vc.stp ?_; intros; (conv => whnf)) | (refine Vc.spl ?_ ?_ <;> (intro _; (conv => whnf))))))
              all_goals (rw [hinv]; exact ⟨rfl, hx2.trans hx3⟩)
            · rw [if_neg (by simp [hbd])] at hinv
              ((conv => whnf); repeat (any_goals (first | ((refine IdxH.nat 0 rfl (by omega) ?_; (conv => whnf); first | rw [hc0] | rw [hd0]); (conv => whnf)) | ((refine (blank_any _ _).mono ?_; rintro _ _ ⟨rfl, rfl⟩); (conv => whnf)) | ((refine (hq _).mono ?_; rintro _ H3 ⟨rfl, hx3⟩); (conv => whnf)) | (refine Vc.stp ?_; intros; (conv => whnf)) | (refine Vc.spl ?_ ?_ <;> (intro _; (conv => whnf))))))
              rename_i H4 hs4 hb4 hx4 a5 c5 H5 ho5 hx5
              refine ⟨⟨d :: u, out ++ [34 :: w], a5, c5⟩, ⟨rfl, sl_snocS _ _ _ _, trivial⟩, ⟨by show (out ++ [34 :: w]).length + (d :: u).length ≤ _; simp; omega, own_snocS (mkS_app [34] w) ho5, hx5, ?_⟩, by show (d :: u).length < t.length + 1; simp; omega⟩
              rw [hinv]; cases wordsF (d :: u) <;> simp
      · have n34 := ne_nat 34 (by decide) h34
        obtain ⟨e1, e2, e3⟩ := run_cons (t := t) hb
        rw [wordsF_word hb h34, e1, e2] at hinv
        have hrl := runF_le (c :: t)
        simp only [List.length_cons] at hrl
        have hif := fun H => IndexFunc_any (c :: t) (by simp; omega) H
        have hk : ((c :: t).drop (runF (c :: t))).length = t.length + 1 - runF (c :: t) := by simp
        by_cases hrn : runF (c :: t) < (c :: t).length
        · rw [if_pos hrn] at hif
          generalize runF (c :: t) = n at *
          simp only [List.length_cons] at hrn
          ((conv => whnf); repeat (any_goals (first | ((refine IdxH.nat 0 rfl (by omega) ?_; (conv => whnf); rw [hc0]); (conv => whnf)) | ((refine (blank_any _ _).mono ?_; rintro _ _ ⟨rfl, rfl⟩); (conv => whnf)) | ((refine (hif _).mono ?_; rintro _ H3 ⟨rfl, hx3⟩); (conv => whnf)) | ((refine BndH.nat n rfl (by omega) ?_); (conv => whnf)) | (refine Vc.stp ?_; intros; (conv => whnf)) | (refine Vc.spl ?_ ?_ <;> (intro _; (conv => whnf))))))
          rename_i H4 hs4 hb4 hx4 a5 c5 H5 ho5 hx5
          refine ⟨⟨(c :: t).drop n, out ++ [(c :: t).take n], a5, c5⟩, ⟨by rw [mkS_drop]; rfl, sl_snocS _ _ _ _, trivial⟩, ⟨by show (out ++ [_]).length + ((c :: t).drop n).length ≤ _; rw [hk]; simp; omega, own_snocS (mkS_take _ _) ho5, hx5, ?_⟩, by show ((c :: t).drop n).length < t.length + 1; rw [hk]; omega⟩
          rw [hinv]; cases wordsF ((c :: t).drop n) <;> simp
        · rw [if_neg hrn] at hif
          have hn : runF (c :: t) = t.length + 1 := by simp only [List.length_cons] at hrn; omega
          rw [hn] at hinv e3 hk
          ((conv => whnf); repeat (any_goals (first | ((refine IdxH.nat 0 rfl (by omega) ?_; (conv => whnf); rw [hc0]); (conv => whnf)) | ((refine (blank_any _ _).mono ?_; rintro _ _ ⟨rfl, rfl⟩); (conv => whnf)) | ((refine (hif _).mono ?_; rintro _ H3 ⟨rfl, hx3⟩); (conv => whnf)) | ((refine BndH.nat (t.length + 1) (by omega) (by omega) ?_); (conv => whnf)) | (refine Vc.stp ?_; intros; (conv => whnf)) | (refine Vc.spl ?_ ?_ <;> (intro _; (conv => whnf))))))
          rename_i H4 hs4 hb4 hx4 a5 c5 H5 ho5 hx5
          refine ⟨⟨(c :: t).drop (t.length + 1), out ++ [(c :: t).take (t.length + 1)], a5, c5⟩, ⟨by rw [← mkS_drop]; rfl, sl_snocS _ _ _ _, trivial⟩, ⟨by show (out ++ [_]).length + ((c :: t).drop (t.length + 1)).length ≤ _; rw [hk]; simp; omega, own_snocS (mkS_take _ _) ho5, hx5, ?_⟩, by show ((c :: t).drop (t.length + 1)).length < t.length + 1; rw [hk]; omega⟩
          rw [hinv]; cases wordsF ((c :: t).drop (t.length + 1)) <;> simp
    · rw [wordsF_blank hb] at hinv
      ((conv => whnf); repeat (any_goals (first | ((refine IdxH.nat 0 rfl (by omega) ?_; (conv => whnf); rw [hc0]); (conv => whnf)) | ((refine (blank_any _ _).mono ?_; rintro _ _ ⟨rfl, rfl⟩); (conv => whnf)) | ((refine BndH.nat 1 rfl (by omega) ?_); (conv => whnf)) | (refine Vc.stp ?_; intros; (conv => whnf)) | (refine Vc.spl ?_ ?_ <;> (intro _; (conv => whnf))))))
      exact ⟨⟨t, out, a, cap⟩, ⟨by rw [mkS_drop]; rfl, rfl, trivial⟩, ⟨by show out.length + t.length ≤ _; omega, ho2, hx2, hinv⟩, by show t.length < t.length + 1; omega⟩
end Go.Proofs.YtlgcfcdmldlefaaDoor
