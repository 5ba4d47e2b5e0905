import Derived.Test.YtlgcfcdmldlefaaDoorUb
set_option linter.unusedVariables false
set_option linter.unusedSimpArgs false
set_option maxRecDepth 100000
/- Build scripts, the statements: texts in quotes. -/
namespace Go.Scr
theorem catF_snoc' (l : List Txt) (x : Txt) : catF (l ++ [x]) = catF l ++ (x ++ [10]) := by rw [catF_append]; simp [catF]
theorem qLine_len (t : Txt) (h : t.length ≤ 200) : (qLine t).length ≤ 410 := by
  have := escF_len t
  unfold qLine; simp; omega
theorem qs_len : ∀ ts : List Txt, (∀ t ∈ ts, t.length ≤ 200) → (catF (ts.map qLine)).length ≤ 411 * ts.length
  | [], _ => by simp [catF]
  | t :: ts, h => by
    have h1 := qs_len ts fun x hx => h x (by simp [hx])
    have h2 := qLine_len t (h t (by simp))
    have e : catF ((t :: ts).map qLine) = qLine t ++ 10 :: catF (ts.map qLine) := by simp [catF]
    rw [e, List.length_append, List.length_cons, List.length_cons]; omega
theorem qs_flat : ∀ ts : List Txt, (∀ t ∈ ts, t.length ≤ 200) → flatL 0 (ts.map qLn) = true
  | [], _ => rfl
  | t :: ts, h => by
    have h1 := qs_flat ts fun x hx => h x (by simp [hx])
    have h2 := h t (by simp)
    show (decide _ && decide _ && decide _ && decide (t.length ≤ 1000000) && flatL 0 (ts.map qLn)) = true
    rw [h1, decide_eq_true (show t.length ≤ 1000000 by omega)]; rfl
end Go.Scr
namespace Go.Proofs.YtlgcfcdmldlefaaDoor
open Go Go.Vc Go.Scr
theorem mkS_one {l : Bs} {k : Nat} {c : UInt8} {t : Bs} (h : l.drop k = c :: t) : (mkS l).extract k (k + 1) = mkS [c] := by
  rw [mkS_ext, h, show k + 1 - k = 1 by omega]; rfl
set_option maxHeartbeats 4000000 in
theorem quotes_law (ts : List Bs) (a : Option Addr) (n cap : Nat) (H : Heap) (hr : Row H a (strs ts)) (hn : ts.length = n) (hm : n ≤ 9223372036854775807) (hbs : ∀ t ∈ ts, t.length ≤ 9223372036854775807) : CallH Tryd.prog 11 [.slice a n cap] H fun v H' => v = .bool true ∧ Ext H H' := by
  refine Vc.CallH.body Tryd.func11 Tryd.call11 rfl (by decide +kernel) rfl ?_
  by_cases hbig : 10 < n
  · ((conv => whnf); repeat (any_goals (first | ((refine (known_any _).mono ?_; rintro _ H1 ⟨rfl, hx1⟩; have hz1 := hx1.size); (conv => whnf)) | (refine Vc.stp ?_; intros; (conv => whnf)) | (refine Vc.spl ?_ ?_ <;> (intro _; (conv => whnf))))))
    exact ⟨rfl, hx1⟩
  ((conv => whnf); repeat (any_goals (first | ((refine (known_any _).mono ?_; rintro _ H1 ⟨rfl, hx1⟩; have hz1 := hx1.size); (conv => whnf)) | (refine Vc.stp ?_; intros; (conv => whnf)) | (refine Vc.spl ?_ ?_ <;> (intro _; (conv => whnf))))))
  refine LoopH.intro (fun (i : Nat) => [(4, .int .i64 i), (3, .string (mkS (catF ((ts.take i).map qLine))))]) (fun i H' => H1 = H' ∧ i ≤ n ∧ ∀ t ∈ ts.take i, t.length ≤ 200) (fun i => n - i) 0 ⟨rfl, rfl, trivial⟩ ⟨rfl, Nat.zero_le _, fun t ht => by simp at ht⟩ ?_
  rintro i _ ⟨rfl, hi, hsm⟩
  by_cases hlt : i < n
  · obtain ⟨t, ht⟩ : ∃ t, ts[i]? = some t := ⟨_, List.getElem?_eq_getElem (by omega)⟩
    have htk : ts.take (i + 1) = ts.take i ++ [t] := by rw [List.take_add_one, ht]; rfl
    have htm : t ∈ ts := List.mem_of_getElem? ht
    have htb := hbs t htm
    have hsz : (mkS t).size = t.length := rfl
    have hrow := hr.ext hx1
    by_cases h200 : 200 < t.length
    · ((conv => whnf); repeat (any_goals (first | ((refine IdxA.strv hrow hn i t rfl ht ?_; intro _ _ _ _ _); (conv => whnf)) | (refine Vc.stp ?_; intros; (conv => whnf)) | (refine Vc.spl ?_ ?_ <;> (intro _; (conv => whnf))))))
      exact ⟨rfl, hx1⟩
    · have hql := qs_len (ts.take i) hsm
      rw [List.length_take] at hql
      ((conv => whnf); repeat (any_goals (first | ((refine IdxA.strv hrow hn i t rfl ht ?_; intro _ _ _ _ _); (conv => whnf)) | (refine Vc.stp ?_; intros; (conv => whnf)) | (refine Vc.spl ?_ ?_ <;> (intro _; (conv => whnf))))))
      obtain ⟨E, hE⟩ : ∃ E, escF t = E := ⟨_, rfl⟩
      have hEl : E.length ≤ 2 * t.length := by rw [← hE]; exact escF_len t
      refine LoopH.intro (fun (x : Nat × Bs) => [(6, .int .i64 x.1), (5, .string (mkS x.2))]) (fun x H' => H1 = H' ∧ x.1 ≤ t.length ∧ E = x.2 ++ escF (t.drop x.1)) (fun x => t.length - x.1) (0, []) ⟨rfl, rfl, trivial⟩ ⟨rfl, Nat.zero_le _, hE.symm⟩ ?_
      rintro ⟨k, acc⟩ _ ⟨rfl, hk, hinv⟩
      dsimp only at hk hinv ⊢
      have hacc : acc.length ≤ E.length := by rw [hinv, List.length_append]; omega
      have h1 : (mkS acc).size = acc.length := rfl
      have h2 : (⟨#[92]⟩ : ByteArray).size = 1 := rfl
      have h3 : (⟨#[92, 110]⟩ : ByteArray).size = 2 := rfl
      by_cases hlk : k < t.length
      · obtain ⟨c, hc, hdr⟩ := drop_get hlk
        have hcons : escF (c :: t.drop (k + 1)) = escB c ++ escF (t.drop (k + 1)) := by simp [escF]
        rw [hdr, hcons] at hinv
        have hex := mkS_one hdr
        have h4 : ((mkS t).extract k (k + 1)).size = 1 := by rw [hex]; rfl
        by_cases hq : c = 34 ∨ c = 92
        · have he : escB c = [92, c] := by unfold escB; rw [if_pos hq]
          rw [he] at hinv
          have hcn : c.toNat = 34 ∨ c.toNat = 92 := by rcases hq with rfl | rfl <;> simp
          have hfin : (mkS acc ++ (⟨#[92]⟩ : ByteArray)) ++ (mkS t).extract k (k + 1) = mkS (acc ++ [92, c]) := by rw [hex]; show (mkS acc ++ mkS [92]) ++ mkS [c] = _; rw [mkS_app, mkS_app]; simp
          rcases hcn with hcn | hcn
          · ((conv => whnf); repeat (any_goals (first | ((refine IdxA.strv hrow hn i t rfl ht ?_; intro _ _ _ _ _); (conv => whnf)) | ((refine IdxH.nat k rfl (by omega) ?_; (conv => whnf); rw [hc]); (conv => whnf)) | ((refine BndH.nat k rfl (by omega) ?_); (conv => whnf)) | ((refine BndH.nat (k + 1) rfl (by omega) ?_); (conv => whnf)) | ((refine NeedH.mk ⟨by (simp only [ByteArray.size_append]; omega), ?_⟩); (conv => whnf)) | (refine Vc.stp ?_; intros; (conv => whnf)) | (refine Vc.spl ?_ ?_ <;> (intro _; (conv => whnf))))))
            exact ⟨(k + 1, acc ++ [92, c]), ⟨rfl, congrArg Value.string hfin, trivial⟩, ⟨rfl, by show k + 1 ≤ _; omega, by rw [hinv]; simp⟩, by show t.length - (k + 1) < t.length - k; omega⟩
          · ((conv => whnf); repeat (any_goals (first | ((refine IdxA.strv hrow hn i t rfl ht ?_; intro _ _ _ _ _); (conv => whnf)) | ((refine IdxH.nat k rfl (by omega) ?_; (conv => whnf); rw [hc]); (conv => whnf)) | ((refine BndH.nat k rfl (by omega) ?_); (conv => whnf)) | ((refine BndH.nat (k + 1) rfl (by omega) ?_); (conv => whnf)) | ((refine NeedH.mk ⟨by (simp only [ByteArray.size_append]; omega), ?_⟩); (conv => whnf)) | (refine Vc.stp ?_; intros; (conv => whnf)) | (refine Vc.spl ?_ ?_ <;> (intro _; (conv => whnf))))))
            exact ⟨(k + 1, acc ++ [92, c]), ⟨rfl, congrArg Value.string hfin, trivial⟩, ⟨rfl, by show k + 1 ≤ _; omega, by rw [hinv]; simp⟩, by show t.length - (k + 1) < t.length - k; omega⟩
        · have m34 := ne_nat 34 (by decide) fun e => hq (.inl e)
          have m92 := ne_nat 92 (by decide) fun e => hq (.inr e)
          by_cases h10 : c = 10
          · have he : escB c = [92, 110] := by unfold escB; rw [if_neg hq, if_pos h10]
            rw [he] at hinv
            have hcn : c.toNat = 10 := by rw [h10]; rfl
            ((conv => whnf); repeat (any_goals (first | ((refine IdxA.strv hrow hn i t rfl ht ?_; intro _ _ _ _ _); (conv => whnf)) | ((refine IdxH.nat k rfl (by omega) ?_; (conv => whnf); rw [hc]); (conv => whnf)) | ((refine NeedH.mk ⟨by (simp only [ByteArray.size_append]; omega), ?_⟩); (conv => whnf)) | (refine Vc.stp ?_; intros; (conv => whnf)) | (refine Vc.spl ?_ ?_ <;> (intro _; (conv => whnf))))))
            exact ⟨(k + 1, acc ++ [92, 110]), ⟨rfl, congrArg Value.string (mkS_app acc [92, 110]), trivial⟩, ⟨rfl, by show k + 1 ≤ _; omega, by rw [hinv]; simp⟩, by show t.length - (k + 1) < t.length - k; omega⟩
          · have he : escB c = [c] := by unfold escB; rw [if_neg hq, if_neg h10]
            rw [he] at hinv
            have m10 := ne_nat 10 (by decide) h10
            have hfin : mkS acc ++ (mkS t).extract k (k + 1) = mkS (acc ++ [c]) := by rw [hex, mkS_app]
            ((conv => whnf); repeat (any_goals (first | ((refine IdxA.strv hrow hn i t rfl ht ?_; intro _ _ _ _ _); (conv => whnf)) | ((refine IdxH.nat k rfl (by omega) ?_; (conv => whnf); rw [hc]); (conv => whnf)) | ((refine BndH.nat k rfl (by omega) ?_); (conv => whnf)) | ((refine BndH.nat (k + 1) rfl (by omega) ?_); (conv => whnf)) | ((refine NeedH.mk ⟨by (simp only [ByteArray.size_append]; omega), ?_⟩); (conv => whnf)) | (refine Vc.stp ?_; intros; (conv => whnf)) | (refine Vc.spl ?_ ?_ <;> (intro _; (conv => whnf))))))
            exact ⟨(k + 1, acc ++ [c]), ⟨rfl, congrArg Value.string hfin, trivial⟩, ⟨rfl, by show k + 1 ≤ _; omega, by rw [hinv]; simp⟩, by show t.length - (k + 1) < t.length - k; omega⟩
      · rw [List.drop_of_length_le (by omega)] at hinv
        have hEa : E = acc := by rw [hinv]; simp [escF]
        have h5 : (mkS (catF ((ts.take i).map qLine))).size = (catF ((ts.take i).map qLine)).length := rfl
        have h6 : (⟨#[119, 114, 105, 116, 101, 32, 102, 32, 34]⟩ : ByteArray).size = 9 := rfl
        have h7 : (⟨#[34, 10]⟩ : ByteArray).size = 2 := rfl
        ((conv => whnf); repeat (any_goals (first | ((refine IdxA.strv hrow hn i t rfl ht ?_; intro _ _ _ _ _); (conv => whnf)) | ((refine NeedH.mk ⟨by (simp only [ByteArray.size_append]; omega), ?_⟩); (conv => whnf)) | (refine Vc.stp ?_; intros; (conv => whnf)) | (refine Vc.spl ?_ ?_ <;> (intro _; (conv => whnf))))))
        refine ⟨i + 1, ⟨rfl, ?_, trivial⟩, ⟨rfl, by omega, fun x hx => ?_⟩, by omega⟩
        · show Value.string (((mkS (catF ((ts.take i).map qLine)) ++ mkS [119, 114, 105, 116, 101, 32, 102, 32, 34]) ++ mkS acc) ++ mkS [34, 10]) = Value.string (mkS (catF ((ts.take (i + 1)).map qLine)))
          rw [htk, List.map_append, List.map_singleton, catF_snoc', qLine, hE, hEa]
          simp only [mkS_app, List.append_assoc]; rfl
        · rw [htk] at hx
          rcases List.mem_append.1 hx with hx | hx
          · exact hsm x hx
          · rw [List.mem_singleton.1 hx]; omega
  · have hall : ts.take i = ts := List.take_of_length_le (by omega)
    rw [hall] at hsm ⊢
    have hql := qs_len ts hsm
    have c1 := fun H => parse_any (catF (ts.map qLine)) (by omega) H
    rw [parse_quotes ts (by omega) hsm] at c1
    have hlq : (ts.map qLn).length = n := by rw [List.length_map, hn]
    have c2 := fun a cap H hr => text_any' (ts.map qLn) a n cap H hr hlq (by omega) (qs_flat ts hsm) (by rw [text_quotes]; omega)
    rw [text_quotes] at c2
    ((conv => whnf); repeat (any_goals (first | ((refine (c1 _).mono ?_; rintro _ H2 ⟨⟨a2, k2, rfl, ho2⟩, hx2⟩; have hz2 := hx2.size; have hr2 := ho2.row; rw [hlq]); (conv => whnf)) | ((refine (c2 _ _ _ (Row.ext hr2 (by (repeat (first | assumption | exact Vc.Ext.refl _ | ((with_reducible apply Vc.Ext.trans); (case k => assumption)) | ((with_reducible apply Vc.Ext.but); (case k => assumption); (case hb => omega))))))).mono ?_; rintro _ H3 ⟨rfl, hx3⟩; have hz3 := hx3.size); (conv => whnf)) | (refine Vc.stp ?_; intros; (conv => whnf)) | (refine Vc.spl ?_ ?_ <;> (intro _; (conv => whnf))))))
    refine LoopH.intro (fun (j : Nat) => [(11, .int .i64 j)]) (fun j H' => H3 = H' ∧ j ≤ n) (fun j => n - j) 0 ⟨rfl, trivial⟩ ⟨rfl, Nat.zero_le _⟩ ?_
    rintro j _ ⟨rfl, hj⟩
    have hr3 := hr2.ext hx3
    have hrow := hr.ext (hx1.trans (hx2.trans hx3))
    by_cases hlj : j < n
    · obtain ⟨t, ht⟩ : ∃ t, ts[j]? = some t := ⟨_, List.getElem?_eq_getElem (by omega)⟩
      have hq : (ts.map qLn)[j]? = some (qLn t) := by rw [List.getElem?_map, ht]; rfl
      have hft : ((mkS (qLn t).tx).toList == (mkS t).toList) = true := str_self _
      have hfa : ((mkS (qLn t).a).toList == (⟨#[102]⟩ : ByteArray).toList) = true := str_self (mkS [102])
      ((conv => whnf); repeat (any_goals (first | ((refine IdxA.strv hrow hn j t rfl ht ?_; intro _ _ _ _ _); (conv => whnf)) | ((refine IdxA.ln hr3 hlq j (qLn t) rfl hq ?_; intro _ _ _); (conv => whnf)) | (((with_reducible apply SemH.load_f); (focus (assumption)); (focus (rfl)); (focus (rfl)); (focus ((repeat (first | assumption | exact Vc.Ext.refl _ | ((with_reducible apply Vc.Ext.trans); (case k => assumption)) | ((with_reducible apply Vc.Ext.but); (case k => assumption); (case hb => omega)))))); (focus ((conv => whnf)))); (conv => whnf)) | (refine Vc.stp ?_; intros; (conv => whnf)) | (refine Vc.spl ?_ ?_ <;> (intro _; (conv => whnf))))))
      all_goals exact ⟨j + 1, ⟨rfl, trivial⟩, ⟨rfl, by omega⟩, by omega⟩
    · ((conv => whnf); repeat (any_goals (first | (refine Vc.stp ?_; intros; (conv => whnf)) | (refine Vc.spl ?_ ?_ <;> (intro _; (conv => whnf))))))
      exact ⟨rfl, by (repeat (first | assumption | exact Vc.Ext.refl _ | ((with_reducible apply Vc.Ext.trans); (case k => assumption)) | ((with_reducible apply Vc.Ext.but); (case k => assumption); (case hb => omega))))⟩
end Go.Proofs.YtlgcfcdmldlefaaDoor
