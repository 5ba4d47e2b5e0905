import Derived.Test.YtlgcfcdmldlefaaDoorTa
set_option linter.unusedVariables false
set_option linter.unusedSimpArgs false
set_option maxRecDepth 100000
/- Build scripts, the code: texts in quotes, words. -/
namespace Go.Proofs.YtlgcfcdmldlefaaDoor
open Go Go.Vc Go.Scr

theorem ne_nat (n : Nat) (hn : n < 256) {c : UInt8} (h : c ≠ UInt8.ofNat n) : c.toNat ≠ n := fun e => h (UInt8.toNat_inj.1 (by rw [UInt8.toNat_ofNat']; omega))
theorem drop_get {l : Bs} {i : Nat} (h : i < l.length) : ∃ c, (mkS l).data.toList.getD i 0 = c ∧ l.drop i = c :: l.drop (i + 1) := ⟨l[i], by show l.getD i 0 = _; rw [List.getD_eq_getElem?_getD, List.getElem?_eq_getElem h]; rfl, List.drop_eq_getElem_cons h⟩
theorem own_snoc {H : Heap} {b : Nat} {e : TypeId} {a : Option Addr} {cap : Nat} {l : Bs} {c : UInt8} (h : Own H b e 1 a (l.length + 1) cap (strV l ++ [.int .u8 c.toNat])) : Own H b e 1 a (l ++ [c]).length cap (strV (l ++ [c])) := by
  rw [strV_append, List.length_append]; exact h
theorem sl_snoc (a : Option Addr) (l : Bs) (c : UInt8) (cap : Nat) : Value.slice a (l.length + 1) cap = Value.slice a (l ++ [c]).length cap := by rw [List.length_append]; rfl
def quotedV : Option (Bs × Bs) → Value
  | none => .tuple #[.string (mkS []), .string (mkS []), .bool false]
  | some (w, r) => .tuple #[.string (mkS w), .string (mkS r), .bool true]
set_option maxHeartbeats 2000000 in
theorem quoted_any (t : Bs) (hl : t.length ≤ 1000000000) (H : Heap) : CallH Tryd.prog 59 [.string (mkS (34 :: t))] H fun v H' => v = quotedV (quotedF t) ∧ Ext H H' := by
  obtain ⟨L, hL⟩ : ∃ L, 34 :: t = L := ⟨_, rfl⟩
  have hLl : L.length = t.length + 1 := by rw [← hL]; rfl
  have hd1 : L.drop 1 = t := by rw [← hL]; rfl
  rw [hL]
  have hsz : (mkS L).size = L.length := rfl
  obtain ⟨Q, hQ⟩ : ∃ Q, quotedF t = Q := ⟨_, rfl⟩
  rw [hQ]
  refine Vc.CallH.body Tryd.func59 Tryd.call59 rfl (by decide +kernel) rfl ?_
  ((conv => whnf); repeat (any_goals (first | (refine Vc.sts ?_; (conv => whnf)))))
  refine LoopH.intro (fun (s : Nat × Bs × Option Addr × Nat) => [(5, .slice s.2.2.1 s.2.1.length s.2.2.2), (6, .int .i64 s.1)]) (fun s H' => 1 ≤ s.1 ∧ s.1 ≤ L.length ∧ s.2.1.length ≤ s.1 ∧ Own H' H.size 5 1 s.2.2.1 s.2.1.length s.2.2.2 (strV s.2.1) ∧ Ext H H' ∧ Q = (quotedF (L.drop s.1)).map fun p => (s.2.1 ++ p.1, p.2)) (fun s => L.length - s.1) (1, [], none, 0) ⟨rfl, rfl, trivial⟩ ⟨Nat.le_refl _, by omega, Nat.zero_le _, Own.nil _ _ _ _, Ext.refl _, by rw [← hQ, hd1]; show quotedF t = (quotedF t).map fun p => ([] ++ p.1, p.2); cases quotedF t <;> rfl⟩ ?_
  rintro ⟨i, acc, a, cap⟩ H2 ⟨h1, hi, hal, ho2, hx2, hinv⟩
  dsimp only at h1 hi hal ho2 hinv ⊢
  by_cases hlt : i < L.length
  · obtain ⟨c, hc, hdr⟩ := drop_get hlt
    rw [hdr] at hinv
    unfold quotedF at hinv
    by_cases h34 : c = 34
    · subst h34
      rw [if_pos rfl] at hinv
      ((conv => whnf); repeat (any_goals (first | ((refine IdxH.nat i rfl (by omega) ?_; (conv => whnf); rw [hc]); (conv => whnf)) | (((with_reducible apply to_string'); (focus (rfl)); (focus (rfl)); (focus (rfl)); (focus (exact ho2.row)); (focus (rfl))); (conv => whnf)) | ((refine BndH.nat (i + 1) rfl (by omega) ?_); (conv => whnf)) | (refine Vc.stp ?_; intros; (conv => whnf)) | (refine Vc.spl ?_ ?_ <;> (intro _; (conv => whnf))))))
      rw [hinv]
      refine ⟨?_, hx2⟩
      show Value.tuple #[.string (mkS acc), .string ((mkS L).extract (i + 1) (mkS L).size), .bool true] = .tuple #[.string (mkS (acc ++ [])), .string (mkS (L.drop (i + 1))), .bool true]
      rw [mkS_drop, List.append_nil]
    · have n34 := ne_nat 34 (by decide) h34
      rw [if_neg h34] at hinv
      by_cases h92 : c = 92
      · subst h92
        rw [if_pos rfl] at hinv
        by_cases hlt2 : i + 1 < L.length
        · obtain ⟨d, hd, hdr2⟩ := drop_get hlt2
          rw [hdr2] at hinv
          dsimp only at hinv
          by_cases hdq : d = 34 ∨ d = 92
          · rw [if_pos hdq] at hinv
            have hnat : d.toNat = 34 ∨ d.toNat = 92 := by rcases hdq with rfl | rfl <;> simp
            have hinv' : Q = (quotedF (L.drop (i + 1 + 1))).map fun p => ((acc ++ [d]) ++ p.1, p.2) := by rw [hinv]; cases quotedF (L.drop (i + 1 + 1)) <;> simp
            rcases hnat with hnat | hnat
            · ((conv => whnf); repeat (any_goals (first | ((refine IdxH.nat i rfl (by omega) ?_; (conv => whnf); rw [hc]); (conv => whnf)) | ((refine IdxH.nat (i + 1) rfl (by omega) ?_; (conv => whnf); rw [hd]); (conv => whnf)) | (refine Vc.stp ?_; intros; (conv => whnf)) | (refine Vc.spl ?_ ?_ <;> (intro _; (conv => whnf))))))
              rename_i H3 hs3 hb3 hx3 a4 c4 H4 ho4 hx4
              exact ⟨(i + 1 + 1, acc ++ [d], a4, c4), ⟨sl_snoc _ _ _ _, rfl, trivial⟩, ⟨by omega, by show i + 1 + 1 ≤ _; omega, by show (acc ++ [d]).length ≤ i + 1 + 1; simp; omega, own_snoc ho4, hx4, hinv'⟩, by show L.length - (i + 1 + 1) < L.length - i; omega⟩
            · ((conv => whnf); repeat (any_goals (first | ((refine IdxH.nat i rfl (by omega) ?_; (conv => whnf); rw [hc]); (conv => whnf)) | ((refine IdxH.nat (i + 1) rfl (by omega) ?_; (conv => whnf); rw [hd]); (conv => whnf)) | (refine Vc.stp ?_; intros; (conv => whnf)) | (refine Vc.spl ?_ ?_ <;> (intro _; (conv => whnf))))))
              rename_i H3 hs3 hb3 hx3 a4 c4 H4 ho4 hx4
              exact ⟨(i + 1 + 1, acc ++ [d], a4, c4), ⟨sl_snoc _ _ _ _, rfl, trivial⟩, ⟨by omega, by show i + 1 + 1 ≤ _; omega, by show (acc ++ [d]).length ≤ i + 1 + 1; simp; omega, own_snoc ho4, hx4, hinv'⟩, by show L.length - (i + 1 + 1) < L.length - i; omega⟩
          · rw [if_neg hdq] at hinv
            have m34 := ne_nat 34 (by decide) fun e => hdq (.inl e)
            have m92 := ne_nat 92 (by decide) fun e => hdq (.inr e)
            by_cases hdn : d = 110
            · subst hdn
              rw [if_pos rfl] at hinv
              have hinv' : Q = (quotedF (L.drop (i + 1 + 1))).map fun p => ((acc ++ [10]) ++ p.1, p.2) := by rw [hinv]; cases quotedF (L.drop (i + 1 + 1)) <;> simp
              ((conv => whnf); repeat (any_goals (first | ((refine IdxH.nat i rfl (by omega) ?_; (conv => whnf); rw [hc]); (conv => whnf)) | ((refine IdxH.nat (i + 1) rfl (by omega) ?_; (conv => whnf); rw [hd]); (conv => whnf)) | (refine Vc.stp ?_; intros; (conv => whnf)) | (refine Vc.spl ?_ ?_ <;> (intro _; (conv => whnf))))))
              rename_i H3 hs3 hb3 hx3 a4 c4 H4 ho4 hx4
              exact ⟨(i + 1 + 1, acc ++ [10], a4, c4), ⟨sl_snoc _ _ _ _, rfl, trivial⟩, ⟨by omega, by show i + 1 + 1 ≤ _; omega, by show (acc ++ [10]).length ≤ i + 1 + 1; simp; omega, own_snoc ho4, hx4, hinv'⟩, by show L.length - (i + 1 + 1) < L.length - i; omega⟩
            · have m110 := ne_nat 110 (by decide) hdn
              rw [if_neg hdn] at hinv
              ((conv => whnf); repeat (any_goals (first | ((refine IdxH.nat i rfl (by omega) ?_; (conv => whnf); rw [hc]); (conv => whnf)) | ((refine IdxH.nat (i + 1) rfl (by omega) ?_; (conv => whnf); rw [hd]); (conv => whnf)) | (refine Vc.stp ?_; intros; (conv => whnf)) | (refine Vc.spl ?_ ?_ <;> (intro _; (conv => whnf))))))
              rw [hinv]; exact ⟨rfl, hx2⟩
        · rw [List.drop_of_length_le (by omega)] at hinv
          ((conv => whnf); repeat (any_goals (first | ((refine IdxH.nat i rfl (by omega) ?_; (conv => whnf); rw [hc]); (conv => whnf)) | (refine Vc.stp ?_; intros; (conv => whnf)) | (refine Vc.spl ?_ ?_ <;> (intro _; (conv => whnf))))))
          rw [hinv]; exact ⟨rfl, hx2⟩
      · have n92 := ne_nat 92 (by decide) h92
        rw [if_neg h92] at hinv
        have hinv' : Q = (quotedF (L.drop (i + 1))).map fun p => ((acc ++ [c]) ++ p.1, p.2) := by rw [hinv]; cases quotedF (L.drop (i + 1)) <;> simp
        ((conv => whnf); repeat (any_goals (first | ((refine IdxH.nat i rfl (by omega) ?_; (conv => whnf); rw [hc]); (conv => whnf)) | (refine Vc.stp ?_; intros; (conv => whnf)) | (refine Vc.spl ?_ ?_ <;> (intro _; (conv => whnf))))))
        rename_i H3 hs3 hb3 hx3 a4 c4 H4 ho4 hx4
        exact ⟨(i + 1, acc ++ [c], a4, c4), ⟨sl_snoc _ _ _ _, rfl, trivial⟩, ⟨by omega, by show i + 1 ≤ _; omega, by show (acc ++ [c]).length ≤ i + 1; simp; omega, own_snoc ho4, hx4, hinv'⟩, by show L.length - (i + 1) < L.length - i; omega⟩
  · rw [List.drop_of_length_le (by omega)] at hinv
    ((conv => whnf); repeat (any_goals (first | (refine Vc.stp ?_; intros; (conv => whnf)) | (refine Vc.spl ?_ ?_ <;> (intro _; (conv => whnf))))))
    rw [hinv]; exact ⟨rfl, hx2⟩
end Go.Proofs.YtlgcfcdmldlefaaDoor
