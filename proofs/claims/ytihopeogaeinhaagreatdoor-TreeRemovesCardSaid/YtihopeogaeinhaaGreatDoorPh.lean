import Derived.Test.YtihopeogaeinhaaGreatDoorPg
import Derived.Test.YtihopeogaeinhaaGreatDoorRo
import Derived.Test.YtihopeogaeinhaaGreatDoorTh
set_option linter.unusedVariables false
set_option linter.unusedSimpArgs false
set_option maxRecDepth 100000
/- Paths, the code: the parts of a path, handed on one by one (strings.SplitSeq). -/
namespace Go.Proofs.YtihopeogaeinhaaGreatDoor
open Go Go.Vc Go.Scr Go.Pth
set_option maxHeartbeats 1000000 in
theorem seq1_any (l : Nat) (s : Bs) (bp bs bn : Nat) (J : List Bs → Bs → Heap → Prop) (Jx : List Bs → Heap → Prop) (H : Heap) (hl : s.length ≤ 100000000)
    (hB : ∀ pre r H, J pre r H → Blk H bp #[.string (mkS [47])] 9 ∧ Blk H bs #[.string (mkS r)] 9 ∧ Blk H bn #[.int .i64 0] 3)
    (hA : ∀ pre r r' H H', J pre r H → But bs H H' → Blk H' bs #[.string (mkS r')] 9 → J pre r' H')
    (hY : ∀ pre x r H1, J pre r H1 → (∃ t, splitF 47 s = pre ++ x :: t) → YieldH Tryz.prog l [.string (mkS x)] H1 fun v H2 => (v = .bool true ∧ J (pre ++ [x]) r H2) ∨ (v = .bool false ∧ Jx (pre ++ [x]) H2))
    (h0 : J [] s H) : CallH Tryz.prog 152 [.func (.yield l) #[] #[], .pointer (some ⟨bp, 0, none⟩), .pointer (some ⟨bs, 0, none⟩), .pointer (some ⟨bn, 0, none⟩)] H fun v H' => (∃ r, J (splitF 47 s) r H') ∨ ∃ pre, pre ≠ [] ∧ pre <+: splitF 47 s ∧ Jx pre H' := by
  have h47 : (mkS [47]).size = 1 := rfl
  obtain ⟨kp, ks, kn⟩ := hB _ _ _ h0
  refine Vc.CallH.bodyY Tryz.func152 Tryz.call152 rfl (by decide +kernel) (by decide +kernel) rfl ?_
  ((conv => whnf); repeat (any_goals (first | (refine Vc.stp ?_; intros; (conv => whnf)) | (refine Vc.spl ?_ ?_ <;> (intro _; (conv => whnf))))))
  refine LoopY.intro (fun _ => []) (fun (x : List Bs × Bs) H' => J x.1 x.2 H' ∧ x.2.length ≤ s.length ∧ splitF 47 s = x.1 ++ splitF 47 x.2) (fun x => x.2.length) ([], s) trivial ⟨h0, Nat.le_refl _, rfl⟩ ?_
  rintro ⟨pre, r⟩ H1 ⟨hj, hrl, hsp⟩
  dsimp only at hj hrl hsp ⊢
  obtain ⟨kp1, ks1, kn1⟩ := hB _ _ _ hj
  have hszr : (mkS r).size = r.length := rfl
  have hix := fun H => Index_any r 47 H
  by_cases hm : (47 : UInt8) ∈ r
  · obtain ⟨p, q, e1, e2, e3⟩ := index_some hm
    rw [e3] at hix
    have hlen : r.length = p.length + 1 + q.length := by rw [e1]; simp; omega
    have hp : (mkS r).extract 0 p.length = mkS p := by rw [mkS_take, e1]; simp
    have hq : (mkS r).extract (p.length + 1) (mkS r).size = mkS q := by
      have e4 : r.drop (p.length + 1) = q := by rw [e1]; simp
      rw [hszr, mkS_ext, e4, List.take_of_length_le (by omega)]
    have hsr : splitF 47 r = p :: splitF 47 q := by rw [e1]; exact splitF_line p q e2
    have hyy := (hY pre p r H1 hj ⟨splitF 47 q, by rw [hsp, hsr]⟩).mono (R' := fun v H2 => (v = .bool true ∧ J (pre ++ [p]) r H2 ∧ Blk H2 bp #[.string (mkS [47])] 9 ∧ Blk H2 bs #[.string (mkS r)] 9 ∧ Blk H2 bn #[.int .i64 0] 3) ∨ (v = .bool false ∧ Jx (pre ++ [p]) H2)) fun v H2 h => h.imp (fun ⟨a, b⟩ => ⟨a, b, hB _ _ _ b⟩) id
    ((conv => whnf); repeat (any_goals (first | ((refine (hix _).mono ?_; rintro _ _ ⟨rfl, rfl⟩); (conv => whnf)) | ((refine BndH.nat p.length (by omega) (by omega) ?_; (conv => whnf); rw [hp]); (conv => whnf)) | ((refine BndH.nat (p.length + 1) (by omega) (by omega) ?_); (conv => whnf)) | ((refine hyy.mono ?_; rintro v H2 (⟨rfl, hj2, kp2, ks2, kn2⟩ | ⟨rfl, hx2⟩) <;> (conv => whnf)); (conv => whnf)) | (refine Vc.stp ?_; intros; (conv => whnf)) | (refine Vc.spl ?_ ?_ <;> (intro _; (conv => whnf))))))
    · rename_i H3 hz3 hb3 hx3
      rw [hq] at hb3
      exact ⟨(pre ++ [p], q), trivial, ⟨hA _ r q H2 H3 hj2 hx3 hb3, by dsimp only; omega, by dsimp only; rw [hsp, hsr]; simp⟩, by dsimp only; omega⟩
    · exact .inr ⟨pre ++ [p], by simp, ⟨splitF 47 q, by rw [hsp, hsr]; simp⟩, hx2⟩
  · rw [index_none hm] at hix
    have hsr : splitF 47 r = [r] := splitF_none hm
    have hyy := hY pre r r H1 hj ⟨[], by rw [hsp, hsr]⟩
    ((conv => whnf); repeat (any_goals (first | ((refine (hix _).mono ?_; rintro _ _ ⟨rfl, rfl⟩); (conv => whnf)) | ((refine hyy.mono ?_; rintro v H2 (⟨rfl, hj2⟩ | ⟨rfl, hx2⟩) <;> (conv => whnf)); (conv => whnf)) | (refine Vc.stp ?_; intros; (conv => whnf)) | (refine Vc.spl ?_ ?_ <;> (intro _; (conv => whnf))))))
    · exact .inl ⟨r, by rw [hsp, hsr]; exact hj2⟩
    · exact .inr ⟨pre ++ [r], by simp, by rw [hsp, hsr]; exact List.prefix_refl _, hx2⟩
end Go.Proofs.YtihopeogaeinhaaGreatDoor
