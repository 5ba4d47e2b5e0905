import Derived.Test.YtlgcfcdmldlefaaDoorBd
import Derived.Test.YtlgcfcdmldlefaaDoorLib
import Derived.Test.YtlgcfcdmldlefaaDoorJn
import Derived.Lib.Join
set_option linter.unusedVariables false
set_option linter.unusedSimpArgs false
set_option maxRecDepth 100000
/- Builders and joined texts, by the kit's contracts; rows of strings and of lines held against one another. -/
namespace Go.Proofs.YtlgcfcdmldlefaaDoor
open Go Go.Vc Go.Scr Go.RowKit

abbrev Buf (H : Heap) (B b : Nat) (l : Bs) : Prop := BufH 129 5 H B b l
theorem write_any {H : Heap} {B b : Nat} {l s : Bs} (h : Buf H B b l) (hB : B ≤ H.size) (hl : l.length + s.length ≤ 100000000000) : CallH Tryd.prog 67 [.pointer (some ⟨b, 0, none⟩), .string (mkS s)] H fun v H' => v = .tuple #[.int .i64 s.length, .nilIface] ∧ Buf H' B b (l ++ s) ∧ Upon B H H' := by
  refine CallH.calls Tryd.call67 fun w hw => ?_
  refine Calls.mono (Any.Builder_WriteString { Tryd.lays156 with } Tryd.Builder_Extra_156 B b (Lib.byteCells l) (mkS s) w (h w hw) ?_ (hw ▸ hB)) ?_
  · rw [Lib.byteCells_length]; show l.length + s.length ≤ _; omega
  · rintro e w' ⟨h1, h2, h3⟩
    refine ⟨_, h1, Below.same h3, rfl, ?_, hw ▸ Below.upon h3⟩
    refine BufH.of (.inr ?_)
    rw [Lib.byteCells_append]; exact h2
theorem string_any {H : Heap} {B b : Nat} {l : Bs} (h : Buf H B b l) (hB : B ≤ H.size) : CallH Tryd.prog 70 [.pointer (some ⟨b, 0, none⟩)] H fun v H' => v = .string (mkS l) ∧ Upon B H H' := by
  refine CallH.calls Tryd.call70 fun w hw => ?_
  refine Calls.mono (Any.Builder_String_any { Tryd.lays156 with } Tryd.Builder_Extra_156 B b l w (h w hw) (hw ▸ hB)) ?_
  rintro e w' ⟨h1, h3⟩
  exact ⟨_, h1, Below.same h3, rfl, hw ▸ Below.upon h3⟩
theorem strings_any (A B : List Bs) (a b : Option Addr) (n m ca cb : Nat) (H : Heap) (hra : Row H a (strs A)) (hrb : Row H b (strs B)) (hn : A.length = n) (hm : B.length = m) (hl : n ≤ 1000000000) (hl2 : m ≤ 1000000000) : CallH Tryd.prog 21 [.slice a n ca, .slice b m cb] H fun v H' => v = .bool (decide (A = B)) ∧ H = H' := by
  refine Vc.CallH.body Tryd.func21 Tryd.call21 rfl (by decide +kernel) rfl ?_
  by_cases hnm : n = m
  · subst hnm
    ((conv => whnf); repeat (any_goals (first | (refine Vc.stp ?_; intros; (conv => whnf)))))
    refine LoopH.intro (fun (i : Nat) => [(5, .int .i64 i)]) (fun i H' => H = H' ∧ i ≤ n ∧ (A = B ↔ A.drop i = B.drop i)) (fun i => n - i) 0 ⟨rfl, trivial⟩ ⟨rfl, Nat.zero_le _, Iff.rfl⟩ ?_
    rintro i _ ⟨rfl, hi, hinv⟩
    by_cases hlt : i < n
    · have hda : A.drop i = A.getD i [] :: A.drop (i + 1) := by
        rw [List.drop_eq_getElem_cons (by omega), List.getD_eq_getElem?_getD, List.getElem?_eq_getElem (by omega)]; rfl
      have hdb : B.drop i = B.getD i [] :: B.drop (i + 1) := by
        rw [List.drop_eq_getElem_cons (by omega), List.getD_eq_getElem?_getD, List.getElem?_eq_getElem (by omega)]; rfl
      rw [hda, hdb, List.cons.injEq] at hinv
      by_cases he : A.getD i [] = B.getD i []
      · have es : ((mkS (A.getD i [])).toList == (mkS (B.getD i [])).toList) = true := by rw [str_mk]; exact decide_eq_true he
        ((conv => whnf); repeat (any_goals (first | ((refine IdxA.strD hra hn i rfl hlt ?_; intro _ _ _ _ _); (conv => whnf)) | ((refine IdxA.strD hrb hm i rfl hlt ?_; intro _ _ _ _ _); (conv => whnf)) | (refine Vc.stp ?_; intros; (conv => whnf)) | (refine Vc.spl ?_ ?_ <;> (intro _; (conv => whnf))))))
        all_goals exact ⟨i + 1, ⟨rfl, trivial⟩, ⟨rfl, by omega, hinv.trans (and_iff_right he)⟩, by omega⟩
      · have es : ((mkS (A.getD i [])).toList == (mkS (B.getD i [])).toList) = false := by rw [str_mk]; exact decide_eq_false he
        ((conv => whnf); repeat (any_goals (first | ((refine IdxA.strD hra hn i rfl hlt ?_; intro _ _ _ _ _); (conv => whnf)) | ((refine IdxA.strD hrb hm i rfl hlt ?_; intro _ _ _ _ _); (conv => whnf)) | (refine Vc.stp ?_; intros; (conv => whnf)) | (refine Vc.spl ?_ ?_ <;> (intro _; (conv => whnf))))))
        all_goals exact ⟨by rw [decide_eq_false (fun e => he (hinv.1 e).1)]; rfl, rfl⟩
    · rw [List.drop_of_length_le (by omega), List.drop_of_length_le (by omega)] at hinv
      ((conv => whnf); repeat (any_goals (first | (refine Vc.stp ?_; intros; (conv => whnf)) | (refine Vc.spl ?_ ?_ <;> (intro _; (conv => whnf))))))
      exact ⟨by rw [decide_eq_true (hinv.2 rfl)]; rfl, rfl⟩
  · ((conv => whnf); repeat (any_goals (first | (refine Vc.stp ?_; intros; (conv => whnf)) | (refine Vc.spl ?_ ?_ <;> (intro _; (conv => whnf))))))
    exact ⟨by rw [decide_eq_false (fun e => hnm (by rw [← hn, ← hm, e]))]; rfl, rfl⟩
end Go.Proofs.YtlgcfcdmldlefaaDoor
