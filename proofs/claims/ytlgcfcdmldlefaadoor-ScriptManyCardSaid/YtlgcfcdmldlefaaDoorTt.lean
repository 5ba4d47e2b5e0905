import Derived.Test.YtlgcfcdmldlefaaDoorTs
import Derived.Test.YtlgcfcdmldlefaaDoorTr
set_option linter.unusedVariables false
set_option linter.unusedSimpArgs false
set_option maxRecDepth 100000
/- Rows of lines held against one another. -/
namespace Go.Proofs.YtlgcfcdmldlefaaDoor
open Go Go.Vc Go.Scr

theorem ln_eq (x y : Ln) : eqFlat Tryd.prog (lnC x).toList (lnC y).toList (Tryd.prog.fieldsOf 89).toList = some (decide (x = y)) := by
  have h : eqFlat Tryd.prog (lnC x).toList (lnC y).toList (Tryd.prog.fieldsOf 89).toList = some (((x.k : Int) == (y.k : Int)) && (((mkS x.a).toList == (mkS y.a).toList) && (((mkS x.b).toList == (mkS y.b).toList) && (((mkS x.tx).toList == (mkS y.tx).toList) && (((x.n : Int) == (y.n : Int)) && ((x.nt == y.nt) && true)))))) := by kernel_rfl
  rw [h, str_mk, str_mk, str_mk]
  congr 1
  rw [Bool.eq_iff_iff]
  simp only [Bool.and_eq_true, beq_iff_eq, decide_eq_true_eq, Bool.and_true]
  obtain ⟨k, a, b, t, n, q⟩ := x
  obtain ⟨k', a', b', t', n', q'⟩ := y
  simp only [Ln.mk.injEq]
  constructor
  · rintro ⟨h1, h2, h3, h4, h5, h6⟩; exact ⟨by omega, h2, h3, h4, by omega, h6⟩
  · rintro ⟨h1, h2, h3, h4, h5, h6⟩; exact ⟨by omega, h2, h3, h4, by omega, h6⟩
theorem lnsV_get : ∀ (L : List Ln) (j : Nat) (x : Ln) (k : Nat) (v : Value), L[j]? = some x → (lnC x)[k]? = some v → (lnsV L)[j * 6 + k]? = some v
  | [], j, x, k, v, h, _ => by simp at h
  | y :: L, 0, x, k, v, h, hv => by
    simp only [List.getElem?_cons_zero, Option.some.injEq] at h
    subst h
    have hk : k < 6 := (Array.getElem?_eq_some_iff.1 hv).1
    have e : lnsV (y :: L) = (lnC y).toList ++ lnsV L := by simp [lnsV]
    rw [e, Nat.zero_mul, Nat.zero_add, List.getElem?_append_left (by show k < 6; exact hk)]
    simpa using hv
  | y :: L, j + 1, x, k, v, h, hv => by
    have e : lnsV (y :: L) = (lnC y).toList ++ lnsV L := by simp [lnsV]
    have hl : (lnC y).toList.length = 6 := rfl
    rw [e, List.getElem?_append_right (by rw [hl]; omega), hl, show (j + 1) * 6 + k - 6 = j * 6 + k by omega]
    exact lnsV_get L j x k v (by simpa using h) hv
theorem IdxA.ln {H : Heap} {a : Option Addr} {L : List Ln} {n : Nat} {i : Int} {K : Addr → Prop} (h : Row H a (lnsV L)) (hn : L.length = n) (j : Nat) (x : Ln) (hi : i = j) (hx : L[j]? = some x)
    (hk : ∀ b o, (∀ k v, (lnC x)[k]? = some v → hcell H ⟨b, o + k, none⟩ = some v) → K ⟨b, o, none⟩) : IdxA a n 6 i K := by
  have hj := (List.getElem?_eq_some_iff.1 hx).1
  refine Go.Vc.IdxA.row (size := 6) h (by rw [lnsV_length, hn]) (by decide) j hi (by omega) fun b o h1 h2 h3 => ?_
  exact hk b (o + j * 6) fun k v hv => h3 k v (lnsV_get L j x k v hx hv)
theorem SemH.load_ln {H H0 : Heap} {b o : Nat} {x : Ln} {K : Value → Heap → Prop} (hc : ∀ k v, (lnC x)[k]? = some v → hcell H0 ⟨b, o + k, none⟩ = some v) (he : Ext H0 H) (hk : K (.agg (lnC x)) H) : SemH Tryd.prog (Instr.loadAt 89 (.pointer (some ⟨b, o, none⟩))) H K := by
  have := Go.Vc.SemH.load_agg (P := Tryd.prog) (t := 89) (H := H) (b := b) (o := o) (vs := (lnC x).toList) (K := K) rfl rfl rfl (fun j v hv => hcell_keep (hc j v (by simpa using hv)) he id) hk
  exact this
theorem lines_any (A B : List Ln) (a b : Option Addr) (n m ca cb : Nat) (H : Heap) (hra : Row H a (lnsV A)) (hrb : Row H b (lnsV B)) (hn : A.length = n) (hm : B.length = m) (hl : n ≤ 1000000000) (hl2 : m ≤ 1000000000) : CallH Tryd.prog 39 [.slice a n ca, .slice b m cb] H fun v H' => v = .bool (decide (A = B)) ∧ H = H' := by
  refine Vc.CallH.body Tryd.func39 Tryd.call39 rfl (by decide +kernel) rfl ?_
  by_cases hnm : n = m
  · subst hnm
    ((conv => whnf); repeat (any_goals (first | (refine Vc.stp ?_; intros; (conv => whnf)))))
    refine LoopH.intro (fun (i : Nat) => [(5, .int .i64 i)]) (fun i H' => H = H' ∧ i ≤ n ∧ (A = B ↔ A.drop i = B.drop i)) (fun i => n - i) 0 ⟨rfl, trivial⟩ ⟨rfl, Nat.zero_le _, Iff.rfl⟩ ?_
    rintro i _ ⟨rfl, hi, hinv⟩
    by_cases hlt : i < n
    · obtain ⟨x, hx⟩ : ∃ x, A[i]? = some x := ⟨_, List.getElem?_eq_getElem (by omega)⟩
      obtain ⟨y, hy⟩ : ∃ y, B[i]? = some y := ⟨_, List.getElem?_eq_getElem (by omega)⟩
      have hda : A.drop i = x :: A.drop (i + 1) := by
        rw [List.drop_eq_getElem_cons (by omega)]; congr 1; rw [List.getElem?_eq_getElem (by omega)] at hx; exact Option.some.inj hx
      have hdb : B.drop i = y :: B.drop (i + 1) := by
        rw [List.drop_eq_getElem_cons (by omega)]; congr 1; rw [List.getElem?_eq_getElem (by omega)] at hy; exact Option.some.inj hy
      rw [hda, hdb, List.cons.injEq] at hinv
      by_cases he : x = y
      · have hd : decide (x = y) = true := decide_eq_true he
        ((conv => whnf); repeat (any_goals (first | ((refine IdxA.ln hra hn i x rfl hx ?_; intro _ _ _); (conv => whnf)) | ((refine IdxA.ln hrb hm i y rfl hy ?_; intro _ _ _); (conv => whnf)) | (((with_reducible apply SemH.load_ln); (focus (assumption)); (focus ((exact Ext.refl _))); (focus ((conv => whnf)))); (conv => whnf)) | ((refine PureH.neq_flat (by kernel_rfl) (by kernel_rfl) (by kernel_rfl) (by kernel_rfl) (ln_eq x y) ?_; rw [hd]); (conv => whnf)) | (refine Vc.stp ?_; intros; (conv => whnf)) | (refine Vc.spl ?_ ?_ <;> (intro _; (conv => whnf))))))
        all_goals exact ⟨i + 1, ⟨rfl, trivial⟩, ⟨rfl, by omega, hinv.trans (and_iff_right he)⟩, by omega⟩
      · have hd : decide (x = y) = false := decide_eq_false he
        ((conv => whnf); repeat (any_goals (first | ((refine IdxA.ln hra hn i x rfl hx ?_; intro _ _ _); (conv => whnf)) | ((refine IdxA.ln hrb hm i y rfl hy ?_; intro _ _ _); (conv => whnf)) | (((with_reducible apply SemH.load_ln); (focus (assumption)); (focus ((exact Ext.refl _))); (focus ((conv => whnf)))); (conv => whnf)) | ((refine PureH.neq_flat (by kernel_rfl) (by kernel_rfl) (by kernel_rfl) (by kernel_rfl) (ln_eq x y) ?_; rw [hd]); (conv => whnf)) | (refine Vc.stp ?_; intros; (conv => whnf)) | (refine Vc.spl ?_ ?_ <;> (intro _; (conv => whnf))))))
        all_goals exact ⟨by rw [decide_eq_false (fun e => he (hinv.1 e).1)]; rfl, rfl⟩
    · rw [List.drop_of_length_le (by omega), List.drop_of_length_le (by omega)] at hinv
      ((conv => whnf); repeat (any_goals (first | (refine Vc.stp ?_; intros; (conv => whnf)) | (refine Vc.spl ?_ ?_ <;> (intro _; (conv => whnf))))))
      exact ⟨by rw [decide_eq_true (hinv.2 rfl)]; rfl, rfl⟩
  · ((conv => whnf); repeat (any_goals (first | (refine Vc.stp ?_; intros; (conv => whnf)) | (refine Vc.spl ?_ ?_ <;> (intro _; (conv => whnf))))))
    exact ⟨by rw [decide_eq_false (fun e => hnm (by rw [← hn, ← hm, e]))]; rfl, rfl⟩
end Go.Proofs.YtlgcfcdmldlefaaDoor
