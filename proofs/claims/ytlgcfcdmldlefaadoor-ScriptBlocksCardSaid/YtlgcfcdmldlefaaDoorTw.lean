import Derived.Test.YtlgcfcdmldlefaaDoorTv
set_option linter.unusedVariables false
set_option linter.unusedSimpArgs false
set_option maxRecDepth 100000
/- Build scripts, the code: a script's text (of the kinds that the statements tell, none of them indented). -/
namespace Go.Scr
def flatL : Nat → List Ln → Bool
  | _, [] => true
  | d, x :: l => decide (tabsOf d x.k = 0) && decide (x.k = 1 ∨ x.k = 7 ∨ x.k = 10) && decide (x.a.length ≤ 1000000) && decide (x.tx.length ≤ 1000000) && flatL (deepOf d x.k) l
theorem oneText_len (x : Ln) (ha : x.a.length ≤ 1000000) (ht : x.tx.length ≤ 1000000) : (oneText x).length ≤ 10000000 := by
  have := escF_len x.tx
  unfold oneText
  split
  · simp; omega
  · split
    · split <;> simp <;> omega
    · simp
end Go.Scr
namespace Go.Proofs.YtlgcfcdmldlefaaDoor
open Go Go.Vc Go.Scr
theorem rep_any (s : ByteArray) (n : Int) (hn : n = 0) (H : Heap) : CallH Tryd.prog 68 [.string s, .int .i64 n] H fun v H' => v = .string ⟨#[]⟩ ∧ H = H' := by
  subst hn
  refine Vc.CallH.body Tryd.func68 Tryd.call68 rfl (by decide +kernel) rfl ?_
  ((conv => whnf); repeat (any_goals (first | (refine Vc.stp ?_; intros; (conv => whnf)) | (refine Vc.spl ?_ ?_ <;> (intro _; (conv => whnf))))))
  exact ⟨rfl, rfl⟩
theorem write_any' {H : Heap} {B b : Nat} {l s : Bs} {s' : ByteArray} (hs : s' = mkS s) (h : Buf H B b l) (hB : B ≤ H.size) (hl : l.length + s.length ≤ 100000000000) : CallH Tryd.prog 67 [.pointer (some ⟨b, 0, none⟩), .string s'] H fun v H' => v = .tuple #[.int .i64 s.length, .nilIface] ∧ Buf H' B b (l ++ s) ∧ Upon B H H' := hs ▸ write_any h hB hl
theorem cat3 (l : Bs) : (mkS [] ++ mkS l) ++ mkS [10] = mkS (l ++ [10]) := by rw [mkS_app, mkS_app]; rfl
structure TSt where
  i : Nat
  d : Nat
  acc : Bs
set_option maxHeartbeats 4000000 in
theorem text_any' (L : List Ln) (a : Option Addr) (n cap : Nat) (H : Heap) (hr : Row H a (lnsV L)) (hn : L.length = n) (hm : n ≤ 1000) (hf : flatL 0 L = true) (hl : (textL 0 L).length ≤ 1000000000) : CallH Tryd.prog 40 [.slice a n cap] H fun v H' => v = .string (mkS (textL 0 L)) ∧ Ext H H' := by
  obtain ⟨T, hT⟩ : ∃ T, textL 0 L = T := ⟨_, rfl⟩
  rw [hT] at hl ⊢
  refine Vc.CallH.body Tryd.func40 Tryd.call40 rfl (by decide +kernel) rfl ?_
  ((conv => whnf); repeat (any_goals (first | (refine Vc.sts ?_; (conv => whnf)))))
  refine SemH.alloc0 rfl rfl ?_
  intro H1 hs1 hb1 hx1
  have hB1 : Buf H1 H.size H.size [] := BufH.new hb1
  ((conv => whnf); repeat (any_goals (first | (refine Vc.sts ?_; (conv => whnf)))))
  refine LoopH.intro (fun (x : TSt) => [(10, .int .i64 x.i), (4, .int .i64 x.d)]) (fun x H' => x.i ≤ n ∧ x.d ≤ x.i ∧ Buf H' H.size H.size x.acc ∧ Ext H H' ∧ T = x.acc ++ textL x.d (L.drop x.i) ∧ flatL x.d (L.drop x.i) = true) (fun x => n - x.i) ⟨0, 0, []⟩ ⟨rfl, rfl, trivial⟩ ⟨Nat.zero_le _, Nat.le_refl _, hB1, hx1, by rw [← hT]; rfl, hf⟩ ?_
  rintro ⟨i, d, acc⟩ H2 ⟨hi, hd, hB2, hx2, hinv, hfl⟩
  dsimp only at hi hd hB2 hinv hfl ⊢
  have hz2 := hx2.size
  have hacc : acc.length ≤ T.length := by rw [hinv, List.length_append]; omega
  by_cases hlt : i < n
  · obtain ⟨x, hx⟩ : ∃ x, L[i]? = some x := ⟨_, List.getElem?_eq_getElem (by omega)⟩
    have hdr : L.drop i = x :: L.drop (i + 1) := by
      rw [List.drop_eq_getElem_cons (by omega)]; congr 1; rw [List.getElem?_eq_getElem (by omega)] at hx; exact Option.some.inj hx
    rw [hdr] at hinv hfl
    unfold flatL at hfl
    simp only [Bool.and_eq_true, decide_eq_true_eq] at hfl
    obtain ⟨⟨⟨⟨hta, hk⟩, ha⟩, htx⟩, hfl⟩ := hfl
    rw [textL, hta, List.replicate_zero, List.nil_append] at hinv
    have hol := oneText_len x ha htx
    have h0 : (⟨#[]⟩ : ByteArray).size = 0 := rfl
    have h10 : (⟨#[10]⟩ : ByteArray).size = 1 := rfl
    have hos : (mkS (oneText x)).size = (oneText x).length := rfl
    have hcs : ((⟨#[]⟩ : ByteArray) ++ mkS (oneText x)).size = (oneText x).length := by show (mkS [] ++ mkS (oneText x)).size = _; rw [mkS_app]; rfl
    have hone := fun H => one_any x hk ha htx H
    have hrow := hr.ext hx2
    have hk3 : x.k = 1 ∨ x.k = 7 ∨ x.k = 10 := hk
    rcases hk with hk | hk | hk
    · have hdo : deepOf d x.k = d := by unfold deepOf; rw [if_neg (by omega), if_neg (by omega)]
      have hd0 : d = 0 := by unfold tabsOf at hta; rw [if_neg (by omega)] at hta; exact hta
      ((conv => whnf); repeat (any_goals (first | ((refine IdxA.ln hrow hn i x rfl hx ?_; intro _ _ _); (conv => whnf)) | (((with_reducible apply SemH.load_ln); (focus (assumption)); (focus ((exact Ext.refl _))); (focus ((conv => whnf)))); (conv => whnf)) | ((refine (rep_any _ _ (by omega) _).mono ?_; rintro _ _ ⟨rfl, rfl⟩); (conv => whnf)) | ((refine (hone _).mono ?_; rintro _ H5 ⟨rfl, hx5⟩; have hz5 := hx5.size); (conv => whnf)) | ((refine (write_any' (s := oneText x ++ [10]) (cat3 _) (hB2.keep (by (repeat (first | assumption | exact Vc.Ext.refl _ | ((with_reducible apply Vc.Ext.trans); (case k => assumption)) | ((with_reducible apply Vc.Ext.but); (case k => assumption); (case hb => omega)))))) (by omega) (by rw [List.length_append]; simp; omega)).mono ?_; rintro _ H6 ⟨rfl, hB6, hu6⟩); (conv => whnf)) | (((with_reducible refine Vc.DrawH.held [0, 2, 1, 3, 4, 5, 6] [(1, [2])] mixed (by decide +kernel) ?_)); (conv => whnf)) | (refine Vc.stp ?_; intros; (conv => whnf)) | (refine Vc.spl ?_ ?_ <;> (intro _; (conv => whnf))))))
      exact ⟨⟨i + 1, deepOf d x.k, acc ++ (oneText x ++ [10])⟩, ⟨rfl, by rw [hdo]; first | rfl | exact congrArg (Value.int .i64) (show max ((d : Int) - 1) 0 = ((d - 1 : Nat) : Int) by omega), trivial⟩, ⟨by show i + 1 ≤ _; omega, by show deepOf d x.k ≤ i + 1; omega, hB6, Upon.ext (by (repeat (first | assumption | exact Vc.Ext.refl _ | ((with_reducible apply Vc.Ext.trans); (case k => assumption)) | ((with_reducible apply Vc.Ext.but); (case k => assumption); (case hb => omega))))) hu6 (Nat.le_refl _), by rw [hinv]; simp, hfl⟩, by show n - (i + 1) < n - i; omega⟩
    · have hdo : deepOf d x.k = d + 1 := by unfold deepOf; rw [if_neg (by omega), if_pos hk]
      have hd0 : d = 0 := by unfold tabsOf at hta; rw [if_neg (by omega)] at hta; exact hta
      ((conv => whnf); repeat (any_goals (first | ((refine IdxA.ln hrow hn i x rfl hx ?_; intro _ _ _); (conv => whnf)) | (((with_reducible apply SemH.load_ln); (focus (assumption)); (focus ((exact Ext.refl _))); (focus ((conv => whnf)))); (conv => whnf)) | ((refine (rep_any _ _ (by omega) _).mono ?_; rintro _ _ ⟨rfl, rfl⟩); (conv => whnf)) | ((refine (hone _).mono ?_; rintro _ H5 ⟨rfl, hx5⟩; have hz5 := hx5.size); (conv => whnf)) | ((refine (write_any' (s := oneText x ++ [10]) (cat3 _) (hB2.keep (by (repeat (first | assumption | exact Vc.Ext.refl _ | ((with_reducible apply Vc.Ext.trans); (case k => assumption)) | ((with_reducible apply Vc.Ext.but); (case k => assumption); (case hb => omega)))))) (by omega) (by rw [List.length_append]; simp; omega)).mono ?_; rintro _ H6 ⟨rfl, hB6, hu6⟩); (conv => whnf)) | (((with_reducible refine Vc.DrawH.held [0, 2, 1, 3, 4, 5, 6] [(1, [2])] mixed (by decide +kernel) ?_)); (conv => whnf)) | (refine Vc.stp ?_; intros; (conv => whnf)) | (refine Vc.spl ?_ ?_ <;> (intro _; (conv => whnf))))))
      exact ⟨⟨i + 1, deepOf d x.k, acc ++ (oneText x ++ [10])⟩, ⟨rfl, by rw [hdo]; first | rfl | exact congrArg (Value.int .i64) (show max ((d : Int) - 1) 0 = ((d - 1 : Nat) : Int) by omega), trivial⟩, ⟨by show i + 1 ≤ _; omega, by show deepOf d x.k ≤ i + 1; omega, hB6, Upon.ext (by (repeat (first | assumption | exact Vc.Ext.refl _ | ((with_reducible apply Vc.Ext.trans); (case k => assumption)) | ((with_reducible apply Vc.Ext.but); (case k => assumption); (case hb => omega))))) hu6 (Nat.le_refl _), by rw [hinv]; simp, hfl⟩, by show n - (i + 1) < n - i; omega⟩
    · have hdo : deepOf d x.k = d - 1 := by unfold deepOf; rw [if_pos hk]
      have hd0 : d ≤ 1 := by unfold tabsOf at hta; rw [if_pos hk] at hta; omega
      ((conv => whnf); repeat (any_goals (first | ((refine IdxA.ln hrow hn i x rfl hx ?_; intro _ _ _); (conv => whnf)) | (((with_reducible apply SemH.load_ln); (focus (assumption)); (focus ((exact Ext.refl _))); (focus ((conv => whnf)))); (conv => whnf)) | ((refine (rep_any _ _ (by omega) _).mono ?_; rintro _ _ ⟨rfl, rfl⟩); (conv => whnf)) | ((refine (hone _).mono ?_; rintro _ H5 ⟨rfl, hx5⟩; have hz5 := hx5.size); (conv => whnf)) | ((refine (write_any' (s := oneText x ++ [10]) (cat3 _) (hB2.keep (by (repeat (first | assumption | exact Vc.Ext.refl _ | ((with_reducible apply Vc.Ext.trans); (case k => assumption)) | ((with_reducible apply Vc.Ext.but); (case k => assumption); (case hb => omega)))))) (by omega) (by rw [List.length_append]; simp; omega)).mono ?_; rintro _ H6 ⟨rfl, hB6, hu6⟩); (conv => whnf)) | (((with_reducible refine Vc.DrawH.held [0, 2, 1, 3, 4, 5, 6] [(1, [2])] mixed (by decide +kernel) ?_)); (conv => whnf)) | (refine Vc.stp ?_; intros; (conv => whnf)) | (refine Vc.spl ?_ ?_ <;> (intro _; (conv => whnf))))))
      exact ⟨⟨i + 1, deepOf d x.k, acc ++ (oneText x ++ [10])⟩, ⟨rfl, by rw [hdo]; first | rfl | exact congrArg (Value.int .i64) (show max ((d : Int) - 1) 0 = ((d - 1 : Nat) : Int) by omega), trivial⟩, ⟨by show i + 1 ≤ _; omega, by show deepOf d x.k ≤ i + 1; omega, hB6, Upon.ext (by (repeat (first | assumption | exact Vc.Ext.refl _ | ((with_reducible apply Vc.Ext.trans); (case k => assumption)) | ((with_reducible apply Vc.Ext.but); (case k => assumption); (case hb => omega))))) hu6 (Nat.le_refl _), by rw [hinv]; simp, hfl⟩, by show n - (i + 1) < n - i; omega⟩
  · rw [List.drop_of_length_le (by omega)] at hinv
    have hTa : T = acc := by rw [hinv]; simp [textL]
    ((conv => whnf); repeat (any_goals (first | ((refine (string_any hB2 hz2).mono ?_; rintro _ H6 ⟨rfl, hu6⟩); (conv => whnf)) | (((with_reducible refine Vc.DrawH.held [0, 2, 1, 3, 4, 5, 6] [(1, [2])] mixed (by decide +kernel) ?_)); (conv => whnf)) | (refine Vc.stp ?_; intros; (conv => whnf)) | (refine Vc.spl ?_ ?_ <;> (intro _; (conv => whnf))))))
    rw [hTa]
    exact ⟨rfl, Upon.ext hx2 hu6 (Nat.le_refl _)⟩
end Go.Proofs.YtlgcfcdmldlefaaDoor
