import Derived.Test.YtihopeogaeinhaaGreatDoorQa
set_option linter.unusedVariables false
set_option linter.unusedSimpArgs false
set_option maxRecDepth 100000
/- Trees of files, the code: what stands at a path and above it; room. -/
namespace Go.Proofs.YtihopeogaeinhaaGreatDoor
open Go Go.Vc Go.Scr Go.Pth Go.Tre
theorem NodeO.dir {H : Heap} {g : Nat} (h : Blk H g #[.bool true, .slice none 0 0] 104) : NodeO H (.pointer (some ⟨g, 0, none⟩)) (true, []) := ⟨g, none, 0, rfl, h, Row.nil _ _⟩
theorem eq_empty (p : Bs) : ((mkS p).toList == (⟨#[]⟩ : ByteArray).toList) = decide (p = []) := by rw [show (⟨#[]⟩ : ByteArray) = mkS [] from rfl, str_beq]; simp [mkS_inj]
theorem new_any (H : Heap) : CallH Tryz.prog 28 [] H fun v H' => (∃ b mb, v = .pointer (some ⟨b, 0, none⟩) ∧ TreeO H' b mb [] ∧ H.size ≤ b ∧ H.size ≤ mb) ∧ Ext H H' := by
  refine Vc.CallH.body Tryz.func28 Tryz.call28 rfl (by decide +kernel) rfl ?_
  ((conv => whnf); repeat (any_goals (first | (((with_reducible apply SemH.makeMap0); (focus ((intro H1 z1 m1 x1; (conv => whnf))))); (conv => whnf)) | ((refine PureH.build #[.map (some H.size), .int .i64 0] (by kernel_rfl) ?_); (conv => whnf)) | (refine Vc.stp ?_; intros; (conv => whnf)) | (refine Vc.spl ?_ ?_ <;> (intro _; (conv => whnf))))))
  rename_i H2 z2 b2 x2
  exact ⟨⟨H1.size, H.size, rfl, ⟨⟨[], m1.ext x2, fun _ _ => rfl, fun k n h => by simp [mget] at h⟩, b2⟩, by omega, Nat.le_refl _⟩, x1.trans x2⟩
theorem at_any {b mb : Nat} {A : Tr} {H : Heap} (h : TreeO H b mb A) (p : Bs) : CallH Tryz.prog 73 [.pointer (some ⟨b, 0, none⟩), .string (mkS p)] H fun v H' => AtV H' v (nodeAt A p) ∧ Ext H H' := by
  have hb := h.blk
  have hm := h.map
  have e0 := eq_empty p
  refine Vc.CallH.body Tryz.func73 Tryz.call73 rfl (by decide +kernel) rfl ?_
  unfold nodeAt
  by_cases hp : p = []
  · rw [decide_eq_true hp] at e0
    rw [if_pos hp]
    ((conv => whnf); repeat (any_goals (first | ((refine PureH.build #[.bool true, .slice none 0 0] (by kernel_rfl) ?_); (conv => whnf)) | (refine Vc.stp ?_; intros; (conv => whnf)) | (refine Vc.spl ?_ ?_ <;> (intro _; (conv => whnf))))))
    rename_i H1 z1 b1 x1
    exact ⟨NodeO.dir b1, x1⟩
  · rw [decide_eq_false hp] at e0
    rw [if_neg hp]
    cases hA : mget A p with
    | none =>
      ((conv => whnf); repeat (any_goals (first | (((with_reducible apply treeGet0 hm hA); (focus (rfl)); (focus (rfl)); (focus (rfl)); (focus (rfl)); (focus ((conv => whnf)))); (conv => whnf)) | (refine Vc.stp ?_; intros; (conv => whnf)) | (refine Vc.spl ?_ ?_ <;> (intro _; (conv => whnf))))))
      exact ⟨rfl, Ext.refl _⟩
    | some n =>
      ((conv => whnf); repeat (any_goals (first | (((with_reducible apply treeGet1 hm hA); (focus (rfl)); (focus (rfl)); (focus (rfl)); (focus (rfl)); (focus ((intro g a cap h1 h2; (conv => whnf))))); (conv => whnf)) | (refine Vc.stp ?_; intros; (conv => whnf)) | (refine Vc.spl ?_ ?_ <;> (intro _; (conv => whnf))))))
      exact ⟨⟨g, a, cap, rfl, h1, h2⟩, Ext.refl _⟩
theorem room_any {b mb : Nat} {A : Tr} {H : Heap} (h : TreeO H b mb A) (hA : Sorted A) (hl : A.length ≤ 100000) (hs : sizeT A ≤ 100000000) (m : Nat) (k : Int) (hm : m ≤ 100000) (hk : -100000000 ≤ k ∧ k ≤ 10000000000) :
    CallH Tryz.prog 75 [.pointer (some ⟨b, 0, none⟩), .int .i64 m, .int .i64 k] H fun v H' => v = .bool (decide (m + A.length ≤ 500 ∧ k + sizeT A ≤ 1048576)) ∧ H = H' := by
  have hb := h.blk
  have hmm := h.map
  refine Vc.CallH.body Tryz.func75 Tryz.call75 rfl (by decide +kernel) rfl ?_
  by_cases h1 : m + A.length ≤ 500
  · by_cases h2 : k + sizeT A ≤ 1048576
    · rw [decide_eq_true ⟨h1, h2⟩]
      ((conv => whnf); repeat (any_goals (first | (((with_reducible apply treeLen hmm hA); (focus (rfl)); (focus (rfl)); (focus ((conv => whnf)))); (conv => whnf)) | (refine Vc.stp ?_; intros; (conv => whnf)) | (refine Vc.spl ?_ ?_ <;> (intro _; (conv => whnf))))))
      exact ⟨by (show Value.bool (decide _) = _); rw [decide_eq_true (by omega)], rfl⟩
    · rw [decide_eq_false (fun e => h2 e.2)]
      ((conv => whnf); repeat (any_goals (first | (((with_reducible apply treeLen hmm hA); (focus (rfl)); (focus (rfl)); (focus ((conv => whnf)))); (conv => whnf)) | (refine Vc.stp ?_; intros; (conv => whnf)) | (refine Vc.spl ?_ ?_ <;> (intro _; (conv => whnf))))))
      exact ⟨by (show Value.bool (decide _) = _); rw [decide_eq_false (by omega)], rfl⟩
  · rw [decide_eq_false (fun e => h1 e.1)]
    ((conv => whnf); repeat (any_goals (first | (((with_reducible apply treeLen hmm hA); (focus (rfl)); (focus (rfl)); (focus ((conv => whnf)))); (conv => whnf)) | (refine Vc.stp ?_; intros; (conv => whnf)) | (refine Vc.spl ?_ ?_ <;> (intro _; (conv => whnf))))))
    exact ⟨rfl, rfl⟩
/-- what ahead answers -/
def AheadV (H' : Heap) (base : Nat) (v : Value) (A : Tr) (p : Txt) : Prop :=
  if fileF A p = true then v = .tuple #[.slice none 0 0, .int .i64 54]
  else ∃ a cap, v = .tuple #[.slice a (lackF A p).length cap, .int .i64 0] ∧ Own H' base 9 1 a (lackF A p).length cap (strs (lackF A p).reverse)
structure AhS where
  m : Nat
  out : List Bs
  a : Option Addr
  cap : Nat
theorem ahead_any {b mb : Nat} {A : Tr} {H : Heap} (h : TreeO H b mb A) {p : Bs} (hp : CleanP p) : CallH Tryz.prog 74 [.pointer (some ⟨b, 0, none⟩), .string (mkS p)] H fun v H' => AheadV H' H.size v A p ∧ Ext H H' := by
  obtain ⟨l, rfl, hl⟩ := hp
  have hlong := hl.long
  have hdeep := hl.deep
  have hpar : ∀ m H, m ≤ l.length → CallH Tryz.prog 103 [.string (mkS (glue (l.take m)))] H fun v H' => v = .string (mkS (glue (l.take (m - 1)))) ∧ H = H' := fun m H hm => by
    have := parent_any (glue (l.take m)) (by have := (hl.take m).long; omega) H
    rw [parent_glue (hl.take m).good, List.dropLast_eq_take, List.take_take, List.length_take] at this
    rwa [show min (min m l.length - 1) m = m - 1 by omega] at this
  have hpar0 := fun H => hpar l.length H (Nat.le_refl _)
  rw [List.take_length] at hpar0
  obtain ⟨ps, hps⟩ : ∃ ps, pars (glue l) = ps := ⟨_, rfl⟩
  have hpl : ps.length = l.length - 1 := by rw [← hps, pars_len, parts_glue hl.good]
  have hpg : ∀ m, m < l.length - 1 → ps[m]? = some (glue (l.take (m + 1))) := fun m hm => by rw [← hps, pars_get _ (by rw [parts_glue hl.good]; exact hm), parts_glue hl.good]
  refine Vc.CallH.body Tryz.func74 Tryz.call74 rfl (by decide +kernel) rfl ?_
  have hd0 : ps.drop (l.length - 1) = [] := List.drop_of_length_le (by omega)
  ((conv => whnf); repeat (any_goals (first | ((refine (hpar0 _).mono ?_; rintro _ _ ⟨rfl, rfl⟩); (conv => whnf)) | (refine Vc.stp ?_; intros; (conv => whnf)) | (refine Vc.spl ?_ ?_ <;> (intro _; (conv => whnf))))))
  refine LoopH.intro (fun (x : AhS) => [(7, .string (mkS (glue (l.take x.m)))), (6, .slice x.a x.out.length x.cap)])
    (fun x H' => x.m ≤ l.length - 1 ∧ x.out = ((ps.drop x.m).filter fun d => (mget A d).isNone).reverse ∧ (∀ d ∈ ps.drop x.m, ∀ n, mget A d = some n → n.1 = true) ∧ Own H' H.size 9 1 x.a x.out.length x.cap (strs x.out) ∧ Ext H H') (fun x => x.m) ⟨l.length - 1, [], none, 0⟩ ⟨rfl, rfl, trivial⟩
    ⟨Nat.le_refl _, by (show [] = ((ps.drop (l.length - 1)).filter _).reverse; rw [hd0]; rfl), by (show ∀ d ∈ ps.drop (l.length - 1), _; rw [hd0]; intro d hd; cases hd), Own.nil _ _ _ _, Ext.refl _⟩ ?_
  rintro ⟨m, out, a, cap⟩ H2 ⟨hm, hout, hdir, ho2, hx2⟩
  dsimp only at hm hout hdir ho2 ⊢
  have hb := h.blk.ext hx2
  have hmm := h.map.ext hx2
  have hz2 := hx2.size
  have e0 := eq_empty (glue (l.take m))
  have hol : out.length ≤ 12 := by
    rw [hout, List.length_reverse]
    refine Nat.le_trans (List.length_filter_le _ _) ?_
    rw [List.length_drop]; omega
  have hpm := fun H => hpar m H (by omega)
  by_cases hm0 : m = 0
  · subst hm0
    have hff : fileF A (glue l) = false := by
      unfold fileF
      rw [List.any_eq_false, hps]
      intro d hd
      have := hdir d (by simpa using hd)
      cases hg : mget A d with
      | none => simp
      | some n => simp [this n hg]
    have hlk : out = (lackF A (glue l)).reverse := by rw [hout]; unfold lackF; rw [hps]; rfl
    have hll : out.length = (lackF A (glue l)).length := by rw [hlk, List.length_reverse]
    rw [decide_eq_true (show glue (l.take 0) = [] from rfl)] at e0
    ((conv => whnf); repeat (any_goals (first | (refine Vc.stp ?_; intros; (conv => whnf)) | (refine Vc.spl ?_ ?_ <;> (intro _; (conv => whnf))))))
    refine ⟨?_, hx2⟩
    unfold AheadV
    rw [hff, if_neg (by simp)]
    rw [← hlk, ← hll]
    exact ⟨a, cap, rfl, ho2⟩
  · have hne : glue (l.take m) ≠ [] := glue_nil (hl.take m).good (fun e => by have := congrArg List.length e; rw [List.length_take, List.length_nil] at this; omega)
    rw [decide_eq_false hne] at e0
    have hget := hpg (m - 1) (by omega)
    rw [show m - 1 + 1 = m by omega] at hget
    have hdm : ps.drop (m - 1) = glue (l.take m) :: ps.drop m := by
      have hlt : m - 1 < ps.length := by omega
      rw [List.drop_eq_getElem_cons hlt, show m - 1 + 1 = m by omega]
      rw [List.getElem?_eq_getElem hlt] at hget
      rw [Option.some.inj hget]
    cases hg : mget A (glue (l.take m)) with
    | none =>
      ((conv => whnf); repeat (any_goals (first | (((with_reducible apply treeGet0 hmm hg); (focus (rfl)); (focus (rfl)); (focus (rfl)); (focus (rfl)); (focus ((conv => whnf)))); (conv => whnf)) | ((refine (hpm _).mono ?_; rintro _ _ ⟨rfl, rfl⟩); (conv => whnf)) | (refine Vc.stp ?_; intros; (conv => whnf)) | (refine Vc.spl ?_ ?_ <;> (intro _; (conv => whnf))))))
      rename_i H5 hs5 hb5 hx5 a6 c6 H6 ho6 hx6
      refine ⟨⟨m - 1, out ++ [glue (l.take m)], a6, c6⟩, ⟨rfl, sl_snocS _ _ _ _, trivial⟩, ⟨by show m - 1 ≤ _; omega, ?_, ?_, own_snocS rfl ho6, hx6⟩, by show m - 1 < m; omega⟩
      · show out ++ _ = _
        rw [hdm, List.filter_cons, if_pos (by rw [hg]; rfl), List.reverse_cons, hout]
      · show ∀ d ∈ ps.drop (m - 1), _
        rw [hdm]
        intro d hd n hn
        rcases List.mem_cons.1 hd with rfl | hd
        · rw [hg] at hn; cases hn
        · exact hdir d hd n hn
    | some n =>
      obtain ⟨dir, t⟩ := n
      cases dir with
      | true =>
        ((conv => whnf); repeat (any_goals (first | (((with_reducible apply treeGet1 hmm hg); (focus (rfl)); (focus (rfl)); (focus (rfl)); (focus (rfl)); (focus ((intro g1 a1 c1 k1 k2; (conv => whnf))))); (conv => whnf)) | ((refine (hpm _).mono ?_; rintro _ _ ⟨rfl, rfl⟩); (conv => whnf)) | (refine Vc.stp ?_; intros; (conv => whnf)) | (refine Vc.spl ?_ ?_ <;> (intro _; (conv => whnf))))))
        refine ⟨⟨m - 1, out, a, cap⟩, ⟨rfl, rfl, trivial⟩, ⟨by show m - 1 ≤ _; omega, ?_, ?_, ho2, hx2⟩, by show m - 1 < m; omega⟩
        · show out = _
          rw [hdm, List.filter_cons, if_neg (by rw [hg]; simp), hout]
        · show ∀ d ∈ ps.drop (m - 1), _
          rw [hdm]
          intro d hd n hn
          rcases List.mem_cons.1 hd with rfl | hd
          · rw [hg] at hn; cases hn; rfl
          · exact hdir d hd n hn
      | false =>
        ((conv => whnf); repeat (any_goals (first | (((with_reducible apply treeGet1 hmm hg); (focus (rfl)); (focus (rfl)); (focus (rfl)); (focus (rfl)); (focus ((intro g1 a1 c1 k1 k2; (conv => whnf))))); (conv => whnf)) | ((refine (hpm _).mono ?_; rintro _ _ ⟨rfl, rfl⟩); (conv => whnf)) | (refine Vc.stp ?_; intros; (conv => whnf)) | (refine Vc.spl ?_ ?_ <;> (intro _; (conv => whnf))))))
        have hff : fileF A (glue l) = true := by
          unfold fileF
          rw [List.any_eq_true, hps]
          exact ⟨_, List.mem_of_getElem? hget, by rw [hg]; rfl⟩
        refine ⟨?_, hx2⟩
        unfold AheadV
        rw [if_pos hff]; rfl
end Go.Proofs.YtihopeogaeinhaaGreatDoor
