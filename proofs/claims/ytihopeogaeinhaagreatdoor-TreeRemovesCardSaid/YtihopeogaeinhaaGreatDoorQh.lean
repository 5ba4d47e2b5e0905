import Derived.Test.YtihopeogaeinhaaGreatDoorQg
set_option linter.unusedVariables false
set_option linter.unusedSimpArgs false
set_option maxRecDepth 100000
/- Trees of files, the code: what is to be done that one path be told under another. -/
namespace Go.Tre
open Go.Pth Go.Scr
open Go.Vc (mget mput mdel mget_put mget_mem mget_of_mem mget_none)
theorem walk_good (stay : Nat) : ∀ (xs l : List Txt), (∀ x ∈ xs, GoodP x) → walkF stay l xs = if 12 < (l ++ xs).length then ([], 50) else (l ++ xs, 0)
  | [], l, _ => by rw [walkF, List.append_nil]
  | x :: xs, l, hg => by
    have g := hg x (by simp)
    rw [walkF, if_neg (fun e => e.elim g.ne g.dot), if_neg g.dots, if_neg (by rw [g.ok]; simp), walk_good stay xs (l ++ [x]) (fun y hy => hg y (by simp [hy]))]
    simp
theorem clean_good {l : List Txt} (h : ∀ x ∈ l, GoodP x) : cleanF (glue l) = ([], 50) ∨ cleanF (glue l) = (glue l, 0) := by
  unfold cleanF joinP
  rw [if_pos (rfl : ([] : Txt) = []), Nat.zero_add]
  by_cases h1 : 200 < (glue l).length
  · rw [if_pos h1]; exact .inl rfl
  rw [if_neg h1, if_neg (no_head (p := []) h)]
  show (glue (walkF 0 [] (splitF 47 (glue l))).1, (walkF 0 [] (splitF 47 (glue l))).2) = _ ∨ (glue (walkF 0 [] (splitF 47 (glue l))).1, (walkF 0 [] (splitF 47 (glue l))).2) = _
  by_cases hn : l = []
  · subst hn; exact .inr rfl
  rw [split_glue (fun x hx => (h x hx).no) hn, walk_good 0 l [] h, List.nil_append]
  split
  · exact .inl rfl
  · exact .inr rfl
/-- what plan tells -/
def planF (A : Tr) (p q : Txt) : Nat :=
  if p ≠ [] ∧ mget A p = none then 52
  else if p = [] ∨ withinF q p = true then 54
  else if q = [] ∨ (mget A q).isSome = true then 53
  else if fileF A q = true then 54
  else if badM (movedF A p q) = true then 50 else 0
def toF (p q k : Txt) : Txt := q ++ k.drop p.length
theorem sum_old {A : Tr} (h : (A.map (·.1)).Nodup) (f : Txt → Bool) {l : List Txt} (hn : l.Nodup) (hm : ∀ k, k ∈ l ↔ k ∈ A.map (·.1) ∧ f k = true) : (l.map (oldF A)).sum = sizeT (A.filter fun x => f x.1) := by
  have hp : l.Perm ((A.filter fun x => f x.1).map (·.1)) := by
    refine (List.perm_ext_iff_of_nodup hn (List.Nodup.sublist (List.filter_sublist.map _) h)).2 fun k => ?_
    rw [hm, List.mem_map, List.mem_map]
    constructor
    · rintro ⟨⟨x, hx, rfl⟩, hf⟩; exact ⟨x, List.mem_filter.2 ⟨hx, hf⟩, rfl⟩
    · rintro ⟨x, hx, rfl⟩; exact ⟨⟨x, (List.mem_filter.1 hx).1, rfl⟩, (List.mem_filter.1 hx).2⟩
  rw [(hp.map (oldF A)).sum_nat]
  unfold sizeT
  rw [List.map_map]
  congr 1
  refine List.map_congr_left fun x hx => ?_
  show oldF A x.1 = _
  unfold oldF
  rw [mget_of_mem h (List.mem_filter.1 hx).1]
theorem moved_size (A : Tr) (p q : Txt) : sizeT (movedF A p q) = sizeT (A.filter fun x => withinF x.1 p) := by
  unfold movedF sizeT
  rw [List.map_map]; rfl
end Go.Tre
namespace Go.Proofs.YtihopeogaeinhaaGreatDoor
open Go Go.Vc Go.Scr Go.Pth Go.Tre
/-- a move, planned -/
structure MoveV (H' : Heap) (mv : Value) (A : Tr) (p q : Txt) (L : List Bs) (fa ta la : Option Addr) (fc tc lc : Nat) : Prop where
  val : mv = .agg #[.slice fa L.length fc, .slice ta L.length tc, .slice la (lackF A q).length lc, .int .i64 (sizeT (movedF A p q))]
  fr : Row H' fa (strs L)
  to : Row H' ta (strs (L.map (toF p q)))
  lack : Row H' la (strs (lackF A q).reverse)
  nodup : L.Nodup
  mem : ∀ k, k ∈ L ↔ k ∈ A.map (·.1) ∧ withinF k p = true
  len : L.length ≤ A.length
/-- what plan answers -/
def PlanV (H' : Heap) (v : Value) (A : Tr) (p q : Txt) (c : Nat) : Prop :=
  ∃ mv, v = .tuple #[mv, .int .i64 c] ∧ (c ≠ 0 → mv = .agg #[.slice none 0 0, .slice none 0 0, .slice none 0 0, .int .i64 0]) ∧ (c = 0 → ∃ L fa ta la fc tc lc, MoveV H' mv A p q L fa ta la fc tc lc)
theorem mv0 {K : Value → Prop} (h : K (.agg #[.slice none 0 0, .slice none 0 0, .slice none 0 0, .int .i64 0])) : PureH Tryz.prog (Instr.build 118 ((List.map (fun x : Nat × Operand => x.1) (#[] : Array (Nat × Operand)).toList).zip []).toArray) K := PureH.build _ (by kernel_rfl) h
theorem mv1 {K : Value → Prop} {a : Option Addr} {n c : Nat} {o : Operand} (h : K (.agg #[.slice a n c, .slice none 0 0, .slice none 0 0, .int .i64 0])) : PureH Tryz.prog (Instr.build 118 ((List.map (fun x : Nat × Operand => x.1) (#[(0, o)] : Array (Nat × Operand)).toList).zip [.slice a n c]).toArray) K := PureH.build _ (by kernel_rfl) h
def planC (A : Tr) (s t : Txt) : Nat := if (cleanF s).2 = 0 then (if (cleanF t).2 = 0 then planF A (cleanF s).1 (cleanF t).1 else (cleanF t).2) else (cleanF s).2
structure PlS where
  i : Nat
  a : Option Addr
  cap : Nat
set_option maxHeartbeats 4000000 in
theorem plan_any {b mb : Nat} {A : Tr} {H : Heap} (h : TreeO H b mb A) (hA : Okay A) (s t : Bs) : CallH Tryz.prog 81 [.pointer (some ⟨b, 0, none⟩), .string (mkS s), .string (mkS t)] H fun v H' => PlanV H' v A (cleanF s).1 (cleanF t).1 (planC A s t) ∧ Ext H H' := by
  have hcl := fun H => clean_any s H
  have hct := fun H => clean_any t H
  unfold planC
  by_cases h0 : ¬ (cleanF s).2 = 0
  · rw [if_neg h0]
    have h0' : ¬ ((cleanF s).2 : Int) = 0 := by omega
    generalize cleanF s = c at *
    refine Vc.CallH.body Tryz.func81 Tryz.call81 rfl (by decide +kernel) rfl ?_
    ((conv => whnf); repeat (any_goals (first | ((refine (hcl _).mono ?_; rintro _ H1 ⟨rfl, hx1⟩; have hz1 := hx1.size); (conv => whnf)) | (((with_reducible apply mv0); (focus ((conv => whnf)))); (conv => whnf)) | (refine Vc.stp ?_; intros; (conv => whnf)) | (refine Vc.spl ?_ ?_ <;> (intro _; (conv => whnf))))))
    exact ⟨⟨_, rfl, fun _ => rfl, fun e => by omega⟩, by (repeat (first | assumption | exact Vc.Ext.refl _ | ((with_reducible apply Vc.Ext.trans); (case k => assumption)) | ((with_reducible apply Vc.Ext.but); (case k => assumption); (case hb => omega))))⟩
  have h0 : (cleanF s).2 = 0 := by omega
  rw [if_pos h0]
  have hp := clean_of h0
  obtain ⟨p, hpe⟩ : ∃ p, (cleanF s).1 = p := ⟨_, rfl⟩
  rw [h0, hpe] at hcl
  rw [hpe] at hp ⊢
  by_cases h1 : ¬ (cleanF t).2 = 0
  · rw [if_neg h1]
    have h1' : ¬ ((cleanF t).2 : Int) = 0 := by omega
    generalize cleanF t = c at *
    refine Vc.CallH.body Tryz.func81 Tryz.call81 rfl (by decide +kernel) rfl ?_
    ((conv => whnf); repeat (any_goals (first | ((refine (hcl _).mono ?_; rintro _ H1 ⟨rfl, hx1⟩; have hz1 := hx1.size); (conv => whnf)) | ((refine (hct _).mono ?_; rintro _ H2 ⟨rfl, hx2⟩; have hz2 := hx2.size); (conv => whnf)) | (((with_reducible apply mv0); (focus ((conv => whnf)))); (conv => whnf)) | (refine Vc.stp ?_; intros; (conv => whnf)) | (refine Vc.spl ?_ ?_ <;> (intro _; (conv => whnf))))))
    exact ⟨⟨_, rfl, fun _ => rfl, fun e => by omega⟩, by (repeat (first | assumption | exact Vc.Ext.refl _ | ((with_reducible apply Vc.Ext.trans); (case k => assumption)) | ((with_reducible apply Vc.Ext.but); (case k => assumption); (case hb => omega))))⟩
  have h1 : (cleanF t).2 = 0 := by omega
  rw [if_pos h1]
  have hq := clean_of h1
  obtain ⟨q, hqe⟩ : ∃ q, (cleanF t).1 = q := ⟨_, rfl⟩
  rw [h1, hqe] at hct
  rw [hqe] at hq ⊢
  have hpl : p.length ≤ 200 := by obtain ⟨l, rfl, hl⟩ := hp; exact hl.long
  have hql : q.length ≤ 200 := by obtain ⟨l, rfl, hl⟩ := hq; exact hl.long
  have hap := fun H' (k : Ext H H') => at_any (h.ext k) p
  have haq := fun H' (k : Ext H H') => at_any (h.ext k) q
  have e0 := eq_empty p
  unfold planF
  cases hnp : nodeAt A p with
  | none =>
    rw [hnp] at hap
    have hg : p ≠ [] ∧ mget A p = none := by
      unfold nodeAt at hnp
      split at hnp
      · cases hnp
      · rename_i hne; exact ⟨hne, hnp⟩
    rw [if_pos hg]
    refine Vc.CallH.body Tryz.func81 Tryz.call81 rfl (by decide +kernel) rfl ?_
    ((conv => whnf); repeat (any_goals (first | ((refine (hcl _).mono ?_; rintro _ H1 ⟨rfl, hx1⟩; have hz1 := hx1.size); (conv => whnf)) | ((refine (hct _).mono ?_; rintro _ H2 ⟨rfl, hx2⟩; have hz2 := hx2.size); (conv => whnf)) | (((with_reducible apply mv0); (focus ((conv => whnf)))); (conv => whnf)) | ((refine (hap _ (by (repeat (first | assumption | exact Vc.Ext.refl _ | ((with_reducible apply Vc.Ext.trans); (case k => assumption)) | ((with_reducible apply Vc.Ext.but); (case k => assumption); (case hb => omega)))))).mono ?_; rintro v2 H3 ⟨hv2, hx3⟩; have hz3 := hx3.size; obtain rfl := hv2); (conv => whnf)) | (refine Vc.stp ?_; intros; (conv => whnf)) | (refine Vc.spl ?_ ?_ <;> (intro _; (conv => whnf))))))
    exact ⟨⟨_, rfl, fun _ => rfl, fun e => by omega⟩, by (repeat (first | assumption | exact Vc.Ext.refl _ | ((with_reducible apply Vc.Ext.trans); (case k => assumption)) | ((with_reducible apply Vc.Ext.but); (case k => assumption); (case hb => omega))))⟩
  | some np =>
  rw [hnp] at hap
  rw [if_neg (fun e => by unfold nodeAt at hnp; rw [if_neg e.1, e.2] at hnp; cases hnp)]
  by_cases hpn : p = []
  · rw [if_pos (.inl hpn)]
    rw [decide_eq_true hpn] at e0
    refine Vc.CallH.body Tryz.func81 Tryz.call81 rfl (by decide +kernel) rfl ?_
    ((conv => whnf); repeat (any_goals (first | ((refine (hcl _).mono ?_; rintro _ H1 ⟨rfl, hx1⟩; have hz1 := hx1.size); (conv => whnf)) | ((refine (hct _).mono ?_; rintro _ H2 ⟨rfl, hx2⟩; have hz2 := hx2.size); (conv => whnf)) | (((with_reducible apply mv0); (focus ((conv => whnf)))); (conv => whnf)) | ((refine (hap _ (by (repeat (first | assumption | exact Vc.Ext.refl _ | ((with_reducible apply Vc.Ext.trans); (case k => assumption)) | ((with_reducible apply Vc.Ext.but); (case k => assumption); (case hb => omega)))))).mono ?_; rintro v2 H3 ⟨hv2, hx3⟩; have hz3 := hx3.size; obtain ⟨g2, a2, c2, rfl, hb2, hr2⟩ := NodeO.out hv2); (conv => whnf)) | (refine Vc.stp ?_; intros; (conv => whnf)) | (refine Vc.spl ?_ ?_ <;> (intro _; (conv => whnf))))))
    exact ⟨⟨_, rfl, fun _ => rfl, fun e => by omega⟩, by (repeat (first | assumption | exact Vc.Ext.refl _ | ((with_reducible apply Vc.Ext.trans); (case k => assumption)) | ((with_reducible apply Vc.Ext.but); (case k => assumption); (case hb => omega))))⟩
  rw [decide_eq_false hpn] at e0
  have hwi := fun H => within_any q p (by omega) (by omega) H
  by_cases hw : withinF q p = true
  · rw [if_pos (.inr hw)]
    rw [hw] at hwi
    refine Vc.CallH.body Tryz.func81 Tryz.call81 rfl (by decide +kernel) rfl ?_
    ((conv => whnf); repeat (any_goals (first | ((refine (hcl _).mono ?_; rintro _ H1 ⟨rfl, hx1⟩; have hz1 := hx1.size); (conv => whnf)) | ((refine (hct _).mono ?_; rintro _ H2 ⟨rfl, hx2⟩; have hz2 := hx2.size); (conv => whnf)) | (((with_reducible apply mv0); (focus ((conv => whnf)))); (conv => whnf)) | ((refine (hap _ (by (repeat (first | assumption | exact Vc.Ext.refl _ | ((with_reducible apply Vc.Ext.trans); (case k => assumption)) | ((with_reducible apply Vc.Ext.but); (case k => assumption); (case hb => omega)))))).mono ?_; rintro v2 H3 ⟨hv2, hx3⟩; have hz3 := hx3.size; obtain ⟨g2, a2, c2, rfl, hb2, hr2⟩ := NodeO.out hv2); (conv => whnf)) | ((refine (hwi _).mono ?_; rintro _ _ ⟨rfl, rfl⟩); (conv => whnf)) | (refine Vc.stp ?_; intros; (conv => whnf)) | (refine Vc.spl ?_ ?_ <;> (intro _; (conv => whnf))))))
    exact ⟨⟨_, rfl, fun _ => rfl, fun e => by omega⟩, by (repeat (first | assumption | exact Vc.Ext.refl _ | ((with_reducible apply Vc.Ext.trans); (case k => assumption)) | ((with_reducible apply Vc.Ext.but); (case k => assumption); (case hb => omega))))⟩
  have hw : withinF q p = false := by simpa using hw
  rw [hw] at hwi
  rw [if_neg (by rw [hw]; simp [hpn])]
  cases hnq : nodeAt A q with
  | some nq =>
    rw [hnq] at haq
    have hg : q = [] ∨ (mget A q).isSome = true := by
      unfold nodeAt at hnq
      split at hnq
      · rename_i h; exact .inl h
      · right; rw [hnq]; rfl
    rw [if_pos hg]
    refine Vc.CallH.body Tryz.func81 Tryz.call81 rfl (by decide +kernel) rfl ?_
    ((conv => whnf); repeat (any_goals (first | ((refine (hcl _).mono ?_; rintro _ H1 ⟨rfl, hx1⟩; have hz1 := hx1.size); (conv => whnf)) | ((refine (hct _).mono ?_; rintro _ H2 ⟨rfl, hx2⟩; have hz2 := hx2.size); (conv => whnf)) | (((with_reducible apply mv0); (focus ((conv => whnf)))); (conv => whnf)) | ((refine (hap _ (by (repeat (first | assumption | exact Vc.Ext.refl _ | ((with_reducible apply Vc.Ext.trans); (case k => assumption)) | ((with_reducible apply Vc.Ext.but); (case k => assumption); (case hb => omega)))))).mono ?_; rintro v2 H3 ⟨hv2, hx3⟩; have hz3 := hx3.size; obtain ⟨g2, a2, c2, rfl, hb2, hr2⟩ := NodeO.out hv2); (conv => whnf)) | ((refine (hwi _).mono ?_; rintro _ _ ⟨rfl, rfl⟩); (conv => whnf)) | ((refine (haq _ (by (repeat (first | assumption | exact Vc.Ext.refl _ | ((with_reducible apply Vc.Ext.trans); (case k => assumption)) | ((with_reducible apply Vc.Ext.but); (case k => assumption); (case hb => omega)))))).mono ?_; rintro v4 H4 ⟨hv4, hx4⟩; have hz4 := hx4.size; obtain ⟨g4, a4, c4, rfl, hb4, hr4⟩ := NodeO.out hv4); (conv => whnf)) | (refine Vc.stp ?_; intros; (conv => whnf)) | (refine Vc.spl ?_ ?_ <;> (intro _; (conv => whnf))))))
    exact ⟨⟨_, rfl, fun _ => rfl, fun e => by omega⟩, by (repeat (first | assumption | exact Vc.Ext.refl _ | ((with_reducible apply Vc.Ext.trans); (case k => assumption)) | ((with_reducible apply Vc.Ext.but); (case k => assumption); (case hb => omega))))⟩
  | none =>
  rw [hnq] at haq
  have hgq : q ≠ [] ∧ mget A q = none := by
    unfold nodeAt at hnq
    split at hnq
    · cases hnq
    · rename_i hne; exact ⟨hne, hnq⟩
  rw [if_neg (by rw [hgq.2]; simp [hgq.1])]
  have hgp : mget A p ≠ none := fun e => by unfold nodeAt at hnp; rw [if_neg hpn, e] at hnp; cases hnp
  have hbl := fun H' (k : Ext H H') => below_any (h.ext k) hA p (by omega) hgp
  have hah := fun H' (k : Ext H H') => ahead_any (h.ext k) hq
  unfold AheadV at hah
  by_cases hf : fileF A q = true
  · simp only [if_pos hf] at hah
    rw [if_pos hf]
    refine Vc.CallH.body Tryz.func81 Tryz.call81 rfl (by decide +kernel) rfl ?_
    ((conv => whnf); repeat (any_goals (first | ((refine (hcl _).mono ?_; rintro _ H1 ⟨rfl, hx1⟩; have hz1 := hx1.size); (conv => whnf)) | ((refine (hct _).mono ?_; rintro _ H2 ⟨rfl, hx2⟩; have hz2 := hx2.size); (conv => whnf)) | (((with_reducible apply mv0); (focus ((conv => whnf)))); (conv => whnf)) | ((refine (hap _ (by (repeat (first | assumption | exact Vc.Ext.refl _ | ((with_reducible apply Vc.Ext.trans); (case k => assumption)) | ((with_reducible apply Vc.Ext.but); (case k => assumption); (case hb => omega)))))).mono ?_; rintro v2 H3 ⟨hv2, hx3⟩; have hz3 := hx3.size; obtain ⟨g2, a2, c2, rfl, hb2, hr2⟩ := NodeO.out hv2); (conv => whnf)) | ((refine (hwi _).mono ?_; rintro _ _ ⟨rfl, rfl⟩); (conv => whnf)) | ((refine (haq _ (by (repeat (first | assumption | exact Vc.Ext.refl _ | ((with_reducible apply Vc.Ext.trans); (case k => assumption)) | ((with_reducible apply Vc.Ext.but); (case k => assumption); (case hb => omega)))))).mono ?_; rintro v4 H4 ⟨hv4, hx4⟩; have hz4 := hx4.size; obtain rfl := hv4); (conv => whnf)) | ((refine (hbl _ (by (repeat (first | assumption | exact Vc.Ext.refl _ | ((with_reducible apply Vc.Ext.trans); (case k => assumption)) | ((with_reducible apply Vc.Ext.but); (case k => assumption); (case hb => omega)))))).mono ?_; rintro _ H5 ⟨⟨L, fa, fc, hL⟩, hx5⟩; have hz5 := hx5.size; obtain rfl := hL.val); (conv => whnf)) | (((with_reducible apply mv1); (focus ((conv => whnf)))); (conv => whnf)) | ((refine (hah _ (by (repeat (first | assumption | exact Vc.Ext.refl _ | ((with_reducible apply Vc.Ext.trans); (case k => assumption)) | ((with_reducible apply Vc.Ext.but); (case k => assumption); (case hb => omega)))))).mono ?_; rintro _ H6 ⟨rfl, hx6⟩; have hz6 := hx6.size); (conv => whnf)) | (refine Vc.stp ?_; intros; (conv => whnf)) | (refine Vc.spl ?_ ?_ <;> (intro _; (conv => whnf))))))
    exact ⟨⟨_, rfl, fun _ => rfl, fun e => by omega⟩, by (repeat (first | assumption | exact Vc.Ext.refl _ | ((with_reducible apply Vc.Ext.trans); (case k => assumption)) | ((with_reducible apply Vc.Ext.but); (case k => assumption); (case hb => omega))))⟩
  simp only [if_neg hf] at hah
  rw [if_neg hf]
  refine Vc.CallH.body Tryz.func81 Tryz.call81 rfl (by decide +kernel) rfl ?_
  ((conv => whnf); repeat (any_goals (first | ((refine (hcl _).mono ?_; rintro _ H1 ⟨rfl, hx1⟩; have hz1 := hx1.size); (conv => whnf)) | ((refine (hct _).mono ?_; rintro _ H2 ⟨rfl, hx2⟩; have hz2 := hx2.size); (conv => whnf)) | (((with_reducible apply mv0); (focus ((conv => whnf)))); (conv => whnf)) | ((refine (hap _ (by (repeat (first | assumption | exact Vc.Ext.refl _ | ((with_reducible apply Vc.Ext.trans); (case k => assumption)) | ((with_reducible apply Vc.Ext.but); (case k => assumption); (case hb => omega)))))).mono ?_; rintro v2 H3 ⟨hv2, hx3⟩; have hz3 := hx3.size; obtain ⟨g2, a2, c2, rfl, hb2, hr2⟩ := NodeO.out hv2); (conv => whnf)) | ((refine (hwi _).mono ?_; rintro _ _ ⟨rfl, rfl⟩); (conv => whnf)) | ((refine (haq _ (by (repeat (first | assumption | exact Vc.Ext.refl _ | ((with_reducible apply Vc.Ext.trans); (case k => assumption)) | ((with_reducible apply Vc.Ext.but); (case k => assumption); (case hb => omega)))))).mono ?_; rintro v4 H4 ⟨hv4, hx4⟩; have hz4 := hx4.size; obtain rfl := hv4); (conv => whnf)) | ((refine (hbl _ (by (repeat (first | assumption | exact Vc.Ext.refl _ | ((with_reducible apply Vc.Ext.trans); (case k => assumption)) | ((with_reducible apply Vc.Ext.but); (case k => assumption); (case hb => omega)))))).mono ?_; rintro _ H5 ⟨⟨L, fa, fc, hL⟩, hx5⟩; have hz5 := hx5.size; obtain rfl := hL.val); (conv => whnf)) | (((with_reducible apply mv1); (focus ((conv => whnf)))); (conv => whnf)) | ((refine (hah _ (by (repeat (first | assumption | exact Vc.Ext.refl _ | ((with_reducible apply Vc.Ext.trans); (case k => assumption)) | ((with_reducible apply Vc.Ext.but); (case k => assumption); (case hb => omega)))))).mono ?_; rintro _ H6 ⟨⟨a6, c6, rfl, ho6⟩, hx6⟩; have hz6 := hx6.size); (conv => whnf)) | (refine Vc.stp ?_; intros; (conv => whnf)) | (refine Vc.spl ?_ ?_ <;> (intro _; (conv => whnf))))))
  rename_i Hr zr br xr Ha za ba xa Hb zb bb xb Hc zc bc xc
  have hxr5 : Ext Hr H5 := by (repeat (first | assumption | exact Vc.Ext.refl _ | ((with_reducible apply Vc.Ext.trans); (case k => assumption)) | ((with_reducible apply Vc.Ext.but); (case k => assumption); (case hb => omega))))
  have hx05 : Ext H H5 := by (repeat (first | assumption | exact Vc.Ext.refl _ | ((with_reducible apply Vc.Ext.trans); (case k => assumption)) | ((with_reducible apply Vc.Ext.but); (case k => assumption); (case hb => omega))))
  have hbl0 := h.blk.lt
  have hml0 := h.map.lt
  have hx0c : Ext H Hc := (show Ext H H6 by (repeat (first | assumption | exact Vc.Ext.refl _ | ((with_reducible apply Vc.Ext.trans); (case k => assumption)) | ((with_reducible apply Vc.Ext.but); (case k => assumption); (case hb => omega))))).but xc (by have := hx05.size; omega)
  have hlk : (lackF A q).length ≤ 12 := by
    have h1 : (lackF A q).length ≤ (pars q).length := List.length_filter_le _ _
    have h2 := hq.parts.deep
    rw [pars_len] at h1; omega
  have hAc := hA.count
  have hAs := hA.size
  have hLl := hL.len
  have hxH5 : Ext H5 Hc := (show Ext H5 H6 by (repeat (first | assumption | exact Vc.Ext.refl _ | ((with_reducible apply Vc.Ext.trans); (case k => assumption)) | ((with_reducible apply Vc.Ext.but); (case k => assumption); (case hb => omega))))).but xc (by omega)
  have hLr : Row Hc fa (strs L) := hL.own.row.ext hxH5
  have hsum := sum_old hA.sorted.nodup (fun k => withinF k p) hL.nodup hL.mem
  rw [← moved_size A p q] at hsum
  have hgo := goes hA hp hq hpn hgq.1
  have hmv : ∀ k ∈ L, ∃ nd, (toF p q k, nd) ∈ movedF A p q ∧ mget A k = some nd := fun k hk => by
    obtain ⟨hk1, hk2⟩ := (hL.mem k).1 hk
    obtain ⟨x, hx, rfl⟩ := List.mem_map.1 hk1
    exact ⟨x.2, List.mem_map.2 ⟨x, List.mem_filter.2 ⟨hx, hk2⟩, rfl⟩, mget_of_mem hA.sorted.nodup hx⟩
  have hlow : H5.size < Hc.size := by omega
  refine LoopH.intro (fun (x : PlS) => [(72, .int .i64 x.i)])
    (fun x H' => x.i ≤ L.length ∧ (∀ k ∈ L.take x.i, (cleanF (toF p q k)).2 = 0) ∧ Blk H' H5.size #[.slice fa L.length fc, .slice x.a x.i x.cap, .slice a6 (lackF A q).length c6, .int .i64 (((L.take x.i).map (oldF A)).sum : Nat)] 118 ∧
      Own H' Hc.size 9 1 x.a x.i x.cap (strs ((L.take x.i).map (toF p q))) ∧ But H5.size Hc H') (fun x => L.length - x.i) ⟨0, none, 0⟩ ⟨rfl, trivial⟩ ⟨Nat.zero_le _, fun k hk => (by rw [List.take_zero] at hk; cases hk), bc, Own.nil _ _ _ _, Only.refl _ _⟩ ?_
  rintro ⟨i, ta, tc⟩ H7 ⟨hi, hok, hb7, ho7, hx7⟩
  dsimp only at hi hok hb7 ho7 ⊢
  have hz7 := hx7.size
  have hx07 : Ext H H7 := hx0c.but hx7 (by have := hx05.size; omega)
  have hmap7 := h.map.ext hx07
  have hbr7 := ((br.ext hxr5).ext hxH5).but hx7 (by omega)
  have htb7 := h.blk.ext hx07
  have hrL : Row H7 fa (strs L) := hLr.texts hx7 fun x e _ => by subst e; exact .blk bc (by simp [dumbV])
  have hsle : ((L.take i).map (oldF A)).sum ≤ sizeT (movedF A p q) := by
    rw [← hsum, ← List.take_append_drop i L, List.map_append, List.sum_append_nat, List.take_append_drop]; exact Nat.le_add_right _ _
  have hmle : sizeT (movedF A p q) ≤ 1048576 := by rw [moved_size]; exact Nat.le_trans (filter_size _ _) hAs
  by_cases hlt : i < L.length
  · obtain ⟨k, hk⟩ : ∃ k, L[i]? = some k := ⟨_, List.getElem?_eq_getElem (by omega)⟩
    have hkL := List.mem_of_getElem? hk
    obtain ⟨nd, hm1, hg⟩ := hmv k hkL
    obtain ⟨kk, mm, r, ep, eq, hkr, hmr, e, _⟩ := hgo.keys _ hm1
    have hkl : k.length ≤ 200 := by
      obtain ⟨⟨l, rfl, hl⟩, _⟩ := hA.clean k nd hg
      exact hl.long
    have hkp : p.length ≤ k.length := by
      have := ((hL.mem k).1 hkL).2
      unfold withinF at this
      rw [Bool.or_eq_true, Bool.or_eq_true, beq_iff_eq, beq_iff_eq, List.isPrefixOf_iff_prefix] at this
      rcases this with (e | e) | e
      · exact absurd e hpn
      · rw [e]; exact Nat.le_refl _
      · have := e.length_le; rw [List.length_append] at this; simp at this; omega
    have htl : (toF p q k).length ≤ 400 := by unfold toF; rw [List.length_append, List.length_drop]; omega
    have e1 : mkS q ++ (mkS k).extract p.length (mkS k).size = mkS (toF p q k) := by rw [show (mkS k).extract p.length (mkS k).size = mkS (k.drop p.length) from mkS_drop _ _, mkS_app]; rfl
    have hsq : (mkS q).size = q.length := rfl
    have hsk : (mkS k).size = k.length := rfl
    have hse : ((mkS k).extract p.length (mkS k).size).size = k.length - p.length := by rw [show (mkS k).extract p.length (mkS k).size = mkS (k.drop p.length) from mkS_drop _ _]; show (k.drop p.length).length = _; rw [List.length_drop]
    have hck := fun H => clean_any (toF p q k) H
    rw [← e1] at hck
    have etk : L.take (i + 1) = L.take i ++ [k] := by rw [List.take_add_one, hk]; rfl
    have hcg : cleanF (toF p q k) = ([], 50) ∨ cleanF (toF p q k) = (toF p q k, 0) := by
      have : toF p q k = glue (mm ++ r) := e
      rw [this]; exact clean_good hmr
    rcases hcg with hc | hc
    · rw [hc] at hck
      have hbad : badM (movedF A p q) = true := by
        unfold badM
        rw [List.any_eq_true]
        exact ⟨_, hm1, by show ((cleanF (toF p q k)).2 != 0) = true; rw [hc]; rfl⟩
      rw [if_pos hbad]
      ((conv => whnf); repeat (any_goals (first | ((refine IdxA.strv hrL rfl i k (by omega) hk ?_; intro _ _ _ _ _); (conv => whnf)) | ((refine NeedH.mk ⟨by (simp only [ByteArray.size_append]; omega), ?_⟩); (conv => whnf)) | ((refine BndH.nat p.length rfl (by omega) ?_); (conv => whnf)) | ((refine (hck _).mono ?_; rintro _ H8 ⟨rfl, hx8⟩; have hz8 := hx8.size); (conv => whnf)) | (((with_reducible apply mv0); (focus ((conv => whnf)))); (conv => whnf)) | (refine Vc.stp ?_; intros; (conv => whnf)) | (refine Vc.spl ?_ ?_ <;> (intro _; (conv => whnf))))))
      exact ⟨⟨_, rfl, fun _ => rfl, fun e => by omega⟩, by (repeat (first | assumption | exact Vc.Ext.refl _ | ((with_reducible apply Vc.Ext.trans); (case k => assumption)) | ((with_reducible apply Vc.Ext.but); (case k => assumption); (case hb => omega))))⟩
    · rw [hc] at hck
      have hof : oldF A k = nd.2.length := by unfold oldF; rw [hg]
      have hsle2 : ((L.take (i + 1)).map (oldF A)).sum ≤ sizeT (movedF A p q) := by
        rw [← hsum, ← List.take_append_drop (i + 1) L, List.map_append, List.sum_append_nat, List.take_append_drop]; exact Nat.le_add_right _ _
      have hss : ((L.take (i + 1)).map (oldF A)).sum = ((L.take i).map (oldF A)).sum + nd.2.length := by rw [etk, List.map_append, List.sum_append_nat]; simp [hof]
      ((conv => whnf); repeat (any_goals (first | ((refine IdxA.strv hrL rfl i k (by omega) hk ?_; intro _ _ _ _ _); (conv => whnf)) | ((refine NeedH.mk ⟨by (simp only [ByteArray.size_append]; omega), ?_⟩); (conv => whnf)) | ((refine BndH.nat p.length rfl (by omega) ?_); (conv => whnf)) | ((refine (hck _).mono ?_; rintro _ H8 ⟨rfl, hx8⟩; have hz8 := hx8.size); (conv => whnf)) | ((refine NextH.push1b (by assumption) (ho7.ext (by (repeat (first | assumption | exact Vc.Ext.refl _ | ((with_reducible apply Vc.Ext.trans); (case k => assumption)) | ((with_reducible apply Vc.Ext.but); (case k => assumption); (case hb => omega)))))) (by omega) (by omega) rfl ⟨_, rfl, fun _ h => by cases h⟩ rfl rfl rfl rfl rfl rfl rfl ?_; intro a9 c9 H9 ho9 hz9 hw9; have hlow9 := fun (b : Nat) (hb : b < Hc.size) => ho7.low hb; have hx8' := (hx8.trans (by assumption)); have hb9 := (hb7.ext hx8').keep hw9 (hlow9 _ (by omega)); have hmap9 := h.map.ext (show Ext H H9 from (hx07.trans hx8').wr (ho7.ext hx8') (by omega) hw9); have htb9 := h.blk.ext (show Ext H H9 from (hx07.trans hx8').wr (ho7.ext hx8') (by omega) hw9)); (conv => whnf)) | (((with_reducible apply treeGet1 (hmap9.keep (by assumption) (fun e => by omega) (fun x e _ => by subst e; exact .blk hb9 (by simp [dumbV]) (by decide))) hg); (focus (rfl)); (focus (rfl)); (focus (rfl)); (focus (rfl)); (focus ((intro g1 a1 c1 k1 k2; (conv => whnf))))); (conv => whnf)) | (((with_reducible refine Vc.DrawH.held [0, 1, 2, 3, 4, 5, 6, 7, 8, 9, 10, 11, 12, 13, 14] [(7, [1])] mixed (by decide +kernel) ?_)); (conv => whnf)) | (refine Vc.stp ?_; intros; (conv => whnf)) | (refine Vc.spl ?_ ?_ <;> (intro _; (conv => whnf))))))
      rename_i Hd zd bd xd He ze be xe
      have be' : Blk He H5.size #[.slice fa L.length fc, .slice a9 (i + 1) c9, .slice a6 (lackF A q).length c6, .int .i64 ((((L.take i).map (oldF A)).sum : Nat) + (nd.2.length : Int))] 118 := be
      rw [show ((((L.take i).map (oldF A)).sum : Nat) : Int) + (nd.2.length : Int) = (((L.take (i + 1)).map (oldF A)).sum : Nat) by omega] at be'
      have ho10 := ho9.keep xd fun p hp e => ho9.low (b := H5.size) (by omega) ⟨p, hp, e⟩
      have ho11 := ho10.keep xe fun p hp e => ho10.low (b := H5.size) (by omega) ⟨p, hp, e⟩
      refine ⟨⟨i + 1, a9, c9⟩, ⟨rfl, trivial⟩, ⟨by show i + 1 ≤ _; omega, ?_, be', ?_, (((hx7.ext hx8').trans hw9 fun b hb h => absurd h (hlow9 b hb)).trans xd fun _ _ e => e).trans xe fun _ _ e => e⟩, by show L.length - (i + 1) < L.length - i; omega⟩
      · show ∀ k ∈ L.take (i + 1), _
        rw [etk]
        intro k' hk'
        rcases List.mem_append.1 hk' with hk' | hk'
        · exact hok k' hk'
        · rw [List.mem_singleton] at hk'; subst hk'; rw [hc]
      · show Own He Hc.size _ 1 a9 (i + 1) c9 (strs ((L.take (i + 1)).map (toF p q)))
        rw [etk, List.map_append, strs_append]; exact ho11
  · obtain rfl : i = L.length := by omega
    rw [List.take_length] at hok hb7 ho7
    have hbad : badM (movedF A p q) = false := by
      unfold badM
      rw [List.any_eq_false]
      intro x hx
      obtain ⟨y, hy, rfl⟩ := List.mem_map.1 hx
      rw [List.mem_filter] at hy
      have := hok y.1 ((hL.mem _).2 ⟨List.mem_map_of_mem hy.1, hy.2⟩)
      show ¬ ((cleanF (toF p q y.1)).2 != 0) = true
      rw [this]; simp
    rw [hbad, if_neg (by simp)]
    rw [hsum] at hb7
    ((conv => whnf); repeat (any_goals (first | (refine Vc.stp ?_; intros; (conv => whnf)) | (refine Vc.spl ?_ ?_ <;> (intro _; (conv => whnf))))))
    rename_i He ze be xe
    have hdr : ∀ x, x = H.size → x < H7.size → Dumb H7 x := fun x e _ => by subst e; exact .blk hbr7 (by simp [dumbV, Value.cells])
    have hd7 : ∀ x, x = H5.size → x < Hc.size → Dumb Hc x := fun x e _ => by subst e; exact .blk bc (by simp [dumbV])
    have hd6 : ∀ x, x = H5.size → x < H6.size → Dumb H6 x := fun x e _ => by subst e; exact .blk (bb.ext hx6) (by simp [dumbV])
    exact ⟨⟨_, rfl, fun e => absurd rfl e, fun _ => ⟨L, fa, ta, a6, fc, tc, c6, ⟨rfl, hrL.texts xe hdr, ho7.row.texts xe hdr, ((ho6.row.ext (Ext.refl _)).texts xc hd6).texts hx7 hd7 |>.texts xe hdr, hL.nodup, hL.mem, hL.len⟩⟩⟩, hx07.but xe (Nat.le_refl _)⟩
end Go.Proofs.YtihopeogaeinhaaGreatDoor
