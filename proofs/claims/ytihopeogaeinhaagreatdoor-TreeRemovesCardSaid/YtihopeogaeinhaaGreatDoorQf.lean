import Derived.Test.YtihopeogaeinhaaGreatDoorQe
import Derived.Test.YtihopeogaeinhaaGreatDoorQo
set_option linter.unusedVariables false
set_option linter.unusedSimpArgs false
set_option maxRecDepth 100000
/- Trees of files, the code: directories; what is at or below a path; what is taken away. -/
namespace Go.Tre
open Go.Pth Go.Scr
open Go.Vc (mget mput mdel mget_put mget_mem mget_of_mem mget_none)
theorem makeF_rev1 {A : Tr} (h : Sorted A) (l : List Txt) (p : Txt) : makeF A (l.reverse ++ [p]) = makeF A (l ++ [p]) := makeF_same h fun x => by simp
/-- some paths less -/
def dropT (A : Tr) (l : List Txt) : Tr := A.filter fun x => !(l.any fun k => k == x.1)
theorem dropT_nil (A : Tr) : dropT A [] = A := by simp [dropT]
theorem dropT_snoc (A : Tr) (l : List Txt) (k : Txt) : (dropT A l).filter (fun x => !(x.1 == k)) = dropT A (l ++ [k]) := by
  unfold dropT
  rw [List.filter_filter]
  congr 1; funext x
  rw [List.any_append, Bool.not_or, List.any_cons, List.any_nil, Bool.or_false]
  have : (x.1 == k) = (k == x.1) := by rw [Bool.eq_iff_iff, beq_iff_eq, beq_iff_eq]; exact eq_comm
  rw [this, Bool.and_comm]
theorem mget_dropT (A : Tr) (l : List Txt) (k : Txt) : mget (dropT A l) k = if k ∈ l then none else mget A k := by
  unfold dropT
  rw [mget_filter (fun x => !(l.any fun k => k == x))]
  by_cases h : k ∈ l
  · rw [if_pos h, if_neg]
    simp; exact h
  · rw [if_neg h, if_pos]
    simp; exact fun x hx e => h (e ▸ hx)
theorem dropT_sorted {A : Tr} (h : Sorted A) (l : List Txt) : Sorted (dropT A l) := List.Pairwise.sublist List.filter_sublist h
theorem del_size {A : Tr} (h : Sorted A) (k : Txt) : sizeT (A.filter fun x => !(x.1 == k)) + oldF A k = sizeT A := by
  induction A with
  | nil => simp [sizeT, oldF, mget]
  | cons x l ih =>
    have ih := ih (List.pairwise_cons.1 h).2
    have e1 : ∀ (y : Txt × Node) (m : Tr), sizeT (y :: m) = y.2.2.length + sizeT m := fun y m => by simp [sizeT]
    rw [List.filter_cons]
    by_cases hx : x.1 = k
    · rw [if_neg (by simp [hx]), e1]
      have e2 : oldF (x :: l) k = x.2.2.length := by unfold oldF; simp only [mget]; rw [if_pos hx.symm]
      have e3 : l.filter (fun x => !(x.1 == k)) = l := by
        rw [List.filter_eq_self]
        intro y hy
        have := lt_ne ((List.pairwise_cons.1 h).1 y hy)
        rw [hx] at this
        simp; exact fun e => this e.symm
      rw [e2, e3]; omega
    · rw [if_pos (by simpa using hx), e1, e1]
      have e2 : oldF (x :: l) k = oldF l k := by unfold oldF; simp only [mget]; rw [if_neg (fun e => hx e.symm)]
      rw [e2]; omega
theorem drop_all {A : Tr} {l : List Txt} {p : Txt} (h : ∀ k, k ∈ l ↔ k ∈ A.map (·.1) ∧ withinF k p = true) : dropT A l = A.filter fun x => !withinF x.1 p := by
  unfold dropT
  refine List.filter_congr fun x hx => ?_
  congr 1
  rw [Bool.eq_iff_iff, List.any_eq_true]
  constructor
  · rintro ⟨k, hk, e⟩
    rw [beq_iff_eq] at e; subst e
    exact ((h _).1 hk).2
  · intro hw
    exact ⟨x.1, (h _).2 ⟨List.mem_map_of_mem hx, hw⟩, by simp⟩
end Go.Tre
namespace Go.Proofs.YtihopeogaeinhaaGreatDoor
open Go Go.Vc Go.Scr Go.Pth Go.Tre
theorem mkdir_any {b mb : Nat} {A : Tr} {H : Heap} (h : TreeO H b mb A) (hA : Okay A) (p : Bs) : CallH Tryz.prog 37 [.pointer (some ⟨b, 0, none⟩), .string (mkS p)] H fun v H' => Did H H' b mb v (mkdirF A p) := by
  have hcl := fun H => clean_any p H
  have hmb := h.map.ne h.blk
  obtain ⟨hcode, hcn⟩ := clean_code p
  unfold mkdirF
  by_cases h0 : ¬ (cleanF p).2 = 0
  · rw [if_neg h0]
    have h0' : ¬ ((cleanF p).2 : Int) = 0 := by omega
    generalize cleanF p = c at *
    refine Vc.CallH.body Tryz.func37 Tryz.call37 rfl (by decide +kernel) rfl ?_
    ((conv => whnf); repeat (any_goals (first | ((refine (hcl _).mono ?_; rintro _ H1 ⟨rfl, hx1⟩; have hz1 := hx1.size); (conv => whnf)) | (refine Vc.stp ?_; intros; (conv => whnf)) | (refine Vc.spl ?_ ?_ <;> (intro _; (conv => whnf))))))
    exact Did.none h hx1 _
  have h0 : (cleanF p).2 = 0 := by omega
  rw [if_pos h0]
  have hq := clean_of h0
  obtain ⟨q, hqe⟩ : ∃ q, (cleanF p).1 = q := ⟨_, rfl⟩
  rw [h0, hqe] at hcl
  rw [hqe] at hq ⊢
  have hat := fun H' (k : Ext H H') => at_any (h.ext k) q
  unfold mkdirP
  by_cases hd : dirF A q = true
  · obtain ⟨t, ht⟩ := (dir_node A q).1 hd
    rw [ht] at hat
    rw [if_pos hd]
    refine Vc.CallH.body Tryz.func37 Tryz.call37 rfl (by decide +kernel) rfl ?_
    ((conv => whnf); repeat (any_goals (first | ((refine (hcl _).mono ?_; rintro _ H1 ⟨rfl, hx1⟩; have hz1 := hx1.size); (conv => whnf)) | ((refine (hat _ (by (repeat (first | assumption | exact Vc.Ext.refl _ | ((with_reducible apply Vc.Ext.trans); (case k => assumption)) | ((with_reducible apply Vc.Ext.but); (case k => assumption); (case hb => omega)))))).mono ?_; rintro v2 H2 ⟨hv2, hx2⟩; have hz2 := hx2.size; obtain ⟨g2, a2, c2, rfl, hb2, hr2⟩ := NodeO.out hv2; try dsimp only at hb2 hr2); (conv => whnf)) | (refine Vc.stp ?_; intros; (conv => whnf)) | (refine Vc.spl ?_ ?_ <;> (intro _; (conv => whnf))))))
    exact Did.none h (by (repeat (first | assumption | exact Vc.Ext.refl _ | ((with_reducible apply Vc.Ext.trans); (case k => assumption)) | ((with_reducible apply Vc.Ext.but); (case k => assumption); (case hb => omega))))) _
  rw [if_neg hd]
  have hqn : q ≠ [] := by rintro rfl; exact hd rfl
  have hah := fun H' (k : Ext H H') => ahead_any (h.ext k) hq
  unfold AheadV at hah
  cases hg : mget A q with
  | some nd =>
    obtain ⟨dir, old⟩ := nd
    have hdir : dir = false := by
      cases dir with
      | false => rfl
      | true => exact absurd ((dir_node A q).2 ⟨old, node_some hg hqn⟩) hd
    subst hdir
    rw [node_some hg hqn] at hat
    rw [if_pos (.inl rfl)]
    refine Vc.CallH.body Tryz.func37 Tryz.call37 rfl (by decide +kernel) rfl ?_
    ((conv => whnf); repeat (any_goals (first | ((refine (hcl _).mono ?_; rintro _ H1 ⟨rfl, hx1⟩; have hz1 := hx1.size); (conv => whnf)) | ((refine (hat _ (by (repeat (first | assumption | exact Vc.Ext.refl _ | ((with_reducible apply Vc.Ext.trans); (case k => assumption)) | ((with_reducible apply Vc.Ext.but); (case k => assumption); (case hb => omega)))))).mono ?_; rintro v2 H2 ⟨hv2, hx2⟩; have hz2 := hx2.size; obtain ⟨g2, a2, c2, rfl, hb2, hr2⟩ := NodeO.out hv2; try dsimp only at hb2 hr2); (conv => whnf)) | (refine Vc.stp ?_; intros; (conv => whnf)) | (refine Vc.spl ?_ ?_ <;> (intro _; (conv => whnf))))))
    exact Did.none h (by (repeat (first | assumption | exact Vc.Ext.refl _ | ((with_reducible apply Vc.Ext.trans); (case k => assumption)) | ((with_reducible apply Vc.Ext.but); (case k => assumption); (case hb => omega))))) _
  | none =>
    rw [node_none hg hqn] at hat
    by_cases hf : fileF A q = true
    · simp only [if_pos hf] at hah
      rw [if_pos (.inr hf)]
      refine Vc.CallH.body Tryz.func37 Tryz.call37 rfl (by decide +kernel) rfl ?_
      ((conv => whnf); repeat (any_goals (first | ((refine (hcl _).mono ?_; rintro _ H1 ⟨rfl, hx1⟩; have hz1 := hx1.size); (conv => whnf)) | ((refine (hat _ (by (repeat (first | assumption | exact Vc.Ext.refl _ | ((with_reducible apply Vc.Ext.trans); (case k => assumption)) | ((with_reducible apply Vc.Ext.but); (case k => assumption); (case hb => omega)))))).mono ?_; rintro v2 H2 ⟨hv2, hx2⟩; have hz2 := hx2.size; obtain rfl := hv2); (conv => whnf)) | ((refine (hah _ (by (repeat (first | assumption | exact Vc.Ext.refl _ | ((with_reducible apply Vc.Ext.trans); (case k => assumption)) | ((with_reducible apply Vc.Ext.but); (case k => assumption); (case hb => omega)))))).mono ?_; rintro _ H3 ⟨rfl, hx3⟩; have hz3 := hx3.size); (conv => whnf)) | (refine Vc.stp ?_; intros; (conv => whnf)) | (refine Vc.spl ?_ ?_ <;> (intro _; (conv => whnf))))))
      exact Did.none h (by (repeat (first | assumption | exact Vc.Ext.refl _ | ((with_reducible apply Vc.Ext.trans); (case k => assumption)) | ((with_reducible apply Vc.Ext.but); (case k => assumption); (case hb => omega))))) _
    simp only [if_neg hf] at hah
    rw [if_neg (by rw [not_or]; exact ⟨by simp, hf⟩)]
    have hlk : (lackF A q).length ≤ 12 := by
      have h1 : (lackF A q).length ≤ (pars q).length := List.length_filter_le _ _
      have h2 := hq.parts.deep
      rw [pars_len] at h1; omega
    have hAc := hA.count
    have hAs := hA.size
    have hroom := fun H' (k : Ext H H') => room_any (h.ext k) hA.sorted (by omega) (by omega) ((lackF A q).length + 1) 0 (by omega) (by omega)
    rw [show (((lackF A q).length + 1 : Nat) : Int) = ((lackF A q).length : Int) + 1 by omega] at hroom
    by_cases hrm : (lackF A q).length + 1 + A.length ≤ 500
    · rw [decide_eq_true ⟨hrm, by omega⟩] at hroom
      rw [if_neg (by omega)]
      refine Vc.CallH.body Tryz.func37 Tryz.call37 rfl (by decide +kernel) rfl ?_
      ((conv => whnf); repeat (any_goals (first | ((refine (hcl _).mono ?_; rintro _ H1 ⟨rfl, hx1⟩; have hz1 := hx1.size); (conv => whnf)) | ((refine (hat _ (by (repeat (first | assumption | exact Vc.Ext.refl _ | ((with_reducible apply Vc.Ext.trans); (case k => assumption)) | ((with_reducible apply Vc.Ext.but); (case k => assumption); (case hb => omega)))))).mono ?_; rintro v2 H2 ⟨hv2, hx2⟩; have hz2 := hx2.size; obtain rfl := hv2); (conv => whnf)) | ((refine (hah _ (by (repeat (first | assumption | exact Vc.Ext.refl _ | ((with_reducible apply Vc.Ext.trans); (case k => assumption)) | ((with_reducible apply Vc.Ext.but); (case k => assumption); (case hb => omega)))))).mono ?_; rintro _ H3 ⟨⟨a3, c3, rfl, ho3⟩, hx3⟩; have hz3 := hx3.size); (conv => whnf)) | ((refine (hroom _ (by (repeat (first | assumption | exact Vc.Ext.refl _ | ((with_reducible apply Vc.Ext.trans); (case k => assumption)) | ((with_reducible apply Vc.Ext.but); (case k => assumption); (case hb => omega)))))).mono ?_; rintro _ _ ⟨rfl, rfl⟩); (conv => whnf)) | ((refine NextH.push1b (by assumption) (ho3.ext (by assumption)) (by omega) (by omega) rfl ⟨_, rfl, fun _ h => by cases h⟩ rfl rfl rfl rfl rfl rfl rfl ?_; intro a6 c6 H6 ho6 hz6 hw6; have hx26 := (show Ext H2 H6 from (hx3.trans (by assumption)).wr (ho3.ext (by assumption)) (Nat.le_refl _) hw6)); (conv => whnf)) | ((refine (make_any (h.blk.ext (by (repeat (first | assumption | exact Vc.Ext.refl _ | ((with_reducible apply Vc.Ext.trans); (case k => assumption)) | ((with_reducible apply Vc.Ext.but); (case k => assumption); (case hb => omega)))))) (h.map.ext (by (repeat (first | assumption | exact Vc.Ext.refl _ | ((with_reducible apply Vc.Ext.trans); (case k => assumption)) | ((with_reducible apply Vc.Ext.but); (case k => assumption); (case hb => omega)))))) ((lackF A q).reverse ++ [q]) a6 _ c6 (by (have := ho6.row); rw [strs_append]; exact this) (by simp) (by omega)).mono ?_; rintro _ H7 ⟨rfl, hm7, hx7⟩; have hz7 := hx7.size); (conv => whnf)) | (refine Vc.stp ?_; intros; (conv => whnf)) | (refine Vc.spl ?_ ?_ <;> (intro _; (conv => whnf))))))
      have hx06 := (show Ext H H6 by (repeat (first | assumption | exact Vc.Ext.refl _ | ((with_reducible apply Vc.Ext.trans); (case k => assumption)) | ((with_reducible apply Vc.Ext.but); (case k => assumption); (case hb => omega)))))
      rw [makeF_rev1 hA.sorted] at hm7
      have hsz : sizeT (makeF A (lackF A q ++ [q])) = sizeT A := makeF_size hA.sorted fun d hd => by
        rcases List.mem_append.1 hd with hd | hd
        · exact (lack_none hd).2
        · rw [List.mem_singleton] at hd; subst hd; exact hg
      exact ⟨rfl, ⟨hm7, by rw [hsz]; exact (h.blk.ext hx06).but hx7 hmb.symm⟩, hx06.only.trans hx7 fun _ _ e => .inr e⟩
    · rw [decide_eq_false (fun e => hrm e.1)] at hroom
      rw [if_pos (by omega)]
      refine Vc.CallH.body Tryz.func37 Tryz.call37 rfl (by decide +kernel) rfl ?_
      ((conv => whnf); repeat (any_goals (first | ((refine (hcl _).mono ?_; rintro _ H1 ⟨rfl, hx1⟩; have hz1 := hx1.size); (conv => whnf)) | ((refine (hat _ (by (repeat (first | assumption | exact Vc.Ext.refl _ | ((with_reducible apply Vc.Ext.trans); (case k => assumption)) | ((with_reducible apply Vc.Ext.but); (case k => assumption); (case hb => omega)))))).mono ?_; rintro v2 H2 ⟨hv2, hx2⟩; have hz2 := hx2.size; obtain rfl := hv2); (conv => whnf)) | ((refine (hah _ (by (repeat (first | assumption | exact Vc.Ext.refl _ | ((with_reducible apply Vc.Ext.trans); (case k => assumption)) | ((with_reducible apply Vc.Ext.but); (case k => assumption); (case hb => omega)))))).mono ?_; rintro _ H3 ⟨⟨a3, c3, rfl, ho3⟩, hx3⟩; have hz3 := hx3.size); (conv => whnf)) | ((refine (hroom _ (by (repeat (first | assumption | exact Vc.Ext.refl _ | ((with_reducible apply Vc.Ext.trans); (case k => assumption)) | ((with_reducible apply Vc.Ext.but); (case k => assumption); (case hb => omega)))))).mono ?_; rintro _ _ ⟨rfl, rfl⟩); (conv => whnf)) | (refine Vc.stp ?_; intros; (conv => whnf)) | (refine Vc.spl ?_ ?_ <;> (intro _; (conv => whnf))))))
      exact Did.none h (by (repeat (first | assumption | exact Vc.Ext.refl _ | ((with_reducible apply Vc.Ext.trans); (case k => assumption)) | ((with_reducible apply Vc.Ext.but); (case k => assumption); (case hb => omega))))) _
end Go.Proofs.YtihopeogaeinhaaGreatDoor
