import Derived.Test.YtihopeogaeinhaaGreatDoorQc
set_option linter.unusedVariables false
set_option linter.unusedSimpArgs false
set_option maxRecDepth 100000
/- Trees of files, the code: files and directories are written. -/
namespace Go.Tre
open Go.Pth Go.Scr
open Go.Vc (mget mput mdel mget_put mget_mem mget_of_mem mget_none)
theorem makeF_snoc (A : Tr) (l : List Txt) (d : Txt) : makeF A (l ++ [d]) = putF (makeF A l) d (true, []) := by unfold makeF; rw [List.foldl_append]; rfl
theorem makeF_rev {A : Tr} (h : Sorted A) (l : List Txt) : makeF A l.reverse = makeF A l := makeF_same h fun x => by simp
theorem write_size {A : Tr} (hA : Okay A) {q : Txt} (hq : CleanP q) (b : Txt) : sizeT (putF (makeF A (lackF A q)) q (false, b)) + oldF A q = sizeT A + b.length := by
  have h1 := putF_size (makeF_sorted (lackF A q) hA.sorted) q (false, b)
  rw [old_makeF hA.sorted (lack_np hq), makeF_size hA.sorted fun d hd => (lack_none hd).2] at h1
  exact h1
theorem old_le : ∀ (A : Tr) (p : Txt), oldF A p ≤ sizeT A
  | [], p => Nat.zero_le _
  | x :: l, p => by
    have e1 : sizeT (x :: l) = x.2.2.length + sizeT l := by simp [sizeT]
    have := old_le l p
    unfold oldF at this ⊢
    simp only [mget]
    by_cases h : p = x.1
    · rw [if_pos h, e1]; exact Nat.le_add_right _ _
    · rw [if_neg h, e1]
      exact Nat.le_trans this (Nat.le_add_left _ _)
end Go.Tre
namespace Go.Proofs.YtihopeogaeinhaaGreatDoor
open Go Go.Vc Go.Scr Go.Pth Go.Tre
theorem make_any {b mb : Nat} {A : Tr} {H : Heap} {s : Int} (hb : Blk H b #[.map (some mb), .int .i64 s] 100) (hm : MapT H mb A) (ds : List Bs) (a : Option Addr) (n cap : Nat) (hr : Row H a (strs ds)) (hn : ds.length = n) (hn1 : n ≤ 1000000) :
    CallH Tryz.prog 76 [.pointer (some ⟨b, 0, none⟩), .slice a n cap] H fun v H' => v = .tuple #[] ∧ MapT H' mb (makeF A ds) ∧ But mb H H' := by
  refine Vc.CallH.body Tryz.func76 Tryz.call76 rfl (by decide +kernel) rfl ?_
  have hmb := hm.ne hb
  ((conv => whnf); repeat (any_goals (first | (refine Vc.stp ?_; intros; (conv => whnf)) | (refine Vc.spl ?_ ?_ <;> (intro _; (conv => whnf))))))
  refine LoopH.intro (fun (i : Nat) => [(8, .int .i64 i)]) (fun i H' => i ≤ n ∧ MapT H' mb (makeF A (ds.take i)) ∧ But mb H H') (fun i => n - i) 0 ⟨rfl, trivial⟩ ⟨Nat.zero_le _, hm, Only.refl _ _⟩ ?_
  rintro i H2 ⟨hi, hm2, hx2⟩
  have hz2 := hx2.size
  have hb2 := hb.but hx2 hmb.symm
  have hr2 := hr.texts hx2 fun x e _ => by subst e; exact hm.oth.dumb
  by_cases hlt : i < n
  · obtain ⟨d, hd⟩ : ∃ d, ds[i]? = some d := ⟨_, List.getElem?_eq_getElem (by omega)⟩
    ((conv => whnf); repeat (any_goals (first | ((refine IdxA.strv hr2 hn i d (by omega) hd ?_; intro _ _ _ _ _); (conv => whnf)) | ((refine PureH.build #[.bool true, .slice none 0 0] (by kernel_rfl) ?_); (conv => whnf)) | (((with_reducible apply treePut); (focus ((exact hm2.ext (by assumption)))); (focus ((exact NodeO.dir (by assumption)))); (focus (rfl)); (focus (rfl)); (focus ((intro H5 z5 m5 x5; (conv => whnf))))); (conv => whnf)) | (refine Vc.stp ?_; intros; (conv => whnf)) | (refine Vc.spl ?_ ?_ <;> (intro _; (conv => whnf))))))
    rename_i H4 z4 b4 x4
    refine ⟨i + 1, ⟨rfl, trivial⟩, ⟨by omega, ?_, (hx2.ext x4).trans x5 fun _ _ h => h⟩, by omega⟩
    rw [List.take_add_one, hd]
    show MapT H5 mb (makeF A (ds.take i ++ [d]))
    rw [makeF_snoc]; exact m5
  · obtain rfl : i = n := by omega
    ((conv => whnf); repeat (any_goals (first | (refine Vc.stp ?_; intros; (conv => whnf)) | (refine Vc.spl ?_ ?_ <;> (intro _; (conv => whnf))))))
    refine ⟨rfl, ?_, hx2⟩
    rw [List.take_of_length_le (by omega)] at hm2; exact hm2
/-- what an operation on a tree leaves -/
structure Did (H H' : Heap) (b mb : Nat) (v : Value) (r : Tr × Nat) : Prop where
  code : v = .int .i64 r.2
  tree : TreeO H' b mb r.1
  only : ButT b mb H H'
theorem Did.none {H H' : Heap} {b mb : Nat} {A : Tr} (h : TreeO H b mb A) (k : Ext H H') (n : Nat) : Did H H' b mb (.int .i64 n) (A, n) := ⟨rfl, h.ext k, k.only⟩
theorem node_none {A : Tr} {q : Txt} (h : mget A q = none) (hq : q ≠ []) : nodeAt A q = none := by unfold nodeAt; rw [if_neg hq, h]
theorem node_some {A : Tr} {q : Txt} {n : Tre.Node} (h : mget A q = some n) (hq : q ≠ []) : nodeAt A q = some n := by unfold nodeAt; rw [if_neg hq, h]
theorem dir_node (A : Tr) (q : Txt) : dirF A q = true ↔ ∃ t, nodeAt A q = some (true, t) := by
  unfold dirF nodeAt
  by_cases h : q = []
  · subst h; simp
  · rw [if_neg h]
    cases hg : mget A q with
    | none => simp [h]
    | some n => obtain ⟨x, t⟩ := n; simp [h]
/-- the ways of writing behind what is there -/
def newB (A : Tr) (q bs : Bs) (more : Bool) : Bs := if more = true then bytesF A q ++ bs else bs
def putR (A : Tr) (p bs : Bs) (more : Bool) : Tr × Nat := if (cleanF p).2 = 0 then writeP A (cleanF p).1 (newB A (cleanF p).1 bs more) else (A, (cleanF p).2)
theorem putR_write (A : Tr) (p bs : Bs) : putR A p bs false = writeF A p bs := rfl
theorem putR_append (A : Tr) (p bs : Bs) : putR A p bs true = appendF A p bs := rfl
set_option maxHeartbeats 4000000 in
theorem put_any {b mb : Nat} {A : Tr} {H : Heap} (h : TreeO H b mb A) (hA : Okay A) (p BB : Bs) (a : Option Addr) (n cap : Nat) (more : Bool) (hr : Row H a (strV BB)) (hn : BB.length = n) (hm : n ≤ 10000000000) :
    CallH Tryz.prog 65 [.pointer (some ⟨b, 0, none⟩), .string (mkS p), .slice a n cap, .bool more] H fun v H' => Did H H' b mb v (putR A p BB more) := by
  subst hn
  have hmb := h.map.ne h.blk
  have hcl := fun H => clean_any p H
  obtain ⟨hcode, hcn⟩ := clean_code p
  unfold putR
  by_cases h0 : ¬ (cleanF p).2 = 0
  · rw [if_neg h0]
    generalize cleanF p = c at *
    refine Vc.CallH.body Tryz.func65 Tryz.call65 rfl (by decide +kernel) rfl ?_
    ((conv => whnf); repeat (any_goals (first | ((refine (hcl _).mono ?_; rintro _ H1 ⟨rfl, hx1⟩; have hz1 := hx1.size); (conv => whnf)) | (refine Vc.stp ?_; intros; (conv => whnf)) | (refine Vc.spl ?_ ?_ <;> (intro _; (conv => whnf))))))
    exact Did.none h hx1 _
  have h0 : (cleanF p).2 = 0 := by omega
  rw [if_pos h0]
  have hq := clean_of h0
  obtain ⟨q, hqe⟩ : ∃ q, (cleanF p).1 = q := ⟨_, rfl⟩
  rw [h0, hqe] at hcl
  rw [hqe] at hq ⊢
  have hat := fun H' (k : Ext H H') => at_any (h.ext k) q
  by_cases hd : dirF A q = true
  · obtain ⟨t, ht⟩ := (dir_node A q).1 hd
    rw [ht] at hat
    have hw : writeP A q (newB A q BB more) = (A, 54) := by unfold writeP; rw [if_pos (.inl hd)]
    rw [hw]
    refine Vc.CallH.body Tryz.func65 Tryz.call65 rfl (by decide +kernel) rfl ?_
    ((conv => whnf); repeat (any_goals (first | ((refine (hcl _).mono ?_; rintro _ H1 ⟨rfl, hx1⟩; have hz1 := hx1.size); (conv => whnf)) | ((refine (hat _ (by (repeat (first | assumption | exact Vc.Ext.refl _ | ((with_reducible apply Vc.Ext.trans); (case k => assumption)) | ((with_reducible apply Vc.Ext.but); (case k => assumption); (case hb => omega)))))).mono ?_; rintro v2 H2 ⟨hv2, hx2⟩; have hz2 := hx2.size; obtain ⟨g2, a2, c2, rfl, hb2, hr2⟩ := NodeO.out hv2); (conv => whnf)) | (refine Vc.stp ?_; intros; (conv => whnf)) | (refine Vc.spl ?_ ?_ <;> (intro _; (conv => whnf))))))
    exact Did.none h (by (repeat (first | assumption | exact Vc.Ext.refl _ | ((with_reducible apply Vc.Ext.trans); (case k => assumption)) | ((with_reducible apply Vc.Ext.but); (case k => assumption); (case hb => omega))))) _
  have hqn : q ≠ [] := by rintro rfl; exact hd rfl
  have hah := fun H' (k : Ext H H') => ahead_any (h.ext k) hq
  cases hg : mget A q with
  | none =>
    rw [node_none hg hqn] at hat
    have hnb : newB A q BB more = BB := by unfold newB bytesF; rw [hg]; cases more <;> rfl
    rw [hnb]
    unfold AheadV at hah
    by_cases hf : fileF A q = true
    · simp only [if_pos hf] at hah
      have hw : writeP A q BB = (A, 54) := by unfold writeP; rw [if_pos (.inr hf)]
      rw [hw]
      refine Vc.CallH.body Tryz.func65 Tryz.call65 rfl (by decide +kernel) rfl ?_
      ((conv => whnf); repeat (any_goals (first | ((refine (hcl _).mono ?_; rintro _ H1 ⟨rfl, hx1⟩; have hz1 := hx1.size); (conv => whnf)) | ((refine (hat _ (by (repeat (first | assumption | exact Vc.Ext.refl _ | ((with_reducible apply Vc.Ext.trans); (case k => assumption)) | ((with_reducible apply Vc.Ext.but); (case k => assumption); (case hb => omega)))))).mono ?_; rintro v2 H2 ⟨hv2, hx2⟩; have hz2 := hx2.size; obtain rfl := hv2); (conv => whnf)) | ((refine (hah _ (by (repeat (first | assumption | exact Vc.Ext.refl _ | ((with_reducible apply Vc.Ext.trans); (case k => assumption)) | ((with_reducible apply Vc.Ext.but); (case k => assumption); (case hb => omega)))))).mono ?_; rintro _ H3 ⟨rfl, hx3⟩; have hz3 := hx3.size); (conv => whnf)) | (refine Vc.stp ?_; intros; (conv => whnf)) | (refine Vc.spl ?_ ?_ <;> (intro _; (conv => whnf))))))
      exact Did.none h (by (repeat (first | assumption | exact Vc.Ext.refl _ | ((with_reducible apply Vc.Ext.trans); (case k => assumption)) | ((with_reducible apply Vc.Ext.but); (case k => assumption); (case hb => omega))))) _
    · simp only [if_neg hf] at hah
      have hlk : (lackF A q).length ≤ 12 := by
        have h1 : (lackF A q).length ≤ (pars q).length := List.length_filter_le _ _
        have h2 := hq.parts.deep
        rw [pars_len] at h1; omega
      have hoF : oldF A q = 0 := by unfold oldF; rw [hg]
      have hmF : moreF A q = (lackF A q).length + 1 := by unfold moreF; rw [hg]; simp
      by_cases hbig : 65536 < BB.length
      · have hw : writeP A q BB = (A, 55) := by unfold writeP; rw [if_neg (by rw [not_or]; exact ⟨hd, hf⟩), if_pos (.inl hbig)]
        rw [hw]
        refine Vc.CallH.body Tryz.func65 Tryz.call65 rfl (by decide +kernel) rfl ?_
        ((conv => whnf); repeat (any_goals (first | ((refine (hcl _).mono ?_; rintro _ H1 ⟨rfl, hx1⟩; have hz1 := hx1.size); (conv => whnf)) | ((refine (hat _ (by (repeat (first | assumption | exact Vc.Ext.refl _ | ((with_reducible apply Vc.Ext.trans); (case k => assumption)) | ((with_reducible apply Vc.Ext.but); (case k => assumption); (case hb => omega)))))).mono ?_; rintro v2 H2 ⟨hv2, hx2⟩; have hz2 := hx2.size; obtain rfl := hv2); (conv => whnf)) | ((refine (hah _ (by (repeat (first | assumption | exact Vc.Ext.refl _ | ((with_reducible apply Vc.Ext.trans); (case k => assumption)) | ((with_reducible apply Vc.Ext.but); (case k => assumption); (case hb => omega)))))).mono ?_; rintro _ H3 ⟨⟨a3, c3, rfl, ho3⟩, hx3⟩; have hz3 := hx3.size); (conv => whnf)) | (refine Vc.stp ?_; intros; (conv => whnf)) | (refine Vc.spl ?_ ?_ <;> (intro _; (conv => whnf))))))
        exact Did.none h (by (repeat (first | assumption | exact Vc.Ext.refl _ | ((with_reducible apply Vc.Ext.trans); (case k => assumption)) | ((with_reducible apply Vc.Ext.but); (case k => assumption); (case hb => omega))))) _
      have hroom := fun H' (k : Ext H H') => room_any (h.ext k) hA.sorted (by have := hA.count; omega) (by have := hA.size; omega) ((lackF A q).length + 1) ((BB.length : Int) - 0) (by omega) (by omega)
      rw [show (((lackF A q).length + 1 : Nat) : Int) = ((lackF A q).length : Int) + 1 by omega] at hroom
      by_cases hrm : (lackF A q).length + 1 + A.length ≤ 500 ∧ (BB.length : Int) - 0 + sizeT A ≤ 1048576
      · rw [decide_eq_true hrm] at hroom
        have hw : writeP A q BB = (putF (makeF A (lackF A q)) q (false, BB), 0) := by
          unfold writeP
          rw [if_neg (by rw [not_or]; exact ⟨hd, hf⟩), if_neg (by rw [not_or, not_or]; omega)]
        rw [hw]
        have hws := write_size hA hq BB
        refine Vc.CallH.body Tryz.func65 Tryz.call65 rfl (by decide +kernel) rfl ?_
        ((conv => whnf); repeat (any_goals (first | ((refine (hcl _).mono ?_; rintro _ H1 ⟨rfl, hx1⟩; have hz1 := hx1.size); (conv => whnf)) | ((refine (hat _ (by (repeat (first | assumption | exact Vc.Ext.refl _ | ((with_reducible apply Vc.Ext.trans); (case k => assumption)) | ((with_reducible apply Vc.Ext.but); (case k => assumption); (case hb => omega)))))).mono ?_; rintro v2 H2 ⟨hv2, hx2⟩; have hz2 := hx2.size; obtain rfl := hv2); (conv => whnf)) | ((refine (hah _ (by (repeat (first | assumption | exact Vc.Ext.refl _ | ((with_reducible apply Vc.Ext.trans); (case k => assumption)) | ((with_reducible apply Vc.Ext.but); (case k => assumption); (case hb => omega)))))).mono ?_; rintro _ H3 ⟨⟨a3, c3, rfl, ho3⟩, hx3⟩; have hz3 := hx3.size); (conv => whnf)) | ((refine (hroom _ (by (repeat (first | assumption | exact Vc.Ext.refl _ | ((with_reducible apply Vc.Ext.trans); (case k => assumption)) | ((with_reducible apply Vc.Ext.but); (case k => assumption); (case hb => omega)))))).mono ?_; rintro _ _ ⟨rfl, rfl⟩); (conv => whnf)) | ((refine (make_any (h.blk.ext (by (repeat (first | assumption | exact Vc.Ext.refl _ | ((with_reducible apply Vc.Ext.trans); (case k => assumption)) | ((with_reducible apply Vc.Ext.but); (case k => assumption); (case hb => omega)))))) (h.map.ext (by (repeat (first | assumption | exact Vc.Ext.refl _ | ((with_reducible apply Vc.Ext.trans); (case k => assumption)) | ((with_reducible apply Vc.Ext.but); (case k => assumption); (case hb => omega)))))) (lackF A q).reverse a3 _ c3 (ho3.row.ext (by (repeat (first | assumption | exact Vc.Ext.refl _ | ((with_reducible apply Vc.Ext.trans); (case k => assumption)) | ((with_reducible apply Vc.Ext.but); (case k => assumption); (case hb => omega)))))) (by simp) (by omega)).mono ?_; rintro _ H5 ⟨rfl, hm5, hx5⟩; have hz5 := hx5.size; have hx03 := (show Ext H H3 by (repeat (first | assumption | exact Vc.Ext.refl _ | ((with_reducible apply Vc.Ext.trans); (case k => assumption)) | ((with_reducible apply Vc.Ext.but); (case k => assumption); (case hb => omega))))); have hb5 := (h.blk.ext hx03).but hx5 hmb.symm; have hr5 := (hr.ext hx03).bytes hx5 (fun x e _ => by subst e; exact (h.map.ext hx03).oth.dumb)); (conv => whnf)) | ((refine (clone_any _ _ _ _ _ (hr5.ext (by (repeat (first | assumption | exact Vc.Ext.refl _ | ((with_reducible apply Vc.Ext.trans); (case k => assumption)) | ((with_reducible apply Vc.Ext.but); (case k => assumption); (case hb => omega)))))) rfl (by omega)).mono ?_; rintro _ H6 ⟨⟨a6, c6, rfl, ho6⟩, hx6⟩; have hz6 := hx6.size); (conv => whnf)) | ((refine PureH.build #[.bool false, .slice a6 BB.length c6] (by kernel_rfl) ?_); (conv => whnf)) | (((with_reducible apply treePut (n := (false, BB))); (focus ((exact hm5.ext (by (repeat (first | assumption | exact Vc.Ext.refl _ | ((with_reducible apply Vc.Ext.trans); (case k => assumption)) | ((with_reducible apply Vc.Ext.but); (case k => assumption); (case hb => omega)))))))); (focus ((exact ⟨_, a6, c6, rfl, by assumption, ho6.row.ext (by assumption)⟩))); (focus (rfl)); (focus (rfl)); (focus ((intro H8 z8 m8 x8; (conv => whnf))))); (conv => whnf)) | (((with_reducible refine Vc.DrawH.held [0, 1, 2, 3, 4, 5, 6, 7, 8, 9] [(6, [3]), (8, [3])] mixed (by decide +kernel) ?_)); (conv => whnf)) | (refine Vc.stp ?_; intros; (conv => whnf)) | (refine Vc.spl ?_ ?_ <;> (intro _; (conv => whnf))))))
        (rename_i H7 z7 b7 x7 H9 z9 b9 x9; have o9 : ButT b mb H H9 := (((hx03.only.trans hx5 fun _ _ e => .inr e).ext (show Ext H5 H7 by (repeat (first | assumption | exact Vc.Ext.refl _ | ((with_reducible apply Vc.Ext.trans); (case k => assumption)) | ((with_reducible apply Vc.Ext.but); (case k => assumption); (case hb => omega)))))).trans x8 fun _ _ e => .inr e).trans x9 fun _ _ e => .inl e; rw [makeF_rev hA.sorted] at m8; have b8 := (hb5.ext (show Ext H5 H7 by (repeat (first | assumption | exact Vc.Ext.refl _ | ((with_reducible apply Vc.Ext.trans); (case k => assumption)) | ((with_reducible apply Vc.Ext.but); (case k => assumption); (case hb => omega)))))).but x8 hmb.symm; have b9 : Blk H9 b #[.map (some mb), .int .i64 ((sizeT A : Int) + ((BB.length : Int) - (oldF A q : Int)))] 100 := (by rw [hoF]; exact b9); rw [show (sizeT A : Int) + ((BB.length : Int) - (oldF A q : Int)) = (sizeT (putF (makeF A (lackF A q)) q (false, BB)) : Nat) by omega] at b9; exact ⟨rfl, ⟨m8.keep x9 hmb (fun x e _ => by subst e; exact oth_tree b8), b9⟩, o9⟩)
      · rw [decide_eq_false hrm] at hroom
        have hw : writeP A q BB = (A, 55) := by
          unfold writeP
          rw [if_neg (by rw [not_or]; exact ⟨hd, hf⟩), if_pos (by omega)]
        rw [hw]
        refine Vc.CallH.body Tryz.func65 Tryz.call65 rfl (by decide +kernel) rfl ?_
        ((conv => whnf); repeat (any_goals (first | ((refine (hcl _).mono ?_; rintro _ H1 ⟨rfl, hx1⟩; have hz1 := hx1.size); (conv => whnf)) | ((refine (hat _ (by (repeat (first | assumption | exact Vc.Ext.refl _ | ((with_reducible apply Vc.Ext.trans); (case k => assumption)) | ((with_reducible apply Vc.Ext.but); (case k => assumption); (case hb => omega)))))).mono ?_; rintro v2 H2 ⟨hv2, hx2⟩; have hz2 := hx2.size; obtain rfl := hv2); (conv => whnf)) | ((refine (hah _ (by (repeat (first | assumption | exact Vc.Ext.refl _ | ((with_reducible apply Vc.Ext.trans); (case k => assumption)) | ((with_reducible apply Vc.Ext.but); (case k => assumption); (case hb => omega)))))).mono ?_; rintro _ H3 ⟨⟨a3, c3, rfl, ho3⟩, hx3⟩; have hz3 := hx3.size); (conv => whnf)) | ((refine (hroom _ (by (repeat (first | assumption | exact Vc.Ext.refl _ | ((with_reducible apply Vc.Ext.trans); (case k => assumption)) | ((with_reducible apply Vc.Ext.but); (case k => assumption); (case hb => omega)))))).mono ?_; rintro _ _ ⟨rfl, rfl⟩); (conv => whnf)) | (refine Vc.stp ?_; intros; (conv => whnf)) | (refine Vc.spl ?_ ?_ <;> (intro _; (conv => whnf))))))
        exact Did.none h (by (repeat (first | assumption | exact Vc.Ext.refl _ | ((with_reducible apply Vc.Ext.trans); (case k => assumption)) | ((with_reducible apply Vc.Ext.but); (case k => assumption); (case hb => omega))))) _
  | some nd =>
    obtain ⟨dir, old⟩ := nd
    have hdir : dir = false := by
      cases dir with
      | false => rfl
      | true => exact absurd ((dir_node A q).2 ⟨old, node_some hg hqn⟩) hd
    subst hdir
    rw [node_some hg hqn] at hat
    obtain ⟨hl0, hf0⟩ := lack_nil hA hg
    have hf : ¬ fileF A q = true := by rw [hf0]; simp
    unfold AheadV at hah
    simp only [if_neg hf] at hah
    rw [hl0] at hah
    have hoF : oldF A q = old.length := by unfold oldF; rw [hg]
    have hmF : moreF A q = 0 := by unfold moreF; rw [hg]; simp
    have hol := (hA.file q _ hg).1
    have hos := old_le A q
    dsimp only at hol
    have hAc := hA.count
    have e00 : ([] : List Txt).length = 0 := rfl
    have hAs := hA.size
    cases more with
    | false =>
      have hnb : newB A q BB false = BB := rfl
      rw [hnb]
      by_cases hbig : 65536 < BB.length
      · have hw : writeP A q BB = (A, 55) := by unfold writeP; rw [if_neg (by rw [not_or]; exact ⟨hd, hf⟩), if_pos (.inl hbig)]
        rw [hw]
        refine Vc.CallH.body Tryz.func65 Tryz.call65 rfl (by decide +kernel) rfl ?_
        ((conv => whnf); repeat (any_goals (first | ((refine (hcl _).mono ?_; rintro _ H1 ⟨rfl, hx1⟩; have hz1 := hx1.size); (conv => whnf)) | ((refine (hat _ (by (repeat (first | assumption | exact Vc.Ext.refl _ | ((with_reducible apply Vc.Ext.trans); (case k => assumption)) | ((with_reducible apply Vc.Ext.but); (case k => assumption); (case hb => omega)))))).mono ?_; rintro v2 H2 ⟨hv2, hx2⟩; have hz2 := hx2.size; obtain ⟨g2, a2, c2, rfl, hb2, hr2⟩ := NodeO.out hv2; dsimp only at hb2 hr2); (conv => whnf)) | ((refine (hah _ (by (repeat (first | assumption | exact Vc.Ext.refl _ | ((with_reducible apply Vc.Ext.trans); (case k => assumption)) | ((with_reducible apply Vc.Ext.but); (case k => assumption); (case hb => omega)))))).mono ?_; rintro _ H3 ⟨⟨a3, c3, rfl, ho3⟩, hx3⟩; have hz3 := hx3.size); (conv => whnf)) | (refine Vc.stp ?_; intros; (conv => whnf)) | (refine Vc.spl ?_ ?_ <;> (intro _; (conv => whnf))))))
        exact Did.none h (by (repeat (first | assumption | exact Vc.Ext.refl _ | ((with_reducible apply Vc.Ext.trans); (case k => assumption)) | ((with_reducible apply Vc.Ext.but); (case k => assumption); (case hb => omega))))) _
      have hroom := fun H' (k : Ext H H') => room_any (h.ext k) hA.sorted (by omega) (by omega) 0 ((BB.length : Int) - old.length) (by omega) (by omega)
      by_cases hrm : 0 + A.length ≤ 500 ∧ (BB.length : Int) - old.length + sizeT A ≤ 1048576
      · rw [decide_eq_true hrm] at hroom
        have hw : writeP A q BB = (putF (makeF A (lackF A q)) q (false, BB), 0) := by
          unfold writeP
          rw [if_neg (by rw [not_or]; exact ⟨hd, hf⟩), if_neg (by rw [not_or, not_or]; omega)]
        rw [hw]
        have hws := write_size hA hq BB
        rw [hl0] at hws ⊢
        refine Vc.CallH.body Tryz.func65 Tryz.call65 rfl (by decide +kernel) rfl ?_
        ((conv => whnf); repeat (any_goals (first | ((refine (hcl _).mono ?_; rintro _ H1 ⟨rfl, hx1⟩; have hz1 := hx1.size); (conv => whnf)) | ((refine (hat _ (by (repeat (first | assumption | exact Vc.Ext.refl _ | ((with_reducible apply Vc.Ext.trans); (case k => assumption)) | ((with_reducible apply Vc.Ext.but); (case k => assumption); (case hb => omega)))))).mono ?_; rintro v2 H2 ⟨hv2, hx2⟩; have hz2 := hx2.size; obtain ⟨g2, a2, c2, rfl, hb2, hr2⟩ := NodeO.out hv2; dsimp only at hb2 hr2); (conv => whnf)) | ((refine (hah _ (by (repeat (first | assumption | exact Vc.Ext.refl _ | ((with_reducible apply Vc.Ext.trans); (case k => assumption)) | ((with_reducible apply Vc.Ext.but); (case k => assumption); (case hb => omega)))))).mono ?_; rintro _ H3 ⟨⟨a3, c3, rfl, ho3⟩, hx3⟩; have hz3 := hx3.size); (conv => whnf)) | ((refine (hroom _ (by (repeat (first | assumption | exact Vc.Ext.refl _ | ((with_reducible apply Vc.Ext.trans); (case k => assumption)) | ((with_reducible apply Vc.Ext.but); (case k => assumption); (case hb => omega)))))).mono ?_; rintro _ _ ⟨rfl, rfl⟩); (conv => whnf)) | ((refine (make_any (h.blk.ext (by (repeat (first | assumption | exact Vc.Ext.refl _ | ((with_reducible apply Vc.Ext.trans); (case k => assumption)) | ((with_reducible apply Vc.Ext.but); (case k => assumption); (case hb => omega)))))) (h.map.ext (by (repeat (first | assumption | exact Vc.Ext.refl _ | ((with_reducible apply Vc.Ext.trans); (case k => assumption)) | ((with_reducible apply Vc.Ext.but); (case k => assumption); (case hb => omega)))))) [] a3 0 c3 (Row.nil _ _) rfl (by omega)).mono ?_; rintro _ H5 ⟨rfl, hm5, hx5⟩; have hz5 := hx5.size; have hx03 := (show Ext H H3 by (repeat (first | assumption | exact Vc.Ext.refl _ | ((with_reducible apply Vc.Ext.trans); (case k => assumption)) | ((with_reducible apply Vc.Ext.but); (case k => assumption); (case hb => omega))))); have hb5 := (h.blk.ext hx03).but hx5 hmb.symm; have hr5 := (hr.ext hx03).bytes hx5 (fun x e _ => by subst e; exact (h.map.ext hx03).oth.dumb)); (conv => whnf)) | ((refine (clone_any _ _ _ _ _ (hr5.ext (by (repeat (first | assumption | exact Vc.Ext.refl _ | ((with_reducible apply Vc.Ext.trans); (case k => assumption)) | ((with_reducible apply Vc.Ext.but); (case k => assumption); (case hb => omega)))))) rfl (by omega)).mono ?_; rintro _ H6 ⟨⟨a6, c6, rfl, ho6⟩, hx6⟩; have hz6 := hx6.size); (conv => whnf)) | ((refine PureH.build #[.bool false, .slice a6 BB.length c6] (by kernel_rfl) ?_); (conv => whnf)) | (((with_reducible apply treePut (n := (false, BB))); (focus ((exact hm5.ext (by (repeat (first | assumption | exact Vc.Ext.refl _ | ((with_reducible apply Vc.Ext.trans); (case k => assumption)) | ((with_reducible apply Vc.Ext.but); (case k => assumption); (case hb => omega)))))))); (focus ((exact ⟨_, a6, c6, rfl, by assumption, ho6.row.ext (by assumption)⟩))); (focus (rfl)); (focus (rfl)); (focus ((intro H8 z8 m8 x8; (conv => whnf))))); (conv => whnf)) | (((with_reducible refine Vc.DrawH.held [0, 1, 2, 3, 4, 5, 6, 7, 8, 9] [(6, [3]), (8, [3])] mixed (by decide +kernel) ?_)); (conv => whnf)) | (refine Vc.stp ?_; intros; (conv => whnf)) | (refine Vc.spl ?_ ?_ <;> (intro _; (conv => whnf))))))
        (rename_i H7 z7 b7 x7 H9 z9 b9 x9; have o9 : ButT b mb H H9 := (((hx03.only.trans hx5 fun _ _ e => .inr e).ext (show Ext H5 H7 by (repeat (first | assumption | exact Vc.Ext.refl _ | ((with_reducible apply Vc.Ext.trans); (case k => assumption)) | ((with_reducible apply Vc.Ext.but); (case k => assumption); (case hb => omega)))))).trans x8 fun _ _ e => .inr e).trans x9 fun _ _ e => .inl e; have b8 := (hb5.ext (show Ext H5 H7 by (repeat (first | assumption | exact Vc.Ext.refl _ | ((with_reducible apply Vc.Ext.trans); (case k => assumption)) | ((with_reducible apply Vc.Ext.but); (case k => assumption); (case hb => omega)))))).but x8 hmb.symm; have b9 : Blk H9 b #[.map (some mb), .int .i64 ((sizeT A : Int) + ((BB.length : Int) - (oldF A q : Int)))] 100 := (by rw [hoF]; exact b9); rw [show (sizeT A : Int) + ((BB.length : Int) - (oldF A q : Int)) = (sizeT (putF (makeF A []) q (false, BB)) : Nat) by omega] at b9; exact ⟨rfl, ⟨m8.keep x9 hmb (fun x e _ => by subst e; exact oth_tree b8), b9⟩, o9⟩)
      · rw [decide_eq_false hrm] at hroom
        have hw : writeP A q BB = (A, 55) := by
          unfold writeP
          rw [if_neg (by rw [not_or]; exact ⟨hd, hf⟩), if_pos (by omega)]
        rw [hw]
        refine Vc.CallH.body Tryz.func65 Tryz.call65 rfl (by decide +kernel) rfl ?_
        ((conv => whnf); repeat (any_goals (first | ((refine (hcl _).mono ?_; rintro _ H1 ⟨rfl, hx1⟩; have hz1 := hx1.size); (conv => whnf)) | ((refine (hat _ (by (repeat (first | assumption | exact Vc.Ext.refl _ | ((with_reducible apply Vc.Ext.trans); (case k => assumption)) | ((with_reducible apply Vc.Ext.but); (case k => assumption); (case hb => omega)))))).mono ?_; rintro v2 H2 ⟨hv2, hx2⟩; have hz2 := hx2.size; obtain ⟨g2, a2, c2, rfl, hb2, hr2⟩ := NodeO.out hv2; dsimp only at hb2 hr2); (conv => whnf)) | ((refine (hah _ (by (repeat (first | assumption | exact Vc.Ext.refl _ | ((with_reducible apply Vc.Ext.trans); (case k => assumption)) | ((with_reducible apply Vc.Ext.but); (case k => assumption); (case hb => omega)))))).mono ?_; rintro _ H3 ⟨⟨a3, c3, rfl, ho3⟩, hx3⟩; have hz3 := hx3.size); (conv => whnf)) | ((refine (hroom _ (by (repeat (first | assumption | exact Vc.Ext.refl _ | ((with_reducible apply Vc.Ext.trans); (case k => assumption)) | ((with_reducible apply Vc.Ext.but); (case k => assumption); (case hb => omega)))))).mono ?_; rintro _ _ ⟨rfl, rfl⟩); (conv => whnf)) | (refine Vc.stp ?_; intros; (conv => whnf)) | (refine Vc.spl ?_ ?_ <;> (intro _; (conv => whnf))))))
        exact Did.none h (by (repeat (first | assumption | exact Vc.Ext.refl _ | ((with_reducible apply Vc.Ext.trans); (case k => assumption)) | ((with_reducible apply Vc.Ext.but); (case k => assumption); (case hb => omega))))) _
    | true =>
      have hnb : newB A q BB true = old ++ BB := by unfold newB bytesF; rw [hg]; rfl
      have hcat := fun H' a2 c2 g4 (hr2 : Row H' a2 (strV old)) (hr : Row H' a (strV BB)) (hb : Blk H' g4 #[.slice a2 old.length c2, .slice a BB.length cap] _) => concat_any old BB a2 a old.length BB.length c2 cap g4 H' hr2 hr rfl rfl (by omega) (by omega) hb
      rw [hnb]
      obtain ⟨CC, hCC⟩ : ∃ C, old ++ BB = C := ⟨_, rfl⟩
      have hCl : CC.length = old.length + BB.length := by rw [← hCC, List.length_append]
      rw [hCC] at hnb hcat ⊢
      rw [← hCl] at hcat
      by_cases hbig : 65536 < CC.length
      · have hw : writeP A q CC = (A, 55) := by unfold writeP; rw [if_neg (by rw [not_or]; exact ⟨hd, hf⟩), if_pos (.inl hbig)]
        rw [hw]
        refine Vc.CallH.body Tryz.func65 Tryz.call65 rfl (by decide +kernel) rfl ?_
        ((conv => whnf); repeat (any_goals (first | ((refine (hcl _).mono ?_; rintro _ H1 ⟨rfl, hx1⟩; have hz1 := hx1.size); (conv => whnf)) | ((refine (hat _ (by (repeat (first | assumption | exact Vc.Ext.refl _ | ((with_reducible apply Vc.Ext.trans); (case k => assumption)) | ((with_reducible apply Vc.Ext.but); (case k => assumption); (case hb => omega)))))).mono ?_; rintro v2 H2 ⟨hv2, hx2⟩; have hz2 := hx2.size; obtain ⟨g2, a2, c2, rfl, hb2, hr2⟩ := NodeO.out hv2; dsimp only at hb2 hr2); (conv => whnf)) | ((refine (hah _ (by (repeat (first | assumption | exact Vc.Ext.refl _ | ((with_reducible apply Vc.Ext.trans); (case k => assumption)) | ((with_reducible apply Vc.Ext.but); (case k => assumption); (case hb => omega)))))).mono ?_; rintro _ H3 ⟨⟨a3, c3, rfl, ho3⟩, hx3⟩; have hz3 := hx3.size); (conv => whnf)) | ((refine (hcat _ a2 c2 _ (hr2.ext (by (repeat (first | assumption | exact Vc.Ext.refl _ | ((with_reducible apply Vc.Ext.trans); (case k => assumption)) | ((with_reducible apply Vc.Ext.but); (case k => assumption); (case hb => omega)))))) (hr.ext (by (repeat (first | assumption | exact Vc.Ext.refl _ | ((with_reducible apply Vc.Ext.trans); (case k => assumption)) | ((with_reducible apply Vc.Ext.but); (case k => assumption); (case hb => omega)))))) (by assumption)).mono ?_; rintro _ H4 ⟨⟨a4, c4, rfl, ho4⟩, hx4⟩; have hz4 := hx4.size); (conv => whnf)) | (refine Vc.stp ?_; intros; (conv => whnf)) | (refine Vc.spl ?_ ?_ <;> (intro _; (conv => whnf))))))
        exact Did.none h (by (repeat (first | assumption | exact Vc.Ext.refl _ | ((with_reducible apply Vc.Ext.trans); (case k => assumption)) | ((with_reducible apply Vc.Ext.but); (case k => assumption); (case hb => omega))))) _
      have hroom := fun H' (k : Ext H H') => room_any (h.ext k) hA.sorted (by omega) (by omega) 0 ((CC.length : Int) - old.length) (by omega) (by omega)
      by_cases hrm : 0 + A.length ≤ 500 ∧ (CC.length : Int) - old.length + sizeT A ≤ 1048576
      · rw [decide_eq_true hrm] at hroom
        have hw : writeP A q CC = (putF (makeF A (lackF A q)) q (false, CC), 0) := by
          unfold writeP
          rw [if_neg (by rw [not_or]; exact ⟨hd, hf⟩), if_neg (by rw [not_or, not_or]; omega)]
        rw [hw]
        have hws := write_size hA hq CC
        rw [hl0] at hws ⊢
        refine Vc.CallH.body Tryz.func65 Tryz.call65 rfl (by decide +kernel) rfl ?_
        ((conv => whnf); repeat (any_goals (first | ((refine (hcl _).mono ?_; rintro _ H1 ⟨rfl, hx1⟩; have hz1 := hx1.size); (conv => whnf)) | ((refine (hat _ (by (repeat (first | assumption | exact Vc.Ext.refl _ | ((with_reducible apply Vc.Ext.trans); (case k => assumption)) | ((with_reducible apply Vc.Ext.but); (case k => assumption); (case hb => omega)))))).mono ?_; rintro v2 H2 ⟨hv2, hx2⟩; have hz2 := hx2.size; obtain ⟨g2, a2, c2, rfl, hb2, hr2⟩ := NodeO.out hv2; dsimp only at hb2 hr2); (conv => whnf)) | ((refine (hah _ (by (repeat (first | assumption | exact Vc.Ext.refl _ | ((with_reducible apply Vc.Ext.trans); (case k => assumption)) | ((with_reducible apply Vc.Ext.but); (case k => assumption); (case hb => omega)))))).mono ?_; rintro _ H3 ⟨⟨a3, c3, rfl, ho3⟩, hx3⟩; have hz3 := hx3.size); (conv => whnf)) | ((refine (hcat _ a2 c2 _ (hr2.ext (by (repeat (first | assumption | exact Vc.Ext.refl _ | ((with_reducible apply Vc.Ext.trans); (case k => assumption)) | ((with_reducible apply Vc.Ext.but); (case k => assumption); (case hb => omega)))))) (hr.ext (by (repeat (first | assumption | exact Vc.Ext.refl _ | ((with_reducible apply Vc.Ext.trans); (case k => assumption)) | ((with_reducible apply Vc.Ext.but); (case k => assumption); (case hb => omega)))))) (by assumption)).mono ?_; rintro _ H4 ⟨⟨a4, c4, rfl, ho4⟩, hx4⟩; have hz4 := hx4.size); (conv => whnf)) | ((refine (hroom _ (by (repeat (first | assumption | exact Vc.Ext.refl _ | ((with_reducible apply Vc.Ext.trans); (case k => assumption)) | ((with_reducible apply Vc.Ext.but); (case k => assumption); (case hb => omega)))))).mono ?_; rintro _ _ ⟨rfl, rfl⟩); (conv => whnf)) | ((refine (make_any (h.blk.ext (by (repeat (first | assumption | exact Vc.Ext.refl _ | ((with_reducible apply Vc.Ext.trans); (case k => assumption)) | ((with_reducible apply Vc.Ext.but); (case k => assumption); (case hb => omega)))))) (h.map.ext (by (repeat (first | assumption | exact Vc.Ext.refl _ | ((with_reducible apply Vc.Ext.trans); (case k => assumption)) | ((with_reducible apply Vc.Ext.but); (case k => assumption); (case hb => omega)))))) [] a3 0 c3 (Row.nil _ _) rfl (by omega)).mono ?_; rintro _ H5 ⟨rfl, hm5, hx5⟩; have hz5 := hx5.size; have hx03 := (show Ext H H4 by (repeat (first | assumption | exact Vc.Ext.refl _ | ((with_reducible apply Vc.Ext.trans); (case k => assumption)) | ((with_reducible apply Vc.Ext.but); (case k => assumption); (case hb => omega))))); have hb5 := (h.blk.ext hx03).but hx5 hmb.symm; have hr5 := ho4.row.bytes hx5 (fun x e _ => by subst e; exact (h.map.ext hx03).oth.dumb)); (conv => whnf)) | ((refine (clone_any _ _ _ _ _ (hr5.ext (by (repeat (first | assumption | exact Vc.Ext.refl _ | ((with_reducible apply Vc.Ext.trans); (case k => assumption)) | ((with_reducible apply Vc.Ext.but); (case k => assumption); (case hb => omega)))))) rfl (by omega)).mono ?_; rintro _ H6 ⟨⟨a6, c6, rfl, ho6⟩, hx6⟩; have hz6 := hx6.size); (conv => whnf)) | ((refine PureH.build #[.bool false, .slice a6 CC.length c6] (by kernel_rfl) ?_); (conv => whnf)) | (((with_reducible apply treePut (n := (false, CC))); (focus ((exact hm5.ext (by (repeat (first | assumption | exact Vc.Ext.refl _ | ((with_reducible apply Vc.Ext.trans); (case k => assumption)) | ((with_reducible apply Vc.Ext.but); (case k => assumption); (case hb => omega)))))))); (focus ((exact ⟨_, a6, c6, rfl, by assumption, ho6.row.ext (by assumption)⟩))); (focus (rfl)); (focus (rfl)); (focus ((intro H8 z8 m8 x8; (conv => whnf))))); (conv => whnf)) | (((with_reducible refine Vc.DrawH.held [0, 1, 2, 3, 4, 5, 6, 7, 8, 9] [(6, [3]), (8, [3])] mixed (by decide +kernel) ?_)); (conv => whnf)) | (refine Vc.stp ?_; intros; (conv => whnf)) | (refine Vc.spl ?_ ?_ <;> (intro _; (conv => whnf))))))
        (rename_i H7 z7 b7 x7 H9 z9 b9 x9; have o9 : ButT b mb H H9 := (((hx03.only.trans hx5 fun _ _ e => .inr e).ext (show Ext H5 H7 by (repeat (first | assumption | exact Vc.Ext.refl _ | ((with_reducible apply Vc.Ext.trans); (case k => assumption)) | ((with_reducible apply Vc.Ext.but); (case k => assumption); (case hb => omega)))))).trans x8 fun _ _ e => .inr e).trans x9 fun _ _ e => .inl e; have b8 := (hb5.ext (show Ext H5 H7 by (repeat (first | assumption | exact Vc.Ext.refl _ | ((with_reducible apply Vc.Ext.trans); (case k => assumption)) | ((with_reducible apply Vc.Ext.but); (case k => assumption); (case hb => omega)))))).but x8 hmb.symm; have b9 : Blk H9 b #[.map (some mb), .int .i64 ((sizeT A : Int) + ((CC.length : Int) - (oldF A q : Int)))] 100 := (by rw [hoF]; exact b9); rw [show (sizeT A : Int) + ((CC.length : Int) - (oldF A q : Int)) = (sizeT (putF (makeF A []) q (false, CC)) : Nat) by omega] at b9; exact ⟨rfl, ⟨m8.keep x9 hmb (fun x e _ => by subst e; exact oth_tree b8), b9⟩, o9⟩)
      · rw [decide_eq_false hrm] at hroom
        have hw : writeP A q CC = (A, 55) := by
          unfold writeP
          rw [if_neg (by rw [not_or]; exact ⟨hd, hf⟩), if_pos (by omega)]
        rw [hw]
        refine Vc.CallH.body Tryz.func65 Tryz.call65 rfl (by decide +kernel) rfl ?_
        ((conv => whnf); repeat (any_goals (first | ((refine (hcl _).mono ?_; rintro _ H1 ⟨rfl, hx1⟩; have hz1 := hx1.size); (conv => whnf)) | ((refine (hat _ (by (repeat (first | assumption | exact Vc.Ext.refl _ | ((with_reducible apply Vc.Ext.trans); (case k => assumption)) | ((with_reducible apply Vc.Ext.but); (case k => assumption); (case hb => omega)))))).mono ?_; rintro v2 H2 ⟨hv2, hx2⟩; have hz2 := hx2.size; obtain ⟨g2, a2, c2, rfl, hb2, hr2⟩ := NodeO.out hv2; dsimp only at hb2 hr2); (conv => whnf)) | ((refine (hah _ (by (repeat (first | assumption | exact Vc.Ext.refl _ | ((with_reducible apply Vc.Ext.trans); (case k => assumption)) | ((with_reducible apply Vc.Ext.but); (case k => assumption); (case hb => omega)))))).mono ?_; rintro _ H3 ⟨⟨a3, c3, rfl, ho3⟩, hx3⟩; have hz3 := hx3.size); (conv => whnf)) | ((refine (hcat _ a2 c2 _ (hr2.ext (by (repeat (first | assumption | exact Vc.Ext.refl _ | ((with_reducible apply Vc.Ext.trans); (case k => assumption)) | ((with_reducible apply Vc.Ext.but); (case k => assumption); (case hb => omega)))))) (hr.ext (by (repeat (first | assumption | exact Vc.Ext.refl _ | ((with_reducible apply Vc.Ext.trans); (case k => assumption)) | ((with_reducible apply Vc.Ext.but); (case k => assumption); (case hb => omega)))))) (by assumption)).mono ?_; rintro _ H4 ⟨⟨a4, c4, rfl, ho4⟩, hx4⟩; have hz4 := hx4.size); (conv => whnf)) | ((refine (hroom _ (by (repeat (first | assumption | exact Vc.Ext.refl _ | ((with_reducible apply Vc.Ext.trans); (case k => assumption)) | ((with_reducible apply Vc.Ext.but); (case k => assumption); (case hb => omega)))))).mono ?_; rintro _ _ ⟨rfl, rfl⟩); (conv => whnf)) | (refine Vc.stp ?_; intros; (conv => whnf)) | (refine Vc.spl ?_ ?_ <;> (intro _; (conv => whnf))))))
        exact Did.none h (by (repeat (first | assumption | exact Vc.Ext.refl _ | ((with_reducible apply Vc.Ext.trans); (case k => assumption)) | ((with_reducible apply Vc.Ext.but); (case k => assumption); (case hb => omega))))) _
end Go.Proofs.YtihopeogaeinhaaGreatDoor
