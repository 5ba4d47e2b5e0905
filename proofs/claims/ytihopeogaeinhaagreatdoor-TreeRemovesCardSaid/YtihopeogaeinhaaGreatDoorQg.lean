import Derived.Test.YtihopeogaeinhaaGreatDoorQf
set_option linter.unusedVariables false
set_option linter.unusedSimpArgs false
set_option maxRecDepth 100000
/- Trees of files, the code: what is at or below a path; what is taken away. -/
namespace Go.Proofs.YtihopeogaeinhaaGreatDoor
open Go Go.Vc Go.Scr Go.Pth Go.Tre
theorem sort_own (l : List Bs) (a : Option Addr) (n cap base : Nat) (H : Heap) (ho : Own H base 9 1 a n cap (strs l)) (hn : l.length = n) (hne : l ≠ []) (hm : n ≤ 1000000000) :
    CallH Tryz.prog 102 [.slice a n cap] H fun v H' => v = .tuple #[] ∧ (∃ l' : List Bs, l'.Perm l ∧ Own H' base 9 1 a n cap (strs l')) ∧ Wr a H H' := by
  rcases ho.out with ⟨_, h0, _⟩ | ⟨g, cur, rfl, _⟩
  · exact absurd (List.eq_nil_of_length_eq_zero (by omega)) hne
  · exact sort_any l g n cap base H ho hn hm
structure BlS where
  vis : List Bs
  a : Option Addr
  cap : Nat
theorem maps_keys {H : Heap} {A : Tr} {lm : List (Bs × Value)} (h2 : ∀ k, mget A k = none → mget lm k = none) (h3 : ∀ k n, mget A k = some n → ∃ v, mget lm k = some v ∧ NodeO H v n) (k : Bs) : k ∈ lm.map (·.1) ↔ k ∈ A.map (·.1) := by
  have e1 := mget_none (l := lm) (k := k)
  have e2 := mget_none (l := A) (k := k)
  constructor
  · intro h
    apply Classical.byContradiction
    intro hn
    exact e1.1 (h2 k (e2.2 hn)) h
  · intro h
    apply Classical.byContradiction
    intro hn
    cases hg : mget A k with
    | none => exact e2.1 hg h
    | some n => obtain ⟨v, hv, _⟩ := h3 k n hg; rw [e1.2 hn] at hv; cases hv
/-- what below answers -/
structure BelowV (H' : Heap) (base : Nat) (v : Value) (A : Tr) (p : Txt) (l : List Bs) (a : Option Addr) (cap : Nat) : Prop where
  val : v = .slice a l.length cap
  own : Own H' base 9 1 a l.length cap (strs l)
  nodup : l.Nodup
  mem : ∀ k, k ∈ l ↔ k ∈ A.map (·.1) ∧ withinF k p = true
  len : l.length ≤ A.length
set_option maxHeartbeats 1000000 in
theorem below_any {b mb : Nat} {A : Tr} {H : Heap} (h : TreeO H b mb A) (hA : Okay A) (p : Bs) (hp : p.length ≤ 100000000) (hne : mget A p ≠ none) : CallH Tryz.prog 72 [.pointer (some ⟨b, 0, none⟩), .string (mkS p)] H fun v H' => (∃ l a cap, BelowV H' H.size v A p l a cap) ∧ Ext H H' := by
  have hb := h.blk
  obtain ⟨lm, hm, h2, h3⟩ := h.map.out
  have hkeys := maps_keys h2 h3
  have hlen := MapT.len hA.sorted.nodup hm h2 h3
  have hAc := hA.count
  refine Vc.CallH.body Tryz.func72 Tryz.call72 rfl (by decide +kernel) rfl ?_
  ((conv => whnf); repeat (any_goals (first | (((with_reducible apply SemH.rangeMap hm); (focus (rfl)); (focus ((intro H1 z1 it1 x1; (conv => whnf))))); (conv => whnf)) | (refine Vc.stp ?_; intros; (conv => whnf)) | (refine Vc.spl ?_ ?_ <;> (intro _; (conv => whnf))))))
  refine LoopH.intro (fun (x : BlS) => [(5, .slice x.a (x.vis.filter fun k => withinF k p).length x.cap)])
    (fun x H' => IterO H' H.size mb lm x.vis ∧ Own H' H1.size 9 1 x.a (x.vis.filter fun k => withinF k p).length x.cap (strs (x.vis.filter fun k => withinF k p)) ∧ Ext H H') (fun x => lm.length - x.vis.length) ⟨[], none, 0⟩ ⟨rfl, trivial⟩ ⟨it1, Own.nil _ _ _ _, x1⟩ ?_
  rintro ⟨vis, a, cap⟩ H2 ⟨hit, ho2, hx2⟩
  dsimp only at hit ho2 ⊢
  have hz2 := hx2.size
  have hvl := nodup_len hit.nodup hit.sub
  rw [List.length_map] at hvl
  have hfl : (vis.filter fun k => withinF k p).length ≤ vis.length := List.length_filter_le _ _
  have hpin : p ∈ A.map (·.1) := Classical.byContradiction fun hn => hne (mget_none.2 hn)
  have hpw : withinF p p = true := by unfold withinF; simp
  have hmem : (∀ k ∈ lm.map (·.1), k ∈ vis) → ∀ k, k ∈ (vis.filter fun k => withinF k p) ↔ k ∈ A.map (·.1) ∧ withinF k p = true := fun hall k => by
    rw [List.mem_filter]
    constructor
    · rintro ⟨h4, h5⟩; exact ⟨(hkeys k).1 (hit.sub k h4), h5⟩
    · rintro ⟨h4, h5⟩; exact ⟨hall k ((hkeys k).2 h4), h5⟩
  have hnil : (∀ k ∈ lm.map (·.1), k ∈ vis) → (vis.filter fun k => withinF k p) ≠ [] := fun hall e => by
    have := (hmem hall p).2 ⟨hpin, hpw⟩
    rw [e] at this; cases this
  have hfn : (vis.filter fun k => withinF k p).Nodup := List.Nodup.sublist List.filter_sublist hit.nodup
  have hkl : ∀ k ∈ lm.map (·.1), k.length ≤ 200 := fun k hk => by
    have hk := (hkeys k).1 hk
    cases hg : mget A k with
    | none => exact absurd hk (mget_none.1 hg)
    | some n =>
      obtain ⟨⟨l, rfl, hl⟩, _⟩ := hA.clean k n hg
      exact hl.long
  have hout : ∀ l' : List Bs, l'.Perm (vis.filter fun k => withinF k p) → l'.length = (vis.filter fun k => withinF k p).length := fun l' hp => hp.length_eq
  ((conv => whnf); repeat (any_goals (first | (((with_reducible refine SemH.nextMap hit ?_ ?_); rotate_left; intro k v H5 hkv hkn z5 hit5 hcur hx5; have hkk : k ∈ List.map (fun x => x.1) lm := List.mem_map.2 ⟨(k, v), hkv, rfl⟩; have hk2 := hkl k hkk; (conv => whnf); rotate_left; intro hall; (conv => whnf)); (conv => whnf)) | (((with_reducible apply SemH.entryMap hcur); (focus ((conv => whnf)))); (conv => whnf)) | ((refine (sort_own _ _ _ _ _ _ ho2 rfl (hnil hall) (by omega)).mono ?_; rintro _ H6 ⟨rfl, ⟨l', hp', ho6⟩, hx6⟩; have hz6 := hx6.size); (conv => whnf)) | ((refine (within_any k p (by omega) (by omega) _).mono ?_; rintro _ _ ⟨rfl, rfl⟩); (conv => whnf)) | (refine Vc.stp ?_; intros; (conv => whnf)))))
  · refine ⟨⟨l', a, cap, ⟨?_, ?_, hp'.nodup_iff.2 hfn, fun k => hp'.mem_iff.trans (hmem hall k), ?_⟩⟩, hx2.wr ho2 (by omega) hx6⟩
    · rw [hout l' hp']; rfl
    · rw [hout l' hp']; exact ho6.base (by omega)
    · rw [hout l' hp']; omega
  · have ho5 := ho2.keep hx5 fun p hp e => ho2.low (b := H.size) (by omega) ⟨p, hp, e⟩
    have hx05 : Ext H H5 := hx2.but hx5 (Nat.le_refl _)
    cases hw : withinF k p with
    | false =>
      have e : ((vis ++ [k]).filter fun k => withinF k p) = vis.filter fun k => withinF k p := by
        rw [List.filter_append, List.filter_cons, if_neg (by rw [hw]; simp), List.filter_nil, List.append_nil]
      ((conv => whnf); repeat (any_goals (first | (refine Vc.stp ?_; intros; (conv => whnf)) | (refine Vc.spl ?_ ?_ <;> (intro _; (conv => whnf))))))
      exact ⟨⟨vis ++ [k], a, cap⟩, ⟨by dsimp only; rw [e]; rfl, trivial⟩, ⟨hit5, by dsimp only; rw [e]; exact ho5, hx05⟩, by have := nodup_len hit5.nodup hit5.sub; rw [List.length_map, List.length_append, List.length_singleton] at this; show lm.length - (vis ++ [k]).length < _; rw [List.length_append, List.length_singleton]; show _ < lm.length - vis.length; omega⟩
    | true =>
      have e : ((vis ++ [k]).filter fun k => withinF k p) = (vis.filter fun k => withinF k p) ++ [k] := by
        rw [List.filter_append, List.filter_cons, if_pos hw, List.filter_nil]
      ((conv => whnf); repeat (any_goals (first | ((refine NextH.push1b (by assumption) (ho5.ext (by assumption)) (by omega) (by omega) rfl ⟨_, rfl, fun _ h => by cases h⟩ rfl rfl rfl rfl rfl rfl rfl ?_; intro a6 c6 H6 ho6 hz6 hw6; have hit6 := (hit5.ext (by assumption)).wr (ho5.ext (by assumption)) hw6; have hx06 := (show Ext H H6 from (hx05.trans (by assumption)).wr (ho5.ext (by assumption)) (by omega) hw6)); (conv => whnf)) | (refine Vc.stp ?_; intros; (conv => whnf)) | (refine Vc.spl ?_ ?_ <;> (intro _; (conv => whnf))))))
      exact ⟨⟨vis ++ [k], a6, c6⟩, ⟨by dsimp only; rw [e]; exact sl_snocS _ _ _ _, trivial⟩, ⟨hit6, by dsimp only; rw [e]; exact own_snocS rfl ho6, hx06⟩, by have := nodup_len hit5.nodup hit5.sub; rw [List.length_map, List.length_append, List.length_singleton] at this; show lm.length - (vis ++ [k]).length < _; rw [List.length_append, List.length_singleton]; show _ < lm.length - vis.length; omega⟩
theorem drop_any {b mb : Nat} {A : Tr} {H : Heap} (h : TreeO H b mb A) (hA : Sorted A) (hs : sizeT A ≤ 100000000) (l : List Bs) (a : Option Addr) (n cap : Nat) (hr : Row H a (strs l)) (hn : l.length = n) (hn1 : n ≤ 1000000) (hnd : l.Nodup) (hin : ∀ k ∈ l, mget A k ≠ none) :
    CallH Tryz.prog 71 [.pointer (some ⟨b, 0, none⟩), .slice a n cap] H fun v H' => v = .tuple #[] ∧ TreeO H' b mb (dropT A l) ∧ ButT b mb H H' := by
  refine Vc.CallH.body Tryz.func71 Tryz.call71 rfl (by decide +kernel) rfl ?_
  have hmb := h.map.ne h.blk
  ((conv => whnf); repeat (any_goals (first | (refine Vc.stp ?_; intros; (conv => whnf)) | (refine Vc.spl ?_ ?_ <;> (intro _; (conv => whnf))))))
  refine LoopH.intro (fun (i : Nat) => [(8, .int .i64 i)]) (fun i H' => i ≤ n ∧ TreeO H' b mb (dropT A (l.take i)) ∧ ButT b mb H H') (fun i => n - i) 0 ⟨rfl, trivial⟩ ⟨Nat.zero_le _, by rw [List.take_zero, dropT_nil]; exact h, Only.refl _ _⟩ ?_
  rintro i H2 ⟨hi, ht2, hx2⟩
  have hz2 := hx2.size
  have hb2 := ht2.blk
  have hm2 := ht2.map
  have hr2 := hr.texts hx2 fun x e _ => by
    rcases e with rfl | rfl
    · exact h.oth.dumb
    · exact h.map.oth.dumb
  by_cases hlt : i < n
  · obtain ⟨k, hk⟩ : ∃ k, l[i]? = some k := ⟨_, List.getElem?_eq_getElem (by omega)⟩
    have hkl : k ∈ l := List.mem_of_getElem? hk
    have hkn : k ∉ l.take i := fun hm => by
      have h1 := List.take_append_drop i l
      have h2 : l.drop i = k :: l.drop (i + 1) := by
        rw [List.drop_eq_getElem_cons (by omega)]
        rw [List.getElem?_eq_getElem (by omega)] at hk
        rw [Option.some.inj hk]
      rw [h2] at h1
      rw [← h1, List.nodup_append] at hnd
      exact hnd.2.2 k hm k (by simp) rfl
    obtain ⟨nd, hg⟩ : ∃ nd, mget (dropT A (l.take i)) k = some nd := by
      rw [mget_dropT, if_neg hkn]
      cases hg : mget A k with
      | none => exact absurd hg (hin k hkl)
      | some nd => exact ⟨nd, rfl⟩
    have hsd := del_size (dropT_sorted hA (l.take i)) k
    have hss : sizeT (dropT A (l.take i)) ≤ 100000000 := Nat.le_trans (filter_size _ _) hs
    rw [dropT_snoc] at hsd
    have hof : oldF (dropT A (l.take i)) k = nd.2.length := by unfold oldF; rw [hg]
    have e1 : l.take (i + 1) = l.take i ++ [k] := by rw [List.take_add_one, hk]; rfl
    have e2 : delT (dropT A (l.take i)) k = dropT A (l.take (i + 1)) := by rw [e1, ← dropT_snoc]; rfl
    rw [← e1] at hsd
    ((conv => whnf); repeat (any_goals (first | ((refine IdxA.strv hr2 hn i k (by omega) hk ?_; intro _ _ _ _ _); (conv => whnf)) | (((with_reducible apply treeGet1 hm2 hg); (focus (rfl)); (focus (rfl)); (focus (rfl)); (focus (rfl)); (focus ((intro g1 a1 c1 k1 k2; (conv => whnf))))); (conv => whnf)) | (((with_reducible apply treeDel); (focus ((exact hm2.keep (by assumption) hmb (fun x e _ => by subst e; exact oth_tree hb2)))); (focus (rfl)); (focus (rfl)); (focus ((intro H5 z5 m5 x5; (conv => whnf))))); (conv => whnf)) | (((with_reducible refine Vc.DrawH.held [0, 1, 2, 3, 4, 5, 6, 7, 8, 9, 10, 11, 12, 13, 14, 15, 16, 17] [(9, [3])] mixed (by decide +kernel) ?_)); (conv => whnf)) | (refine Vc.stp ?_; intros; (conv => whnf)) | (refine Vc.spl ?_ ?_ <;> (intro _; (conv => whnf))))))
    rename_i H4 z4 b4 x4
    rw [e2] at m5
    have b4' : Blk H4 b #[.map (some mb), .int .i64 ((sizeT (dropT A (l.take i)) : Int) - nd.2.length)] 100 := b4
    rw [show (sizeT (dropT A (l.take i)) : Int) - nd.2.length = (sizeT (dropT A (l.take (i + 1))) : Nat) by omega] at b4'
    exact ⟨i + 1, ⟨rfl, trivial⟩, ⟨by omega, ⟨m5, b4'.but x5 hmb.symm⟩, (hx2.trans x4 fun _ _ e => .inl e).trans x5 fun _ _ e => .inr e⟩, by omega⟩
  · obtain rfl : i = n := by omega
    ((conv => whnf); repeat (any_goals (first | (refine Vc.stp ?_; intros; (conv => whnf)) | (refine Vc.spl ?_ ?_ <;> (intro _; (conv => whnf))))))
    refine ⟨rfl, ?_, hx2⟩
    rw [List.take_of_length_le (by omega)] at ht2; exact ht2
theorem remove_any {b mb : Nat} {A : Tr} {H : Heap} (h : TreeO H b mb A) (hA : Okay A) (p : Bs) : CallH Tryz.prog 34 [.pointer (some ⟨b, 0, none⟩), .string (mkS p)] H fun v H' => Did H H' b mb v (removeF A p) := by
  have hcl := fun H => clean_any p H
  have hmb := h.map.ne h.blk
  obtain ⟨hcode, hcn⟩ := clean_code p
  unfold removeF
  by_cases h0 : ¬ (cleanF p).2 = 0
  · rw [if_neg h0]
    have h0' : ¬ ((cleanF p).2 : Int) = 0 := by omega
    generalize cleanF p = c at *
    refine Vc.CallH.body Tryz.func34 Tryz.call34 rfl (by decide +kernel) rfl ?_
    ((conv => whnf); repeat (any_goals (first | ((refine (hcl _).mono ?_; rintro _ H1 ⟨rfl, hx1⟩; have hz1 := hx1.size); (conv => whnf)) | (refine Vc.stp ?_; intros; (conv => whnf)) | (refine Vc.spl ?_ ?_ <;> (intro _; (conv => whnf))))))
    exact Did.none h hx1 _
  have h0 : (cleanF p).2 = 0 := by omega
  rw [if_pos h0]
  have hq := clean_of h0
  obtain ⟨q, hqe⟩ : ∃ q, (cleanF p).1 = q := ⟨_, rfl⟩
  rw [h0, hqe] at hcl
  rw [hqe] at hq ⊢
  have e0 := eq_empty q
  by_cases hqn : q = []
  · rw [if_pos hqn]
    rw [decide_eq_true hqn] at e0
    refine Vc.CallH.body Tryz.func34 Tryz.call34 rfl (by decide +kernel) rfl ?_
    ((conv => whnf); repeat (any_goals (first | ((refine (hcl _).mono ?_; rintro _ H1 ⟨rfl, hx1⟩; have hz1 := hx1.size); (conv => whnf)) | (refine Vc.stp ?_; intros; (conv => whnf)) | (refine Vc.spl ?_ ?_ <;> (intro _; (conv => whnf))))))
    exact Did.none h hx1 _
  rw [if_neg hqn]
  rw [decide_eq_false hqn] at e0
  have hql : q.length ≤ 200 := by obtain ⟨l, rfl, hl⟩ := hq; exact hl.long
  cases hg : mget A q with
  | none =>
    rw [if_pos rfl]
    refine Vc.CallH.body Tryz.func34 Tryz.call34 rfl (by decide +kernel) rfl ?_
    ((conv => whnf); repeat (any_goals (first | ((refine (hcl _).mono ?_; rintro _ H1 ⟨rfl, hx1⟩; have hz1 := hx1.size; have hb1 := h.blk.ext hx1); (conv => whnf)) | (((with_reducible apply treeGet0 (h.map.ext hx1) hg); (focus (rfl)); (focus (rfl)); (focus (rfl)); (focus (rfl)); (focus ((conv => whnf)))); (conv => whnf)) | (refine Vc.stp ?_; intros; (conv => whnf)) | (refine Vc.spl ?_ ?_ <;> (intro _; (conv => whnf))))))
    exact Did.none h hx1 _
  | some nd =>
    rw [if_neg (by simp)]
    have hbl := fun H' (k : Ext H H') => below_any (h.ext k) hA q (by omega) (by rw [hg]; simp)
    have hAc := hA.count
    have hAs := hA.size
    refine Vc.CallH.body Tryz.func34 Tryz.call34 rfl (by decide +kernel) rfl ?_
    ((conv => whnf); repeat (any_goals (first | ((refine (hcl _).mono ?_; rintro _ H1 ⟨rfl, hx1⟩; have hz1 := hx1.size; have hb1 := h.blk.ext hx1); (conv => whnf)) | (((with_reducible apply treeGet1 (h.map.ext hx1) hg); (focus (rfl)); (focus (rfl)); (focus (rfl)); (focus (rfl)); (focus ((intro g1 a1 c1 k1 k2; (conv => whnf))))); (conv => whnf)) | ((refine (hbl _ (by (repeat (first | assumption | exact Vc.Ext.refl _ | ((with_reducible apply Vc.Ext.trans); (case k => assumption)) | ((with_reducible apply Vc.Ext.but); (case k => assumption); (case hb => omega)))))).mono ?_; rintro _ H3 ⟨⟨l3, a3, c3, hv3⟩, hx3⟩; have hz3 := hx3.size; obtain rfl := hv3.val); (conv => whnf)) | ((refine (drop_any (h.ext (show Ext H H3 by (repeat (first | assumption | exact Vc.Ext.refl _ | ((with_reducible apply Vc.Ext.trans); (case k => assumption)) | ((with_reducible apply Vc.Ext.but); (case k => assumption); (case hb => omega)))))) hA.sorted (by omega) l3 a3 _ c3 hv3.own.row rfl (by have := hv3.len; omega) hv3.nodup (fun k hk => (by have := ((hv3.mem k).1 hk).1; exact fun e => mget_none.1 e this))).mono ?_; rintro _ H4 ⟨rfl, ht4, hx4⟩); (conv => whnf)) | (refine Vc.stp ?_; intros; (conv => whnf)) | (refine Vc.spl ?_ ?_ <;> (intro _; (conv => whnf))))))
    have hx03 := (show Ext H H3 by (repeat (first | assumption | exact Vc.Ext.refl _ | ((with_reducible apply Vc.Ext.trans); (case k => assumption)) | ((with_reducible apply Vc.Ext.but); (case k => assumption); (case hb => omega)))))
    rw [drop_all hv3.mem] at ht4
    exact ⟨rfl, ht4, hx03.only.trans hx4 fun _ _ e => e⟩
end Go.Proofs.YtihopeogaeinhaaGreatDoor
