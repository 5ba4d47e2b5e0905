import Derived.Test.YtihopeogaeinhaaGreatDoorQh
set_option linter.unusedVariables false
set_option linter.unusedSimpArgs false
set_option maxRecDepth 100000
/- Trees of files, the code: Rename and Copy. -/
namespace Go.Tre
open Go.Pth Go.Scr
open Go.Vc (mget mput mdel mget_put mget_mem mget_of_mem mget_none)
theorem mget_perm {α : Type} {l m : List (Txt × α)} (h : l.Perm m) (hn : (l.map (·.1)).Nodup) (k : Txt) : mget l k = mget m k := by
  have hm : (m.map (·.1)).Nodup := (h.map _).nodup_iff.1 hn
  cases hg : mget l k with
  | some v => exact (mget_of_mem hm (h.subset (mget_mem hg))).symm
  | none =>
    cases hg2 : mget m k with
    | none => rfl
    | some v => rw [mget_of_mem hn (h.symm.subset (mget_mem hg2))] at hg; cases hg
theorem puts_keep : ∀ (l A : Tr) (k : Txt), k ∉ l.map (·.1) → mget (putsF A l) k = mget A k
  | [], A, k, _ => rfl
  | x :: l, A, k, h => by
    rw [List.map_cons, List.mem_cons, not_or] at h
    show mget (putsF (putF A x.1 x.2) l) k = _
    rw [puts_keep l _ k h.2, mget_putF, if_neg h.1]
theorem puts_snoc (A l : Tr) (x : Txt × Node) : putsF A (l ++ [x]) = putF (putsF A l) x.1 x.2 := by unfold putsF; rw [List.foldl_append]; rfl
theorem puts_perm {A l m : Tr} (hA : Sorted A) (h : l.Perm m) (hn : (l.map (·.1)).Nodup) : putsF A l = putsF A m :=
  sorted_ext (putsF_sorted l hA) (putsF_sorted m hA) fun k => by rw [mget_putsF k l A hn, mget_putsF k m A ((h.map _).nodup_iff.1 hn), mget_perm h hn]
def nodeOf (A : Tr) (k : Txt) : Node := (mget A k).getD (false, [])
def movesL (A : Tr) (p q : Txt) (L : List Txt) : Tr := L.map fun k => (toF p q k, nodeOf A k)
theorem moves_perm {A : Tr} (hA : (A.map (·.1)).Nodup) {p q : Txt} {L : List Txt} (hn : L.Nodup) (hm : ∀ k, k ∈ L ↔ k ∈ A.map (·.1) ∧ withinF k p = true) : (movesL A p q L).Perm (movedF A p q) := by
  have hp : L.Perm ((A.filter fun x => withinF x.1 p).map (·.1)) := by
    refine (List.perm_ext_iff_of_nodup hn (List.Nodup.sublist (List.filter_sublist.map _) hA)).2 fun k => ?_
    rw [hm, List.mem_map, List.mem_map]
    constructor
    · rintro ⟨⟨x, hx, rfl⟩, hf⟩; exact ⟨x, List.mem_filter.2 ⟨hx, hf⟩, rfl⟩
    · rintro ⟨x, hx, rfl⟩; exact ⟨⟨x, (List.mem_filter.1 hx).1, rfl⟩, (List.mem_filter.1 hx).2⟩
  have := hp.map fun k => (toF p q k, nodeOf A k)
  unfold movesL movedF
  rw [List.map_map] at this
  refine this.trans (List.Perm.of_eq (List.map_congr_left fun x hx => ?_))
  show (toF p q x.1, nodeOf A x.1) = _
  unfold nodeOf
  rw [mget_of_mem hA (List.mem_filter.1 hx).1]; rfl
/-- where plan says yes -/
structure Yes (A : Tr) (p q : Txt) : Prop where
  pn : p ≠ []
  qn : q ≠ []
  pin : mget A p ≠ none
  qout : mget A q = none
  out : withinF q p = false
  file : fileF A q = false
  good : badM (movedF A p q) = false
theorem plan_yes {A : Tr} {p q : Txt} (h : planF A p q = 0) : Yes A p q := by
  unfold planF at h
  split at h
  · cases h
  rename_i h1
  split at h
  · cases h
  rename_i h2
  split at h
  · cases h
  rename_i h3
  split at h
  · cases h
  rename_i h4
  split at h
  · cases h
  rename_i h5
  rw [not_or] at h2 h3
  exact ⟨h2.1, h3.1, fun e => h1 ⟨h2.1, e⟩, by simpa using h3.2, by simpa using h2.2, by simpa using h4, by simpa using h5⟩
theorem two_plan {A : Tr} {p q : Txt} {stays : Bool} : twoP A p q stays = if planF A p q = 0 then (if 500 < A.length + ((lackF A q).length + if stays = true then (movedF A p q).length else 0) ∨ 1048576 < sizeT A + (if stays = true then sizeT (movedF A p q) else 0) then (A, 55)
    else (putsF (makeF (restF A p stays) (lackF A q)) (movedF A p q), 0)) else (A, planF A p q) := by
  unfold twoP planF
  split
  · rfl
  split
  · rfl
  split
  · rfl
  split
  · rfl
  split
  · rfl
  rw [if_pos rfl]
theorem two_size {A : Tr} (hA : Okay A) {p q : Txt} (hp : CleanP p) (hq : CleanP q) (y : Yes A p q) : sizeT (putsF (makeF A (lackF A q)) (movedF A p q)) = sizeT A + sizeT (movedF A p q) := by
  have ha := apart hA hp hq y.pn y.qn y.pin y.qout y.out
  have hg := goes hA hp hq y.pn y.qn
  rw [(putsF_cnt (movedF A p q) (makeF_sorted _ hA.sorted) hg.nodup fun x hx => by rw [mget_makeF, if_neg (ha.nlack x hx)]; exact ha.fresh x hx).2, makeF_size hA.sorted fun d hd => (lack_none hd).2]
theorem rename_drop {A : Tr} (hA : Okay A) {p q : Txt} (hp : CleanP p) (hq : CleanP q) (y : Yes A p q) {L : List Txt} (hm : ∀ k, k ∈ L ↔ k ∈ A.map (·.1) ∧ withinF k p = true) :
    dropT (putsF (makeF A (lackF A q)) (movedF A p q)) L = putsF (makeF (restF A p false) (lackF A q)) (movedF A p q) := by
  have ha := apart hA hp hq y.pn y.qn y.pin y.qout y.out
  have hg := goes hA hp hq y.pn y.qn
  have hr : restF A p false = A.filter fun x => !withinF x.1 p := rfl
  have hrs : Sorted (restF A p false) := by rw [hr]; exact List.Pairwise.sublist List.filter_sublist hA.sorted
  refine sorted_ext (dropT_sorted (putsF_sorted _ (makeF_sorted _ hA.sorted)) _) (putsF_sorted _ (makeF_sorted _ hrs)) fun k => ?_
  rw [mget_dropT, mget_putsF k _ _ hg.nodup, mget_putsF k _ _ hg.nodup, mget_makeF, mget_makeF, hr, mget_filter (fun x => !withinF x p)]
  by_cases hk : k ∈ L
  · rw [if_pos hk]
    have hw := ((hm k).1 hk).2
    have h1 : mget (movedF A p q) k = none := by
      cases hg1 : mget (movedF A p q) k with
      | none => rfl
      | some n => have := ha.moved _ (mget_mem hg1); rw [hw] at this; cases this
    have h2 : k ∉ lackF A q := fun h => by have := ha.lack k h; rw [hw] at this; cases this
    rw [h1, if_neg h2, if_neg (by rw [hw]; simp)]
  · rw [if_neg hk]
    cases mget (movedF A p q) k with
    | some n => rfl
    | none =>
      dsimp only
      by_cases h2 : k ∈ lackF A q
      · rw [if_pos h2, if_pos h2]
      · rw [if_neg h2, if_neg h2]
        by_cases hw : withinF k p = true
        · rw [if_neg (by rw [hw]; simp)]
          apply mget_none.2
          exact fun h => hk ((hm k).2 ⟨h, hw⟩)
        · rw [if_pos (by simpa using hw)]
end Go.Tre
namespace Go.Proofs.YtihopeogaeinhaaGreatDoor
open Go Go.Vc Go.Scr Go.Pth Go.Tre
set_option maxHeartbeats 4000000 in
theorem copy0_any {b mb : Nat} {A : Tr} {H : Heap} (h : TreeO H b mb A) (p q : Bs) (L D : List Bs) (fa ta la : Option Addr) (fc tc lc n d : Nat) (by0 : Nat) (hfr : Row H fa (strs L)) (hto : Row H ta (strs (L.map (toF p q)))) (hlk : Row H la (strs D)) (hn : L.length = n) (hd : D.length = d) (hn1 : n ≤ 10000) (hd1 : d ≤ 10000)
    (hin : ∀ k ∈ L, mget A k ≠ none) (hkl : ∀ k ∈ L, k ∉ D) (hkt : ∀ k ∈ L, k ∉ (movesL A p q L).map (·.1)) (hs : sizeT (putsF (makeF A D) (movesL A p q L)) = sizeT A + by0) (hs1 : sizeT A ≤ 100000000) (hs2 : by0 ≤ 100000000) :
    CallH Tryz.prog 82 [.pointer (some ⟨b, 0, none⟩), .agg #[.slice fa n fc, .slice ta n tc, .slice la d lc, .int .i64 by0]] H fun v H' => v = .tuple #[] ∧ TreeO H' b mb (putsF (makeF A D) (movesL A p q L)) ∧ ButT b mb H H' := by
  refine Vc.CallH.body Tryz.func82 Tryz.call82 rfl (by decide +kernel) rfl ?_
  have hmb := h.map.ne h.blk
  have hbl0 := h.blk.lt
  have hml0 := h.map.lt
  ((conv => whnf); repeat (any_goals (first | ((refine (make_any (h.blk.ext (by assumption)) (h.map.ext (by assumption)) D la _ lc (hlk.ext (by assumption)) hd (by omega)).mono ?_; rintro _ H2 ⟨rfl, hm2, hx2⟩; have hz2 := hx2.size); (conv => whnf)) | (refine Vc.stp ?_; intros; (conv => whnf)) | (refine Vc.spl ?_ ?_ <;> (intro _; (conv => whnf))))))
  rename_i H1 z1 b1 x1
  have b1 : Blk H1 H.size #[.slice fa n fc, .slice ta n tc, .slice la d lc, .int .i64 by0] 118 := b1
  have hom : ∀ x, x = mb → x < H1.size → Oth H1 x := fun x e _ => by subst e; exact (h.map.ext x1).oth
  have hfr2 := (hfr.ext x1).texts hx2 fun x e hl => (hom x e hl).dumb
  have hto2 := (hto.ext x1).texts hx2 fun x e hl => (hom x e hl).dumb
  have hb2 := b1.but hx2 (by omega)
  have htb2 := (h.blk.ext x1).but hx2 hmb.symm
  obtain ⟨M, hM⟩ : ∃ M, movesL A p q L = M := ⟨_, rfl⟩
  have hMl : M.length = n := by rw [← hM]; unfold movesL; rw [List.length_map, hn]
  rw [hM] at hs hkt ⊢
  refine LoopH.intro (fun (i : Nat) => [(14, .int .i64 i)]) (fun i H' => i ≤ n ∧ MapT H' mb (putsF (makeF A D) (M.take i)) ∧ But mb H2 H') (fun i => n - i) 0 ⟨rfl, trivial⟩ ⟨Nat.zero_le _, hm2, Only.refl _ _⟩ ?_
  rintro i H3 ⟨hi, hm3, hx3⟩
  have hz3 := hx3.size
  have hom2 : ∀ x, x = mb → x < H2.size → Oth H2 x := fun x e _ => by subst e; exact hm2.oth
  have hfr3 := hfr2.texts hx3 fun x e hl => (hom2 x e hl).dumb
  have hto3 := hto2.texts hx3 fun x e hl => (hom2 x e hl).dumb
  have hb3 := hb2.but hx3 (by omega)
  have htb3 := htb2.but hx3 hmb.symm
  by_cases hlt : i < n
  · obtain ⟨k, hk⟩ : ∃ k, L[i]? = some k := ⟨_, List.getElem?_eq_getElem (by omega)⟩
    have hkL := List.mem_of_getElem? hk
    have hkt3 : (L.map (toF p q))[i]? = some (toF p q k) := by rw [List.getElem?_map, hk]; rfl
    have hMi : M[i]? = some (toF p q k, nodeOf A k) := by rw [← hM]; unfold movesL; rw [List.getElem?_map, hk]; rfl
    obtain ⟨nd, hg⟩ : ∃ nd, mget A k = some nd := by
      cases hg : mget A k with
      | none => exact absurd hg (hin k hkL)
      | some nd => exact ⟨nd, rfl⟩
    have hno : nodeOf A k = nd := by unfold nodeOf; rw [hg]; rfl
    rw [hno] at hMi
    have hg3 : mget (putsF (makeF A D) (M.take i)) k = some nd := by
      rw [puts_keep _ _ _ fun hm => hkt k hkL ((List.take_sublist i M).map (fun x => x.1) |>.subset hm), mget_makeF, if_neg (hkl k hkL)]; exact hg
    have etk : M.take (i + 1) = M.take i ++ [(toF p q k, nd)] := by rw [List.take_add_one, hMi]; rfl
    ((conv => whnf); repeat (any_goals (first | ((refine IdxA.strv hfr3 hn i k (by omega) hk ?_; intro _ _ _ _ _); (conv => whnf)) | ((refine IdxA.strv hto3 (by (rw [List.length_map]; exact hn)) i (toF p q k) (by omega) hkt3 ?_; intro bt ot ht1 ht2 ht3); (conv => whnf)) | (((with_reducible apply treeGet1 hm3 hg3); (focus (rfl)); (focus (rfl)); (focus (rfl)); (focus (rfl)); (focus ((intro g1 a1 c1 k1 k2; (conv => whnf))))); (conv => whnf)) | (((with_reducible apply treePut (n := nd)); (focus ((exact hm3.ext (by (repeat (first | assumption | exact Vc.Ext.refl _ | ((with_reducible apply Vc.Ext.trans); (case k => assumption)) | ((with_reducible apply Vc.Ext.but); (case k => assumption); (case hb => omega)))))))); (focus ((exact ⟨_, a1, c1, rfl, by assumption, k2.ext (by (repeat (first | assumption | exact Vc.Ext.refl _ | ((with_reducible apply Vc.Ext.trans); (case k => assumption)) | ((with_reducible apply Vc.Ext.but); (case k => assumption); (case hb => omega)))))⟩))); (focus (rfl)); (focus (rfl)); (focus ((intro H5 z5 m5 x5; (conv => whnf))))); (conv => whnf)) | (refine Vc.stp ?_; intros; (conv => whnf)) | (refine Vc.spl ?_ ?_ <;> (intro _; (conv => whnf))))))
    rename_i He ze be xe Hf zf bf xf
    refine ⟨i + 1, ⟨rfl, trivial⟩, ⟨by omega, by rw [etk, puts_snoc]; exact m5, (hx3.ext (show Ext H3 Hf by (repeat (first | assumption | exact Vc.Ext.refl _ | ((with_reducible apply Vc.Ext.trans); (case k => assumption)) | ((with_reducible apply Vc.Ext.but); (case k => assumption); (case hb => omega)))))).trans x5 fun _ _ e => e⟩, by omega⟩
  · obtain rfl : i = n := by omega
    rw [List.take_of_length_le (by omega)] at hm3
    ((conv => whnf); repeat (any_goals (first | (refine Vc.stp ?_; intros; (conv => whnf)) | (refine Vc.spl ?_ ?_ <;> (intro _; (conv => whnf))))))
    rename_i He ze be xe
    have be' : Blk He b #[.map (some mb), .int .i64 ((sizeT A : Int) + (by0 : Int))] 100 := be
    rw [show (sizeT A : Int) + (by0 : Int) = (sizeT (putsF (makeF A D) M) : Nat) by omega] at be'
    exact ⟨rfl, ⟨hm3.keep xe hmb (fun x e _ => by subst e; exact oth_tree htb3), be'⟩, ((x1.only.trans hx2 fun _ _ e => .inr e).trans hx3 fun _ _ e => .inr e).trans xe fun _ _ e => .inl e⟩
theorem MoveV.ext {H H' : Heap} {mv : Value} {A : Tr} {p q : Txt} {L : List Bs} {fa ta la : Option Addr} {fc tc lc : Nat} (h : MoveV H mv A p q L fa ta la fc tc lc) (k : Ext H H') : MoveV H' mv A p q L fa ta la fc tc lc := ⟨h.val, h.fr.ext k, h.to.ext k, h.lack.ext k, h.nodup, h.mem, h.len⟩
set_option maxHeartbeats 4000000 in
theorem rename_any {b mb : Nat} {A : Tr} {H : Heap} (h : TreeO H b mb A) (hA : Okay A) (s t : Bs) : CallH Tryz.prog 43 [.pointer (some ⟨b, 0, none⟩), .string (mkS s), .string (mkS t)] H fun v H' => Did H H' b mb v (Tre.twoF A s t false) := by
  have hpl := plan_any h hA s t
  have hcs := clean_code s
  have hct := clean_code t
  have hmb := h.map.ne h.blk
  have hbl0 := h.blk.lt
  have hml0 := h.map.lt
  have htw : Tre.twoF A s t false = if planC A s t = 0 then twoP A (cleanF s).1 (cleanF t).1 false else (A, planC A s t) := by
    unfold Tre.twoF planC
    by_cases h0 : (cleanF s).2 = 0
    · rw [if_pos h0, if_pos h0]
      by_cases h1 : (cleanF t).2 = 0
      · rw [if_pos h1, if_pos h1]
        by_cases h2 : planF A (cleanF s).1 (cleanF t).1 = 0
        · rw [if_pos h2]
        · rw [if_neg h2, two_plan, if_neg h2]
      · rw [if_neg h1, if_neg h1, if_neg h1]
    · rw [if_neg h0, if_neg h0, if_neg h0]
  rw [htw]
  by_cases hc : ¬ planC A s t = 0
  · rw [if_neg hc]
    have hc' : ¬ (planC A s t : Int) = 0 := by omega
    refine Vc.CallH.body Tryz.func43 Tryz.call43 rfl (by decide +kernel) rfl ?_
    ((conv => whnf); repeat (any_goals (first | ((refine hpl.mono ?_; rintro _ H1 ⟨⟨mv, rfl, hno, hyes⟩, hx1⟩; have hz1 := hx1.size; obtain rfl := hno hc); (conv => whnf)) | (refine Vc.stp ?_; intros; (conv => whnf)) | (refine Vc.spl ?_ ?_ <;> (intro _; (conv => whnf))))))
    exact Did.none h (by (repeat (first | assumption | exact Vc.Ext.refl _ | ((with_reducible apply Vc.Ext.trans); (case k => assumption)) | ((with_reducible apply Vc.Ext.but); (case k => assumption); (case hb => omega))))) _
  have hc : planC A s t = 0 := by omega
  have hcs0 : (cleanF s).2 = 0 := by
    unfold planC at hc
    split at hc
    · rename_i h; exact h
    · exact hc
  have hct0 : (cleanF t).2 = 0 := by
    unfold planC at hc
    rw [if_pos hcs0] at hc
    split at hc
    · rename_i h; exact h
    · exact hc
  have hpf : planF A (cleanF s).1 (cleanF t).1 = 0 := by
    unfold planC at hc
    rw [if_pos hcs0, if_pos hct0] at hc; exact hc
  have hp := clean_of hcs0
  have hq := clean_of hct0
  obtain ⟨p, hpe⟩ : ∃ p, (cleanF s).1 = p := ⟨_, rfl⟩
  obtain ⟨q, hqe⟩ : ∃ q, (cleanF t).1 = q := ⟨_, rfl⟩
  rw [hpe] at hp hpl hpf ⊢
  rw [hqe] at hq hpl hpf ⊢
  rw [hc] at hpl ⊢
  rw [if_pos rfl, two_plan, if_pos hpf]
  have y := plan_yes hpf
  have hAc := hA.count
  have hAs := hA.size
  have hlk : (lackF A q).length ≤ 12 := by
    have h1 : (lackF A q).length ≤ (pars q).length := List.length_filter_le _ _
    have h2 := hq.parts.deep
    rw [pars_len] at h1; omega
  have hroom := fun H' (k : Ext H H') => room_any (h.ext k) hA.sorted (by omega) (by omega) (lackF A q).length 0 (by omega) (by omega)
  by_cases hrm : (lackF A q).length + A.length ≤ 500
  · rw [decide_eq_true ⟨hrm, by omega⟩] at hroom
    rw [if_neg (by simp; omega)]
    have hD : makeF A (lackF A q).reverse = makeF A (lackF A q) := makeF_rev hA.sorted _
    have hgo := goes hA hp hq y.pn y.qn
    have hap := apart hA hp hq y.pn y.qn y.pin y.qout y.out
    have hts := two_size hA hp hq y
    have hms : sizeT (movedF A p q) ≤ 1048576 := by rw [moved_size]; exact Nat.le_trans (filter_size _ _) hAs
    have hcp := fun (H1 : Heap) (mv : Value) (L : List Bs) (fa ta la : Option Addr) (fc tc lc : Nat) (hv : MoveV H1 mv A p q L fa ta la fc tc lc) (k : Ext H H1) => by
      have hmp := moves_perm (q := q) hA.sorted.nodup hv.nodup hv.mem
      have hmn : ((movesL A p q L).map (·.1)).Nodup := (hmp.map _).nodup_iff.2 hgo.nodup
      have hpp := puts_perm (makeF_sorted (lackF A q) hA.sorted) hmp hmn
      have hkw : ∀ k ∈ L, withinF k p = true := fun k hk => ((hv.mem k).1 hk).2
      have := copy0_any (h.ext k) p q L (lackF A q).reverse fa ta la fc tc lc L.length (lackF A q).length (sizeT (movedF A p q)) hv.fr hv.to hv.lack rfl (by simp) (by have := hv.len; omega) (by omega)
        (fun k hk e => mget_none.1 e ((hv.mem k).1 hk).1) (fun k hk hd => by have := hap.lack k (by simpa using hd); rw [hkw k hk] at this; cases this)
        (fun k hk hd => by
          obtain ⟨x, hx, rfl⟩ := List.mem_map.1 hd
          have := hap.moved x (hmp.subset hx); rw [hkw _ hk] at this; cases this)
        (by rw [hD, hpp]; exact hts) (by omega) (by omega)
      rw [hD, hpp] at this
      exact this
    have hdr := fun (H2 : Heap) (L : List Bs) (fa : Option Addr) (fc : Nat) (ht : TreeO H2 b mb _) (hfr : Row H2 fa (strs L)) (hl : L.length ≤ A.length) (hnd : L.Nodup) (hm : ∀ k, k ∈ L ↔ k ∈ A.map (·.1) ∧ withinF k p = true) => drop_any ht (putsF_sorted (movedF A p q) (makeF_sorted (lackF A q) hA.sorted)) (by omega) L fa L.length fc hfr rfl (by omega) hnd (fun k hk => by
      rw [mget_putsF k _ _ hgo.nodup]
      cases mget (movedF A p q) k with
      | some n => simp
      | none =>
        dsimp only
        rw [mget_makeF]
        split
        · simp
        · exact fun e => mget_none.1 e ((hm k).1 hk).1)
    have hdm : ∀ H' (k : Ext H H') x, (x = b ∨ x = mb) → x < H'.size → Dumb H' x := fun H' k x e _ => by
      rcases e with rfl | rfl
      · exact (h.ext k).oth.dumb
      · exact (h.ext k).map.oth.dumb
    refine Vc.CallH.body Tryz.func43 Tryz.call43 rfl (by decide +kernel) rfl ?_
    ((conv => whnf); repeat (any_goals (first | ((refine hpl.mono ?_; rintro _ H1 ⟨⟨mv, rfl, hno, hyes⟩, hx1⟩; have hz1 := hx1.size; obtain ⟨L, fa, ta, la, fc, tc, lc, hv⟩ := hyes rfl; obtain rfl := hv.val); (conv => whnf)) | ((refine (hroom _ (by (repeat (first | assumption | exact Vc.Ext.refl _ | ((with_reducible apply Vc.Ext.trans); (case k => assumption)) | ((with_reducible apply Vc.Ext.but); (case k => assumption); (case hb => omega)))))).mono ?_; rintro _ _ ⟨rfl, rfl⟩); (conv => whnf)) | ((rename_i Ha za ba xa Hb zb bb xb; refine (hcp Hb _ L fa ta la fc tc lc (hv.ext (by (repeat (first | assumption | exact Vc.Ext.refl _ | ((with_reducible apply Vc.Ext.trans); (case k => assumption)) | ((with_reducible apply Vc.Ext.but); (case k => assumption); (case hb => omega)))))) (by (repeat (first | assumption | exact Vc.Ext.refl _ | ((with_reducible apply Vc.Ext.trans); (case k => assumption)) | ((with_reducible apply Vc.Ext.but); (case k => assumption); (case hb => omega)))))).mono ?_; rintro _ H5 ⟨rfl, ht5, hx5⟩; have hz5 := hx5.size; have hbm := bb.keep hx5 (fun e => by omega); have hx1b := (show Ext H1 Hb by (repeat (first | assumption | exact Vc.Ext.refl _ | ((with_reducible apply Vc.Ext.trans); (case k => assumption)) | ((with_reducible apply Vc.Ext.but); (case k => assumption); (case hb => omega))))); have hxb := hx1.trans hx1b; have hfm := (hv.fr.ext hx1b).texts hx5 (hdm Hb hxb)); (conv => whnf)) | ((refine (hdr _ L fa fc ht5 hfm hv.len hv.nodup hv.mem).mono ?_; rintro _ H6 ⟨rfl, ht6, hx6⟩; have hz6 := hx6.size); (conv => whnf)) | (refine Vc.stp ?_; intros; (conv => whnf)) | (refine Vc.spl ?_ ?_ <;> (intro _; (conv => whnf))))))
    rw [rename_drop hA hp hq y hv.mem] at ht6
    exact ⟨rfl, ht6, (hxb.only.trans hx5 fun _ _ e => e).trans hx6 fun _ _ e => e⟩
  · rw [decide_eq_false (fun e => hrm e.1)] at hroom
    rw [if_pos (by simp; omega)]
    refine Vc.CallH.body Tryz.func43 Tryz.call43 rfl (by decide +kernel) rfl ?_
    ((conv => whnf); repeat (any_goals (first | ((refine hpl.mono ?_; rintro _ H1 ⟨⟨mv, rfl, hno, hyes⟩, hx1⟩; have hz1 := hx1.size; obtain ⟨L, fa, ta, la, fc, tc, lc, hv⟩ := hyes rfl; obtain rfl := hv.val); (conv => whnf)) | ((refine (hroom _ (by (repeat (first | assumption | exact Vc.Ext.refl _ | ((with_reducible apply Vc.Ext.trans); (case k => assumption)) | ((with_reducible apply Vc.Ext.but); (case k => assumption); (case hb => omega)))))).mono ?_; rintro _ _ ⟨rfl, rfl⟩); (conv => whnf)) | (refine Vc.stp ?_; intros; (conv => whnf)) | (refine Vc.spl ?_ ?_ <;> (intro _; (conv => whnf))))))
    exact Did.none h (by (repeat (first | assumption | exact Vc.Ext.refl _ | ((with_reducible apply Vc.Ext.trans); (case k => assumption)) | ((with_reducible apply Vc.Ext.but); (case k => assumption); (case hb => omega))))) _
set_option maxHeartbeats 4000000 in
theorem copy_any {b mb : Nat} {A : Tr} {H : Heap} (h : TreeO H b mb A) (hA : Okay A) (s t : Bs) : CallH Tryz.prog 45 [.pointer (some ⟨b, 0, none⟩), .string (mkS s), .string (mkS t)] H fun v H' => Did H H' b mb v (Tre.twoF A s t true) := by
  have hpl := plan_any h hA s t
  have hcs := clean_code s
  have hct := clean_code t
  have hmb := h.map.ne h.blk
  have hbl0 := h.blk.lt
  have hml0 := h.map.lt
  have htw : Tre.twoF A s t true = if planC A s t = 0 then twoP A (cleanF s).1 (cleanF t).1 true else (A, planC A s t) := by
    unfold Tre.twoF planC
    by_cases h0 : (cleanF s).2 = 0
    · rw [if_pos h0, if_pos h0]
      by_cases h1 : (cleanF t).2 = 0
      · rw [if_pos h1, if_pos h1]
        by_cases h2 : planF A (cleanF s).1 (cleanF t).1 = 0
        · rw [if_pos h2]
        · rw [if_neg h2, two_plan, if_neg h2]
      · rw [if_neg h1, if_neg h1, if_neg h1]
    · rw [if_neg h0, if_neg h0, if_neg h0]
  rw [htw]
  by_cases hc : ¬ planC A s t = 0
  · rw [if_neg hc]
    have hc' : ¬ (planC A s t : Int) = 0 := by omega
    refine Vc.CallH.body Tryz.func45 Tryz.call45 rfl (by decide +kernel) rfl ?_
    ((conv => whnf); repeat (any_goals (first | ((refine hpl.mono ?_; rintro _ H1 ⟨⟨mv, rfl, hno, hyes⟩, hx1⟩; have hz1 := hx1.size; obtain rfl := hno hc); (conv => whnf)) | (refine Vc.stp ?_; intros; (conv => whnf)) | (refine Vc.spl ?_ ?_ <;> (intro _; (conv => whnf))))))
    exact Did.none h (by (repeat (first | assumption | exact Vc.Ext.refl _ | ((with_reducible apply Vc.Ext.trans); (case k => assumption)) | ((with_reducible apply Vc.Ext.but); (case k => assumption); (case hb => omega))))) _
  have hc : planC A s t = 0 := by omega
  have hcs0 : (cleanF s).2 = 0 := by
    unfold planC at hc
    split at hc
    · rename_i h; exact h
    · exact hc
  have hct0 : (cleanF t).2 = 0 := by
    unfold planC at hc
    rw [if_pos hcs0] at hc
    split at hc
    · rename_i h; exact h
    · exact hc
  have hpf : planF A (cleanF s).1 (cleanF t).1 = 0 := by
    unfold planC at hc
    rw [if_pos hcs0, if_pos hct0] at hc; exact hc
  have hp := clean_of hcs0
  have hq := clean_of hct0
  obtain ⟨p, hpe⟩ : ∃ p, (cleanF s).1 = p := ⟨_, rfl⟩
  obtain ⟨q, hqe⟩ : ∃ q, (cleanF t).1 = q := ⟨_, rfl⟩
  rw [hpe] at hp hpl hpf ⊢
  rw [hqe] at hq hpl hpf ⊢
  rw [hc] at hpl ⊢
  rw [if_pos rfl, two_plan, if_pos hpf]
  have y := plan_yes hpf
  have hAc := hA.count
  have hAs := hA.size
  have hlk : (lackF A q).length ≤ 12 := by
    have h1 : (lackF A q).length ≤ (pars q).length := List.length_filter_le _ _
    have h2 := hq.parts.deep
    rw [pars_len] at h1; omega
  have hgo := goes hA hp hq y.pn y.qn
  have hap := apart hA hp hq y.pn y.qn y.pin y.qout y.out
  have hts := two_size hA hp hq y
  have hms : sizeT (movedF A p q) ≤ 1048576 := by rw [moved_size]; exact Nat.le_trans (filter_size _ _) hAs
  have hml : (movedF A p q).length ≤ A.length := by unfold movedF; rw [List.length_map]; exact List.length_filter_le _ _
  have hroom := fun H' (k : Ext H H') => room_any (h.ext k) hA.sorted (by omega) (by omega) ((lackF A q).length + (movedF A p q).length) (sizeT (movedF A p q) : Nat) (by omega) (by omega)
  rw [show (((lackF A q).length + (movedF A p q).length : Nat) : Int) = ((lackF A q).length : Int) + ((movedF A p q).length : Nat) by omega] at hroom
  rw [if_pos rfl, if_pos rfl]
  have hL : ∀ {H1 : Heap} {mv : Value} {L : List Bs} {fa ta la : Option Addr} {fc tc lc : Nat}, MoveV H1 mv A p q L fa ta la fc tc lc → L.length = (movedF A p q).length := fun hv => by
    have := (moves_perm (q := q) hA.sorted.nodup hv.nodup hv.mem).length_eq
    unfold movesL at this; rw [List.length_map] at this; exact this
  by_cases hrm : (lackF A q).length + (movedF A p q).length + A.length ≤ 500 ∧ (sizeT (movedF A p q) : Int) + sizeT A ≤ 1048576
  · rw [decide_eq_true hrm] at hroom
    rw [if_neg (by omega)]
    have hD : makeF A (lackF A q).reverse = makeF A (lackF A q) := makeF_rev hA.sorted _
    have hcp := fun (H1 : Heap) (mv : Value) (L : List Bs) (fa ta la : Option Addr) (fc tc lc : Nat) (hv : MoveV H1 mv A p q L fa ta la fc tc lc) (k : Ext H H1) => by
      have hmp := moves_perm (q := q) hA.sorted.nodup hv.nodup hv.mem
      have hmn : ((movesL A p q L).map (·.1)).Nodup := (hmp.map _).nodup_iff.2 hgo.nodup
      have hpp := puts_perm (makeF_sorted (lackF A q) hA.sorted) hmp hmn
      have hkw : ∀ k ∈ L, withinF k p = true := fun k hk => ((hv.mem k).1 hk).2
      have := copy0_any (h.ext k) p q L (lackF A q).reverse fa ta la fc tc lc L.length (lackF A q).length (sizeT (movedF A p q)) hv.fr hv.to hv.lack rfl (by simp) (by have := hv.len; omega) (by omega)
        (fun k hk e => mget_none.1 e ((hv.mem k).1 hk).1) (fun k hk hd => by have := hap.lack k (by simpa using hd); rw [hkw k hk] at this; cases this)
        (fun k hk hd => by
          obtain ⟨x, hx, rfl⟩ := List.mem_map.1 hd
          have := hap.moved x (hmp.subset hx); rw [hkw _ hk] at this; cases this)
        (by rw [hD, hpp]; exact hts) (by omega) (by omega)
      rw [hD, hpp] at this
      exact this
    have hdm : ∀ H' (k : Ext H H') x, (x = b ∨ x = mb) → x < H'.size → Dumb H' x := fun H' k x e _ => by
      rcases e with rfl | rfl
      · exact (h.ext k).oth.dumb
      · exact (h.ext k).map.oth.dumb
    refine Vc.CallH.body Tryz.func45 Tryz.call45 rfl (by decide +kernel) rfl ?_
    ((conv => whnf); repeat (any_goals (first | ((refine hpl.mono ?_; rintro _ H1 ⟨⟨mv, rfl, hno, hyes⟩, hx1⟩; have hz1 := hx1.size; obtain ⟨L, fa, ta, la, fc, tc, lc, hv⟩ := hyes rfl; obtain rfl := hv.val; have hLl := hL hv); (conv => whnf)) | ((rw [hLl]; refine (hroom _ (by (repeat (first | assumption | exact Vc.Ext.refl _ | ((with_reducible apply Vc.Ext.trans); (case k => assumption)) | ((with_reducible apply Vc.Ext.but); (case k => assumption); (case hb => omega)))))).mono ?_; rintro _ _ ⟨rfl, rfl⟩); (conv => whnf)) | ((rename_i Ha za ba xa Hb zb bb xb; refine (hcp Hb _ L fa ta la fc tc lc (hv.ext (by (repeat (first | assumption | exact Vc.Ext.refl _ | ((with_reducible apply Vc.Ext.trans); (case k => assumption)) | ((with_reducible apply Vc.Ext.but); (case k => assumption); (case hb => omega)))))) (by (repeat (first | assumption | exact Vc.Ext.refl _ | ((with_reducible apply Vc.Ext.trans); (case k => assumption)) | ((with_reducible apply Vc.Ext.but); (case k => assumption); (case hb => omega)))))).mono ?_; rintro _ H5 ⟨rfl, ht5, hx5⟩; have hz5 := hx5.size; have hxb := (show Ext H Hb by (repeat (first | assumption | exact Vc.Ext.refl _ | ((with_reducible apply Vc.Ext.trans); (case k => assumption)) | ((with_reducible apply Vc.Ext.but); (case k => assumption); (case hb => omega)))))); (conv => whnf)) | (refine Vc.stp ?_; intros; (conv => whnf)) | (refine Vc.spl ?_ ?_ <;> (intro _; (conv => whnf))))))
    exact ⟨rfl, ht5, hxb.only.trans hx5 fun _ _ e => e⟩
  · rw [decide_eq_false hrm] at hroom
    rw [if_pos (by omega)]
    refine Vc.CallH.body Tryz.func45 Tryz.call45 rfl (by decide +kernel) rfl ?_
    ((conv => whnf); repeat (any_goals (first | ((refine hpl.mono ?_; rintro _ H1 ⟨⟨mv, rfl, hno, hyes⟩, hx1⟩; have hz1 := hx1.size; obtain ⟨L, fa, ta, la, fc, tc, lc, hv⟩ := hyes rfl; obtain rfl := hv.val; have hLl := hL hv); (conv => whnf)) | ((rw [hLl]; refine (hroom _ (by (repeat (first | assumption | exact Vc.Ext.refl _ | ((with_reducible apply Vc.Ext.trans); (case k => assumption)) | ((with_reducible apply Vc.Ext.but); (case k => assumption); (case hb => omega)))))).mono ?_; rintro _ _ ⟨rfl, rfl⟩); (conv => whnf)) | (refine Vc.stp ?_; intros; (conv => whnf)) | (refine Vc.spl ?_ ?_ <;> (intro _; (conv => whnf))))))
    exact Did.none h (by (repeat (first | assumption | exact Vc.Ext.refl _ | ((with_reducible apply Vc.Ext.trans); (case k => assumption)) | ((with_reducible apply Vc.Ext.but); (case k => assumption); (case hb => omega))))) _
end Go.Proofs.YtihopeogaeinhaaGreatDoor
