import Derived.Test.YtihopeogaeinhaaGreatDoorKe
import Derived.Test.YtihopeogaeinhaaGreatDoorKf
import Derived.Test.YtihopeogaeinhaaGreatDoorKg
import Derived.Test.YtihopeogaeinhaaGreatDoorKl
set_option linter.unusedVariables false
set_option linter.unusedSimpArgs false
set_option maxRecDepth 100000
/- The tree of a tree's files is that tree. -/
namespace Go.Tre
open Go.Pth Go.Scr
open Go.Vc (mget mput mdel mget_put mget_mem mget_of_mem mget_none)
theorem putF_last : ∀ {A : Tr} {p : Txt} {n : Node}, Sorted (A ++ [(p, n)]) → putF A p n = A ++ [(p, n)]
  | [], p, n, _ => rfl
  | x :: l, p, n, h => by
    have h1 := List.pairwise_cons.1 h
    have hx := h1.1 (p, n) (by simp)
    simp only [putF]
    rw [if_pos hx, putF_last h1.2]; rfl
theorem pre_lt : ∀ {a b : Txt}, a <+: b → a ≠ b → Op.bytesLess a b = true := by
  intro a b h hne
  obtain ⟨c, rfl⟩ := h
  induction a with
  | nil => cases c with
    | nil => exact absurd rfl hne
    | cons x c => rfl
  | cons x a ih =>
    have := ih (fun e => hne (by simpa using e))
    show Op.bytesLess (x :: a) (x :: (a ++ c)) = true
    unfold Op.bytesLess
    simp [this]
theorem glue_pre {k l : List Txt} (h : k <+: l) : glue k <+: glue l := by
  obtain ⟨r, rfl⟩ := h
  have : ∀ (k : List Txt), glue k <+: glue (k ++ r) := by
    intro k
    induction k with
    | nil => exact ⟨glue r, rfl⟩
    | cons x k ih =>
      cases k with
      | nil =>
        cases r with
        | nil => exact ⟨[], by simp⟩
        | cons y r => exact ⟨47 :: glue (y :: r), rfl⟩
      | cons y k =>
        obtain ⟨t, ht⟩ := ih
        refine ⟨t, ?_⟩
        show (x ++ 47 :: glue (y :: k)) ++ t = x ++ 47 :: glue (y :: k ++ r)
        rw [← ht]; simp
  exact this k
theorem par_lt {p d : Txt} (hp : CleanP p) (hd : d ∈ pars p) : Op.bytesLess d p = true := by
  obtain ⟨l, rfl, hl⟩ := hp
  obtain ⟨k, hk, hkn, hkl, rfl⟩ := (mem_pars hl.good).1 hd
  refine pre_lt (glue_pre hk) fun e => ?_
  have := glue_lt hl.good hk hkn hkl
  rw [e] at this; omega
theorem of_step {A : Tr} (hA : Okay A) (i : Nat) {x : Txt × Node} (hx : A[i]? = some x) : stepF (A.take i) x.1 x = (A.take (i + 1), 0) ∧ cleanF x.1 = (x.1, 0) ∧ dirF (A.take i) x.1 = false := by
  have hi := (List.getElem?_eq_some_iff.1 hx).1
  have hxm : x ∈ A := List.mem_of_getElem? hx
  have hg := mget_of_mem hA.sorted.nodup hxm
  obtain ⟨hcp, hne⟩ := hA.clean x.1 x.2 hg
  have hal := hA.above x.1 x.2 hg
  have hfi := hA.file x.1 x.2 hg
  have e1 : A.take (i + 1) = A.take i ++ [x] := by rw [List.take_add_one, hx]; rfl
  have hs : Sorted (A.take i ++ [x]) := by rw [← e1]; exact List.Pairwise.sublist (List.take_sublist _ _) hA.sorted
  have hs0 : Sorted (A.take i) := List.Pairwise.sublist (List.take_sublist _ _) hA.sorted
  have hno : mget (A.take i) x.1 = none := by
    rw [mget_none]
    intro h
    obtain ⟨y, hy, e⟩ := List.mem_map.1 h
    have := (List.pairwise_append.1 hs).2.2 y hy x (by simp)
    rw [e, lt_irrefl] at this; cases this
  have hpar : ∀ d ∈ pars x.1, ∃ t, mget (A.take i) d = some (true, t) := by
    intro d hd
    obtain ⟨t, ht⟩ := hal d hd
    refine ⟨t, mget_of_mem hs0.nodup ?_⟩
    have hm := mget_mem ht
    obtain ⟨j, hj⟩ := List.mem_iff_getElem?.1 hm
    have hji : j < i := by
      rcases Nat.lt_trichotomy j i with h | h | h
      · exact h
      · subst h
        rw [hj] at hx
        have := par_lt hcp hd
        rw [← congrArg (fun o => o.1) (Option.some.inj hx)] at this
        rw [lt_irrefl] at this; cases this
      · have hlt := par_lt hcp hd
        have := List.pairwise_iff_getElem.1 hA.sorted i j hi (List.getElem?_eq_some_iff.1 hj).1 h
        rw [(List.getElem?_eq_some_iff.1 hx).2, (List.getElem?_eq_some_iff.1 hj).2] at this
        rw [lt_asymm this] at hlt; cases hlt
    exact List.mem_of_getElem? (by rw [List.getElem?_take, if_pos hji]; exact hj)
  have hdir : dirF (A.take i) x.1 = false := by
    unfold dirF; rw [hno]; simpa using hne
  have hfile : fileF (A.take i) x.1 = false := by
    unfold fileF
    rw [List.any_eq_false]
    intro d hd
    obtain ⟨t, ht⟩ := hpar d hd
    rw [ht]; simp
  have hlack : lackF (A.take i) x.1 = [] := by
    unfold lackF
    rw [List.filter_eq_nil_iff]
    intro d hd
    obtain ⟨t, ht⟩ := hpar d hd
    rw [ht]; simp
  have hcnt := hA.count
  have hl : (A.take i).length = i := by rw [List.length_take]; omega
  have hsz : sizeT (A.take i) + x.2.2.length ≤ sizeT A := by
    have : sizeT (A.take (i + 1)) ≤ sizeT A := by
      conv => rhs; rw [← List.take_append_drop (i + 1) A]
      simp only [sizeT, List.map_append, List.sum_append_nat]; exact Nat.le_add_right _ _
    rw [e1] at this
    simp only [sizeT, List.map_append, List.sum_append_nat, List.map_cons, List.map_nil, List.sum_cons, List.sum_nil] at this ⊢
    omega
  have hAs := hA.size
  refine ⟨?_, hcp.id, hdir⟩
  unfold stepF
  by_cases hd : x.2.1 = true
  · rw [if_pos hd]
    unfold mkdirP
    rw [if_neg (by rw [hdir]; simp), if_neg (by rw [hno, hfile]; simp), hlack, if_neg (by simp; omega), e1]
    show (putF (A.take i) x.1 (true, []), 0) = _
    have : x.2 = (true, []) := Prod.ext hd (hfi.2 hd)
    rw [← this]
    congr 1
    exact putF_last hs
  · have hd : x.2.1 = false := by simpa using hd
    rw [hd, if_neg (by simp)]
    unfold writeP
    have ho : oldF (A.take i) x.1 = 0 := by unfold oldF; rw [hno]
    have hm : moreF (A.take i) x.1 = 1 := by unfold moreF; rw [hno, hlack]; simp
    rw [hdir, hfile, hlack, ho, hm, if_neg (by simp), if_neg (by omega), e1]
    show (putF (A.take i) x.1 (false, x.2.2), 0) = _
    have : x.2 = (false, x.2.2) := Prod.ext hd rfl
    rw [← this]
    congr 1
    exact putF_last hs
theorem of_id {A : Tr} (hA : Okay A) : ofF A = (some A, 0) := by
  have key : ∀ m i, m + i = A.length → ofGo (A.take i) ((A.take i).map (·.1)) (A.drop i) = (some A, 0) := by
    intro m
    induction m with
    | zero => intro i hi; rw [List.drop_of_length_le (by omega), List.take_of_length_le (by omega)]; rfl
    | succ m ih =>
      intro i hi
      obtain ⟨x, hx⟩ : ∃ x, A[i]? = some x := ⟨_, List.getElem?_eq_getElem (by omega)⟩
      have hd : A.drop i = x :: A.drop (i + 1) := by
        rw [List.drop_eq_getElem_cons (by omega), (List.getElem?_eq_some_iff.1 hx).2]
      obtain ⟨h1, h2, h3⟩ := of_step hA i hx
      have e1 : A.take (i + 1) = A.take i ++ [x] := by rw [List.take_add_one, hx]; rfl
      have hns : x.1 ∉ (A.take i).map (·.1) := by
        intro h
        have hs : Sorted (A.take i ++ [x]) := by rw [← e1]; exact List.Pairwise.sublist (List.take_sublist _ _) hA.sorted
        obtain ⟨y, hy, e⟩ := List.mem_map.1 h
        have := (List.pairwise_append.1 hs).2.2 y hy x (by simp)
        rw [e, lt_irrefl] at this; cases this
      rw [hd, ofGo, h2, if_neg (by simp), if_neg (by rw [not_or]; exact ⟨hns, fun e => by rw [h3] at e; cases e.2⟩)]
      show (if (stepF (A.take i) x.1 x).2 ≠ 0 then _ else _) = _
      rw [h1, if_neg (by simp)]
      have := ih (i + 1) (by omega)
      rw [e1, List.map_append] at this
      rw [e1]; exact this
  have := key A.length 0 (by omega)
  show ofGo [] [] A = _
  simpa using this
end Go.Tre
/- TreeOf: the walk. -/
namespace Go.Proofs.YtihopeogaeinhaaGreatDoor
open Go Go.Vc Go.Scr Go.Pth Go.Tre
def lightF (L : Tr) : Bool := decide (L.length ≤ 20) && L.all fun f => decide (f.1.length ≤ 300) && decide (f.2.2.length ≤ 500)
theorem light_iff (L : Tr) : lightF L = true ↔ L.length ≤ 20 ∧ ∀ f ∈ L, f.1.length ≤ 300 ∧ f.2.2.length ≤ 500 := by
  unfold lightF
  simp [List.all_eq_true]
theorem hlight_any (L : Tr) (a : Option Addr) (n cap : Nat) (H : Heap) (hr : RowF H a L) (hn : L.length = n) : CallH Tryz.prog 17 [.slice a n cap] H fun v H' => v = .bool (lightF L) ∧ H = H' := by
  refine Vc.CallH.body Tryz.func17 Tryz.call17 rfl (by decide +kernel) rfl ?_
  by_cases h20 : n ≤ 20
  · ((conv => whnf); repeat (any_goals (first | (refine Vc.stp ?_; intros; (conv => whnf)) | (refine Vc.spl ?_ ?_ <;> (intro _; (conv => whnf))))))
    refine LoopH.intro (fun (i : Nat) => [(3, .int .i64 i)]) (fun i H' => H = H' ∧ i ≤ n ∧ ∀ f ∈ L.take i, f.1.length ≤ 300 ∧ f.2.2.length ≤ 500) (fun i => n - i) 0 ⟨rfl, trivial⟩ ⟨rfl, Nat.zero_le _, by (show ∀ f ∈ L.take 0, _; rw [List.take_zero]; intro f hf; cases hf)⟩ ?_
    rintro i _ ⟨rfl, hi, hall⟩
    by_cases hlt : i < n
    · obtain ⟨f, hf⟩ : ∃ f, L[i]? = some f := ⟨_, List.getElem?_eq_getElem (by omega)⟩
      have hm := List.mem_of_getElem? hf
      have hsz : (mkS f.1).size = f.1.length := rfl
      by_cases h1 : f.1.length ≤ 300
      · by_cases h2 : f.2.2.length ≤ 500
        · ((conv => whnf); repeat (any_goals (first | ((refine IdxA.file hr hn i f (by omega) hf ?_; intro bi oi ai ci hri hci; have hc0 := hci 0 _ rfl; have hc1 := hci 1 _ rfl; have hc2 := hci 2 _ rfl); (conv => whnf)) | (refine Vc.stp ?_; intros; (conv => whnf)) | (refine Vc.spl ?_ ?_ <;> (intro _; (conv => whnf))))))
          refine ⟨i + 1, ⟨rfl, trivial⟩, ⟨rfl, by omega, ?_⟩, by omega⟩
          rw [List.take_add_one, hf]
          intro g hg
          rcases List.mem_append.1 hg with hg | hg
          · exact hall g hg
          · rw [List.mem_singleton.1 hg]; exact ⟨h1, h2⟩
        · have hfa : lightF L = false := by
            rw [Bool.eq_false_iff]; intro h; exact h2 ((light_iff L).1 h |>.2 f hm).2
          rw [hfa]
          ((conv => whnf); repeat (any_goals (first | ((refine IdxA.file hr hn i f (by omega) hf ?_; intro bi oi ai ci hri hci; have hc0 := hci 0 _ rfl; have hc1 := hci 1 _ rfl; have hc2 := hci 2 _ rfl); (conv => whnf)) | (refine Vc.stp ?_; intros; (conv => whnf)) | (refine Vc.spl ?_ ?_ <;> (intro _; (conv => whnf))))))
          exact ⟨rfl, rfl⟩
      · have hfa : lightF L = false := by
          rw [Bool.eq_false_iff]; intro h; exact h1 ((light_iff L).1 h |>.2 f hm).1
        rw [hfa]
        ((conv => whnf); repeat (any_goals (first | ((refine IdxA.file hr hn i f (by omega) hf ?_; intro bi oi ai ci hri hci; have hc0 := hci 0 _ rfl; have hc1 := hci 1 _ rfl; have hc2 := hci 2 _ rfl); (conv => whnf)) | (refine Vc.stp ?_; intros; (conv => whnf)) | (refine Vc.spl ?_ ?_ <;> (intro _; (conv => whnf))))))
        exact ⟨rfl, rfl⟩
    · obtain rfl : i = n := by omega
      have ht : lightF L = true := (light_iff L).2 ⟨by omega, fun f hf => hall f (by rw [List.take_of_length_le (by omega)]; exact hf)⟩
      rw [ht]
      ((conv => whnf); repeat (any_goals (first | (refine Vc.stp ?_; intros; (conv => whnf)) | (refine Vc.spl ?_ ?_ <;> (intro _; (conv => whnf))))))
      exact ⟨rfl, rfl⟩
  · have hfa : lightF L = false := by
      rw [Bool.eq_false_iff]; intro h; have := ((light_iff L).1 h).1; omega
    rw [hfa]
    ((conv => whnf); repeat (any_goals (first | (refine Vc.stp ?_; intros; (conv => whnf)) | (refine Vc.spl ?_ ?_ <;> (intro _; (conv => whnf))))))
    exact ⟨rfl, rfl⟩
theorem of_code {L : Tr} {r : Option Tr × Nat} (h : ofF L = r) : (r.1 = none ↔ r.2 ≠ 0) := by
  have key : ∀ (L A : Tr) (seen : List Txt), ((ofGo A seen L).1 = none ↔ (ofGo A seen L).2 ≠ 0) := by
    intro L
    induction L with
    | nil => intro A seen; rw [ofGo]; simp
    | cons f fs ih =>
      intro A seen
      rw [ofGo]
      split
      · rename_i h; simpa using h
      · split
        · simp
        · split
          · rename_i h; simpa using h
          · exact ih _ _
  rw [← h]; exact key L [] []
theorem of_walk (L : Tr) (a : Option Addr) (n cap : Nat) (H : Heap) (hr : RowF H a L) (hn : L.length = n) :
    CallH Tryz.prog 14 [.slice a n cap] H fun v H' => v = .bool true ∧ Ext H H' := by
  have hlc := fun H1 (k : Ext H H1) => hlight_any L a n cap H1 (hr.ext k) hn
  refine Vc.CallH.body Tryz.func14 Tryz.call14 rfl (by decide +kernel) rfl ?_
  by_cases hl : lightF L = true
  · rw [hl] at hlc
    obtain ⟨h20, hall⟩ := (light_iff L).1 hl
    have ho := fun H1 (k : Ext H H1) => of_any L a n cap H1 (hr.ext k) hn (by omega) (fun f hf => by have := (hall f hf).2; omega)
    have hro := fun H1 (k : Ext H H1) => rof_any L a n cap H1 (hr.ext k) hn (by omega) (fun f hf => by have := hall f hf; omega)
    have hcd := of_code (L := L) rfl
    unfold OfV at ho
    unfold OfR at hro
    cases hof : (ofF L).1 with
    | none =>
      rw [hof] at ho hro hcd
      have hc : ¬ ((ofF L).2 : Int) = 0 := by have := hcd.1 rfl; omega
      dsimp only at ho hro
      generalize (ofF L).2 = c at *
      have hcb : (true == ((c : Int) != 0)) = true := by simpa using hc
      ((conv => whnf); repeat (any_goals (first | ((refine (known_any _).mono ?_; rintro _ H1 ⟨rfl, hx1⟩; have hz1 := hx1.size); (conv => whnf)) | ((refine (hlc _ (by (repeat (first | assumption | exact Vc.Ext.refl _ | ((with_reducible apply Vc.Ext.trans); (case k => assumption)) | ((with_reducible apply Vc.Ext.but); (case k => assumption); (case hb => omega)))))).mono ?_; rintro _ _ ⟨rfl, rfl⟩); (conv => whnf)) | ((refine (ho _ (by (repeat (first | assumption | exact Vc.Ext.refl _ | ((with_reducible apply Vc.Ext.trans); (case k => assumption)) | ((with_reducible apply Vc.Ext.but); (case k => assumption); (case hb => omega)))))).mono ?_; rintro _ H2 ⟨rfl, hx2⟩; have hz2 := hx2.size); (conv => whnf)) | ((refine (hro _ (by (repeat (first | assumption | exact Vc.Ext.refl _ | ((with_reducible apply Vc.Ext.trans); (case k => assumption)) | ((with_reducible apply Vc.Ext.but); (case k => assumption); (case hb => omega)))))).mono ?_; rintro _ H3 ⟨rfl, hx3⟩; have hz3 := hx3.size); (conv => whnf)) | (((with_reducible refine Vc.DrawH.held [0, 2, 3, 4, 5, 1, 6, 7, 8, 9, 10, 11, 12, 13, 14, 15, 16, 18, 19, 20, 21, 17, 22, 23, 24] [(1, [5]), (17, [21])] mixed (by decide +kernel) ?_)); (conv => whnf)) | (refine Vc.stp ?_; intros; (conv => whnf)) | (refine Vc.spl ?_ ?_ <;> (intro _; (conv => whnf))))))
      exact ⟨rfl, (hx1.trans hx2).trans hx3⟩
    | some A =>
      rw [hof] at ho hro hcd
      have hc : (ofF L).2 = 0 := Classical.byContradiction fun h => by have := hcd.2 h; cases this
      rw [hc] at ho hro
      dsimp only at ho hro
      have hof2 : ∀ A' : Tr, Okay A' → ofF A' = (some A', 0) := fun A' h => of_id h
      ((conv => whnf); repeat (any_goals (first | ((refine (known_any _).mono ?_; rintro _ H1 ⟨rfl, hx1⟩; have hz1 := hx1.size); (conv => whnf)) | ((refine (hlc _ (by (repeat (first | assumption | exact Vc.Ext.refl _ | ((with_reducible apply Vc.Ext.trans); (case k => assumption)) | ((with_reducible apply Vc.Ext.but); (case k => assumption); (case hb => omega)))))).mono ?_; rintro _ _ ⟨rfl, rfl⟩); (conv => whnf)) | ((refine (ho _ hx1).mono ?_; rintro _ H2 ⟨⟨b, mb, rfl, ht2, ok, hb2, hm2⟩, hx2⟩; have hz2 := hx2.size); (conv => whnf)) | ((refine (hro _ (hx1.trans hx2)).mono ?_; rintro _ H3 ⟨⟨rb, rfl, hr3, _, hb3⟩, hx3⟩; have hz3 := hx3.size; have ht3 := ht2.ext hx3; have okc := ok.count; have okf : ∀ k n, mget A k = some n → n.2.length ≤ 1000000000 := (fun k n h => Nat.le_trans (ok.file k n h).1 (by decide))); (conv => whnf)) | (((with_reducible refine Vc.DrawH.held [0, 2, 3, 4, 5, 1, 6, 7, 8, 9, 10, 11, 12, 13, 14, 15, 16, 18, 19, 20, 21, 17, 22, 23, 24] [(1, [5]), (17, [21])] mixed (by decide +kernel) ?_)); (conv => whnf)) | (refine Vc.stp ?_; intros; (conv => whnf)) | (refine Vc.spl ?_ ?_ <;> (intro _; (conv => whnf))))))
      have hx13 : Ext H1 H3 := hx2.trans hx3
      obtain ⟨ra, rsp, hrb3, hrr3⟩ := hr3.out
      have okb : ∀ f ∈ A, f.2.2.length ≤ 1000000000 := fun f hf => okf f.1 f.2 (mget_of_mem ok.sorted.nodup hf)
      have hof3 := hof2 A ok
      clear ho hro hlc
      ((conv => whnf); repeat (any_goals (first | ((refine (files_any ht3 ok.sorted (by omega) okf).mono ?_; rintro _ H4 ⟨⟨a4, c4, rfl, hc4, hr4, _⟩, hx4⟩; have hz4 := hx4.size; have ho2 := of_any A a4 A.length c4 H4 hr4 rfl (by omega) okb; rw [hof3] at ho2); (conv => whnf)) | ((refine ho2.mono ?_; rintro _ H5 ⟨⟨ub, um, rfl, hu5, _, hub5, hum5⟩, hx5⟩; have hz5 := hx5.size; clear ho2; have ht5 := (ht3.ext hx4).ext hx5; have hrb5 := (hrb3.ext hx4).ext hx5; have hrr5 := (hrr3.ext hx4).ext hx5); (conv => whnf)) | ((refine (files_any ht5 ok.sorted (by omega) okf).mono ?_; rintro _ H6 ⟨⟨a6, c6, rfl, hc6, hr6, _⟩, hx6⟩; have hz6 := hx6.size; have hu6 := hu5.ext hx6; have hrb6 := hrb5.ext hx6; have hrr6 := hrr5.ext hx6); (conv => whnf)) | ((refine (files_any hu6 ok.sorted (by omega) okf).mono ?_; rintro _ H7 ⟨⟨a7, c7, rfl, hc7, hr7, _⟩, hx7⟩; have hz7 := hx7.size; have hrr7 := hrr6.ext hx7; have hrb7 := hrb6.ext hx7); (conv => whnf)) | ((refine (hfiles_any A A a7 ra _ _ c7 _ _ hr7 hrr7 rfl rfl (by omega) (by omega)).mono ?_; rintro _ _ ⟨rfl, rfl⟩; rw [decide_eq_true rfl]); (conv => whnf)) | ((refine (hfiles_any A A a6 ra _ _ c6 _ _ hr6 hrr6 rfl rfl (by omega) (by omega)).mono ?_; rintro _ _ ⟨rfl, rfl⟩; rw [decide_eq_true rfl]); (conv => whnf)) | (((with_reducible refine Vc.DrawH.held [0, 2, 3, 4, 5, 1, 6, 7, 8, 9, 10, 11, 12, 13, 14, 15, 16, 18, 19, 20, 21, 17, 22, 23, 24] [(1, [5]), (17, [21])] mixed (by decide +kernel) ?_)); (conv => whnf)) | (refine Vc.stp ?_; intros; (conv => whnf)))))
      exact ⟨rfl, hx1.trans ((((hx13.trans hx4).trans hx5).trans hx6).trans hx7)⟩
  · have hl : lightF L = false := by simpa using hl
    rw [hl] at hlc
    ((conv => whnf); repeat (any_goals (first | ((refine (known_any _).mono ?_; rintro _ H1 ⟨rfl, hx1⟩; have hz1 := hx1.size); (conv => whnf)) | ((refine (hlc _ (by (repeat (first | assumption | exact Vc.Ext.refl _ | ((with_reducible apply Vc.Ext.trans); (case k => assumption)) | ((with_reducible apply Vc.Ext.but); (case k => assumption); (case hb => omega)))))).mono ?_; rintro _ _ ⟨rfl, rfl⟩); (conv => whnf)) | (((with_reducible refine Vc.DrawH.held [0, 2, 3, 4, 5, 1, 6, 7, 8, 9, 10, 11, 12, 13, 14, 15, 16, 18, 19, 20, 21, 17, 22, 23, 24] [(1, [5]), (17, [21])] mixed (by decide +kernel) ?_)); (conv => whnf)) | (refine Vc.stp ?_; intros; (conv => whnf)) | (refine Vc.spl ?_ ?_ <;> (intro _; (conv => whnf))))))
    exact ⟨rfl, hx1⟩
end Go.Proofs.YtihopeogaeinhaaGreatDoor
/- Law 13: ArchivePacks, the walk. -/
namespace Go.Proofs.YtihopeogaeinhaaGreatDoor
open Go Go.Vc Go.Scr Go.Pth Go.Tre Go.Arc Go.Sha
theorem ent_light (f : Fi) (h1 : f.1.length ≤ 300) (h2 : f.2.2.length ≤ 500) : (entB f).length ≤ 820 := by
  unfold entB
  simp only [List.length_append, List.length_singleton, numB_len, List.length_take]
  split
  · simp; omega
  · simp [numB_len]; omega
theorem ents_light : ∀ (L : Tr), (∀ f ∈ L, f.1.length ≤ 300 ∧ f.2.2.length ≤ 500) → (L.flatMap entB).length ≤ 820 * L.length
  | [], _ => by simp
  | f :: L, h => by
    have h1 := ent_light f (h f (by simp)).1 (h f (by simp)).2
    have h2 := ents_light L fun g hg => h g (by simp [hg])
    rw [List.flatMap_cons, List.length_append, List.length_cons]
    omega
theorem pack_light (L : Tr) (h : lightF L = true) : (packF L).length ≤ 17000 := by
  obtain ⟨h20, hall⟩ := (light_iff L).1 h
  have := ents_light L hall
  rw [packF_eq, List.length_append, List.length_append, List.length_singleton]
  show 4 + _ ≤ _
  omega
set_option maxHeartbeats 2000000 in
theorem packs_walk (L : Tr) (a : Option Addr) (n cap : Nat) (H : Heap) (hr : RowF H a L) (hn : L.length = n) :
    CallH Tryz.prog 3 [.slice a n cap] H fun v H' => v = .bool true ∧ Ext H H' := by
  have hlc := fun H1 (k : Ext H H1) => hlight_any L a n cap H1 (hr.ext k) hn
  refine Vc.CallH.body Tryz.func3 Tryz.call3 rfl (by decide +kernel) rfl ?_
  by_cases hl : lightF L = true
  · rw [hl] at hlc
    obtain ⟨h20, hall⟩ := (light_iff L).1 hl
    have sl := sumL_length (packF L)
    have hpl := pack_light L hl
    ((conv => whnf); repeat (any_goals (first | ((refine (known13_any _).mono ?_; rintro _ H1 ⟨rfl, hx1⟩; have hz1 := hx1.size); (conv => whnf)) | ((refine (hlc _ (by (repeat (first | assumption | exact Vc.Ext.refl _ | ((with_reducible apply Vc.Ext.trans); (case k => assumption)) | ((with_reducible apply Vc.Ext.but); (case k => assumption); (case hb => omega)))))).mono ?_; rintro _ _ ⟨rfl, rfl⟩); (conv => whnf)) | ((refine (pack_any L a n cap _ (hr.ext hx1) hn (by omega) (fun f hf => by have := hall f hf; omega)).mono ?_; rintro _ H2 ⟨⟨a2, c2, rfl, ho2⟩, hx2⟩; have hz2 := hx2.size); (conv => whnf)) | ((have := hx8; refine (hfiles_any _ _ a7 a8 _ _ c7 c8 H8 (hf7.ext hx8) hf8 rfl rfl (by omega) (by omega)).mono ?_; rintro _ _ ⟨rfl, rfl⟩; rw [decide_eq_true rfl]); (conv => whnf)) | ((have := hx7; refine (ropenA_any (packF L) a2 _ c2 H7 (ho2.row.ext (by (repeat (first | assumption | exact Vc.Ext.refl _ | ((with_reducible apply Vc.Ext.trans); (case k => assumption)) | ((with_reducible apply Vc.Ext.but); (case k => assumption); (case hb => omega)))))) rfl ho2.cap_le (own_max ho2) (by omega)).mono ?_; rintro _ H8 ⟨⟨a8, c8, rfl, hf8, hl8⟩, hx8⟩; have hz8 := hx8.size); (conv => whnf)) | ((refine (openA_any (packF L) a2 _ c2 _ (ho2.row.ext (by (repeat (first | assumption | exact Vc.Ext.refl _ | ((with_reducible apply Vc.Ext.trans); (case k => assumption)) | ((with_reducible apply Vc.Ext.but); (case k => assumption); (case hb => omega)))))) rfl ho2.cap_le (own_max ho2) (by omega)).mono ?_; rintro _ H7 ⟨⟨a7, c7, rfl, hf7, hl7⟩, hx7⟩; have hz7 := hx7.size); (conv => whnf)) | ((refine (digest_any (packF L) a2 _ c2 _ (ho2.row.ext (by (repeat (first | assumption | exact Vc.Ext.refl _ | ((with_reducible apply Vc.Ext.trans); (case k => assumption)) | ((with_reducible apply Vc.Ext.but); (case k => assumption); (case hb => omega)))))) rfl ho2.cap_le (by omega)).mono ?_; rintro _ H4 ⟨rfl, hx4⟩; have hz4 := hx4.size); (conv => whnf)) | ((rename_i Hk zk bk xk; refine (ref_digest bk (ho2.row.ext (by (repeat (first | assumption | exact Vc.Ext.refl _ | ((with_reducible apply Vc.Ext.trans); (case k => assumption)) | ((with_reducible apply Vc.Ext.but); (case k => assumption); (case hb => omega)))))) rfl ho2.cap_le (by omega)).mono ?_; rintro _ H6 ⟨rfl, hx6⟩; have hz6 := hx6.size); (conv => whnf)) | ((rename_i Hk zk bk xk; refine (ref_digest (bk.ext hx4) (ho2.row.ext (by (repeat (first | assumption | exact Vc.Ext.refl _ | ((with_reducible apply Vc.Ext.trans); (case k => assumption)) | ((with_reducible apply Vc.Ext.but); (case k => assumption); (case hb => omega)))))) rfl ho2.cap_le (by omega)).mono ?_; rintro _ H6 ⟨rfl, hx6⟩; have hz6 := hx6.size); (conv => whnf)) | (((with_reducible apply PureH.neq_bytes); (focus (rfl)); (focus (rfl)); (focus (rfl)); (focus (rfl)); (focus (rfl)); (focus (exact sl)); (focus (exact sl))); (conv => whnf)) | ((refine to_string' (l := packF L) rfl rfl rfl (ho2.row.ext (by (repeat (first | assumption | exact Vc.Ext.refl _ | ((with_reducible apply Vc.Ext.trans); (case k => assumption)) | ((with_reducible apply Vc.Ext.but); (case k => assumption); (case hb => omega)))))) rfl ?_); (conv => whnf)) | ((have := hx2; refine (rpack_any L a n cap _ (hr.ext (by (repeat (first | assumption | exact Vc.Ext.refl _ | ((with_reducible apply Vc.Ext.trans); (case k => assumption)) | ((with_reducible apply Vc.Ext.but); (case k => assumption); (case hb => omega)))))) hn (by omega) (fun f hf => by have := hall f hf; omega)).mono ?_; rintro _ H3 ⟨⟨a3, c3, rfl, ho3⟩, hx3⟩; have hz3 := hx3.size); (conv => whnf)) | ((refine to_string' (l := packF L) rfl rfl rfl ho3.row rfl ?_); (conv => whnf)) | ((first | (with_reducible refine Vc.DrawH.lin (id := 6) mixed ?_) | (with_reducible refine Vc.DrawL.split (es := []) 1 3 (by decide) (by decide) (by decide) ?_ ?_) | (with_reducible refine Vc.DrawL.split (es := [(1, 3)]) 8 10 (by decide) (by decide) (by decide) ?_ ?_) | (with_reducible refine Vc.DrawL.held (es := [(8, 10), (1, 3)]) [0, 1, 2, 3, 4, 5, 6, 7, 9, 8, 10, 11, 12, 13] [] (by decide +kernel) ?_) | (with_reducible refine Vc.DrawL.held (es := [(10, 8), (1, 3)]) [0, 1, 2, 3, 4, 5, 6, 7, 9, 10, 8, 11, 12, 13] [] (by decide +kernel) ?_) | (with_reducible refine Vc.DrawL.split (es := [(3, 1)]) 8 10 (by decide) (by decide) (by decide) ?_ ?_) | (with_reducible refine Vc.DrawL.held (es := [(8, 10), (3, 1)]) [0, 2, 3, 1, 4, 5, 6, 7, 9, 8, 10, 11, 12, 13] [] (by decide +kernel) ?_) | (with_reducible refine Vc.DrawL.held (es := [(10, 8), (3, 1)]) [0, 2, 3, 1, 4, 5, 6, 7, 9, 10, 8, 11, 12, 13] [] (by decide +kernel) ?_)); (conv => whnf)) | (refine Vc.stp ?_; intros; (conv => whnf)) | (refine Vc.spl ?_ ?_ <;> (intro _; (conv => whnf))))))
    all_goals first | exact ⟨rfl, by (repeat (first | assumption | exact Vc.Ext.refl _ | ((with_reducible apply Vc.Ext.trans); (case k => assumption)) | ((with_reducible apply Vc.Ext.but); (case k => assumption); (case hb => omega))))⟩ | (rename_i hf; rw [beq_self_eq_true] at hf; cases hf)
  · have hl : lightF L = false := by simpa using hl
    rw [hl] at hlc
    ((conv => whnf); repeat (any_goals (first | ((refine (known13_any _).mono ?_; rintro _ H1 ⟨rfl, hx1⟩; have hz1 := hx1.size); (conv => whnf)) | ((refine (hlc _ (by (repeat (first | assumption | exact Vc.Ext.refl _ | ((with_reducible apply Vc.Ext.trans); (case k => assumption)) | ((with_reducible apply Vc.Ext.but); (case k => assumption); (case hb => omega)))))).mono ?_; rintro _ _ ⟨rfl, rfl⟩); (conv => whnf)) | ((first | (with_reducible refine Vc.DrawH.lin (id := 6) mixed ?_) | (with_reducible refine Vc.DrawL.split (es := []) 1 3 (by decide) (by decide) (by decide) ?_ ?_) | (with_reducible refine Vc.DrawL.split (es := [(1, 3)]) 8 10 (by decide) (by decide) (by decide) ?_ ?_) | (with_reducible refine Vc.DrawL.held (es := [(8, 10), (1, 3)]) [0, 1, 2, 3, 4, 5, 6, 7, 9, 8, 10, 11, 12, 13] [] (by decide +kernel) ?_) | (with_reducible refine Vc.DrawL.held (es := [(10, 8), (1, 3)]) [0, 1, 2, 3, 4, 5, 6, 7, 9, 10, 8, 11, 12, 13] [] (by decide +kernel) ?_) | (with_reducible refine Vc.DrawL.split (es := [(3, 1)]) 8 10 (by decide) (by decide) (by decide) ?_ ?_) | (with_reducible refine Vc.DrawL.held (es := [(8, 10), (3, 1)]) [0, 2, 3, 1, 4, 5, 6, 7, 9, 8, 10, 11, 12, 13] [] (by decide +kernel) ?_) | (with_reducible refine Vc.DrawL.held (es := [(10, 8), (3, 1)]) [0, 2, 3, 1, 4, 5, 6, 7, 9, 10, 8, 11, 12, 13] [] (by decide +kernel) ?_)); (conv => whnf)) | (refine Vc.stp ?_; intros; (conv => whnf)) | (refine Vc.spl ?_ ?_ <;> (intro _; (conv => whnf))))))
    exact ⟨rfl, hx1⟩
end Go.Proofs.YtihopeogaeinhaaGreatDoor
