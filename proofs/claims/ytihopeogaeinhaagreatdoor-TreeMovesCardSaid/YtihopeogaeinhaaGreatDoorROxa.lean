import Derived.Test.YtihopeogaeinhaaGreatDoorKf
import Derived.Test.YtihopeogaeinhaaGreatDoorKg
import Derived.Test.YtihopeogaeinhaaGreatDoorKi
set_option linter.unusedVariables false
set_option linter.unusedSimpArgs false
set_option maxRecDepth 100000
/- TreeMoves: the walk. -/
namespace Go.Proofs.YtihopeogaeinhaaGreatDoor
open Go Go.Vc Go.Scr Go.Pth Go.Tre
def mvF (L : List ActT) : Tr := L.foldl (fun A x => (writeF A x.p x.b).1) []
theorem mvF_snoc (L : List ActT) (x : ActT) : mvF (L ++ [x]) = (writeF (mvF L) x.p x.b).1 := by simp [mvF, List.foldl_append]
theorem mvF_okay (L : List ActT) : Okay (mvF L) := by
  have : ∀ (l : List ActT) (A : Tr), Okay A → Okay (l.foldl (fun A x => (writeF A x.p x.b).1) A) := by
    intro l
    induction l with
    | nil => intro A h; exact h
    | cons x l ih => intro A h; exact ih _ (h.writeF _ _)
  exact this L [] .nil
set_option maxHeartbeats 4000000 in
theorem moves_walk (L : List ActT) (p q : Bs) (a : Option Addr) (n cap : Nat) (H : Heap) (hr : RowA H a L) (hn : L.length = n) :
    CallH Tryz.prog 13 [.slice a n cap, .string (mkS p), .string (mkS q)] H fun v H' => v = .bool true ∧ Ext H H' := by
  have hlc := fun H1 (k : Ext H H1) => lightA_any L a n cap H1 (hr.ext k) hn
  have hsp : (mkS p).size = p.length := rfl
  have hsq : (mkS q).size = q.length := rfl
  refine Vc.CallH.body Tryz.func13 Tryz.call13 rfl (by decide +kernel) rfl ?_
  by_cases hl : lightA L = true
  rotate_left
  · have hl : lightA L = false := by simpa using hl
    rw [hl] at hlc
    ((conv => whnf); repeat (any_goals (first | ((refine (known_any _).mono ?_; rintro _ H1 ⟨rfl, hx1⟩; have hz1 := hx1.size); (conv => whnf)) | ((refine (hlc _ (by (repeat (first | assumption | exact Vc.Ext.refl _ | ((with_reducible apply Vc.Ext.trans); (case k => assumption)) | ((with_reducible apply Vc.Ext.but); (case k => assumption); (case hb => omega)))))).mono ?_; rintro _ _ ⟨rfl, rfl⟩); (conv => whnf)) | (refine Vc.stp ?_; intros; (conv => whnf)) | (refine Vc.spl ?_ ?_ <;> (intro _; (conv => whnf))))))
    exact ⟨rfl, hx1⟩
  rw [hl] at hlc
  by_cases hp : p.length ≤ 100
  rotate_left
  · ((conv => whnf); repeat (any_goals (first | ((refine (known_any _).mono ?_; rintro _ H1 ⟨rfl, hx1⟩; have hz1 := hx1.size); (conv => whnf)) | ((refine (hlc _ (by (repeat (first | assumption | exact Vc.Ext.refl _ | ((with_reducible apply Vc.Ext.trans); (case k => assumption)) | ((with_reducible apply Vc.Ext.but); (case k => assumption); (case hb => omega)))))).mono ?_; rintro _ _ ⟨rfl, rfl⟩); (conv => whnf)) | (refine Vc.stp ?_; intros; (conv => whnf)) | (refine Vc.spl ?_ ?_ <;> (intro _; (conv => whnf))))))
    exact ⟨rfl, hx1⟩
  by_cases hq : q.length ≤ 100
  rotate_left
  · ((conv => whnf); repeat (any_goals (first | ((refine (known_any _).mono ?_; rintro _ H1 ⟨rfl, hx1⟩; have hz1 := hx1.size); (conv => whnf)) | ((refine (hlc _ (by (repeat (first | assumption | exact Vc.Ext.refl _ | ((with_reducible apply Vc.Ext.trans); (case k => assumption)) | ((with_reducible apply Vc.Ext.but); (case k => assumption); (case hb => omega)))))).mono ?_; rintro _ _ ⟨rfl, rfl⟩); (conv => whnf)) | (refine Vc.stp ?_; intros; (conv => whnf)) | (refine Vc.spl ?_ ?_ <;> (intro _; (conv => whnf))))))
    exact ⟨rfl, hx1⟩
  obtain ⟨h40, hall⟩ := (lightA_iff L).1 hl
  ((conv => whnf); repeat (any_goals (first | ((refine (known_any _).mono ?_; rintro _ H1 ⟨rfl, hx1⟩; have hz1 := hx1.size); (conv => whnf)) | ((refine (hlc _ (by (repeat (first | assumption | exact Vc.Ext.refl _ | ((with_reducible apply Vc.Ext.trans); (case k => assumption)) | ((with_reducible apply Vc.Ext.but); (case k => assumption); (case hb => omega)))))).mono ?_; rintro _ _ ⟨rfl, rfl⟩); (conv => whnf)) | ((refine (new_any _).mono ?_; rintro _ H2 ⟨⟨b, mb, rfl, ht2, hb2, hm2⟩, hx2⟩; have hz2 := hx2.size); (conv => whnf)) | (refine Vc.stp ?_; intros; (conv => whnf)))))
  refine LoopH.intro (fun (i : Nat) => [(8, .int .i64 i)]) (fun i H' => i ≤ n ∧ TreeO no H' b mb (mvF (L.take i)) ∧ Ext H1 H') (fun i => n - i) 0 ⟨rfl, trivial⟩ ⟨Nat.zero_le _, ht2, hx2⟩ ?_
  rintro i H3 ⟨hi, ht3, hx3⟩
  have hz3 := hx3.size
  by_cases hlt : i < n
  · obtain ⟨x, hx⟩ : ∃ x, L[i]? = some x := ⟨_, List.getElem?_eq_getElem (by omega)⟩
    obtain ⟨_, hbl⟩ := hall x (List.mem_of_getElem? hx)
    have e1 : mvF (L.take (i + 1)) = (writeF (mvF (L.take i)) x.p x.b).1 := by rw [← mvF_snoc, List.take_add_one, hx]; rfl
    ((conv => whnf); repeat (any_goals (first | ((refine IdxA.act (hr.ext (hx1.trans hx3)) hn i x rfl hx ?_; intro bi oi ai ci hri hca hci; have hc0 := hci 0 _ rfl; have hc1 := hci 1 _ rfl; have hc3 := hci 3 _ rfl); (conv => whnf)) | ((refine (write_any ht3 (mvF_okay _) x.p x.b ai _ ci hri rfl (by omega)).mono ?_; rintro _ H4 hd4; obtain rfl := hd4.code; have ht4 := hd4.tree; have hx4 := ext_t hx3 hd4.only hb2 hm2; clear hd4); (conv => whnf)) | (refine Vc.stp ?_; intros; (conv => whnf)))))
    exact ⟨i + 1, ⟨rfl, trivial⟩, ⟨by omega, by rw [e1]; exact ht4, hx4⟩, by omega⟩
  obtain rfl : i = n := by omega
  rw [List.take_of_length_le (by omega)] at ht3
  have ok := mvF_okay L
  generalize mvF L = A at *
  have okf : ∀ k n, mget A k = some n → n.2.length ≤ 1000000000 := fun k n h => Nat.le_trans (ok.file k n h).1 (by decide)
  have okc := ok.count
  have hcq := fun H => rclean_any q (by omega) H
  by_cases h0 : ¬ (cleanF q).2 = 0
  · have h0' : ¬ ((cleanF q).2 : Int) = 0 := by omega
    generalize cleanF q = cq at *
    ((conv => whnf); repeat (any_goals (first | ((refine (files_any ht3 ok.sorted (by omega) okf).mono ?_; rintro _ H4 ⟨⟨a4, c4, rfl, hc4, hr4, _⟩, hx4⟩; have hz4 := hx4.size; have ht4 := ht3.ext hx4; have hx14 := hx3.trans hx4); (conv => whnf)) | ((refine (hcq _).mono ?_; rintro _ H5 ⟨rfl, hx5⟩; have hz5 := hx5.size; have ht5 := ht4.ext hx5; have hr5 := hr4.ext hx5; have hx15 := hx14.trans hx5; have hz15 := hx15.size); (conv => whnf)) | (refine Vc.stp ?_; intros; (conv => whnf)))))
    exact ⟨rfl, hx1.trans hx15⟩
  have h0 : (cleanF q).2 = 0 := by omega
  have hcd := clean_of h0
  obtain ⟨d, hd⟩ : ∃ d, (cleanF q).1 = d := ⟨_, rfl⟩
  rw [h0, hd] at hcq
  rw [hd] at hcd
  have ed := eq_empty d
  have hdl : d.length ≤ 200 := by obtain ⟨l, rfl, hl⟩ := hcd; exact hl.long
  by_cases hdn : d = []
  · rw [decide_eq_true hdn] at ed
    ((conv => whnf); repeat (any_goals (first | ((refine (files_any ht3 ok.sorted (by omega) okf).mono ?_; rintro _ H4 ⟨⟨a4, c4, rfl, hc4, hr4, _⟩, hx4⟩; have hz4 := hx4.size; have ht4 := ht3.ext hx4; have hx14 := hx3.trans hx4); (conv => whnf)) | ((refine (hcq _).mono ?_; rintro _ H5 ⟨rfl, hx5⟩; have hz5 := hx5.size; have ht5 := ht4.ext hx5; have hr5 := hr4.ext hx5; have hx15 := hx14.trans hx5; have hz15 := hx15.size); (conv => whnf)) | (refine Vc.stp ?_; intros; (conv => whnf)))))
    exact ⟨rfl, hx1.trans hx15⟩
  rw [decide_eq_false hdn] at ed
  obtain ⟨f, r, hqr⟩ : ∃ f r, partsF d = f :: r := by
    cases h : partsF d with
    | nil => exact absurd (by rw [← glue_parts d, h]; rfl) hdn
    | cons f r => exact ⟨f, r, rfl⟩
  have hpt := fun H => rparts_any d (by omega) H
  have hpn := fun H => rparent_any d (by omega) H
  by_cases hef : existsF A f = true
  · ((conv => whnf); repeat (any_goals (first | ((refine (files_any ht3 ok.sorted (by omega) okf).mono ?_; rintro _ H4 ⟨⟨a4, c4, rfl, hc4, hr4, _⟩, hx4⟩; have hz4 := hx4.size; have ht4 := ht3.ext hx4; have hx14 := hx3.trans hx4); (conv => whnf)) | ((refine (hcq _).mono ?_; rintro _ H5 ⟨rfl, hx5⟩; have hz5 := hx5.size; have ht5 := ht4.ext hx5; have hr5 := hr4.ext hx5; have hx15 := hx14.trans hx5; have hz15 := hx15.size); (conv => whnf)) | ((refine (hpt _).mono ?_; rintro _ H6 ⟨⟨a6, c6, rfl, ho6⟩, hx6⟩; rw [hqr] at ho6 ⊢; have hrw6 := ho6.row; have hz6 := hx6.size); (conv => whnf)) | ((refine IdxA.strv hrw6 rfl 0 f rfl rfl ?_; intro _ _ _ _ _); (conv => whnf)) | ((refine (exists_any (ht5.ext hx6) f).mono ?_; rintro _ H7 ⟨rfl, hx7⟩; rw [hef]; have hx57 := hx6.trans hx7; have ht7 := ht5.ext hx57; have hr7 := hr5.ext hx57; have hx17 := hx15.trans hx57; have hz17 := hx17.size); (conv => whnf)) | (refine Vc.stp ?_; intros; (conv => whnf)))))
    exact ⟨rfl, hx1.trans hx17⟩
  have hef : existsF A f = false := by simpa using hef
  have hqr' : partsF (cleanF q).1 = f :: r := by rw [hd]; exact hqr
  have okB := ok.twoF p q true
  have hcop := fun h => cop_of (p := p) ok hqr' hef h
  by_cases hc : (Tre.twoF A p q false).2 = 0
  · have hc' : ((Tre.twoF A p q false).2 : Int) = 0 := by omega
    have okA1 := ok.twoF p q false
    obtain ⟨A2, ok2, R⟩ := ren_of (p := p) ok hqr' hef hc
    have hpar := parent_nil hcd hqr
    have epar := eq_empty (parentF d)
    have hclr := R.clear
    by_cases hrn : r = []
    · rw [decide_eq_true (hpar.2 hrn)] at epar
      rw [if_pos hrn] at hclr
      ((conv => whnf); repeat (any_goals (first | ((refine (exists_any ht8 p).mono ?_; rintro _ H9 ⟨rfl, hx9⟩; rw [R.gone]; have ht9 := ht8.ext hx9; have hr9 := hr8.ext hx9; have hx19 := hx8.trans hx9; clear ht8); (conv => whnf)) | ((refine (exists_any ht9 q).mono ?_; rintro _ H10 ⟨rfl, hx10⟩; rw [R.there]; have ht10 := ht9.ext hx10; have hr10 := hr9.ext hx10; have hx110 := hx19.trans hx10; clear ht9); (conv => whnf)) | ((refine (rename_any ht10 okA1 q p).mono ?_; rintro _ H11 hd11; obtain rfl := hd11.code; rw [R.back] at hd11 ⊢; have ht11 := hd11.tree; have hr11 := hr10.keep hd11.only (fun y e _ => by rcases e with rfl | rfl; exact ht10.oth.dumb; exact ht10.map.oth.dumb); have hx11 := ext_t hx110 hd11.only hb2 hm2; clear hd11 ht10); (conv => whnf)) | ((refine (hcq _).mono ?_; rintro _ H12 ⟨rfl, hx12⟩; have ht12 := ht11.ext hx12; have hr12 := hr11.ext hx12; have hx112 := hx11.trans hx12; clear ht11); (conv => whnf)) | ((refine (hpn _).mono ?_; rintro _ H13 ⟨rfl, hx13⟩; have ht13 := ht12.ext hx13; have hr13 := hr12.ext hx13; have hx113 := hx112.trans hx13; have hz113 := hx113.size; clear ht12); (conv => whnf)) | ((refine (files_any ht3 ok.sorted (by omega) okf).mono ?_; rintro _ H4 ⟨⟨a4, c4, rfl, hc4, hr4, _⟩, hx4⟩; have hz4 := hx4.size; have ht4 := ht3.ext hx4; have hx14 := hx3.trans hx4); (conv => whnf)) | ((refine (hcq _).mono ?_; rintro _ H5 ⟨rfl, hx5⟩; have hz5 := hx5.size; have ht5 := ht4.ext hx5; have hr5 := hr4.ext hx5; have hx15 := hx14.trans hx5; have hz15 := hx15.size); (conv => whnf)) | ((refine (hpt _).mono ?_; rintro _ H6 ⟨⟨a6, c6, rfl, ho6⟩, hx6⟩; rw [hqr] at ho6 ⊢; have hrw6 := ho6.row; have hz6 := hx6.size); (conv => whnf)) | ((refine IdxA.strv hrw6 rfl 0 f rfl rfl ?_; intro _ _ _ _ _); (conv => whnf)) | ((refine (exists_any (ht5.ext hx6) f).mono ?_; rintro _ H7 ⟨rfl, hx7⟩; rw [hef]; have hx57 := hx6.trans hx7; have ht7 := ht5.ext hx57; have hr7 := hr5.ext hx57; have hx17 := hx15.trans hx57; have hz17 := hx17.size); (conv => whnf)) | ((refine (rename_any ht7 ok p q).mono ?_; rintro _ H8 hd8; obtain rfl := hd8.code; have ht8 := hd8.tree; have hr8 := hr7.keep hd8.only (fun y e _ => by rcases e with rfl | rfl; exact ht7.oth.dumb; exact ht7.map.oth.dumb); have hx8 := ext_t hx17 hd8.only hb2 hm2; have hz8 := hx8.size; clear hd8); (conv => whnf)) | (refine Vc.stp ?_; intros; (conv => whnf)))))
      dsimp only at ht13
      rw [hclr] at ht13
      have htT := ht13; have hrT := hr13; have hxT := hx113
      by_cases hcc : (Tre.twoF A p q true).2 = 0
      · have cop := hcop hcc
        have hcc' : ((Tre.twoF A p q true).2 : Int) = 0 := by omega
        ((conv => whnf); repeat (any_goals (first | ((refine (files_any htT ok.sorted (by omega) okf).mono ?_; rintro _ Ha ⟨⟨aa, ca, rfl, hca, hra, _⟩, hxa⟩; have hta := htT.ext hxa; have hwa := hrT.ext hxa; have hx1a := hxT.trans hxa; have hz1a := hx1a.size; clear htT hrT); (conv => whnf)) | ((refine (hfiles_any A A aa a4 _ _ ca _ _ hra hwa rfl rfl (by omega) (by omega)).mono ?_; rintro _ _ ⟨rfl, rfl⟩; rw [decide_eq_true rfl]); (conv => whnf)) | ((refine (copy_any hta ok p q).mono ?_; rintro _ Hb hdb; obtain rfl := hdb.code; have htb := hdb.tree; have hxb := ext_t hx1a hdb.only hb2 hm2; have hzb := hxb.size; clear hdb hta); (conv => whnf)) | ((refine (exists_any (htb.ext (Ext.refl _)) p).mono ?_; rintro _ Hc ⟨rfl, hxc⟩; rw [cop.old]; have htc := htb.ext hxc; have hx1c := hxb.trans hxc; clear htb); (conv => whnf)) | ((refine (exists_any htc q).mono ?_; rintro _ Hd ⟨rfl, hxd⟩; rw [cop.new]; have htd := htc.ext hxd; have hx1d := hx1c.trans hxd; clear htc); (conv => whnf)) | ((refine (remove_any htd okB q).mono ?_; rintro _ He hde; obtain rfl := hde.code; have hte := hde.tree; have hx1e := ext_t hx1d hde.only hb2 hm2; clear hde htd; rw [cop.rem]); (conv => whnf)) | ((refine (exists_any hte p).mono ?_; rintro _ Hf ⟨rfl, hxf⟩; rw [cop.stays]; have hx1f := hx1e.trans hxf); (conv => whnf)) | (refine Vc.stp ?_; intros; (conv => whnf)))))
        exact ⟨rfl, hx1.trans hx1f⟩
      · have hcc' : ¬ ((Tre.twoF A p q true).2 : Int) = 0 := by omega
        ((conv => whnf); repeat (any_goals (first | ((refine (files_any htT ok.sorted (by omega) okf).mono ?_; rintro _ Ha ⟨⟨aa, ca, rfl, hca, hra, _⟩, hxa⟩; have hta := htT.ext hxa; have hwa := hrT.ext hxa; have hx1a := hxT.trans hxa; have hz1a := hx1a.size; clear htT hrT); (conv => whnf)) | ((refine (hfiles_any A A aa a4 _ _ ca _ _ hra hwa rfl rfl (by omega) (by omega)).mono ?_; rintro _ _ ⟨rfl, rfl⟩; rw [decide_eq_true rfl]); (conv => whnf)) | ((refine (copy_any hta ok p q).mono ?_; rintro _ Hb hdb; obtain rfl := hdb.code; have htb := hdb.tree; have hxb := ext_t hx1a hdb.only hb2 hm2; have hzb := hxb.size; clear hdb hta); (conv => whnf)) | (refine Vc.stp ?_; intros; (conv => whnf)))))
        exact ⟨rfl, hx1.trans hxb⟩
    · rw [decide_eq_false (fun h => hrn (hpar.1 h))] at epar
      rw [if_neg hrn] at hclr
      ((conv => whnf); repeat (any_goals (first | ((refine (hpt _).mono ?_; rintro _ H14 ⟨⟨a14, c14, rfl, ho14⟩, hx14⟩; rw [hqr] at ho14 ⊢; have hrw14 := ho14.row; have ht14 := ht13.ext hx14; have hr14 := hr13.ext hx14; have hx114 := hx113.trans hx14; clear ht13); (conv => whnf)) | ((refine IdxA.strv hrw14 rfl 0 f rfl rfl ?_; intro _ _ _ _ _); (conv => whnf)) | ((refine (remove_any ht14 ok2 f).mono ?_; rintro _ H15 hd15; obtain rfl := hd15.code; have ht15 := hd15.tree; have hr15 := hr14.keep hd15.only (fun y e _ => by rcases e with rfl | rfl; exact ht14.oth.dumb; exact ht14.map.oth.dumb); have hx15' := ext_t hx114 hd15.only hb2 hm2; have hz115 := hx15'.size; clear hd15 ht14); (conv => whnf)) | ((refine (exists_any ht8 p).mono ?_; rintro _ H9 ⟨rfl, hx9⟩; rw [R.gone]; have ht9 := ht8.ext hx9; have hr9 := hr8.ext hx9; have hx19 := hx8.trans hx9; clear ht8); (conv => whnf)) | ((refine (exists_any ht9 q).mono ?_; rintro _ H10 ⟨rfl, hx10⟩; rw [R.there]; have ht10 := ht9.ext hx10; have hr10 := hr9.ext hx10; have hx110 := hx19.trans hx10; clear ht9); (conv => whnf)) | ((refine (rename_any ht10 okA1 q p).mono ?_; rintro _ H11 hd11; obtain rfl := hd11.code; rw [R.back] at hd11 ⊢; have ht11 := hd11.tree; have hr11 := hr10.keep hd11.only (fun y e _ => by rcases e with rfl | rfl; exact ht10.oth.dumb; exact ht10.map.oth.dumb); have hx11 := ext_t hx110 hd11.only hb2 hm2; clear hd11 ht10); (conv => whnf)) | ((refine (hcq _).mono ?_; rintro _ H12 ⟨rfl, hx12⟩; have ht12 := ht11.ext hx12; have hr12 := hr11.ext hx12; have hx112 := hx11.trans hx12; clear ht11); (conv => whnf)) | ((refine (hpn _).mono ?_; rintro _ H13 ⟨rfl, hx13⟩; have ht13 := ht12.ext hx13; have hr13 := hr12.ext hx13; have hx113 := hx112.trans hx13; have hz113 := hx113.size; clear ht12); (conv => whnf)) | ((refine (files_any ht3 ok.sorted (by omega) okf).mono ?_; rintro _ H4 ⟨⟨a4, c4, rfl, hc4, hr4, _⟩, hx4⟩; have hz4 := hx4.size; have ht4 := ht3.ext hx4; have hx14 := hx3.trans hx4); (conv => whnf)) | ((refine (hcq _).mono ?_; rintro _ H5 ⟨rfl, hx5⟩; have hz5 := hx5.size; have ht5 := ht4.ext hx5; have hr5 := hr4.ext hx5; have hx15 := hx14.trans hx5; have hz15 := hx15.size); (conv => whnf)) | ((refine (hpt _).mono ?_; rintro _ H6 ⟨⟨a6, c6, rfl, ho6⟩, hx6⟩; rw [hqr] at ho6 ⊢; have hrw6 := ho6.row; have hz6 := hx6.size); (conv => whnf)) | ((refine IdxA.strv hrw6 rfl 0 f rfl rfl ?_; intro _ _ _ _ _); (conv => whnf)) | ((refine (exists_any (ht5.ext hx6) f).mono ?_; rintro _ H7 ⟨rfl, hx7⟩; rw [hef]; have hx57 := hx6.trans hx7; have ht7 := ht5.ext hx57; have hr7 := hr5.ext hx57; have hx17 := hx15.trans hx57; have hz17 := hx17.size); (conv => whnf)) | ((refine (rename_any ht7 ok p q).mono ?_; rintro _ H8 hd8; obtain rfl := hd8.code; have ht8 := hd8.tree; have hr8 := hr7.keep hd8.only (fun y e _ => by rcases e with rfl | rfl; exact ht7.oth.dumb; exact ht7.map.oth.dumb); have hx8 := ext_t hx17 hd8.only hb2 hm2; have hz8 := hx8.size; clear hd8); (conv => whnf)) | (refine Vc.stp ?_; intros; (conv => whnf)))))
      rw [hclr] at ht15
      have htT := ht15; have hrT := hr15; have hxT := hx15'
      by_cases hcc : (Tre.twoF A p q true).2 = 0
      · have cop := hcop hcc
        have hcc' : ((Tre.twoF A p q true).2 : Int) = 0 := by omega
        ((conv => whnf); repeat (any_goals (first | ((refine (files_any htT ok.sorted (by omega) okf).mono ?_; rintro _ Ha ⟨⟨aa, ca, rfl, hca, hra, _⟩, hxa⟩; have hta := htT.ext hxa; have hwa := hrT.ext hxa; have hx1a := hxT.trans hxa; have hz1a := hx1a.size; clear htT hrT); (conv => whnf)) | ((refine (hfiles_any A A aa a4 _ _ ca _ _ hra hwa rfl rfl (by omega) (by omega)).mono ?_; rintro _ _ ⟨rfl, rfl⟩; rw [decide_eq_true rfl]); (conv => whnf)) | ((refine (copy_any hta ok p q).mono ?_; rintro _ Hb hdb; obtain rfl := hdb.code; have htb := hdb.tree; have hxb := ext_t hx1a hdb.only hb2 hm2; have hzb := hxb.size; clear hdb hta); (conv => whnf)) | ((refine (exists_any (htb.ext (Ext.refl _)) p).mono ?_; rintro _ Hc ⟨rfl, hxc⟩; rw [cop.old]; have htc := htb.ext hxc; have hx1c := hxb.trans hxc; clear htb); (conv => whnf)) | ((refine (exists_any htc q).mono ?_; rintro _ Hd ⟨rfl, hxd⟩; rw [cop.new]; have htd := htc.ext hxd; have hx1d := hx1c.trans hxd; clear htc); (conv => whnf)) | ((refine (remove_any htd okB q).mono ?_; rintro _ He hde; obtain rfl := hde.code; have hte := hde.tree; have hx1e := ext_t hx1d hde.only hb2 hm2; clear hde htd; rw [cop.rem]); (conv => whnf)) | ((refine (exists_any hte p).mono ?_; rintro _ Hf ⟨rfl, hxf⟩; rw [cop.stays]; have hx1f := hx1e.trans hxf); (conv => whnf)) | (refine Vc.stp ?_; intros; (conv => whnf)))))
        exact ⟨rfl, hx1.trans hx1f⟩
      · have hcc' : ¬ ((Tre.twoF A p q true).2 : Int) = 0 := by omega
        ((conv => whnf); repeat (any_goals (first | ((refine (files_any htT ok.sorted (by omega) okf).mono ?_; rintro _ Ha ⟨⟨aa, ca, rfl, hca, hra, _⟩, hxa⟩; have hta := htT.ext hxa; have hwa := hrT.ext hxa; have hx1a := hxT.trans hxa; have hz1a := hx1a.size; clear htT hrT); (conv => whnf)) | ((refine (hfiles_any A A aa a4 _ _ ca _ _ hra hwa rfl rfl (by omega) (by omega)).mono ?_; rintro _ _ ⟨rfl, rfl⟩; rw [decide_eq_true rfl]); (conv => whnf)) | ((refine (copy_any hta ok p q).mono ?_; rintro _ Hb hdb; obtain rfl := hdb.code; have htb := hdb.tree; have hxb := ext_t hx1a hdb.only hb2 hm2; have hzb := hxb.size; clear hdb hta); (conv => whnf)) | (refine Vc.stp ?_; intros; (conv => whnf)))))
        exact ⟨rfl, hx1.trans hxb⟩
  · have hst := two_stay hc
    have hc' : ¬ ((Tre.twoF A p q false).2 : Int) = 0 := by omega
    ((conv => whnf); repeat (any_goals (first | ((refine (files_any ht3 ok.sorted (by omega) okf).mono ?_; rintro _ H4 ⟨⟨a4, c4, rfl, hc4, hr4, _⟩, hx4⟩; have hz4 := hx4.size; have ht4 := ht3.ext hx4; have hx14 := hx3.trans hx4); (conv => whnf)) | ((refine (hcq _).mono ?_; rintro _ H5 ⟨rfl, hx5⟩; have hz5 := hx5.size; have ht5 := ht4.ext hx5; have hr5 := hr4.ext hx5; have hx15 := hx14.trans hx5; have hz15 := hx15.size); (conv => whnf)) | ((refine (hpt _).mono ?_; rintro _ H6 ⟨⟨a6, c6, rfl, ho6⟩, hx6⟩; rw [hqr] at ho6 ⊢; have hrw6 := ho6.row; have hz6 := hx6.size); (conv => whnf)) | ((refine IdxA.strv hrw6 rfl 0 f rfl rfl ?_; intro _ _ _ _ _); (conv => whnf)) | ((refine (exists_any (ht5.ext hx6) f).mono ?_; rintro _ H7 ⟨rfl, hx7⟩; rw [hef]; have hx57 := hx6.trans hx7; have ht7 := ht5.ext hx57; have hr7 := hr5.ext hx57; have hx17 := hx15.trans hx57; have hz17 := hx17.size); (conv => whnf)) | ((refine (rename_any ht7 ok p q).mono ?_; rintro _ H8 hd8; obtain rfl := hd8.code; have ht8 := hd8.tree; have hr8 := hr7.keep hd8.only (fun y e _ => by rcases e with rfl | rfl; exact ht7.oth.dumb; exact ht7.map.oth.dumb); have hx8 := ext_t hx17 hd8.only hb2 hm2; have hz8 := hx8.size; clear hd8); (conv => whnf)) | (refine Vc.stp ?_; intros; (conv => whnf)))))
    rw [hst] at ht8
    have htT := ht8; have hrT := hr8; have hxT := hx8
    by_cases hcc : (Tre.twoF A p q true).2 = 0
    · have cop := hcop hcc
      have hcc' : ((Tre.twoF A p q true).2 : Int) = 0 := by omega
      ((conv => whnf); repeat (any_goals (first | ((refine (files_any htT ok.sorted (by omega) okf).mono ?_; rintro _ Ha ⟨⟨aa, ca, rfl, hca, hra, _⟩, hxa⟩; have hta := htT.ext hxa; have hwa := hrT.ext hxa; have hx1a := hxT.trans hxa; have hz1a := hx1a.size; clear htT hrT); (conv => whnf)) | ((refine (hfiles_any A A aa a4 _ _ ca _ _ hra hwa rfl rfl (by omega) (by omega)).mono ?_; rintro _ _ ⟨rfl, rfl⟩; rw [decide_eq_true rfl]); (conv => whnf)) | ((refine (copy_any hta ok p q).mono ?_; rintro _ Hb hdb; obtain rfl := hdb.code; have htb := hdb.tree; have hxb := ext_t hx1a hdb.only hb2 hm2; have hzb := hxb.size; clear hdb hta); (conv => whnf)) | ((refine (exists_any (htb.ext (Ext.refl _)) p).mono ?_; rintro _ Hc ⟨rfl, hxc⟩; rw [cop.old]; have htc := htb.ext hxc; have hx1c := hxb.trans hxc; clear htb); (conv => whnf)) | ((refine (exists_any htc q).mono ?_; rintro _ Hd ⟨rfl, hxd⟩; rw [cop.new]; have htd := htc.ext hxd; have hx1d := hx1c.trans hxd; clear htc); (conv => whnf)) | ((refine (remove_any htd okB q).mono ?_; rintro _ He hde; obtain rfl := hde.code; have hte := hde.tree; have hx1e := ext_t hx1d hde.only hb2 hm2; clear hde htd; rw [cop.rem]); (conv => whnf)) | ((refine (exists_any hte p).mono ?_; rintro _ Hf ⟨rfl, hxf⟩; rw [cop.stays]; have hx1f := hx1e.trans hxf); (conv => whnf)) | (refine Vc.stp ?_; intros; (conv => whnf)))))
      exact ⟨rfl, hx1.trans hx1f⟩
    · have hcc' : ¬ ((Tre.twoF A p q true).2 : Int) = 0 := by omega
      ((conv => whnf); repeat (any_goals (first | ((refine (files_any htT ok.sorted (by omega) okf).mono ?_; rintro _ Ha ⟨⟨aa, ca, rfl, hca, hra, _⟩, hxa⟩; have hta := htT.ext hxa; have hwa := hrT.ext hxa; have hx1a := hxT.trans hxa; have hz1a := hx1a.size; clear htT hrT); (conv => whnf)) | ((refine (hfiles_any A A aa a4 _ _ ca _ _ hra hwa rfl rfl (by omega) (by omega)).mono ?_; rintro _ _ ⟨rfl, rfl⟩; rw [decide_eq_true rfl]); (conv => whnf)) | ((refine (copy_any hta ok p q).mono ?_; rintro _ Hb hdb; obtain rfl := hdb.code; have htb := hdb.tree; have hxb := ext_t hx1a hdb.only hb2 hm2; have hzb := hxb.size; clear hdb hta); (conv => whnf)) | (refine Vc.stp ?_; intros; (conv => whnf)))))
      exact ⟨rfl, hx1.trans hxb⟩
end Go.Proofs.YtihopeogaeinhaaGreatDoor
