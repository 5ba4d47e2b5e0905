import Derived.Test.YtihopeogaeinhaaGreatDoorOg
import Derived.Test.YtihopeogaeinhaaGreatDoorTie
import Derived.Test.YtihopeogaeinhaaGreatDoorCards
import Derived.ProofKit
import Derived.OpenShut
import Derived.LaidMore
import Derived.Lay
import Derived.SevenTiedAt
import Derived.Stop.Joined
import Derived.Test.YtihopeogaeinhaaGreatDoorMa
set_option linter.unusedVariables false
set_option linter.unusedSimpArgs false
set_option maxRecDepth 100000
/- TreeRemoves: the walk. -/
namespace Go.Proofs.YtihopeogaeinhaaGreatDoor
open Go Go.Vc Go.Scr Go.Pth Go.Tre
def remF (l : List UInt8) : Tr := l.foldl (fun A k => (writeF A (nameF k.toNat) [1]).1) []
theorem remF_okay (l : List UInt8) : Okay (remF l) := by
  have : ∀ (l : List UInt8) (A : Tr), Okay A → Okay (l.foldl (fun A k => (writeF A (nameF k.toNat) [1]).1) A) := by
    intro l
    induction l with
    | nil => intro A h; exact h
    | cons x l ih => intro A h; exact ih _ (h.writeF _ _)
  exact this l [] .nil
theorem remF_snoc (l : List UInt8) (x : UInt8) : remF (l ++ [x]) = (writeF (remF l) (nameF x.toNat) [1]).1 := by simp [remF, List.foldl_append]
structure RmS2 where
  i : Nat
  vs : List Value
  a : Option Addr
  cap : Nat
def kpF (A : Tr) (p : Bs) (y : Txt × Tre.Node) : Bool := !(decide ((removeF A p).2 = 0) && withinF y.1 (cleanF p).1)
theorem rem_left (A : Tr) (p : Bs) : A.filter (kpF A p) = (removeF A p).1 := by
  have key : ∀ r : Tr × Nat, r.2 ≠ 0 → removeF A p = r → r.1 = A → A.filter (kpF A p) = (removeF A p).1 := by
    intro r h0 hr h1
    rw [hr, h1]
    refine List.filter_eq_self.2 fun y _ => ?_
    unfold kpF
    rw [hr, decide_eq_false h0]; rfl
  by_cases h0 : (cleanF p).2 = 0
  · by_cases h1 : (cleanF p).1 = []
    · exact key (A, 54) (show (54 : Nat) ≠ 0 by decide) (by unfold removeF; rw [if_pos h0, if_pos h1]) rfl
    · by_cases h2 : mget A (cleanF p).1 = none
      · exact key (A, 52) (show (52 : Nat) ≠ 0 by decide) (by unfold removeF; rw [if_pos h0, if_neg h1, if_pos h2]) rfl
      · have hr : removeF A p = (A.filter fun x => !withinF x.1 (cleanF p).1, 0) := by unfold removeF; rw [if_pos h0, if_neg h1, if_neg h2]
        rw [hr]
        congr 1
        funext y
        unfold kpF
        rw [hr]; simp
  · exact key (A, (cleanF p).2) h0 (by unfold removeF; rw [if_neg h0]) rfl
theorem rem_code (A : Tr) (p : Bs) (h : (cleanF p).2 ≠ 0) : (removeF A p).2 = (cleanF p).2 := by unfold removeF; rw [if_neg h]
theorem rem_gone {A : Tr} (hA : Okay A) (p : Bs) (h : (removeF A p).2 = 0) : existsF (removeF A p).1 p = false := by
  have h0 : (cleanF p).2 = 0 := Classical.byContradiction fun k => k (by rw [← rem_code A p k]; exact h)
  have h1 : (cleanF p).1 ≠ [] := fun k => by unfold removeF at h; rw [if_pos h0, if_pos k] at h; cases h
  have h2 : mget A (cleanF p).1 ≠ none := fun k => by unfold removeF at h; rw [if_pos h0, if_neg h1, if_pos k] at h; cases h
  have hr : removeF A p = (A.filter fun x => !withinF x.1 (cleanF p).1, 0) := by unfold removeF; rw [if_pos h0, if_neg h1, if_neg h2]
  rw [hr]
  unfold existsF
  have h3 : ((cleanF p).1 == []) = false := by simpa using h1
  rw [h0, h3]
  cases hg : mget (A.filter fun x => !withinF x.1 (cleanF p).1) (cleanF p).1 with
  | none => rfl
  | some n =>
    have hm := mget_mem hg
    have := (List.mem_filter.1 hm).2
    simp [withinF] at this
theorem removes_walk (l : List UInt8) (p : Bs) (a : Option Addr) (n cap : Nat) (H : Heap) (hr : Row H a (strV l)) (hn : l.length = n) (hl : n ≤ 15) (hp : p.length ≤ 100) :
    CallH Tryz.prog 10 [.slice a n cap, .string (mkS p)] H fun v H' => v = .bool true ∧ Ext H H' := by
  refine Vc.CallH.body Tryz.func10 Tryz.call10 rfl (by decide +kernel) rfl ?_
  have hps : (mkS p).size = p.length := rfl
  ((conv => whnf); repeat (any_goals (first | ((refine (known_any _).mono ?_; rintro _ H1 ⟨rfl, hx1⟩; have hz1 := hx1.size); (conv => whnf)) | ((refine (new_any _).mono ?_; rintro _ H2 ⟨⟨b, mb, rfl, ht2, hb2, hm2⟩, hx2⟩; have hz2 := hx2.size); (conv => whnf)) | (refine Vc.stp ?_; intros; (conv => whnf)))))
  refine LoopH.intro (fun (i : Nat) => [(6, .int .i64 i)]) (fun i H' => i ≤ n ∧ TreeO H' b mb (remF (l.take i)) ∧ Ext H1 H') (fun i => n - i) 0 ⟨rfl, trivial⟩ ⟨Nat.zero_le _, ht2, hx2⟩ ?_
  rintro i H3 ⟨hi, hta, hx3⟩
  have hz3 := hx3.size
  by_cases hlt : i < n
  · obtain ⟨x, hx⟩ : ∃ x, l[i]? = some x := ⟨_, List.getElem?_eq_getElem (by omega)⟩
    have hxl := x.toNat_lt
    have e1 : remF (l.take (i + 1)) = (writeF (remF (l.take i)) (nameF x.toNat) [1]).1 := by rw [← remF_snoc, List.take_add_one, hx]; rfl
    ((conv => whnf); repeat (any_goals (first | ((refine byteN (hr.ext (hx1.trans (by (repeat (first | assumption | exact Vc.Ext.refl _ | ((with_reducible apply Vc.Ext.trans); (case k => assumption)) | ((with_reducible apply Vc.Ext.but); (case k => assumption); (case hb => omega))))))) hn i x rfl hx ?_; intro bo oo hcx); (conv => whnf)) | ((refine (name_any x.toNat hxl _).mono ?_; rintro _ H4 ⟨rfl, hx4⟩; have hz4 := hx4.size); (conv => whnf)) | ((rename_i Hb zb bb xb; refine (write_any (hta.ext (hx4.trans xb)) (remF_okay _) (nameF x.toNat) [1] _ _ _ (Blk.row (c := strV [1]) bb) rfl (by decide)).mono ?_; rintro v6 H6 hd6; have hta6 := hd6.tree; (obtain rfl := hd6.code); have hx6 := ext_t ((hx3.trans hx4).trans xb) hd6.only hb2 hm2; have hz6 := hx6.size; clear hd6); (conv => whnf)) | (refine Vc.stp ?_; intros; (conv => whnf)))))
    exact ⟨i + 1, ⟨rfl, trivial⟩, ⟨by omega, by rw [e1]; exact hta6, hx6⟩, by omega⟩
  · rw [List.take_of_length_le (by omega)] at hta
    have ok := remF_okay l
    have okf : ∀ k n, mget (remF l) k = some n → n.2.length ≤ 1000000000 := fun k n h => Nat.le_trans (ok.file k n h).1 (by decide)
    have okc := ok.count
    generalize remF l = A at *
    have ok2 : Okay (removeF A p).1 := ok.removeF p
    ((conv => whnf); repeat (any_goals (first | ((refine (files_any hta ok.sorted (by omega) okf).mono ?_; rintro _ H4 ⟨⟨a4, c4, rfl, hc4, hr4, _⟩, hx4⟩; have hz4 := hx4.size); (conv => whnf)) | ((refine (rclean_any p (by omega) _).mono ?_; rintro _ H5 ⟨rfl, hx5⟩; have hz5 := hx5.size); (conv => whnf)) | ((refine (remove_any (hta.ext (hx4.trans hx5)) ok p).mono ?_; rintro v6 H6 hd6; have hta6 := hd6.tree; have hr6 := (hr4.ext hx5).keep hd6.only (fun x e _ => by rcases e with rfl | rfl; exact (hta.ext (hx4.trans hx5)).oth.dumb; exact (hta.ext (hx4.trans hx5)).map.oth.dumb); (obtain rfl := hd6.code); have hx6 := ext_t ((hx3.trans hx4).trans hx5) hd6.only hb2 hm2; have hz6 := hx6.size; clear hd6); (conv => whnf)) | (refine Vc.stp ?_; intros; (conv => whnf)))))
    have hA' := rem_left A p
    have hgone := rem_gone ok p
    have hcode := rem_code A p
    generalize hq : (cleanF p).1 = q at *
    have hql : q.length ≤ 200 := by
      by_cases h0 : (cleanF p).2 = 0
      · obtain ⟨l, e, hl⟩ := clean_of h0
        rw [← hq, e]; exact hl.long
      · rw [← hq, (clean_code p).2 h0]; simp
    refine LoopH.intro (fun (x : RmS2) => [(12, .int .i64 x.i), (11, .slice x.a ((A.take x.i).filter (kpF A p)).length x.cap)])
      (fun x H' => x.i ≤ A.length ∧ FilesV H6 ((A.take x.i).filter (kpF A p)) x.vs ∧ Own H' H6.size 45 3 x.a ((A.take x.i).filter (kpF A p)).length x.cap x.vs ∧ Ext H6 H') (fun x => A.length - x.i) ⟨0, [], none, 0⟩ ⟨rfl, rfl, trivial⟩ ⟨Nat.zero_le _, .nil, Own.nil _ _ _ _, Ext.refl _⟩ ?_
    rintro ⟨i, vs, a, cap⟩ H7 ⟨hi, hfv, ho7, hx7⟩
    dsimp only at hi hfv ho7 ⊢
    have hz7 := hx7.size
    have hfl : ((A.take i).filter (kpF A p)).length ≤ i := Nat.le_trans (List.length_filter_le _ _) (by rw [List.length_take]; omega)
    by_cases hlt2 : i < A.length
    · obtain ⟨x, hx⟩ : ∃ x, A[i]? = some x := ⟨_, List.getElem?_eq_getElem (by omega)⟩
      have hxl : x.1.length ≤ 200 := by
        obtain ⟨⟨l, e, hl⟩, _⟩ := ok.clean x.1 x.2 (mget_of_mem ok.sorted.nodup (List.mem_of_getElem? hx))
        rw [e]; exact hl.long
      have htk : A.take (i + 1) = A.take i ++ [x] := by rw [List.take_add_one, hx]; rfl
      have hwi := fun H => rwithin_any x.1 q (by omega) (by omega) H
      by_cases hk : kpF A p x = true
      · have ef : ((A.take (i + 1)).filter (kpF A p)) = ((A.take i).filter (kpF A p)) ++ [x] := by rw [htk, List.filter_append, List.filter_cons, if_pos hk]; simp
        have efl : ((A.take (i + 1)).filter (kpF A p)).length = ((A.take i).filter (kpF A p)).length + 1 := by rw [ef, List.length_append]; rfl
        by_cases hc : (removeF A p).2 = 0
        · have hc' : ((removeF A p).2 : Int) = 0 := by omega
          have hw : withinF x.1 q = false := by unfold kpF at hk; rw [hq, decide_eq_true hc] at hk; simpa using hk
          rw [hw] at hwi
          ((conv => whnf); repeat (any_goals (first | ((refine IdxA.file hr6 rfl i x (by omega) hx ?_; intro bi oi ai ci hri hci; have hc0 := hci 0 _ rfl); (conv => whnf)) | ((refine (hwi _).mono ?_; rintro _ _ ⟨rfl, rfl⟩); (conv => whnf)) | (((with_reducible apply SemH.load_file); (focus ((exact hci))); (focus ((exact hx7))); (focus ((conv => whnf)))); (conv => whnf)) | ((rename_i Hl zl bl xl; refine NextH.appF (news := fileC x ai ci) (ho7.ext xl) (Blk.row (c := fileC x ai ci) bl) rfl (fileC_plain x ai ci) (by omega) (by omega) ⟨_, rfl, fun _ h => by cases h⟩ ?_; intro a9 c9 H9 ho9 hw9); (conv => whnf)) | (refine Vc.stp ?_; intros; (conv => whnf)))))
          refine ⟨⟨i + 1, vs ++ fileC x ai ci, a9, c9⟩, ⟨rfl, by dsimp only; rw [efl]; rfl, trivial⟩, ⟨by show i + 1 ≤ _; omega, ?_, by dsimp only; rw [efl]; exact ho9, (hx7.trans xl).wr (ho7.ext xl) (by omega) hw9⟩, by show A.length - (i + 1) < A.length - i; omega⟩; dsimp only; rw [ef]; have := hfv.append (FilesV.cons (cap := ci) hri .nil); rwa [List.append_nil] at this
        · have hc' : ¬ ((removeF A p).2 : Int) = 0 := by omega
          ((conv => whnf); repeat (any_goals (first | ((refine IdxA.file hr6 rfl i x (by omega) hx ?_; intro bi oi ai ci hri hci; have hc0 := hci 0 _ rfl); (conv => whnf)) | ((refine (hwi _).mono ?_; rintro _ _ ⟨rfl, rfl⟩); (conv => whnf)) | (((with_reducible apply SemH.load_file); (focus ((exact hci))); (focus ((exact hx7))); (focus ((conv => whnf)))); (conv => whnf)) | ((rename_i Hl zl bl xl; refine NextH.appF (news := fileC x ai ci) (ho7.ext xl) (Blk.row (c := fileC x ai ci) bl) rfl (fileC_plain x ai ci) (by omega) (by omega) ⟨_, rfl, fun _ h => by cases h⟩ ?_; intro a9 c9 H9 ho9 hw9); (conv => whnf)) | (refine Vc.stp ?_; intros; (conv => whnf)))))
          refine ⟨⟨i + 1, vs ++ fileC x ai ci, a9, c9⟩, ⟨rfl, by dsimp only; rw [efl]; rfl, trivial⟩, ⟨by show i + 1 ≤ _; omega, ?_, by dsimp only; rw [efl]; exact ho9, (hx7.trans xl).wr (ho7.ext xl) (by omega) hw9⟩, by show A.length - (i + 1) < A.length - i; omega⟩; dsimp only; rw [ef]; have := hfv.append (FilesV.cons (cap := ci) hri .nil); rwa [List.append_nil] at this
      · have hk : kpF A p x = false := by simpa using hk
        have ef : ((A.take (i + 1)).filter (kpF A p)) = (A.take i).filter (kpF A p) := by rw [htk, List.filter_append, List.filter_cons, if_neg (by rw [hk]; simp)]; simp
        have hcw : (removeF A p).2 = 0 ∧ withinF x.1 q = true := by unfold kpF at hk; rw [hq] at hk; simpa using hk
        obtain ⟨hc, hw⟩ := hcw
        have hc' : ((removeF A p).2 : Int) = 0 := by omega
        rw [hw] at hwi
        ((conv => whnf); repeat (any_goals (first | ((refine IdxA.file hr6 rfl i x (by omega) hx ?_; intro bi oi ai ci hri hci; have hc0 := hci 0 _ rfl); (conv => whnf)) | ((refine (hwi _).mono ?_; rintro _ _ ⟨rfl, rfl⟩); (conv => whnf)) | (((with_reducible apply SemH.load_file); (focus ((exact hci))); (focus ((exact hx7))); (focus ((conv => whnf)))); (conv => whnf)) | ((rename_i Hl zl bl xl; refine NextH.appF (news := fileC x ai ci) (ho7.ext xl) (Blk.row (c := fileC x ai ci) bl) rfl (fileC_plain x ai ci) (by omega) (by omega) ⟨_, rfl, fun _ h => by cases h⟩ ?_; intro a9 c9 H9 ho9 hw9); (conv => whnf)) | (refine Vc.stp ?_; intros; (conv => whnf)))))
        exact ⟨⟨i + 1, vs, a, cap⟩, ⟨rfl, by dsimp only; rw [ef]; rfl, trivial⟩, ⟨by show i + 1 ≤ _; omega, by dsimp only; rw [ef]; exact hfv, by dsimp only; rw [ef]; exact ho7, hx7⟩, by show A.length - (i + 1) < A.length - i; omega⟩
    · obtain rfl : i = A.length := by omega
      rw [List.take_length] at hfv ho7 ⊢
      have hrl : RowF H7 a (A.filter (kpF A p)) := ⟨_, ho7.row, hfv.ext hx7⟩
      have ok2f : ∀ k n, mget (removeF A p).1 k = some n → n.2.length ≤ 1000000000 := fun k n h => Nat.le_trans (ok2.file k n h).1 (by decide)
      have ok2c := ok2.count
      rw [hA'] at hrl ⊢
      have hfin : ∀ H8 : Heap, Ext H7 H8 → Ext H H8 := fun H8 k => hx1.trans (((hx6).trans hx7).trans k)
      have hex := exists_any (hta6.ext hx7) p
      by_cases hc : (removeF A p).2 = 0
      · have hc' : ((removeF A p).2 : Int) = 0 := by omega
        have he' : ((cleanF p).2 : Int) = 0 := by
          have : (cleanF p).2 = 0 := Classical.byContradiction fun k => k (by rw [← hcode k]; exact hc)
          omega
        have hg := hgone hc
        ((conv => whnf); repeat (any_goals (first | ((refine (files_any (hta6.ext hx7) ok2.sorted (by omega) ok2f).mono ?_; rintro _ H8 ⟨⟨a8, c8, rfl, hc8, hr8, _⟩, hx8⟩; have hz8 := hx8.size); (conv => whnf)) | ((refine (hfiles_any (removeF A p).1 (removeF A p).1 a8 a _ _ c8 cap _ hr8 (hrl.ext hx8) rfl rfl (by omega) (by omega)).mono ?_; rintro _ _ ⟨rfl, rfl⟩; rw [decide_eq_true rfl]); (conv => whnf)) | ((refine (exists_any (hta6.ext (hx7.trans hx8)) p).mono ?_; rintro _ H9 ⟨rfl, hx9⟩; rw [hg]; have hz9 := hx9.size); (conv => whnf)) | (refine Vc.stp ?_; intros; (conv => whnf)))))
        exact ⟨rfl, hfin _ (hx8.trans hx9)⟩
      · have hc' : ¬ ((removeF A p).2 : Int) = 0 := by omega
        by_cases he : (cleanF p).2 = 0
        · have he' : ((cleanF p).2 : Int) = 0 := by omega
          ((conv => whnf); repeat (any_goals (first | ((refine (files_any (hta6.ext hx7) ok2.sorted (by omega) ok2f).mono ?_; rintro _ H8 ⟨⟨a8, c8, rfl, hc8, hr8, _⟩, hx8⟩; have hz8 := hx8.size); (conv => whnf)) | ((refine (hfiles_any (removeF A p).1 (removeF A p).1 a8 a _ _ c8 cap _ hr8 (hrl.ext hx8) rfl rfl (by omega) (by omega)).mono ?_; rintro _ _ ⟨rfl, rfl⟩; rw [decide_eq_true rfl]); (conv => whnf)) | ((refine (exists_any (hta6.ext (hx7.trans hx8)) p).mono ?_; rintro _ H9 ⟨rfl, hx9⟩; rw [hg]; have hz9 := hx9.size); (conv => whnf)) | (refine Vc.stp ?_; intros; (conv => whnf)))))
          exact ⟨rfl, hfin _ hx8⟩
        · have he' : ¬ ((cleanF p).2 : Int) = 0 := by omega
          have hee := hcode he
          rw [hee] at hc' ⊢
          ((conv => whnf); repeat (any_goals (first | ((refine (files_any (hta6.ext hx7) ok2.sorted (by omega) ok2f).mono ?_; rintro _ H8 ⟨⟨a8, c8, rfl, hc8, hr8, _⟩, hx8⟩; have hz8 := hx8.size); (conv => whnf)) | ((refine (hfiles_any (removeF A p).1 (removeF A p).1 a8 a _ _ c8 cap _ hr8 (hrl.ext hx8) rfl rfl (by omega) (by omega)).mono ?_; rintro _ _ ⟨rfl, rfl⟩; rw [decide_eq_true rfl]); (conv => whnf)) | ((refine (exists_any (hta6.ext (hx7.trans hx8)) p).mono ?_; rintro _ H9 ⟨rfl, hx9⟩; rw [hg]; have hz9 := hx9.size); (conv => whnf)) | (refine Vc.stp ?_; intros; (conv => whnf)))))
          exact ⟨rfl, hfin _ hx8⟩
theorem removes_long (l : List UInt8) (p : Bs) (a : Option Addr) (n cap : Nat) (H : Heap) (hl : ¬ (n ≤ 15 ∧ p.length ≤ 100)) :
    CallH Tryz.prog 10 [.slice a n cap, .string (mkS p)] H fun v H' => v = .bool true ∧ Ext H H' := by
  have hps : (mkS p).size = p.length := rfl
  refine Vc.CallH.body Tryz.func10 Tryz.call10 rfl (by decide +kernel) rfl ?_
  by_cases h1 : n ≤ 15
  · have h2 : ¬ p.length ≤ 100 := fun k => hl ⟨h1, k⟩
    ((conv => whnf); repeat (any_goals (first | ((refine (known_any _).mono ?_; rintro _ H1 ⟨rfl, hx1⟩; have hz1 := hx1.size); (conv => whnf)) | (refine Vc.stp ?_; intros; (conv => whnf)) | (refine Vc.spl ?_ ?_ <;> (intro _; (conv => whnf))))))
    exact ⟨rfl, hx1⟩
  · ((conv => whnf); repeat (any_goals (first | ((refine (known_any _).mono ?_; rintro _ H1 ⟨rfl, hx1⟩; have hz1 := hx1.size); (conv => whnf)) | (refine Vc.stp ?_; intros; (conv => whnf)) | (refine Vc.spl ?_ ?_ <;> (intro _; (conv => whnf))))))
    exact ⟨rfl, hx1⟩
end Go.Proofs.YtihopeogaeinhaaGreatDoor
/- What is removed is gone with all below it, and nothing else is. The package variables that the card lists hold what the program's text lays. -/
namespace Go.Proofs.YtihopeogaeinhaaGreatDoor
open Go Go.Vc Go.Scr Go.Pth Go.Tre Go.ChangeShapes Go.WideShapes Go.ChangeAt Go.RowKit
theorem laid_out : laidOutB Tryz.prog = true := by kernel_rfl
theorem own : ownKnob Tryz.prog.godebug = none := by kernel_rfl
theorem removes_law (l : List UInt8) (p : Bs) (a : Option Addr) (n cap : Nat) (H : Heap) (hr : Row H a (strV l)) (hn : l.length = n) :
    CallH Tryz.prog 10 [.slice a n cap, .string (mkS p)] H fun v H' => v = .bool true ∧ Ext H H' := by
  by_cases hl : n ≤ 15 ∧ p.length ≤ 100
  · exact removes_walk l p a n cap H hr hn hl.1 hl.2
  · exact removes_long l p a n cap H hl
namespace removes
theorem lifted (os : Os) (started : os.Started) (H : Type) (enc : TypeId × Value → H) :
    ReturnsInHanded {} Tryz.checked os 10 .any (fun w args => (Rows.treeRemovesSpec.pre enc Tryz.prog Tryz.f10 Rows.treeRemovesRow.domain false w args ∧ laidMetH Tryz.prog Rows.treeRemovesRow.laid w) ∧ sizedMet enc Tryz.prog Tryz.f10 (OpenSpec.ofChange Rows.treeRemovesSpec) false w args)
      (Rows.treeRemovesSpec.post enc Tryz.prog Tryz.f10 false true false false) := by
  refine returnsInHanded_of_change_and (C := Tryz.checked) (X := fun w _ => laidMetH Tryz.prog Rows.treeRemovesRow.laid w) (fun _ _ _ hh h => h.of_heap hh) own started (by kernel_rfl) Tryz.func10
    (ChangeSpec.witness_shaped (enc := enc) (C := Tryz.checked) (os := os) (X := fun w _ => laidMetH Tryz.prog Rows.treeRemovesRow.laid w) false (World.laidAll Tryz.prog os Rows.treeRemovesRow.laid) #[.slice none 0 0, .string ⟨#[]⟩] 8 (World.laidAll_os _ _ _)
      (World.shaped_of_ZipB (by kernel_rfl) (by kernel_rfl)) (by kernel_rfl) (by kernel_rfl) (by kernel_rfl)
      (by rw [MakeChecks.laidMetH_plain _ _ _ (by kernel_rfl)]; exact laidMet_laidAll _ (by kernel_rfl) (by kernel_rfl))) ?_
  intro W base args ds gs before hval0 hW hc _ hL _
  have hval : ∀ (j : Nat) t v, Tryz.f10.params[j]? = some t → args[j]? = some v → Value.okWide Tryz.prog W .any base t v := hval0
  have hW' := hW
  obtain ⟨p, q, hA, hV, _, _, _⟩ := hW
  rw [Tryz.params10] at hA hval
  obtain ⟨v0, v1, d0, d1, p0, p1, rfl, rfl, rfl, h0, h1⟩ := trodAll_two hA
  obtain ⟨f0, h0⟩ := h0
  obtain ⟨a, n, cap, l, hcs, hn, hc1, hm, hr, _⟩ := read_bytes (P := Tryz.prog) rfl rfl (by kernel_rfl) h0
  obtain rfl := arg_slice rfl (hval 0 _ v0 rfl rfl) hcs
  obtain ⟨s, rfl, rfl, rfl, w1⟩ := Go.ChangeMaps.open_string rfl (hval 1 _ v1 rfl rfl) h1
  have hs : mkS s.data.toList = s := mkS_data s
  rw [← hs]
  exact law_calls (tb := 4) rfl (removes_law l s.data.toList a n cap W.heap hr hn) hW' rfl (by obtain ⟨rfl, rfl⟩ := trodVars_none hV; rfl) rfl rfl laid_out (by kernel_rfl)
theorem over : Rows.TreeRemovesSaid :=
  OpenClaim.holds_of_wide 10 Tryz.f10 rfl rfl rfl rfl rfl rfl rfl ⟨rfl, rfl, rfl, rfl, rfl⟩ rfl rfl rfl rfl rfl (by kernel_rfl) Tryz.func10 (by kernel_rfl)
    (of_decide_eq_true (by kernel_rfl)) (by unfold Func.isWrapper; first | (rw [if_pos (by decide +kernel)]; kernel_rfl) | (rw [if_neg (by decide +kernel)]; exact ⟨rfl, rfl⟩))
    (fun os started H enc _ => lifted os started H enc)
end removes
theorem removes_holds : Rows.TreeRemovesCardSaid :=
  Claim7.holds_tied_plain_at .later [] [.data, .pinned] true (true, "fa521beaab008675041dd0e1fb15f94b2949958c8ac3bfd414fc9c8200a6e0e9") true removes.over (fun _ h => by cases h) (by kernel_rfl) (fun _ h => by cases h) treeRemoves_row_tie rfl ⟨rfl, rfl⟩ (by kernel_rfl) rfl
    (fun f fn hf hfn => by
      obtain rfl : f = 10 := Option.some.inj ((show Tryz.prog.funcNamed Tryz.f10.name = some 10 by kernel_rfl).symm.trans hf) |>.symm
      obtain rfl : fn = Tryz.f10 := (Option.some.inj (Tryz.func10.symm.trans hfn)).symm
      exact ⟨by kernel_rfl, fun j t ht => by
        rw [Tryz.params10] at ht
        have hm : t ∈ [25, 9] := by simpa using Array.mem_of_getElem? ht
        have hall : ([25, 9].all fun u => !Tryz.prog.wantsStandIn u) = true := by kernel_rfl
        exact (show Tryz.prog.wantsStandIn t = false by simpa using List.all_eq_true.1 hall t hm)⟩)
    (by kernel_rfl)

end Go.Proofs.YtihopeogaeinhaaGreatDoor
