import Derived.Test.YtihopeogaeinhaaGreatDoorKg
import Derived.Test.YtihopeogaeinhaaGreatDoorKh
import Derived.Test.YtihopeogaeinhaaGreatDoorTie
import Derived.Test.YtihopeogaeinhaaGreatDoorCards
import Derived.ProofKit
import Derived.OpenShut
import Derived.LaidMore
import Derived.Lay
import Derived.SevenTiedAt
import Derived.Stop.Joined
set_option linter.unusedVariables false
set_option linter.unusedSimpArgs false
set_option maxRecDepth 100000
/- TreeClones: the walk. -/
namespace Go.Proofs.YtihopeogaeinhaaGreatDoor
open Go Go.Vc Go.Scr Go.Pth Go.Tre
theorem TreeO.off {H H' : Heap} {b mb g : Nat} {A : Tr} {c : Array Value} (h : TreeO (· = g) H b mb A) (hg : Blk H g c 5) (k : But g H H') : TreeO no H' b mb A := by
  refine h.keepY k ?_ ?_ ?_ ?_
  · rintro rfl
    exact absurd (blk_one hg h.blk).1 (by decide)
  · rintro rfl
    exact h.map.ne hg rfl
  · rintro x rfl _
    exact .inr ⟨rfl, fun d hd => absurd (blk_one hg hd).1 (by decide)⟩
  · intro x hx; exact hx.elim
theorem clones_walk (l : List UInt8) (x : UInt8) (a : Option Addr) (n cap : Nat) (H : Heap) (hr : Row H a (strV l)) (hn : l.length = n) (hl : n ≤ 15) :
    CallH Tryz.prog 12 [.slice a n cap, .int .u8 x.toNat] H fun v H' => v = .bool true ∧ Ext H H' := by
  refine Vc.CallH.body Tryz.func12 Tryz.call12 rfl (by decide +kernel) rfl ?_
  have hxt := x.toNat_lt
  have hx1l : ([x] : Bs).length ≤ 10 := (show 1 ≤ 10 by decide)
  have newZ : ∀ H1 : Heap, CallH Tryz.prog 28 [] H1 fun v H' => (∃ b mb, v = .pointer (some ⟨b, 0, none⟩) ∧ TreeO no H' b mb [] ∧ H1.size ≤ b ∧ H1.size ≤ mb) ∧ Ext H1 H' := fun H1 => new_any H1
  ((conv => whnf); repeat (any_goals (first | ((refine (known_any _).mono ?_; rintro _ H1 ⟨rfl, hx1⟩; have hz1 := hx1.size); (conv => whnf)) | ((refine (newZ _).mono ?_; rintro _ H2 ⟨⟨b, mb, rfl, ht2, hb2, hm2⟩, hx2⟩; have hz2 := hx2.size); (conv => whnf)) | (refine Vc.stp ?_; intros; (conv => whnf)))))
  rename_i H3 z3 b3 x3
  have b3 : Blk H3 H2.size (strV [x]).toArray 5 := b3
  have ht3 : TreeO (· = H2.size) H3 b mb [] := ht2.keepY x3 id id (fun x h => h.elim) fun x hx => ⟨by rw [hx]; omega, .inr (by rw [hx]; exact Nat.le_refl _)⟩
  have hx13 : Ext H1 H3 := hx2.trans x3
  refine LoopH.intro (fun (i : Nat) => [(7, .int .i64 i)]) (fun i H' => i ≤ n ∧ TreeO (· = H2.size) H' b mb (wrL [x] (l.take i)) ∧ Blk H' H2.size (strV [x]).toArray 5 ∧ Ext H1 H') (fun i => n - i) 0 ⟨rfl, trivial⟩ ⟨Nat.zero_le _, ht3, b3, hx13⟩ ?_
  rintro i H4 ⟨hi, ht4, b4, hx4⟩
  have hz4 := hx4.size
  by_cases hlt : i < n
  · obtain ⟨y, hy⟩ : ∃ y, l[i]? = some y := ⟨_, List.getElem?_eq_getElem (by omega)⟩
    have hyl := y.toNat_lt
    have e1 : wrL [x] (l.take (i + 1)) = (writeF (wrL [x] (l.take i)) (nameF y.toNat) [x]).1 := by rw [← wrL_snoc, List.take_add_one, hy]; rfl
    ((conv => whnf); repeat (any_goals (first | ((refine byteN (hr.ext (hx1.trans (by (repeat (first | assumption | exact Vc.Ext.refl _ | ((with_reducible apply Vc.Ext.trans); (case k => assumption)) | ((with_reducible apply Vc.Ext.but); (case k => assumption); (case hb => omega))))))) hn i y rfl hy ?_; intro bo oo hcx); (conv => whnf)) | ((refine (name_any y.toNat hyl _).mono ?_; rintro _ H5 ⟨rfl, hx5⟩; have hz5 := hx5.size); (conv => whnf)) | ((refine (write_any (ht4.ext hx5) (wrL_okay _ _) (nameF y.toNat) [x] _ _ _ (Blk.row (c := strV [x]) (b4.ext hx5)) rfl (show 1 ≤ _ by decide)).mono ?_; rintro v6 H6 hd6; have ht6 := hd6.tree; (obtain rfl := hd6.code); have b6 := (b4.ext hx5).keep hd6.only (fun e => by rcases e with e | e; exact absurd (blk_one (b4.ext hx5) (e ▸ (ht4.ext hx5).blk)).1 (by decide); exact (ht4.ext hx5).map.ne (b4.ext hx5) e.symm); have hx6 := ext_t (hx4.trans hx5) hd6.only hb2 hm2; have hz6 := hx6.size; clear hd6); (conv => whnf)) | (refine Vc.stp ?_; intros; (conv => whnf)))))
    exact ⟨i + 1, ⟨rfl, trivial⟩, ⟨by omega, by rw [e1]; exact ht6, b6, hx6⟩, by omega⟩
  · obtain rfl : i = n := by omega
    rw [List.take_of_length_le (by omega)] at ht4
    have ok := wrL_okay [x] l
    have okf : ∀ k n, mget (wrL [x] l) k = some n → n.2.length ≤ 1000000000 := fun k n h => Nat.le_trans (ok.file k n h).1 (by decide)
    have okc := ok.count
    ((conv => whnf); repeat (any_goals (first | ((refine IdxA.bytes (l := [x]) (Blk.row (c := strV [x]) b4) rfl (by decide) (by decide) ?_; intro bo oo hbo hco; cases hbo); (conv => whnf)) | ((refine ArithH.u8m ?_); (conv => whnf)) | (refine Vc.stp ?_; intros; (conv => whnf)))))
    rename_i H5 z5 b5 x5
    have ht5 : TreeO no H5 b mb (wrL [x] l) := ht4.off b4 x5
    have hx5 : Ext H1 H5 := hx4.but x5 (by omega)
    have hrd := fun y (hy : y ∈ l) => wrL_read hx1l l (by omega) hy
    generalize wrL [x] l = A at *
    have okW := ok.writeF [110, 101, 119] []
    have okR := okW.removeF [97]
    ((conv => whnf); repeat (any_goals (first | ((refine (files_any ht5 ok.sorted (by omega) okf).mono ?_; rintro _ H6 ⟨⟨a6, c6, rfl, hc6, hr6, _⟩, hx6⟩; have hz6 := hx6.size; have ht6 := ht5.ext hx6); (conv => whnf)) | ((refine (tclone_any ht6 ok.sorted.nodup).mono ?_; rintro _ H7 ⟨⟨b', mb', rfl, hc7, hb7, hm7⟩, hx7⟩; have hz7 := hx7.size; have ht7 := ht6.ext hx7; have hne : b ≠ b' := (by have := ht6.blk.lt; omega); have hnm : mb ≠ mb' := (by have := ht6.map.lt; omega)); (conv => whnf)) | ((refine (files_any hc7 ok.sorted (by omega) okf).mono ?_; rintro _ H8 ⟨⟨a8, c8, rfl, hc8, hr8, _⟩, hx8⟩; have hz8 := hx8.size; have hx68 := hx7.trans hx8; have hcl8 := hc7.ext hx8; have ht8 := ht7.ext hx8); (conv => whnf)) | ((refine (hfiles_any A A a8 a6 _ _ c8 c6 _ hr8 (hr6.ext hx68) rfl rfl (by omega) (by omega)).mono ?_; rintro _ _ ⟨rfl, rfl⟩; rw [decide_eq_true rfl]); (conv => whnf)) | ((refine (write_any hcl8 ok [110, 101, 119] [] none 0 0 (Row.nil _ _) rfl (by decide)).mono ?_; rintro v9 H9 hd9; have hcl9 := hd9.tree; (obtain rfl := hd9.code); have ht9 := ht8.other hcl8 hne hnm hd9.only; have hr9 := (hr6.ext hx68).keep hd9.only (fun x e _ => by rcases e with rfl | rfl; exact hcl8.oth.dumb; exact hcl8.map.oth.dumb); have hx9 := ext_t ((hx5.trans hx6).trans hx68) hd9.only (by omega) (by omega); have hz9 := hx9.size; clear hd9); (conv => whnf)) | ((refine (remove_any hcl9 okW [97]).mono ?_; rintro v10 H10 hd10; (obtain rfl := hd10.code); have ht10 := ht9.other hcl9 hne hnm hd10.only; have hr10 := hr9.keep hd10.only (fun x e _ => by rcases e with rfl | rfl; exact hcl9.oth.dumb; exact hcl9.map.oth.dumb); have hx10 := ext_t hx9 hd10.only (by omega) (by omega); have hz10 := hx10.size; clear hd10); (conv => whnf)) | (refine Vc.stp ?_; intros; (conv => whnf)))))
    clear hc7 hcl8 hcl9 ht4 ht5 ht6 ht7 ht8 ht9 hr8 hr9 b4 b5 okW okR
    refine LoopH.intro (fun (j : Nat) => [(10, .int .i64 j)]) (fun j H' => j ≤ i ∧ TreeO no H' b mb A ∧ RowF H' a6 A ∧ Ext H10 H') (fun j => i - j) 0 ⟨rfl, trivial⟩ ⟨Nat.zero_le _, ht10, hr10, Ext.refl _⟩ ?_
    rintro j H11 ⟨hj, ht11, hr11, hx11⟩
    have hz11 := hx11.size
    by_cases hlt2 : j < i
    · obtain ⟨y, hy⟩ : ∃ y, l[j]? = some y := ⟨_, List.getElem?_eq_getElem (by omega)⟩
      have hyl := y.toNat_lt
      have hry := hrd y (List.mem_of_getElem? hy)
      ((conv => whnf); repeat (any_goals (first | ((refine byteN (hr.ext (hx1.trans (hx10.trans hx11))) hn j y rfl hy ?_; intro bo oo hcx); (conv => whnf)) | ((refine (name_any y.toNat hyl _).mono ?_; rintro _ H12 ⟨rfl, hx12⟩; have hz12 := hx12.size); (conv => whnf)) | ((refine (read_any (ht11.ext hx12) ok (nameF y.toNat)).mono ?_; rintro _ H13 ⟨⟨a13, c13, rfl, ho13⟩, hx13'⟩; rw [hry] at ho13 ⊢; have hz13 := hx13'.size; rcases ho13.out with ⟨_, h0, _⟩ | ⟨g, cur, rfl, hbg, hblk, hn13, hm13, hcs, htk⟩; cases h0; have hrw := ho13.row); (conv => whnf)) | ((refine IdxA.bytes (l := [x]) hrw rfl (Int.le_refl 0) (by simp) ?_; intro bo oo hbo hco; cases hbo); (conv => whnf)) | ((refine CondH.neg (show (_ != _) = false by simp) ?_); (conv => whnf)) | ((refine SplitH.neg (show (_ != _) = false by simp) ?_); (conv => whnf)) | ((refine ArithH.u8m ?_); (conv => whnf)) | ((refine DoH.store1 hblk rfl rfl rfl (by simp at hn13; omega) ?_; intro H14 hz14 hb14 hx14); (conv => whnf)) | (refine Vc.stp ?_; intros; (conv => whnf)))))
      have hx114 : Ext H11 H14 := (hx12.trans hx13').but hx14 (by omega)
      exact ⟨j + 1, ⟨rfl, trivial⟩, ⟨by omega, ht11.ext hx114, hr11.ext hx114, hx11.trans hx114⟩, by omega⟩
    · obtain rfl : j = i := by omega
      ((conv => whnf); repeat (any_goals (first | ((refine (files_any ht11 ok.sorted (by omega) okf).mono ?_; rintro _ H12 ⟨⟨a12, c12, rfl, hc12, hr12, _⟩, hx12⟩); (conv => whnf)) | ((refine (hfiles_any A A a12 a6 _ _ c12 c6 _ hr12 (hr11.ext hx12) rfl rfl (by omega) (by omega)).mono ?_; rintro _ _ ⟨rfl, rfl⟩; rw [decide_eq_true rfl]); (conv => whnf)) | (refine Vc.stp ?_; intros; (conv => whnf)))))
      exact ⟨rfl, hx1.trans ((hx10.trans hx11).trans hx12)⟩
theorem clones_long (x : Nat) (a : Option Addr) (n cap : Nat) (H : Heap) (hl : ¬ n ≤ 15) :
    CallH Tryz.prog 12 [.slice a n cap, .int .u8 x] H fun v H' => v = .bool true ∧ Ext H H' := by
  refine Vc.CallH.body Tryz.func12 Tryz.call12 rfl (by decide +kernel) rfl ?_
  ((conv => whnf); repeat (any_goals (first | ((refine (known_any _).mono ?_; rintro _ H1 ⟨rfl, hx1⟩; have hz1 := hx1.size); (conv => whnf)) | (refine Vc.stp ?_; intros; (conv => whnf)) | (refine Vc.spl ?_ ?_ <;> (intro _; (conv => whnf))))))
  exact ⟨rfl, hx1⟩
end Go.Proofs.YtihopeogaeinhaaGreatDoor
/- A clone is like what it is a clone of, what is done to the one isn't to the other, and what is handed in and out is nobody else's. The package variables that the card lists hold what the program's text lays. -/
namespace Go.Proofs.YtihopeogaeinhaaGreatDoor
open Go Go.Vc Go.Scr Go.Pth Go.Tre Go.ChangeShapes Go.WideShapes Go.ChangeAt Go.RowKit
theorem laid_out : laidOutB Tryz.prog = true := by kernel_rfl
theorem own : ownKnob Tryz.prog.godebug = none := by kernel_rfl
theorem u8_nat {n : Int} (h : (Lit.int .u8 n).wf = true) : ∃ m : UInt8, n = m.toNat := by
  have h2 : 0 ≤ n ∧ n ≤ 255 := by
    simp [Lit.wf, IntKind.min, IntKind.max, IntKind.signed, IntKind.bits] at h
    omega
  refine ⟨UInt8.ofNat n.toNat, ?_⟩
  rw [UInt8.toNat_ofNat']; omega
theorem clones_law (l : List UInt8) (x : UInt8) (a : Option Addr) (n cap : Nat) (H : Heap) (hr : Row H a (strV l)) (hn : l.length = n) :
    CallH Tryz.prog 12 [.slice a n cap, .int .u8 x.toNat] H fun v H' => v = .bool true ∧ Ext H H' := by
  by_cases hl : n ≤ 15
  · exact clones_walk l x a n cap H hr hn hl
  · exact clones_long x.toNat a n cap H hl
namespace clones
set_option maxRecDepth 100000 in
theorem lifted (os : Os) (started : os.Started) (H : Type) (enc : TypeId × Value → H) :
    ReturnsInHanded {} Tryz.checked os 12 .any (fun w args => (Rows.treeClonesSpec.pre enc Tryz.prog Tryz.f12 Rows.treeClonesRow.domain false w args ∧ laidMetH Tryz.prog Rows.treeClonesRow.laid w) ∧ sizedMet enc Tryz.prog Tryz.f12 (OpenSpec.ofChange Rows.treeClonesSpec) false w args)
      (Rows.treeClonesSpec.post enc Tryz.prog Tryz.f12 false true false false) := by
  refine returnsInHanded_of_change_and (C := Tryz.checked) (X := fun w _ => laidMetH Tryz.prog Rows.treeClonesRow.laid w) (fun _ _ _ hh h => h.of_heap hh) own started (by kernel_rfl) Tryz.func12
    (ChangeSpec.witness_shaped (enc := enc) (C := Tryz.checked) (os := os) (X := fun w _ => laidMetH Tryz.prog Rows.treeClonesRow.laid w) false (World.laidAll Tryz.prog os Rows.treeClonesRow.laid) #[.slice none 0 0, .int .u8 0] 8 (World.laidAll_os _ _ _)
      (World.shaped_of_ZipB (by kernel_rfl) (by kernel_rfl)) (by kernel_rfl) (by kernel_rfl) (by kernel_rfl)
      (by rw [MakeChecks.laidMetH_plain _ _ _ (by kernel_rfl)]; exact laidMet_laidAll _ (by kernel_rfl) (by kernel_rfl))) ?_
  intro W base args ds gs before hval0 hW hc _ hL _
  have hval : ∀ (j : Nat) t v, Tryz.f12.params[j]? = some t → args[j]? = some v → Value.okWide Tryz.prog W .any base t v := hval0
  have hW' := hW
  obtain ⟨p, q, hA, hV, _, _, _⟩ := hW
  rw [Tryz.params12] at hA hval
  obtain ⟨v0, v1, d0, d1, p0, p1, rfl, rfl, rfl, h0, h1⟩ := trodAll_two hA
  obtain ⟨f0, h0⟩ := h0
  obtain ⟨a, n, cap, l, hcs, hn, hc1, hm, hr, _⟩ := read_bytes (P := Tryz.prog) rfl rfl (by kernel_rfl) h0
  obtain rfl := arg_slice rfl (hval 0 _ v0 rfl rfl) hcs
  obtain ⟨x, rfl, rfl, rfl, w1⟩ := open_int rfl (hval 1 _ v1 rfl rfl) h1
  obtain ⟨x, rfl⟩ := u8_nat w1
  exact law_calls (tb := 4) rfl (clones_law l x a n cap W.heap hr hn) hW' rfl (by obtain ⟨rfl, rfl⟩ := trodVars_none hV; rfl) rfl rfl laid_out (by kernel_rfl)
theorem over : Rows.TreeClonesSaid :=
  OpenClaim.holds_of_wide 12 Tryz.f12 rfl rfl rfl rfl rfl rfl rfl ⟨rfl, rfl, rfl, rfl, rfl⟩ rfl rfl rfl rfl rfl (by kernel_rfl) Tryz.func12 (by kernel_rfl)
    (of_decide_eq_true (by kernel_rfl)) (by unfold Func.isWrapper; first | (rw [if_pos (by decide +kernel)]; kernel_rfl) | (rw [if_neg (by decide +kernel)]; exact ⟨rfl, rfl⟩))
    (fun os started H enc _ => lifted os started H enc)
end clones
theorem clones_holds : Rows.TreeClonesCardSaid :=
  Claim7.holds_tied_plain_at .later [] [.data, .pinned] true (true, "fa521beaab008675041dd0e1fb15f94b2949958c8ac3bfd414fc9c8200a6e0e9") true clones.over (fun _ h => by cases h) (by kernel_rfl) (fun _ h => by cases h) treeClones_row_tie rfl ⟨rfl, rfl⟩ (by kernel_rfl) rfl
    (fun f fn hf hfn => by
      obtain rfl : f = 12 := Option.some.inj ((show Tryz.prog.funcNamed Tryz.f12.name = some 12 by kernel_rfl).symm.trans hf) |>.symm
      obtain rfl : fn = Tryz.f12 := (Option.some.inj (Tryz.func12.symm.trans hfn)).symm
      exact ⟨by kernel_rfl, fun j t ht => by
        rw [Tryz.params12] at ht
        have hm : t ∈ [25, 5] := by simpa using Array.mem_of_getElem? ht
        have hall : ([25, 5].all fun u => !Tryz.prog.wantsStandIn u) = true := by kernel_rfl
        exact (show Tryz.prog.wantsStandIn t = false by simpa using List.all_eq_true.1 hall t hm)⟩)
    (by kernel_rfl)

end Go.Proofs.YtihopeogaeinhaaGreatDoor
