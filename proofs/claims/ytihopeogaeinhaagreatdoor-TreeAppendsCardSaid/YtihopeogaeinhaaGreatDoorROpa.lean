import Derived.Test.YtihopeogaeinhaaGreatDoorKg
import Derived.Test.YtihopeogaeinhaaGreatDoorKh
import Derived.Test.YtihopeogaeinhaaGreatDoorTie
import Derived.Test.YtihopeogaeinhaaGreatDoorCards
import Derived.ProofKit
import Derived.OpenShut
import Derived.LaidMore
import Derived.Lay
import Derived.SevenTiedAt
import Derived.Stop.Joined
set_option linter.unusedVariables false
set_option linter.unusedSimpArgs false
set_option maxRecDepth 100000
/- TreeAppends: the walk. -/
namespace Go.Proofs.YtihopeogaeinhaaGreatDoor
open Go Go.Vc Go.Scr Go.Pth Go.Tre
def xy : Bs := [120, 47, 121]
def apT (b : Bs) : Tr := [([120], true, []), (xy, false, b)]
def apF (l : List Part) (i : Nat) : Tr := if i = 0 then [] else apT ((l.take i).flatMap (·.l))
theorem xy_clean : cleanF xy = (xy, 0) := by decide
theorem ap_write (b : Bs) (h : b.length ≤ 4000) : writeF [] xy b = (apT b, 0) := by
  unfold writeF; rw [xy_clean, if_pos rfl]
  show writeP [] xy b = _
  have e1 : dirF [] xy = false := by decide
  have e2 : fileF [] xy = false := by decide
  have e3 : lackF [] xy = [[120]] := by decide
  have e4 : moreF [] xy = 2 := by decide
  have e5 : oldF [] xy = 0 := by decide
  have e6 : sizeT [] = 0 := rfl
  unfold writeP
  rw [e1, e2, e3, e4, e5, e6, if_neg (by simp), if_neg (by simp; omega)]
  rfl
theorem ap_get (a : Bs) : mget (apT a) xy = some (false, a) := rfl
theorem ap_parts (a : Bs) : pars xy = [[120]] := by decide
theorem ap_over (a b : Bs) (ha : a.length ≤ 4000) (h : b.length ≤ 4000) : writeF (apT a) xy b = (apT b, 0) := by
  unfold writeF; rw [xy_clean, if_pos rfl]
  show writeP (apT a) xy b = _
  have e1 : dirF (apT a) xy = false := by unfold dirF; rw [ap_get]; rfl
  have e2 : fileF (apT a) xy = false := by unfold fileF; rw [ap_parts a]; rfl
  have e3 : lackF (apT a) xy = [] := by unfold lackF; rw [ap_parts a]; rfl
  have e4 : moreF (apT a) xy = 0 := by unfold moreF; rw [ap_get]; rfl
  have e5 : oldF (apT a) xy = a.length := by unfold oldF; rw [ap_get]
  have e6 : sizeT (apT a) = a.length := by simp [sizeT, apT]
  have e7 : (apT a).length = 2 := rfl
  unfold writeP
  rw [e1, e2, e3, e4, e5, e6, e7, if_neg (by simp), if_neg (by simp; omega)]
  rfl
theorem ap_app0 (b : Bs) (h : b.length ≤ 4000) : appendF [] xy b = (apT b, 0) := by
  rw [← ap_write b h]
  unfold appendF writeF bytesF; rw [xy_clean]; rfl
theorem ap_app (a b : Bs) (ha : a.length ≤ 4000) (h : (a ++ b).length ≤ 4000) : appendF (apT a) xy b = (apT (a ++ b), 0) := by
  rw [← ap_over a (a ++ b) ha h]
  unfold appendF writeF bytesF; rw [xy_clean]; rfl
theorem ap_okay (b : Bs) (h : b.length ≤ 4000) : Okay (apT b) := by have := Okay.nil.writeF xy b; rwa [ap_write b h] at this
theorem apF_okay (l : List Part) (i : Nat) (h : ((l.take i).flatMap (·.l)).length ≤ 4000) : Okay (apF l i) := by
  unfold apF; split
  · exact Okay.nil
  · exact ap_okay _ h
theorem all_snoc (l : List Part) (i : Nat) (p : Part) (h : l[i]? = some p) : (l.take (i + 1)).flatMap (·.l) = (l.take i).flatMap (·.l) ++ p.l := by
  rw [List.take_add_one, h, List.flatMap_append]; simp
theorem ap_step (l : List Part) (i : Nat) (p : Part) (h : l[i]? = some p) (hb : ((l.take (i + 1)).flatMap (·.l)).length ≤ 4000) :
    appendF (apF l i) xy p.l = (apF l (i + 1), 0) ∧ writeF (apF l i) xy ((l.take (i + 1)).flatMap (·.l)) = (apF l (i + 1), 0) := by
  have e := all_snoc l i p h
  have hb' : ((l.take i).flatMap (·.l)).length ≤ 4000 := by rw [e, List.length_append] at hb; omega
  have e1 : apF l (i + 1) = apT ((l.take (i + 1)).flatMap (·.l)) := by unfold apF; rw [if_neg (by omega)]
  rw [e1]
  unfold apF
  split
  · rename_i h0; subst h0
    refine ⟨?_, ap_write _ hb⟩
    rw [e]
    simp only [List.take_zero, List.flatMap_nil, List.nil_append]
    rw [e] at hb
    exact ap_app0 _ (by simpa using hb)
  · refine ⟨?_, ap_over _ _ hb' hb⟩
    rw [e]; rw [e] at hb
    exact ap_app _ _ hb' hb
def allP (l : List Part) (i : Nat) : Bs := (l.take i).flatMap (·.l)
theorem all_len (l : List Part) : ∀ i, (∀ p ∈ l.take i, p.l.length ≤ 200) → (allP l i).length ≤ 200 * i := by
  intro i
  induction i with
  | zero => intro _; simp [allP]
  | succ i ih =>
    intro h
    cases hp : l[i]? with
    | none =>
      have hle : l.length ≤ i := by rw [List.getElem?_eq_none_iff] at hp; exact hp
      have e : allP l (i + 1) = allP l i := by unfold allP; rw [List.take_of_length_le (by omega), List.take_of_length_le hle]
      have := ih fun p hq => h p (by rw [List.take_of_length_le (by omega)]; rw [List.take_of_length_le hle] at hq; exact hq)
      rw [e]; omega
    | some p =>
      have e : allP l (i + 1) = allP l i ++ p.l := all_snoc l i p hp
      have h1 := ih fun q hq => h q (by rw [List.take_add_one]; exact List.mem_append_left _ hq)
      have h2 := h p (by rw [List.take_add_one, hp]; simp)
      rw [e, List.length_append]; omega
/-- the block of an address -/
def blkA (a : Option Addr) : Nat → Prop := fun x => ∃ p, a = some p ∧ p.block = x
theorem own_blk {H : Heap} {base n cap : Nat} {a : Option Addr} {e : TypeId} {k : Nat} {xs : List Value} (ho : Own H base e k a n cap xs) {p : Addr} (hp : a = some p) : ∃ c, Blk H p.block c e := by
  rcases ho.out with ⟨h1, _⟩ | ⟨g, cur, h1, _, hb, _⟩
  · rw [h1] at hp; cases hp
  · rw [h1] at hp; cases hp; exact ⟨_, hb⟩
theorem TreeO.grown {H H' : Heap} {b mb base n cap base' n' cap' : Nat} {A : Tr} {sa a4 : Option Addr} {xs ys : List Value} (h : TreeO (blkA sa) H b mb A) (ho : Own H base 5 1 sa n cap xs) (hw : Wr sa H H') (ho4 : Own H' base' 5 1 a4 n' cap' ys) (hn : ∀ p, a4 = some p → a4 = sa ∨ H.size ≤ p.block) : TreeO (blkA a4) H' b mb A := by
  refine h.keepY hw ?_ ?_ ?_ ?_
  · rintro ⟨p, hp, rfl⟩
    obtain ⟨c, hb⟩ := own_blk ho hp
    exact absurd (blk_one hb h.blk).1 (by decide)
  · rintro ⟨p, hp, e⟩
    obtain ⟨c, hb⟩ := own_blk ho hp
    exact h.map.ne hb e.symm
  · rintro x ⟨p, hp, rfl⟩ _
    obtain ⟨c, hb⟩ := own_blk ho hp
    exact .inr ⟨⟨p, hp, rfl⟩, fun d hd => absurd (blk_one hb hd).1 (by decide)⟩
  · rintro x ⟨p, hp, rfl⟩
    refine ⟨(ho4.block p hp).2, ?_⟩
    rcases hn p hp with e | e
    · exact .inl ⟨p, e ▸ hp, rfl⟩
    · exact .inr e
theorem own_tree {Z : Nat → Prop} {H H' : Heap} {b mb base n cap : Nat} {A : Tr} {a : Option Addr} {xs : List Value} (ho : Own H base 5 1 a n cap xs) (h : TreeO Z H b mb A) (k : ButT b mb H H') : Own H' base 5 1 a n cap xs := ho.keep k fun p hp e => by
  obtain ⟨c, hb⟩ := own_blk ho hp
  rcases e with e | e
  · rw [e] at hb; exact absurd (blk_one hb h.blk).1 (by decide)
  · exact h.map.ne hb e.symm
structure ApS where
  i : Nat
  a : Option Addr
  cap : Nat
theorem appends_walk (l : List Part) (a : Option Addr) (n cap : Nat) (H : Heap) (hr : Parts H a l) (hn : l.length = n) (hl : n ≤ 20) :
    CallH Tryz.prog 9 [.slice a n cap] H fun v H' => v = .bool true ∧ Ext H H' := by
  refine Vc.CallH.body Tryz.func9 Tryz.call9 rfl (by decide +kernel) rfl ?_
  ((conv => whnf); repeat (any_goals (first | ((refine (known_any _).mono ?_; rintro _ H1 ⟨rfl, hx1⟩; have hz1 := hx1.size); (conv => whnf)) | ((refine (newZ_any (Z := blkA none) (fun x h => by obtain ⟨p, h, _⟩ := h; cases h)).mono ?_; rintro _ H2 ⟨⟨b, mb, rfl, ht2, hb2, hm2⟩, hx2⟩; have hz2 := hx2.size); (conv => whnf)) | (refine Vc.stp ?_; intros; (conv => whnf)))))
  rename_i A2 xa ba ma ta hba hma hza
  have hx12 : Ext H1 H2 := xa.trans hx2
  have hne : ba ≠ b := by have := (ta.blk).lt; omega
  have hnm : ma ≠ mb := by have := (ta.map).lt; omega
  refine LoopH.intro (fun (x : ApS) => [(6, .int .i64 x.i), (5, .slice x.a (allP l x.i).length x.cap)])
    (fun x H' => x.i ≤ n ∧ (∀ p ∈ l.take x.i, p.l.length ≤ 200) ∧ TreeO (blkA x.a) H' ba ma (apF l x.i) ∧ TreeO (blkA x.a) H' b mb (apF l x.i) ∧ Own H' H1.size 5 1 x.a (allP l x.i).length x.cap (strV (allP l x.i)) ∧ Ext H1 H') (fun x => n - x.i) ⟨0, none, 0⟩ ⟨rfl, rfl, trivial⟩ ⟨Nat.zero_le _, by (show ∀ p ∈ l.take 0, _; rw [List.take_zero]; intro p hp; cases hp), ta.ext hx2, ht2, Own.nil _ _ _ _, hx12⟩ ?_
  rintro ⟨i, sa, scap⟩ H3 ⟨hi, hall, hta, htb, ho3, hx3⟩
  dsimp only at hi hall hta htb ho3 ⊢
  have hz3 := hx3.size
  have hb200 := all_len l i hall
  by_cases hlt : i < n
  · obtain ⟨p, hp⟩ : ∃ p, l[i]? = some p := ⟨_, List.getElem?_eq_getElem (by omega)⟩
    have hpk : l[i] = p := by rw [List.getElem?_eq_getElem (by omega)] at hp; exact Option.some.inj hp
    have hpm := List.mem_of_getElem? hp
    have hpo := hr.each p hpm
    have hpl := hpo.len
    by_cases h200 : p.l.length ≤ 200
    · have hall' : ∀ q ∈ l.take (i + 1), q.l.length ≤ 200 := by
        rw [List.take_add_one, hp]
        intro q hq
        rcases List.mem_append.1 hq with hq | hq
        · exact hall q hq
        · rw [List.mem_singleton.1 hq]; exact h200
      have hb2001 := all_len l (i + 1) hall'
      have hsn : allP l (i + 1) = allP l i ++ p.l := all_snoc l i p hp
      obtain ⟨hap1, hap2⟩ := ap_step l i p hp (by show (allP l (i + 1)).length ≤ 4000; omega)
      have hok := apF_okay l i (by show (allP l i).length ≤ 4000; omega)
      have hal : (allP l (i + 1)).length = (allP l i).length + p.n := by rw [hsn, List.length_append, hpl]
      ((conv => whnf); repeat (any_goals (first | ((refine IdxA.part (hr.ext (hx1.trans (by (repeat (first | assumption | exact Vc.Ext.refl _ | ((with_reducible apply Vc.Ext.trans); (case k => assumption)) | ((with_reducible apply Vc.Ext.but); (case k => assumption); (case hb => omega))))))) hn i rfl (by omega) ?_; intro bo oo _ hcx; rw [hpk] at hcx; replace hcx : hcell _ _ = some (.slice p.a p.n p.cap) := hcx); (conv => whnf)) | ((refine NextH.append (m := p.n) (i := Tryz.t5) (z := .int .u8 0) (base := H1.size) rfl ⟨_, rfl, fun _ h => by cases h⟩ rfl rfl rfl ho3 (Src.row (hpo.row.ext (hx1.trans hx3)) (by rw [strV_length, hpl]; exact (Nat.mul_one _).symm) (strV_plain _)) (by unfold maxLen; omega) (by show ((allP l i).length + p.n) * 1 ≤ _; omega) (by omega) ?_; intro a4 c4 H4 ho4 hw4 hn4; have hx4 := hx3.wr ho3 (Nat.le_refl _) hw4; have hta4 := hta.grown ho3 hw4 ho4 hn4; have htb4 := htb.grown ho3 hw4 ho4 hn4; rw [← strV_append, ← hsn, ← hal] at ho4; rw [← hal]); (conv => whnf)) | ((refine (append_any hta4 hok xy p.l p.a p.n p.cap (hpo.row.ext (hx1.trans hx4)) hpl hpo.cap (by omega)).mono ?_; rintro v6 H6 hd6; (have hv6 := hd6.code); rw [hap1] at hv6 hd6; subst hv6; have hta6 := hd6.tree; have htb6 := htb4.other hta4 hne.symm hnm.symm hd6.only; have hx6 := ext_t hx4 hd6.only hba hma; have ho6 := own_tree ho4 hta4 hd6.only; have hz6 := hx6.size; clear hd6); (conv => whnf)) | ((refine (write_any htb6 hok xy (allP l (i + 1)) a4 _ c4 ho6.row rfl (by omega)).mono ?_; rintro v7 H7 hd7; (have hv7 := hd7.code); have hap2' : writeF (apF l i) xy (allP l (i + 1)) = (apF l (i + 1), 0) := hap2; rw [hap2'] at hv7 hd7; subst hv7; have htb7 := hd7.tree; have hta7 := hta6.other htb6 hne hnm hd7.only; have hx7 := ext_t hx6 hd7.only (by omega) (by omega); have ho7 := own_tree ho6 htb6 hd7.only; clear hd7); (conv => whnf)) | (refine Vc.stp ?_; intros; (conv => whnf)))))
      exact ⟨⟨i + 1, a4, c4⟩, ⟨rfl, rfl, trivial⟩, ⟨by show i + 1 ≤ n; omega, hall', hta7, htb7, ho7, hx7⟩, by show n - (i + 1) < n - i; omega⟩
    · ((conv => whnf); repeat (any_goals (first | ((refine IdxA.part (hr.ext (hx1.trans (by (repeat (first | assumption | exact Vc.Ext.refl _ | ((with_reducible apply Vc.Ext.trans); (case k => assumption)) | ((with_reducible apply Vc.Ext.but); (case k => assumption); (case hb => omega))))))) hn i rfl (by omega) ?_; intro bo oo _ hcx; rw [hpk] at hcx; replace hcx : hcell _ _ = some (.slice p.a p.n p.cap) := hcx); (conv => whnf)) | (refine Vc.stp ?_; intros; (conv => whnf)))))
      exact ⟨rfl, hx1.trans hx3⟩
  · obtain rfl : i = n := by omega
    have ok := apF_okay l i (by show (allP l i).length ≤ 4000; omega)
    have okf : ∀ k n, mget (apF l i) k = some n → n.2.length ≤ 1000000000 := fun k n h => Nat.le_trans (ok.file k n h).1 (by decide)
    have okc := ok.count
    ((conv => whnf); repeat (any_goals (first | ((refine (files_any (hta.ext (by (repeat (first | assumption | exact Vc.Ext.refl _ | ((with_reducible apply Vc.Ext.trans); (case k => assumption)) | ((with_reducible apply Vc.Ext.but); (case k => assumption); (case hb => omega)))))) ok.sorted (by omega) okf).mono ?_; rintro _ H4 ⟨⟨a4, c4, rfl, hc4, hr4, _⟩, hx4⟩; have hz4 := hx4.size); (conv => whnf)) | ((refine (files_any (htb.ext (by (repeat (first | assumption | exact Vc.Ext.refl _ | ((with_reducible apply Vc.Ext.trans); (case k => assumption)) | ((with_reducible apply Vc.Ext.but); (case k => assumption); (case hb => omega)))))) ok.sorted (by omega) okf).mono ?_; rintro _ H5 ⟨⟨a5, c5, rfl, hc5, hr5, _⟩, hx5⟩; have hz5 := hx5.size); (conv => whnf)) | ((refine (hfiles_any (apF l i) (apF l i) a4 a5 _ _ c4 c5 _ (hr4.ext (by (repeat (first | assumption | exact Vc.Ext.refl _ | ((with_reducible apply Vc.Ext.trans); (case k => assumption)) | ((with_reducible apply Vc.Ext.but); (case k => assumption); (case hb => omega)))))) (hr5.ext (by (repeat (first | assumption | exact Vc.Ext.refl _ | ((with_reducible apply Vc.Ext.trans); (case k => assumption)) | ((with_reducible apply Vc.Ext.but); (case k => assumption); (case hb => omega)))))) rfl rfl (by omega) (by omega)).mono ?_; rintro _ _ ⟨rfl, rfl⟩; rw [decide_eq_true rfl]); (conv => whnf)) | (refine Vc.stp ?_; intros; (conv => whnf)))))
    exact ⟨rfl, hx1.trans ((hx3.trans hx4).trans hx5)⟩
theorem appends_long (a : Option Addr) (n cap : Nat) (H : Heap) (hl : ¬ n ≤ 20) :
    CallH Tryz.prog 9 [.slice a n cap] H fun v H' => v = .bool true ∧ Ext H H' := by
  refine Vc.CallH.body Tryz.func9 Tryz.call9 rfl (by decide +kernel) rfl ?_
  ((conv => whnf); repeat (any_goals (first | ((refine (known_any _).mono ?_; rintro _ H1 ⟨rfl, hx1⟩; have hz1 := hx1.size); (conv => whnf)) | (refine Vc.stp ?_; intros; (conv => whnf)) | (refine Vc.spl ?_ ?_ <;> (intro _; (conv => whnf))))))
  exact ⟨rfl, hx1⟩
end Go.Proofs.YtihopeogaeinhaaGreatDoor
/- What is appended, piece by piece, is what is written at once. The package variables that the card lists hold what the program's text lays. -/
namespace Go.Proofs.YtihopeogaeinhaaGreatDoor
open Go Go.Vc Go.Scr Go.Pth Go.Tre Go.ChangeShapes Go.WideShapes Go.ChangeAt Go.RowKit
theorem laid_out : laidOutB Tryz.prog = true := by kernel_rfl
theorem own : ownKnob Tryz.prog.godebug = none := by kernel_rfl
theorem appends_law (l : List Part) (a : Option Addr) (n cap : Nat) (H : Heap) (hr : Parts H a l) (hn : l.length = n) :
    CallH Tryz.prog 9 [.slice a n cap] H fun v H' => v = .bool true ∧ Ext H H' := by
  by_cases hl : n ≤ 20
  · exact appends_walk l a n cap H hr hn hl
  · exact appends_long a n cap H hl
namespace appends
set_option maxRecDepth 100000 in
theorem lifted (os : Os) (started : os.Started) (H : Type) (enc : TypeId × Value → H) :
    ReturnsInHanded {} Tryz.checked os 9 .any (fun w args => (Rows.treeAppendsSpec.pre enc Tryz.prog Tryz.f9 Rows.treeAppendsRow.domain false w args ∧ laidMetH Tryz.prog Rows.treeAppendsRow.laid w) ∧ sizedMet enc Tryz.prog Tryz.f9 (OpenSpec.ofChange Rows.treeAppendsSpec) false w args)
      (Rows.treeAppendsSpec.post enc Tryz.prog Tryz.f9 false true false false) := by
  refine returnsInHanded_of_change_and (C := Tryz.checked) (X := fun w _ => laidMetH Tryz.prog Rows.treeAppendsRow.laid w) (fun _ _ _ hh h => h.of_heap hh) own started (by kernel_rfl) Tryz.func9
    (ChangeSpec.witness_shaped (enc := enc) (C := Tryz.checked) (os := os) (X := fun w _ => laidMetH Tryz.prog Rows.treeAppendsRow.laid w) false (World.laidAll Tryz.prog os Rows.treeAppendsRow.laid) #[.slice none 0 0] 8 (World.laidAll_os _ _ _)
      (World.shaped_of_ZipB (by kernel_rfl) (by kernel_rfl)) (by kernel_rfl) (by kernel_rfl) (by kernel_rfl)
      (by rw [MakeChecks.laidMetH_plain _ _ _ (by kernel_rfl)]; exact laidMet_laidAll _ (by kernel_rfl) (by kernel_rfl))) ?_
  intro W base args ds gs before hval0 hW hc _ hL _
  have hval : ∀ (j : Nat) t v, Tryz.f9.params[j]? = some t → args[j]? = some v → Value.okWide Tryz.prog W .any base t v := hval0
  have hW' := hW
  obtain ⟨p, q, hA, hV, _, _, _⟩ := hW
  rw [Tryz.params9] at hA hval
  obtain ⟨v0, d0, rfl, rfl, h0⟩ := trodAll_one hA
  obtain ⟨f0, h0⟩ := h0
  obtain ⟨a, n, cap, ps, hcs, hn, hm, hps, hcap⟩ := read_parts (b := 5) rfl rfl rfl (by kernel_rfl) (by kernel_rfl) h0
  obtain rfl := arg_slice rfl (hval 0 _ v0 rfl rfl) hcs
  exact law_calls (tb := 4) rfl (appends_law ps a n cap W.heap hps hn) hW' rfl (by obtain ⟨rfl, rfl⟩ := trodVars_none hV; rfl) rfl rfl laid_out (by kernel_rfl)
theorem over : Rows.TreeAppendsSaid :=
  OpenClaim.holds_of_wide 9 Tryz.f9 rfl rfl rfl rfl rfl rfl rfl ⟨rfl, rfl, rfl, rfl, rfl⟩ rfl rfl rfl rfl rfl (by kernel_rfl) Tryz.func9 (by kernel_rfl)
    (of_decide_eq_true (by kernel_rfl)) (by unfold Func.isWrapper; first | (rw [if_pos (by decide +kernel)]; kernel_rfl) | (rw [if_neg (by decide +kernel)]; exact ⟨rfl, rfl⟩))
    (fun os started H enc _ => lifted os started H enc)
end appends
theorem appends_holds : Rows.TreeAppendsCardSaid :=
  Claim7.holds_tied_plain_at .later [] [.data, .pinned] true (true, "fa521beaab008675041dd0e1fb15f94b2949958c8ac3bfd414fc9c8200a6e0e9") true appends.over (fun _ h => by cases h) (by kernel_rfl) (fun _ h => by cases h) treeAppends_row_tie rfl ⟨rfl, rfl⟩ (by kernel_rfl) rfl
    (fun f fn hf hfn => by
      obtain rfl : f = 9 := Option.some.inj ((show Tryz.prog.funcNamed Tryz.f9.name = some 9 by kernel_rfl).symm.trans hf) |>.symm
      obtain rfl : fn = Tryz.f9 := (Option.some.inj (Tryz.func9.symm.trans hfn)).symm
      exact ⟨by kernel_rfl, fun j t ht => by
        rw [Tryz.params9] at ht
        have hm : t ∈ [31] := by simpa using Array.mem_of_getElem? ht
        have hall : ([31].all fun u => !Tryz.prog.wantsStandIn u) = true := by kernel_rfl
        exact (show Tryz.prog.wantsStandIn t = false by simpa using List.all_eq_true.1 hall t hm)⟩)
    (by kernel_rfl)

end Go.Proofs.YtihopeogaeinhaaGreatDoor
