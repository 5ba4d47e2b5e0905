import Derived.Test.YtihopeogaeinhaaGreatDoorKf
import Derived.Test.YtihopeogaeinhaaGreatDoorKg
set_option linter.unusedVariables false
set_option linter.unusedSimpArgs false
set_option maxRecDepth 100000
/- TreeFull: the plain law and the walk. -/
namespace Go.Proofs.YtihopeogaeinhaaGreatDoor
open Go Go.Vc Go.Scr Go.Pth Go.Tre
/-- how a tree fills -/
structure Fl (A : Tr) (i : Nat) : Prop where
  ok : Okay A
  files : ∀ k n, mget A k = some n → n.1 = false ∧ (k = [120] ∨ ∃ j, j < i ∧ k = [121, UInt8.ofNat (97 + j)])
  len : A.length ≤ i + 1
  size : 65536 * i ≤ sizeT A ∨ 983040 < sizeT A
def yF (i : Nat) : Bs := [121, UInt8.ofNat (97 + i)]
theorem y_all : (List.range 18).all (fun i => decide (cleanF (yF i) = (yF i, 0)) && (pars (yF i) == []) && !(yF i == [])) = true := by kernel_rfl
structure Yf (i : Nat) : Prop where
  clean : cleanF (yF i) = (yF i, 0)
  pars : pars (yF i) = []
  ne : yF i ≠ []
theorem y_at {i : Nat} (h : i < 18) : Yf i := by
  have := List.all_eq_true.1 y_all i (List.mem_range.2 h)
  simp only [Bool.and_eq_true, decide_eq_true_eq, Bool.not_eq_true'] at this
  obtain ⟨⟨h1, h2⟩, h3⟩ := this
  exact ⟨h1, by simpa using h2, by simpa using h3⟩
def zs (n : Nat) : Bs := List.replicate n 0
theorem zs_len (n : Nat) : (zs n).length = n := List.length_replicate
theorem fl_step {A : Tr} {i m : Nat} (hm : m = 65536) (h : Fl A i) (hi : i < 18) : ((writeF A (yF i) (zs m)).2 = 0 ∨ (writeF A (yF i) (zs m)).2 = 55) ∧ (i = 17 → (writeF A (yF i) (zs m)).2 = 55) ∧ Fl (writeF A (yF i) (zs m)).1 (i + 1) := by
  have y := y_at hi
  have hok := h.ok.writeF (yF i) (zs m)
  have hno : mget A (yF i) = none := by
    cases hg : mget A (yF i) with
    | none => rfl
    | some n =>
      exfalso
      rcases (h.files _ _ hg).2 with e | ⟨j, hj, e⟩
      · unfold yF at e; simp at e
      · unfold yF at e
        have e : UInt8.ofNat (97 + i) = UInt8.ofNat (97 + j) := by simpa using e
        have := congrArg UInt8.toNat e
        simp only [UInt8.toNat_ofNat'] at this
        omega
  have hdir : dirF A (yF i) = false := by
    unfold dirF; rw [hno]; simpa using y.ne
  have hfile : fileF A (yF i) = false := by unfold fileF; rw [y.pars]; rfl
  have hlack : lackF A (yF i) = [] := by unfold lackF; rw [y.pars]; rfl
  have hold : oldF A (yF i) = 0 := by unfold oldF; rw [hno]
  have hmore : moreF A (yF i) = 1 := by unfold moreF; rw [hno, hlack]; simp
  have hzl : (zs m).length = 65536 := by rw [zs_len, hm]
  have hlen := h.len
  have hsz := h.ok.size
  have e : writeF A (yF i) (zs m) = if 983040 < sizeT A then (A, 55) else (putF A (yF i) (false, zs m), 0) := by
    unfold writeF
    rw [y.clean, if_pos rfl]
    show writeP A (yF i) _ = _
    unfold writeP
    rw [if_neg (by rw [hdir, hfile]; simp), hold, hmore, hlack, hzl]
    by_cases h1 : 983040 < sizeT A
    · rw [if_pos h1, if_pos (by omega)]
    · rw [if_neg h1, if_neg (by omega)]; rfl
  by_cases h1 : 983040 < sizeT A
  · rw [e, if_pos h1] at hok ⊢
    exact ⟨.inr rfl, fun _ => rfl, hok, fun k n hk => ⟨(h.files k n hk).1, (h.files k n hk).2.imp id fun ⟨j, hj, ej⟩ => ⟨j, by omega, ej⟩⟩, by show A.length ≤ _; omega, .inr h1⟩
  · rw [e, if_neg h1] at hok ⊢
    have hs := h.size.resolve_right h1
    have a2 := putF_len h.ok.sorted (yF i) (false, zs m)
    have a3 := putF_size h.ok.sorted (yF i) (false, zs m)
    rw [if_pos hno] at a2
    rw [hold] at a3
    have a3 : sizeT (putF A (yF i) (false, zs m)) = sizeT A + 65536 := by rw [show (false, zs m).2.length = 65536 from hzl] at a3; exact a3
    refine ⟨.inl rfl, fun e17 => by omega, hok, fun k n hk => ?_, by show (putF A _ _).length ≤ _; omega, .inl (by show _ ≤ sizeT (putF A _ _); omega)⟩
    rw [mget_putF] at hk
    by_cases hkk : k = yF i
    · rw [if_pos hkk] at hk; cases hk
      exact ⟨rfl, .inr ⟨i, by omega, hkk⟩⟩
    · rw [if_neg hkk] at hk
      exact ⟨(h.files k n hk).1, (h.files k n hk).2.imp id fun ⟨j, hj, ej⟩ => ⟨j, by omega, ej⟩⟩
theorem fl_first (m : Nat) (hm : m ≤ 65537) : (writeF [] [120] (zs m)).2 = (if 65536 < m then 55 else 0) ∧ Fl (writeF [] [120] (zs m)).1 0 := by
  have hok := Okay.nil.writeF [120] (zs m)
  have hzl : (zs m).length = m := zs_len m
  have e : writeF [] [120] (zs m) = if 65536 < m then ([], 55) else ([([120], false, zs m)], 0) := by
    unfold writeF
    have e0 : cleanF [120] = ([120], 0) := by decide
    rw [e0, if_pos rfl]
    show writeP [] [120] _ = _
    have e1 : dirF [] [120] = false := by decide
    have e2 : fileF [] [120] = false := by decide
    have e3 : lackF [] [120] = [] := by decide
    have e4 : moreF [] [120] = 1 := by decide
    have e5 : oldF [] [120] = 0 := by decide
    have e6 : sizeT [] = 0 := rfl
    unfold writeP
    rw [e1, e2, e3, e4, e5, e6, hzl, if_neg (by simp)]
    by_cases h1 : 65536 < m
    · rw [if_pos h1, if_pos (.inl h1)]
    · rw [if_neg h1, if_neg (by simp; omega)]; rfl
  rw [e] at hok ⊢
  by_cases h1 : 65536 < m
  · rw [if_pos h1] at hok ⊢
    rw [if_pos h1]
    exact ⟨rfl, hok, fun k n hk => by simp [mget] at hk, by simp, .inl (by simp)⟩
  · rw [if_neg h1] at hok ⊢
    rw [if_neg h1]
    refine ⟨rfl, hok, fun k n hk => ?_, by simp, .inl (by simp)⟩
    simp only [mget] at hk
    split at hk
    · rename_i hk2; cases hk; exact ⟨rfl, .inl hk2⟩
    · cases hk
structure FuS where
  i : Nat
  A : Tr
structure FvS where
  i : Nat
  A : Tr
  e : Nat
set_option maxHeartbeats 4000000 in
theorem full_walk (n x : Nat) (hn : n < 65536) (hx : x < 256) (H : Heap) :
    CallH Tryz.prog 11 [.int .u16 n, .int .u8 x] H fun v H' => v = .bool true ∧ Ext H H' := by
  refine Vc.CallH.body Tryz.func11 Tryz.call11 rfl (by decide +kernel) rfl ?_
  ((conv => whnf); repeat (any_goals (first | ((refine (known_any _).mono ?_; rintro _ H1 ⟨rfl, hx1⟩; have hz1 := hx1.size); (conv => whnf)) | ((refine (new_any _).mono ?_; rintro _ H2 ⟨⟨b, mb, rfl, ht2, hb2, hm2⟩, hx2⟩; have hz2 := hx2.size); (conv => whnf)) | ((refine PureH.build #[.slice none 0 0] (by kernel_rfl) ?_); (conv => whnf)) | ((first | (with_reducible refine Vc.DrawH.lin (id := 19) mixed ?_) | (with_reducible refine Vc.DrawL.split (es := []) 5 7 (by decide) (by decide) (by decide) ?_ ?_) | (with_reducible refine Vc.DrawL.held (es := [(5, 7)]) [0, 1, 2, 3, 4, 5, 6, 7, 8, 9] [] (by decide +kernel) ?_) | (with_reducible refine Vc.DrawL.split (es := [(7, 5)]) 4 7 (by decide) (by decide) (by decide) ?_ ?_) | (with_reducible refine Vc.DrawL.held (es := [(4, 7), (7, 5)]) [0, 1, 2, 3, 4, 7, 5, 6, 8, 9] [] (by decide +kernel) ?_) | (with_reducible refine Vc.DrawL.held (es := [(7, 4), (7, 5)]) [0, 1, 2, 3, 7, 4, 5, 6, 8, 9] [] (by decide +kernel) ?_)); (conv => whnf)) | (((with_reducible refine Vc.DrawH.held [0, 1, 2, 3, 5, 6, 7, 8, 4, 9, 10, 11] [(4, [8])] mixed (by decide +kernel) ?_)); (conv => whnf)) | (refine Vc.stp ?_; intros; (conv => whnf)))))
  rename_i H3 z3 b3 x3
  have hx13 : Ext H1 H3 := hx2.trans x3
  have e6 : (497 : Int) + (n : Int) % 6 = ((497 + n % 6 : Nat) : Int) := by omega
  obtain ⟨K, hK⟩ : ∃ K, K = 497 + n % 6 := ⟨_, rfl⟩
  have hK6 : K ≤ 502 := by omega
  refine LoopH.intro (fun (s : FuS) => [(8, .int .i64 s.i)]) (fun s H' => s.i ≤ K ∧ Okay s.A ∧ TreeO no H' b mb s.A ∧ RTree H' H2.size s.A ∧ Ext H1 H') (fun s => K - s.i) ⟨0, []⟩ ⟨rfl, trivial⟩ ⟨Nat.zero_le _, Okay.nil, ht2.ext x3, RTree.of (n := 0) (cap := 0) (a := none) b3 rfl (Nat.le_refl _) (RowF.nil _ _), hx13⟩ ?_
  rintro ⟨i, A⟩ H4 ⟨hi, ok, ht4, hr4, hx4⟩
  dsimp only at hi ok ht4 hr4 ⊢
  have hz4 := hx4.size
  have okc := ok.count
  by_cases hlt : i < K
  · have hlt' : (i : Int) < 497 + (n : Int) % 6 := by omega
    obtain ⟨u, eu⟩ : ∃ u : UInt8, 97 + (i : Int) / 26 % 26 = (u.toNat : Int) := ⟨UInt8.ofNat (97 + i / 26 % 26), by rw [UInt8.toNat_ofNat']; omega⟩
    obtain ⟨v, ev⟩ : ∃ u : UInt8, 97 + (i : Int) % 26 = (u.toNat : Int) := ⟨UInt8.ofNat (97 + i % 26), by rw [UInt8.toNat_ofNat']; omega⟩
    obtain ⟨w, ew⟩ : ∃ u : UInt8, 97 + (i : Int) / 676 = (u.toNat : Int) := ⟨UInt8.ofNat (97 + i / 676), by rw [UInt8.toNat_ofNat']; omega⟩
    have hpl : ([u, v, w] : Bs).length ≤ 100000000 := (show 3 ≤ 100000000 by decide)
    have okM := ok.mkdirF [u, v, w]
    ((conv => whnf); repeat (any_goals (first | ((rename_i Hl zl bl xl; rw [eu, ev, ew] at bl; refine to_string' (l := [u, v, w]) rfl rfl rfl (Blk.row (c := strV [u, v, w]) bl) rfl ?_; have ht5 := ht4.ext xl; have hr5 := hr4.ext xl; have hx5 := hx4.trans xl; have hz5 := hx5.size); (conv => whnf)) | ((refine (mkdir_any ht5 ok [u, v, w]).mono ?_; rintro _ H6 hd6; obtain rfl := hd6.code; have ht6 := hd6.tree; have hr6 := hr5.other ht5 hd6.only; have hx6 := ext_t hx5 hd6.only hb2 hm2; have hz6 := hx6.size; clear hd6); (conv => whnf)) | ((refine (rmkdir_any hr6 ok [u, v, w] hpl).mono ?_; rintro _ H7 hd7; obtain rfl := hd7.code; have hr7 := hd7.tree; have ht7 := ht6.otherR hr6 hd7.only; have hx7 := hx6.but hd7.only (by omega); clear hd7); (conv => whnf)) | ((first | (with_reducible refine Vc.DrawH.lin (id := 19) mixed ?_) | (with_reducible refine Vc.DrawL.split (es := []) 5 7 (by decide) (by decide) (by decide) ?_ ?_) | (with_reducible refine Vc.DrawL.held (es := [(5, 7)]) [0, 1, 2, 3, 4, 5, 6, 7, 8, 9] [] (by decide +kernel) ?_) | (with_reducible refine Vc.DrawL.split (es := [(7, 5)]) 4 7 (by decide) (by decide) (by decide) ?_ ?_) | (with_reducible refine Vc.DrawL.held (es := [(4, 7), (7, 5)]) [0, 1, 2, 3, 4, 7, 5, 6, 8, 9] [] (by decide +kernel) ?_) | (with_reducible refine Vc.DrawL.held (es := [(7, 4), (7, 5)]) [0, 1, 2, 3, 7, 4, 5, 6, 8, 9] [] (by decide +kernel) ?_)); (conv => whnf)) | (((with_reducible refine Vc.DrawH.held [0, 1, 2, 3, 5, 6, 7, 8, 4, 9, 10, 11] [(4, [8])] mixed (by decide +kernel) ?_)); (conv => whnf)) | (refine Vc.stp ?_; intros; (conv => whnf)))))
    exact ⟨⟨i + 1, _⟩, ⟨rfl, trivial⟩, ⟨by show i + 1 ≤ K; omega, okM, ht7, hr7, hx7⟩, by show K - (i + 1) < K - i; omega⟩
  · have hlt' : ¬ (i : Int) < 497 + (n : Int) % 6 := by omega
    obtain ⟨M, hM⟩ : ∃ M, M = 65534 + x % 4 := ⟨_, rfl⟩
    have eM : (65534 : Int) + (x : Int) % 4 = (M : Int) := by omega
    have okf : ∀ k n, mget A k = some n → n.2.length ≤ 1000000000 := fun k n h => Nat.le_trans (ok.file k n h).1 (by decide)
    obtain ⟨hf1, hf2⟩ := fl_first M (by omega)
    have hmk : (madeCells (Value.int .u8 0).cells (M * 1)).toList = strV (zs M) := made_strV M
    have hzM := zs_len M
    have hcases : ((writeF [] [120] (zs M)).2 = 0 ∧ M ≤ 65536) ∨ ((writeF [] [120] (zs M)).2 = 55 ∧ 65536 < M) := by
      by_cases h : 65536 < M
      · rw [if_pos h] at hf1; exact .inr ⟨hf1, h⟩
      · rw [if_neg h] at hf1; exact .inl ⟨hf1, by omega⟩
    obtain ⟨W, hW⟩ : ∃ W, W = 65536 := ⟨_, rfl⟩
    have hmkW : (madeCells (Value.int .u8 0).cells (W * 1)).toList = strV (zs W) := made_strV W
    have hzW := zs_len W
    have hzW6 : (zs W).length = 65536 := by rw [hzW, hW]
    rcases hcases with ⟨hc, hm⟩ | ⟨hc, hm⟩
    · have hcnd : (!((((0 : Nat) : Int) == 55) == decide ((65536 : Int) < (M : Int)))) = false := by rw [decide_eq_false (by omega)]; rfl
      ((conv => whnf); repeat (any_goals (first | ((rw [eM]; refine SemH.make rfl rfl rfl (by (show 1 * M ≤ _; omega)) (by unfold maxLen; omega) ?_; intro H5 ho5 hx5; replace ho5 : Own H5 H4.size 5 1 (some ⟨H4.size, 0, none⟩) M M (strV (zs M)) := (by rw [← hmk]; exact ho5); have hz5 := hx5.size); (conv => whnf)) | ((refine (new_any _).mono ?_; rintro _ H6 ⟨⟨ub, um, rfl, hu6, hub, hum⟩, hx6⟩; have hz6 := hx6.size; have hx46 := hx5.trans hx6; have ho6 := ho5.ext hx6); (conv => whnf)) | ((refine (write_any hu6 Okay.nil [120] (zs M) _ _ _ ho6.row hzM (by omega)).mono ?_; rintro _ H7 hd7; (have hv7 := hd7.code); rw [hc] at hv7; subst hv7; have hu7 := hd7.tree; have hx47 := ext_t hx46 hd7.only (by omega) (by omega); clear hd7); (conv => whnf)) | ((first | (with_reducible refine Vc.DrawH.lin (id := 19) mixed ?_) | (with_reducible refine Vc.DrawL.split (es := []) 5 7 (by decide) (by decide) (by decide) ?_ ?_) | (with_reducible refine Vc.DrawL.held (es := [(5, 7)]) [0, 1, 2, 3, 4, 5, 6, 7, 8, 9] [] (by decide +kernel) ?_) | (with_reducible refine Vc.DrawL.split (es := [(7, 5)]) 4 7 (by decide) (by decide) (by decide) ?_ ?_) | (with_reducible refine Vc.DrawL.held (es := [(4, 7), (7, 5)]) [0, 1, 2, 3, 4, 7, 5, 6, 8, 9] [] (by decide +kernel) ?_) | (with_reducible refine Vc.DrawL.held (es := [(7, 4), (7, 5)]) [0, 1, 2, 3, 7, 4, 5, 6, 8, 9] [] (by decide +kernel) ?_)); (conv => whnf)) | (((with_reducible refine Vc.DrawH.held [0, 1, 2, 3, 5, 6, 7, 8, 4, 9, 10, 11] [(4, [8])] mixed (by decide +kernel) ?_)); (conv => whnf)) | (refine Vc.stp ?_; intros; (conv => whnf)))))
      (refine LoopH.intro (fun (s : FvS) => [(13, .int .i64 s.i), (12, .int .i64 s.e)]) (fun s H' => s.i ≤ 18 ∧ Fl s.A s.i ∧ TreeO no H' ub um s.A ∧ Ext H4 H' ∧ (s.i = 18 → s.e = 55)) (fun s => 18 - s.i) ⟨0, (writeF [] [120] (zs M)).1, _⟩ ⟨rfl, rfl, trivial⟩ ⟨by (show 0 ≤ 18; omega), hf2, hu7, hx47, fun h => by cases h⟩ ?_; rintro ⟨j, B, e⟩ H8 ⟨hj, fl, hu8, hx8, he⟩; dsimp only at hj fl hu8 he ⊢; have hz8 := hx8.size; by_cases hj2 : j < 18; rotate_left; (obtain rfl : j = 18 := (by omega)); (have he' := he rfl); subst he')
      · (have ht8 := ht4.ext hx8; have hr8 := hr4.ext hx8; obtain ⟨ra, rsp, hrb, hrr⟩ := hr8.out; ((conv => whnf); repeat (any_goals (first | ((refine (files_any ht8 ok.sorted (by omega) okf).mono ?_; rintro _ H12 ⟨⟨a12, c12, rfl, hc12, hr12, _⟩, hx12⟩; have hz12 := hx12.size; have hrr12 := hrr.ext hx12; have hrb12 := hrb.ext hx12); (conv => whnf)) | ((refine (hfiles_any A A a12 ra _ _ c12 _ _ hr12 hrr12 rfl rfl (by omega) (by omega)).mono ?_; rintro _ _ ⟨rfl, rfl⟩; rw [decide_eq_true rfl]); (conv => whnf)) | ((first | (with_reducible refine Vc.DrawH.lin (id := 19) mixed ?_) | (with_reducible refine Vc.DrawL.split (es := []) 5 7 (by decide) (by decide) (by decide) ?_ ?_) | (with_reducible refine Vc.DrawL.held (es := [(5, 7)]) [0, 1, 2, 3, 4, 5, 6, 7, 8, 9] [] (by decide +kernel) ?_) | (with_reducible refine Vc.DrawL.split (es := [(7, 5)]) 4 7 (by decide) (by decide) (by decide) ?_ ?_) | (with_reducible refine Vc.DrawL.held (es := [(4, 7), (7, 5)]) [0, 1, 2, 3, 4, 7, 5, 6, 8, 9] [] (by decide +kernel) ?_) | (with_reducible refine Vc.DrawL.held (es := [(7, 4), (7, 5)]) [0, 1, 2, 3, 7, 4, 5, 6, 8, 9] [] (by decide +kernel) ?_)); (conv => whnf)) | (((with_reducible refine Vc.DrawH.held [0, 1, 2, 3, 5, 6, 7, 8, 4, 9, 10, 11] [(4, [8])] mixed (by decide +kernel) ?_)); (conv => whnf)) | (refine Vc.stp ?_; intros; (conv => whnf))))); exact ⟨rfl, hx1.trans ((hx4.trans hx8).trans hx12)⟩)
      · obtain ⟨s1, s2, s3⟩ := fl_step hW fl hj2
        obtain ⟨yb, ey, eyb⟩ : ∃ u : UInt8, 97 + (j : Int) = (u.toNat : Int) ∧ u = UInt8.ofNat (97 + j) := ⟨UInt8.ofNat (97 + j), by rw [UInt8.toNat_ofNat']; omega, rfl⟩
        have eyF : (⟨#[121]⟩ : ByteArray) ++ mkS [yb] = mkS (yF j) := by rw [show (⟨#[121]⟩ : ByteArray) = mkS [121] from rfl, mkS_app, eyb]; rfl
        have hs3 := s3.ok.size
        rcases s1 with s1 | s1
        · have hE : j + 1 = 18 → (0 : Nat) = 55 := fun h => absurd (s2 (by omega)) (by rw [s1]; decide)
          ((conv => whnf); repeat (any_goals (first | ((refine ArithH.i64 (by omega) ?_; rw [ey]); (conv => whnf)) | ((refine SemH.make (n := 65536) rfl rfl rfl (by decide) (by decide) ?_; intro Hm hom hxm; rw [← hW] at hom; replace hom : Own Hm _ 5 1 _ W W (strV (zs W)) := (by rw [← hmkW]; exact hom); have hzm := hxm.size); (conv => whnf)) | ((refine to_string' (l := [yb]) rfl rfl rfl (Blk.row (c := strV [yb]) (by (repeat (first | assumption | ((with_reducible apply Vc.Blk.ext); (case k => assumption)) | ((with_reducible apply Vc.Blk.but); (case k => assumption); (case hb => omega)))))) rfl ?_); (conv => whnf)) | ((rw [eyF]; refine NeedH.mk ⟨by (show 1 + 1 ≤ _; decide), ?_⟩); (conv => whnf)) | ((refine (write_any (hu8.ext (by (repeat (first | assumption | exact Vc.Ext.refl _ | ((with_reducible apply Vc.Ext.trans); (case k => assumption)) | ((with_reducible apply Vc.Ext.but); (case k => assumption); (case hb => omega)))))) fl.ok (yF j) (zs W) _ _ _ (hom.ext (by (repeat (first | assumption | exact Vc.Ext.refl _ | ((with_reducible apply Vc.Ext.trans); (case k => assumption)) | ((with_reducible apply Vc.Ext.but); (case k => assumption); (case hb => omega)))))).row hzW6 (by omega)).mono ?_; rintro _ Hw hdw; (have hvw := hdw.code); rw [s1] at hvw; subst hvw; have huw := hdw.tree; have hxw : Ext H4 Hw := ext_t (hx8.trans (by (repeat (first | assumption | exact Vc.Ext.refl _ | ((with_reducible apply Vc.Ext.trans); (case k => assumption)) | ((with_reducible apply Vc.Ext.but); (case k => assumption); (case hb => omega)))))) hdw.only (by omega) (by omega); clear hdw); (conv => whnf)) | ((refine (size_any huw).mono ?_; rintro _ _ ⟨rfl, rfl⟩); (conv => whnf)) | ((first | (with_reducible refine Vc.DrawH.lin (id := 19) mixed ?_) | (with_reducible refine Vc.DrawL.split (es := []) 5 7 (by decide) (by decide) (by decide) ?_ ?_) | (with_reducible refine Vc.DrawL.held (es := [(5, 7)]) [0, 1, 2, 3, 4, 5, 6, 7, 8, 9] [] (by decide +kernel) ?_) | (with_reducible refine Vc.DrawL.split (es := [(7, 5)]) 4 7 (by decide) (by decide) (by decide) ?_ ?_) | (with_reducible refine Vc.DrawL.held (es := [(4, 7), (7, 5)]) [0, 1, 2, 3, 4, 7, 5, 6, 8, 9] [] (by decide +kernel) ?_) | (with_reducible refine Vc.DrawL.held (es := [(7, 4), (7, 5)]) [0, 1, 2, 3, 7, 4, 5, 6, 8, 9] [] (by decide +kernel) ?_)); (conv => whnf)) | (((with_reducible refine Vc.DrawH.held [0, 1, 2, 3, 5, 6, 7, 8, 4, 9, 10, 11] [(4, [8])] mixed (by decide +kernel) ?_)); (conv => whnf)) | (refine Vc.stp ?_; intros; (conv => whnf)))))
          (all_goals exact ⟨⟨j + 1, _, _⟩, ⟨rfl, rfl, trivial⟩, ⟨(show j + 1 ≤ 18 by omega), s3, huw, hxw, hE⟩, (show 18 - (j + 1) < 18 - j by omega)⟩)
        · have hE : j + 1 = 18 → (55 : Nat) = 55 := fun h => rfl
          ((conv => whnf); repeat (any_goals (first | ((refine ArithH.i64 (by omega) ?_; rw [ey]); (conv => whnf)) | ((refine SemH.make (n := 65536) rfl rfl rfl (by decide) (by decide) ?_; intro Hm hom hxm; rw [← hW] at hom; replace hom : Own Hm _ 5 1 _ W W (strV (zs W)) := (by rw [← hmkW]; exact hom); have hzm := hxm.size); (conv => whnf)) | ((refine to_string' (l := [yb]) rfl rfl rfl (Blk.row (c := strV [yb]) (by (repeat (first | assumption | ((with_reducible apply Vc.Blk.ext); (case k => assumption)) | ((with_reducible apply Vc.Blk.but); (case k => assumption); (case hb => omega)))))) rfl ?_); (conv => whnf)) | ((rw [eyF]; refine NeedH.mk ⟨by (show 1 + 1 ≤ _; decide), ?_⟩); (conv => whnf)) | ((refine (write_any (hu8.ext (by (repeat (first | assumption | exact Vc.Ext.refl _ | ((with_reducible apply Vc.Ext.trans); (case k => assumption)) | ((with_reducible apply Vc.Ext.but); (case k => assumption); (case hb => omega)))))) fl.ok (yF j) (zs W) _ _ _ (hom.ext (by (repeat (first | assumption | exact Vc.Ext.refl _ | ((with_reducible apply Vc.Ext.trans); (case k => assumption)) | ((with_reducible apply Vc.Ext.but); (case k => assumption); (case hb => omega)))))).row hzW6 (by omega)).mono ?_; rintro _ Hw hdw; (have hvw := hdw.code); rw [s1] at hvw; subst hvw; have huw := hdw.tree; have hxw : Ext H4 Hw := ext_t (hx8.trans (by (repeat (first | assumption | exact Vc.Ext.refl _ | ((with_reducible apply Vc.Ext.trans); (case k => assumption)) | ((with_reducible apply Vc.Ext.but); (case k => assumption); (case hb => omega)))))) hdw.only (by omega) (by omega); clear hdw); (conv => whnf)) | ((refine (size_any huw).mono ?_; rintro _ _ ⟨rfl, rfl⟩); (conv => whnf)) | ((first | (with_reducible refine Vc.DrawH.lin (id := 19) mixed ?_) | (with_reducible refine Vc.DrawL.split (es := []) 5 7 (by decide) (by decide) (by decide) ?_ ?_) | (with_reducible refine Vc.DrawL.held (es := [(5, 7)]) [0, 1, 2, 3, 4, 5, 6, 7, 8, 9] [] (by decide +kernel) ?_) | (with_reducible refine Vc.DrawL.split (es := [(7, 5)]) 4 7 (by decide) (by decide) (by decide) ?_ ?_) | (with_reducible refine Vc.DrawL.held (es := [(4, 7), (7, 5)]) [0, 1, 2, 3, 4, 7, 5, 6, 8, 9] [] (by decide +kernel) ?_) | (with_reducible refine Vc.DrawL.held (es := [(7, 4), (7, 5)]) [0, 1, 2, 3, 7, 4, 5, 6, 8, 9] [] (by decide +kernel) ?_)); (conv => whnf)) | (((with_reducible refine Vc.DrawH.held [0, 1, 2, 3, 5, 6, 7, 8, 4, 9, 10, 11] [(4, [8])] mixed (by decide +kernel) ?_)); (conv => whnf)) | (refine Vc.stp ?_; intros; (conv => whnf)))))
          (all_goals exact ⟨⟨j + 1, _, _⟩, ⟨rfl, rfl, trivial⟩, ⟨(show j + 1 ≤ 18 by omega), s3, huw, hxw, hE⟩, (show 18 - (j + 1) < 18 - j by omega)⟩)
    · have hcnd : (!((((55 : Nat) : Int) == 55) == decide ((65536 : Int) < (M : Int)))) = false := by rw [decide_eq_true (by omega)]; rfl
      ((conv => whnf); repeat (any_goals (first | ((rw [eM]; refine SemH.make rfl rfl rfl (by (show 1 * M ≤ _; omega)) (by unfold maxLen; omega) ?_; intro H5 ho5 hx5; replace ho5 : Own H5 H4.size 5 1 (some ⟨H4.size, 0, none⟩) M M (strV (zs M)) := (by rw [← hmk]; exact ho5); have hz5 := hx5.size); (conv => whnf)) | ((refine (new_any _).mono ?_; rintro _ H6 ⟨⟨ub, um, rfl, hu6, hub, hum⟩, hx6⟩; have hz6 := hx6.size; have hx46 := hx5.trans hx6; have ho6 := ho5.ext hx6); (conv => whnf)) | ((refine (write_any hu6 Okay.nil [120] (zs M) _ _ _ ho6.row hzM (by omega)).mono ?_; rintro _ H7 hd7; (have hv7 := hd7.code); rw [hc] at hv7; subst hv7; have hu7 := hd7.tree; have hx47 := ext_t hx46 hd7.only (by omega) (by omega); clear hd7); (conv => whnf)) | ((first | (with_reducible refine Vc.DrawH.lin (id := 19) mixed ?_) | (with_reducible refine Vc.DrawL.split (es := []) 5 7 (by decide) (by decide) (by decide) ?_ ?_) | (with_reducible refine Vc.DrawL.held (es := [(5, 7)]) [0, 1, 2, 3, 4, 5, 6, 7, 8, 9] [] (by decide +kernel) ?_) | (with_reducible refine Vc.DrawL.split (es := [(7, 5)]) 4 7 (by decide) (by decide) (by decide) ?_ ?_) | (with_reducible refine Vc.DrawL.held (es := [(4, 7), (7, 5)]) [0, 1, 2, 3, 4, 7, 5, 6, 8, 9] [] (by decide +kernel) ?_) | (with_reducible refine Vc.DrawL.held (es := [(7, 4), (7, 5)]) [0, 1, 2, 3, 7, 4, 5, 6, 8, 9] [] (by decide +kernel) ?_)); (conv => whnf)) | (((with_reducible refine Vc.DrawH.held [0, 1, 2, 3, 5, 6, 7, 8, 4, 9, 10, 11] [(4, [8])] mixed (by decide +kernel) ?_)); (conv => whnf)) | (refine Vc.stp ?_; intros; (conv => whnf)))))
      (refine LoopH.intro (fun (s : FvS) => [(13, .int .i64 s.i), (12, .int .i64 s.e)]) (fun s H' => s.i ≤ 18 ∧ Fl s.A s.i ∧ TreeO no H' ub um s.A ∧ Ext H4 H' ∧ (s.i = 18 → s.e = 55)) (fun s => 18 - s.i) ⟨0, (writeF [] [120] (zs M)).1, _⟩ ⟨rfl, rfl, trivial⟩ ⟨by (show 0 ≤ 18; omega), hf2, hu7, hx47, fun h => by cases h⟩ ?_; rintro ⟨j, B, e⟩ H8 ⟨hj, fl, hu8, hx8, he⟩; dsimp only at hj fl hu8 he ⊢; have hz8 := hx8.size; by_cases hj2 : j < 18; rotate_left; (obtain rfl : j = 18 := (by omega)); (have he' := he rfl); subst he')
      · (have ht8 := ht4.ext hx8; have hr8 := hr4.ext hx8; obtain ⟨ra, rsp, hrb, hrr⟩ := hr8.out; ((conv => whnf); repeat (any_goals (first | ((refine (files_any ht8 ok.sorted (by omega) okf).mono ?_; rintro _ H12 ⟨⟨a12, c12, rfl, hc12, hr12, _⟩, hx12⟩; have hz12 := hx12.size; have hrr12 := hrr.ext hx12; have hrb12 := hrb.ext hx12); (conv => whnf)) | ((refine (hfiles_any A A a12 ra _ _ c12 _ _ hr12 hrr12 rfl rfl (by omega) (by omega)).mono ?_; rintro _ _ ⟨rfl, rfl⟩; rw [decide_eq_true rfl]); (conv => whnf)) | ((first | (with_reducible refine Vc.DrawH.lin (id := 19) mixed ?_) | (with_reducible refine Vc.DrawL.split (es := []) 5 7 (by decide) (by decide) (by decide) ?_ ?_) | (with_reducible refine Vc.DrawL.held (es := [(5, 7)]) [0, 1, 2, 3, 4, 5, 6, 7, 8, 9] [] (by decide +kernel) ?_) | (with_reducible refine Vc.DrawL.split (es := [(7, 5)]) 4 7 (by decide) (by decide) (by decide) ?_ ?_) | (with_reducible refine Vc.DrawL.held (es := [(4, 7), (7, 5)]) [0, 1, 2, 3, 4, 7, 5, 6, 8, 9] [] (by decide +kernel) ?_) | (with_reducible refine Vc.DrawL.held (es := [(7, 4), (7, 5)]) [0, 1, 2, 3, 7, 4, 5, 6, 8, 9] [] (by decide +kernel) ?_)); (conv => whnf)) | (((with_reducible refine Vc.DrawH.held [0, 1, 2, 3, 5, 6, 7, 8, 4, 9, 10, 11] [(4, [8])] mixed (by decide +kernel) ?_)); (conv => whnf)) | (refine Vc.stp ?_; intros; (conv => whnf))))); exact ⟨rfl, hx1.trans ((hx4.trans hx8).trans hx12)⟩)
      · obtain ⟨s1, s2, s3⟩ := fl_step hW fl hj2
        obtain ⟨yb, ey, eyb⟩ : ∃ u : UInt8, 97 + (j : Int) = (u.toNat : Int) ∧ u = UInt8.ofNat (97 + j) := ⟨UInt8.ofNat (97 + j), by rw [UInt8.toNat_ofNat']; omega, rfl⟩
        have eyF : (⟨#[121]⟩ : ByteArray) ++ mkS [yb] = mkS (yF j) := by rw [show (⟨#[121]⟩ : ByteArray) = mkS [121] from rfl, mkS_app, eyb]; rfl
        have hs3 := s3.ok.size
        rcases s1 with s1 | s1
        · have hE : j + 1 = 18 → (0 : Nat) = 55 := fun h => absurd (s2 (by omega)) (by rw [s1]; decide)
          ((conv => whnf); repeat (any_goals (first | ((refine ArithH.i64 (by omega) ?_; rw [ey]); (conv => whnf)) | ((refine SemH.make (n := 65536) rfl rfl rfl (by decide) (by decide) ?_; intro Hm hom hxm; rw [← hW] at hom; replace hom : Own Hm _ 5 1 _ W W (strV (zs W)) := (by rw [← hmkW]; exact hom); have hzm := hxm.size); (conv => whnf)) | ((refine to_string' (l := [yb]) rfl rfl rfl (Blk.row (c := strV [yb]) (by (repeat (first | assumption | ((with_reducible apply Vc.Blk.ext); (case k => assumption)) | ((with_reducible apply Vc.Blk.but); (case k => assumption); (case hb => omega)))))) rfl ?_); (conv => whnf)) | ((rw [eyF]; refine NeedH.mk ⟨by (show 1 + 1 ≤ _; decide), ?_⟩); (conv => whnf)) | ((refine (write_any (hu8.ext (by (repeat (first | assumption | exact Vc.Ext.refl _ | ((with_reducible apply Vc.Ext.trans); (case k => assumption)) | ((with_reducible apply Vc.Ext.but); (case k => assumption); (case hb => omega)))))) fl.ok (yF j) (zs W) _ _ _ (hom.ext (by (repeat (first | assumption | exact Vc.Ext.refl _ | ((with_reducible apply Vc.Ext.trans); (case k => assumption)) | ((with_reducible apply Vc.Ext.but); (case k => assumption); (case hb => omega)))))).row hzW6 (by omega)).mono ?_; rintro _ Hw hdw; (have hvw := hdw.code); rw [s1] at hvw; subst hvw; have huw := hdw.tree; have hxw : Ext H4 Hw := ext_t (hx8.trans (by (repeat (first | assumption | exact Vc.Ext.refl _ | ((with_reducible apply Vc.Ext.trans); (case k => assumption)) | ((with_reducible apply Vc.Ext.but); (case k => assumption); (case hb => omega)))))) hdw.only (by omega) (by omega); clear hdw); (conv => whnf)) | ((refine (size_any huw).mono ?_; rintro _ _ ⟨rfl, rfl⟩); (conv => whnf)) | ((first | (with_reducible refine Vc.DrawH.lin (id := 19) mixed ?_) | (with_reducible refine Vc.DrawL.split (es := []) 5 7 (by decide) (by decide) (by decide) ?_ ?_) | (with_reducible refine Vc.DrawL.held (es := [(5, 7)]) [0, 1, 2, 3, 4, 5, 6, 7, 8, 9] [] (by decide +kernel) ?_) | (with_reducible refine Vc.DrawL.split (es := [(7, 5)]) 4 7 (by decide) (by decide) (by decide) ?_ ?_) | (with_reducible refine Vc.DrawL.held (es := [(4, 7), (7, 5)]) [0, 1, 2, 3, 4, 7, 5, 6, 8, 9] [] (by decide +kernel) ?_) | (with_reducible refine Vc.DrawL.held (es := [(7, 4), (7, 5)]) [0, 1, 2, 3, 7, 4, 5, 6, 8, 9] [] (by decide +kernel) ?_)); (conv => whnf)) | (((with_reducible refine Vc.DrawH.held [0, 1, 2, 3, 5, 6, 7, 8, 4, 9, 10, 11] [(4, [8])] mixed (by decide +kernel) ?_)); (conv => whnf)) | (refine Vc.stp ?_; intros; (conv => whnf)))))
          (all_goals exact ⟨⟨j + 1, _, _⟩, ⟨rfl, rfl, trivial⟩, ⟨(show j + 1 ≤ 18 by omega), s3, huw, hxw, hE⟩, (show 18 - (j + 1) < 18 - j by omega)⟩)
        · have hE : j + 1 = 18 → (55 : Nat) = 55 := fun h => rfl
          ((conv => whnf); repeat (any_goals (first | ((refine ArithH.i64 (by omega) ?_; rw [ey]); (conv => whnf)) | ((refine SemH.make (n := 65536) rfl rfl rfl (by decide) (by decide) ?_; intro Hm hom hxm; rw [← hW] at hom; replace hom : Own Hm _ 5 1 _ W W (strV (zs W)) := (by rw [← hmkW]; exact hom); have hzm := hxm.size); (conv => whnf)) | ((refine to_string' (l := [yb]) rfl rfl rfl (Blk.row (c := strV [yb]) (by (repeat (first | assumption | ((with_reducible apply Vc.Blk.ext); (case k => assumption)) | ((with_reducible apply Vc.Blk.but); (case k => assumption); (case hb => omega)))))) rfl ?_); (conv => whnf)) | ((rw [eyF]; refine NeedH.mk ⟨by (show 1 + 1 ≤ _; decide), ?_⟩); (conv => whnf)) | ((refine (write_any (hu8.ext (by (repeat (first | assumption | exact Vc.Ext.refl _ | ((with_reducible apply Vc.Ext.trans); (case k => assumption)) | ((with_reducible apply Vc.Ext.but); (case k => assumption); (case hb => omega)))))) fl.ok (yF j) (zs W) _ _ _ (hom.ext (by (repeat (first | assumption | exact Vc.Ext.refl _ | ((with_reducible apply Vc.Ext.trans); (case k => assumption)) | ((with_reducible apply Vc.Ext.but); (case k => assumption); (case hb => omega)))))).row hzW6 (by omega)).mono ?_; rintro _ Hw hdw; (have hvw := hdw.code); rw [s1] at hvw; subst hvw; have huw := hdw.tree; have hxw : Ext H4 Hw := ext_t (hx8.trans (by (repeat (first | assumption | exact Vc.Ext.refl _ | ((with_reducible apply Vc.Ext.trans); (case k => assumption)) | ((with_reducible apply Vc.Ext.but); (case k => assumption); (case hb => omega)))))) hdw.only (by omega) (by omega); clear hdw); (conv => whnf)) | ((refine (size_any huw).mono ?_; rintro _ _ ⟨rfl, rfl⟩); (conv => whnf)) | ((first | (with_reducible refine Vc.DrawH.lin (id := 19) mixed ?_) | (with_reducible refine Vc.DrawL.split (es := []) 5 7 (by decide) (by decide) (by decide) ?_ ?_) | (with_reducible refine Vc.DrawL.held (es := [(5, 7)]) [0, 1, 2, 3, 4, 5, 6, 7, 8, 9] [] (by decide +kernel) ?_) | (with_reducible refine Vc.DrawL.split (es := [(7, 5)]) 4 7 (by decide) (by decide) (by decide) ?_ ?_) | (with_reducible refine Vc.DrawL.held (es := [(4, 7), (7, 5)]) [0, 1, 2, 3, 4, 7, 5, 6, 8, 9] [] (by decide +kernel) ?_) | (with_reducible refine Vc.DrawL.held (es := [(7, 4), (7, 5)]) [0, 1, 2, 3, 7, 4, 5, 6, 8, 9] [] (by decide +kernel) ?_)); (conv => whnf)) | (((with_reducible refine Vc.DrawH.held [0, 1, 2, 3, 5, 6, 7, 8, 4, 9, 10, 11] [(4, [8])] mixed (by decide +kernel) ?_)); (conv => whnf)) | (refine Vc.stp ?_; intros; (conv => whnf)))))
          (all_goals exact ⟨⟨j + 1, _, _⟩, ⟨rfl, rfl, trivial⟩, ⟨(show j + 1 ≤ 18 by omega), s3, huw, hxw, hE⟩, (show 18 - (j + 1) < 18 - j by omega)⟩)
end Go.Proofs.YtihopeogaeinhaaGreatDoor
