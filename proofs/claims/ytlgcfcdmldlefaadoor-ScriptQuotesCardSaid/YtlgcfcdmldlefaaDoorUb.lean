import Derived.Test.YtlgcfcdmldlefaaDoorUa
set_option linter.unusedVariables false
set_option linter.unusedSimpArgs false
set_option maxRecDepth 100000
/- Build scripts, the statements: noise. -/
namespace Go.Scr
def preN : List Txt := [[], [10], [35, 32, 34, 10], [32, 32, 9], [9, 35, 32, 120, 10, 32, 32, 32]]
def postN : List Txt := [[], [32], [9, 32]]
theorem noisy_cat (k n : Nat) : catF (noisy k n) = preN.getD (n % 5) [] ++ (textN k ++ (postN.getD (n % 3) [] ++ [10])) := by
  have h5 : n % 5 = 0 ∨ n % 5 = 1 ∨ n % 5 = 2 ∨ n % 5 = 3 ∨ n % 5 = 4 := by omega
  have h3 : n % 3 = 0 ∨ n % 3 = 1 ∨ n % 3 = 2 := by omega
  unfold noisy
  rcases h5 with h | h | h | h | h <;> rcases h3 with g | g | g <;> rw [h, g] <;> simp [noiseA, noiseB, catF, preN, postN]
theorem textN_tx : ∀ k, k < 13 → textN k = txN k := by decide
theorem pre_len : ∀ k, k < 5 → (preN.getD k []).length ≤ 8 := by decide
theorem post_len : ∀ k, k < 3 → (postN.getD k []).length ≤ 2 := by decide
def prs (l nz : List UInt8) : List (Nat × Nat) := (l.zip nz).map fun p => (p.1.toNat % 13, p.2.toNat)
theorem prs_cons (c d : UInt8) (l nz : List UInt8) : prs (c :: l) (d :: nz) = (c.toNat % 13, d.toNat) :: prs l nz := rfl
theorem prs_nil (nz : List UInt8) : prs [] nz = [] := rfl
theorem prs_lt {l nz : List UInt8} : ∀ p ∈ prs l nz, p.1 < 13 := by
  intro p hp; obtain ⟨x, _, rfl⟩ := List.mem_map.1 hp; exact Nat.mod_lt _ (by decide)
theorem prs_len (l nz : List UInt8) : (prs l nz).length ≤ l.length := by unfold prs; rw [List.length_map, List.length_zip]; omega
theorem plainS_cons (p : Nat × Nat) (l : List (Nat × Nat)) : plainS (p :: l) = textN p.1 ++ 10 :: plainS l := by simp [plainS, catF]
theorem noisyS_cons (p : Nat × Nat) (l : List (Nat × Nat)) : noisyS (p :: l) = catF (noisy p.1 p.2) ++ noisyS l := by unfold noisyS; rw [List.flatMap_cons, catF_append]
theorem S_len : ∀ l nz : List UInt8, (plainS (prs l nz)).length ≤ 21 * l.length ∧ (noisyS (prs l nz)).length ≤ 31 * l.length
  | [], nz => by simp [prs_nil, plainS, noisyS, catF]
  | c :: l, [] => by simp [prs, plainS, noisyS, catF]
  | c :: l, d :: nz => by
    obtain ⟨h1, h2⟩ := S_len l nz
    have h3 := txN_len (c.toNat % 13) (by omega)
    have h4 := pre_len (d.toNat % 5) (by omega)
    have h5 := post_len (d.toNat % 3) (by omega)
    have h6 := textN_tx (c.toNat % 13) (by omega)
    rw [prs_cons, plainS_cons, noisyS_cons, noisy_cat, h6]
    simp only [List.length_append, List.length_cons, List.length_nil]
    omega
end Go.Scr
namespace Go.Proofs.YtlgcfcdmldlefaaDoor
open Go Go.Vc Go.Scr
structure NSt where
  i : Nat
  p : Bs
  s : Bs
theorem cat5 (a b c d : Bs) : (((mkS a ++ mkS b) ++ mkS c) ++ mkS d) ++ mkS [10] = mkS (a ++ (b ++ (c ++ (d ++ [10])))) := by simp only [mkS_app, List.append_assoc]
set_option maxHeartbeats 4000000 in
theorem noise_law (l nz : Bs) (a b : Option Addr) (n m cap cb : Nat) (H : Heap) (hr : Row H a (strV l)) (hrb : Row H b (strV nz)) (hn : l.length = n) (hnz : nz.length = m) (hm : n ≤ 9223372036854775807) (hm2 : m ≤ 9223372036854775807) : CallH Tryd.prog 12 [.slice a n cap, .slice b m cb] H fun v H' => v = .bool true ∧ Ext H H' := by
  refine Vc.CallH.body Tryd.func12 Tryd.call12 rfl (by decide +kernel) rfl ?_
  by_cases hbig : 20 < n
  · ((conv => whnf); repeat (any_goals (first | ((refine (known_any _).mono ?_; rintro _ H1 ⟨rfl, hx1⟩; have hz1 := hx1.size); (conv => whnf)) | (refine Vc.stp ?_; intros; (conv => whnf)) | (refine Vc.spl ?_ ?_ <;> (intro _; (conv => whnf))))))
    exact ⟨rfl, hx1⟩
  by_cases hlow : m < n
  · ((conv => whnf); repeat (any_goals (first | ((refine (known_any _).mono ?_; rintro _ H1 ⟨rfl, hx1⟩; have hz1 := hx1.size); (conv => whnf)) | (refine Vc.stp ?_; intros; (conv => whnf)) | (refine Vc.spl ?_ ?_ <;> (intro _; (conv => whnf))))))
    exact ⟨rfl, hx1⟩
  obtain ⟨hl1, hl2⟩ := S_len l nz
  obtain ⟨A, hA⟩ : ∃ A, plainS (prs l nz) = A := ⟨_, rfl⟩
  obtain ⟨B, hB⟩ : ∃ B, noisyS (prs l nz) = B := ⟨_, rfl⟩
  have hpn := parse_noisy (prs l nz) prs_lt (by have := prs_len l nz; omega)
  rw [hA] at hl1 hpn
  rw [hB] at hl2 hpn
  ((conv => whnf); repeat (any_goals (first | ((refine (known_any _).mono ?_; rintro _ H1 ⟨rfl, hx1⟩; have hz1 := hx1.size); (conv => whnf)) | (refine Vc.stp ?_; intros; (conv => whnf)) | (refine Vc.spl ?_ ?_ <;> (intro _; (conv => whnf))))))
  refine LoopH.intro (fun (x : NSt) => [(7, .int .i64 x.i), (5, .string (mkS x.p)), (6, .string (mkS x.s))]) (fun x H' => x.i ≤ n ∧ Ext H H' ∧ A = x.p ++ plainS (prs (l.drop x.i) (nz.drop x.i)) ∧ B = x.s ++ noisyS (prs (l.drop x.i) (nz.drop x.i))) (fun x => n - x.i) ⟨0, [], []⟩ ⟨rfl, rfl, rfl, trivial⟩ ⟨Nat.zero_le _, hx1, hA.symm, hB.symm⟩ ?_
  rintro ⟨i, p, s⟩ H2 ⟨hi, hx2, hi1, hi2⟩
  dsimp only at hi hi1 hi2 ⊢
  have hz2 := hx2.size
  have hpl : p.length ≤ A.length := by rw [hi1, List.length_append]; omega
  have hsl : s.length ≤ B.length := by rw [hi2, List.length_append]; omega
  by_cases hlt : i < n
  · obtain ⟨c, hc⟩ : ∃ c, l[i]? = some c := ⟨_, List.getElem?_eq_getElem (by omega)⟩
    obtain ⟨d, hd⟩ : ∃ d, nz[i]? = some d := ⟨_, List.getElem?_eq_getElem (by omega)⟩
    have hdr : l.drop i = c :: l.drop (i + 1) := by
      rw [List.drop_eq_getElem_cons (by omega)]; congr 1; rw [List.getElem?_eq_getElem (by omega)] at hc; exact Option.some.inj hc
    have hdz : nz.drop i = d :: nz.drop (i + 1) := by
      rw [List.drop_eq_getElem_cons (by omega)]; congr 1; rw [List.getElem?_eq_getElem (by omega)] at hd; exact Option.some.inj hd
    rw [hdr, hdz, prs_cons] at hi1 hi2
    rw [plainS_cons] at hi1
    rw [noisyS_cons, noisy_cat] at hi2
    dsimp only at hi1 hi2
    have e20 : (c.toNat % 13) % 20 = c.toNat % 13 := by omega
    rw [textN_tx (c.toNat % 13) (by omega)] at hi1 hi2
    have htl := txN_len (c.toNat % 13) (by omega)
    have hpr := pre_len (d.toNat % 5) (by omega)
    have hpo := post_len (d.toNat % 3) (by omega)
    have hrow := hr.ext hx2
    have hrow2 := hrb.ext hx2
    obtain ⟨t, ht⟩ : ∃ t, txN (c.toNat % 13) = t := ⟨_, rfl⟩
    have htx := fun H => txt_any (c.toNat % 13) (by omega) H
    rw [e20, ht] at htx
    rw [ht] at hi1 hi2 htl
    have h1 : (mkS p).size = p.length := rfl
    have h2 : (mkS s).size = s.length := rfl
    have h3 : (mkS t).size = t.length := rfl
    have h4 : (⟨#[10]⟩ : ByteArray).size = 1 := rfl
    have h5 : (mkS (preN.getD (d.toNat % 5) [])).size = (preN.getD (d.toNat % 5) []).length := rfl
    have h6 : (mkS (postN.getD (d.toNat % 3) [])).size = (postN.getD (d.toNat % 3) []).length := rfl
    ((conv => whnf); repeat (any_goals (first | ((refine IdxA.byte (Row.ext hrow (by (repeat (first | assumption | exact Vc.Ext.refl _ | ((with_reducible apply Vc.Ext.trans); (case k => assumption)) | ((with_reducible apply Vc.Ext.but); (case k => assumption); (case hb => omega)))))) hn i c rfl hc ?_; intro _ _ _ _ _); (conv => whnf)) | ((refine (htx _).mono ?_; rintro _ H3 ⟨rfl, hx3⟩; have hz3 := hx3.size); (conv => whnf)) | ((refine NeedH.mk ⟨by (simp only [ByteArray.size_append]; omega), ?_⟩); (conv => whnf)) | (((with_reducible apply SemH.lit (vs := [_, _, _, _, _])); (focus (rfl)); (focus (rfl)); (focus (rfl)); (focus (rfl)); (focus (rfl)); (focus (rfl)); (focus (rfl)); (focus ((intro _ _ _ _; (conv => whnf))))); (conv => whnf)) | ((refine IdxA.byte (Row.ext hrow2 (by (repeat (first | assumption | exact Vc.Ext.refl _ | ((with_reducible apply Vc.Ext.trans); (case k => assumption)) | ((with_reducible apply Vc.Ext.but); (case k => assumption); (case hb => omega)))))) hnz i d rfl hd ?_; intro _ _ _ _ _); (conv => whnf)) | ((refine IdxA.strD (Blk.row (c := strs preN) (by (repeat (first | assumption | ((with_reducible apply Vc.Blk.ext); (case k => assumption)) | ((with_reducible apply Vc.Blk.but); (case k => assumption); (case hb => omega)))))) rfl (d.toNat % 5) (by omega) (by omega) ?_; intro _ _ _ _ _); (conv => whnf)) | ((refine IdxA.strD (Blk.row (c := strs postN) (by (repeat (first | assumption | ((with_reducible apply Vc.Blk.ext); (case k => assumption)) | ((with_reducible apply Vc.Blk.but); (case k => assumption); (case hb => omega)))))) rfl (d.toNat % 3) (by omega) (by omega) ?_; intro _ _ _ _ _); (conv => whnf)) | ((first | (with_reducible refine Vc.DrawH.lin (id := 11) mixed ?_) | (with_reducible refine Vc.DrawL.split (es := []) 19 1 (by decide) (by decide) (by decide) ?_ ?_) | (with_reducible refine Vc.DrawL.held (es := [(19, 1)]) [0, 2, 3, 4, 5, 6, 10, 13, 14, 15, 16, 17, 12, 18, 19, 1, 7, 8, 9, 11, 20, 21, 22] [(12, [5, 16]), (1, [5])] (by decide +kernel) ?_) | (with_reducible refine Vc.DrawL.split (es := [(1, 19)]) 1 12 (by decide) (by decide) (by decide) ?_ ?_) | (with_reducible refine Vc.DrawL.held (es := [(1, 12), (1, 19)]) [0, 2, 3, 4, 5, 6, 10, 13, 14, 15, 16, 17, 1, 7, 8, 9, 11, 12, 18, 19, 20, 21, 22] [(1, [5, 16]), (12, [5, 16, 8])] (by decide +kernel) ?_) | (with_reducible refine Vc.DrawL.held (es := [(12, 1), (1, 19)]) [0, 2, 3, 4, 5, 6, 10, 13, 14, 15, 16, 17, 12, 18, 1, 7, 8, 9, 11, 19, 20, 21, 22] [(12, [5, 16]), (1, [5, 16])] (by decide +kernel) ?_)); (conv => whnf)) | (refine Vc.stp ?_; intros; (conv => whnf)) | (refine Vc.spl ?_ ?_ <;> (intro _; (conv => whnf))))))
    all_goals exact ⟨⟨i + 1, p ++ (t ++ [10]), s ++ (preN.getD (d.toNat % 5) [] ++ (t ++ (postN.getD (d.toNat % 3) [] ++ [10])))⟩, ⟨rfl, congrArg Value.string (cat2 _ _), congrArg Value.string (cat5 _ _ _ _), trivial⟩, ⟨by show i + 1 ≤ _; omega, by (repeat (first | assumption | exact Vc.Ext.refl _ | ((with_reducible apply Vc.Ext.trans); (case k => assumption)) | ((with_reducible apply Vc.Ext.but); (case k => assumption); (case hb => omega)))), by rw [hi1]; simp, by rw [hi2]; simp⟩, by show n - (i + 1) < n - i; omega⟩
  · rw [List.drop_of_length_le (by omega), prs_nil] at hi1 hi2
    have hpA : p = A := by rw [hi1]; simp [plainS, catF]
    have hsB : s = B := by rw [hi2]; simp [noisyS, catF]
    subst hpA hsB
    have c1 := fun H => parse_any p (by omega) H
    have c2 := fun H => rparse_any p (by omega) H
    have c3 := fun H => parse_any s (by omega) H
    cases hp : parseF p with
    | mk r i1 =>
    cases hq : parseF s with
    | mk r' i2 =>
    rw [hp, hq] at hpn
    dsimp only at hpn
    subst hpn
    rw [hp] at c1 c2
    rw [hq] at c3
    cases r' with
    | none =>
      have hz0 : ([] : List Ln).length = 0 := rfl
      ((conv => whnf); repeat (any_goals (first | ((refine (c1 _).mono ?_; rintro _ H3 ⟨rfl, hx3⟩; have hz3 := hx3.size); (conv => whnf)) | ((refine (c3 _).mono ?_; rintro _ H5 ⟨rfl, hx5⟩; have hz5 := hx5.size); (conv => whnf)) | ((refine (c2 _).mono ?_; rintro _ H4 ⟨rfl, hx4⟩; have hz4 := hx4.size); (conv => whnf)) | ((refine (lines_any [] [] _ _ _ _ _ _ _ (Row.nil _ _) (Row.nil _ _) rfl rfl (by decide) (by decide)).mono ?_; rintro _ _ ⟨rfl, rfl⟩; rw [decide_eq_true rfl]); (conv => whnf)) | ((first | (with_reducible refine Vc.DrawH.lin (id := 11) mixed ?_) | (with_reducible refine Vc.DrawL.split (es := []) 19 1 (by decide) (by decide) (by decide) ?_ ?_) | (with_reducible refine Vc.DrawL.held (es := [(19, 1)]) [0, 2, 3, 4, 5, 6, 10, 13, 14, 15, 16, 17, 12, 18, 19, 1, 7, 8, 9, 11, 20, 21, 22] [(12, [5, 16]), (1, [5])] (by decide +kernel) ?_) | (with_reducible refine Vc.DrawL.split (es := [(1, 19)]) 1 12 (by decide) (by decide) (by decide) ?_ ?_) | (with_reducible refine Vc.DrawL.held (es := [(1, 12), (1, 19)]) [0, 2, 3, 4, 5, 6, 10, 13, 14, 15, 16, 17, 1, 7, 8, 9, 11, 12, 18, 19, 20, 21, 22] [(1, [5, 16]), (12, [5, 16, 8])] (by decide +kernel) ?_) | (with_reducible refine Vc.DrawL.held (es := [(12, 1), (1, 19)]) [0, 2, 3, 4, 5, 6, 10, 13, 14, 15, 16, 17, 12, 18, 1, 7, 8, 9, 11, 19, 20, 21, 22] [(12, [5, 16]), (1, [5, 16])] (by decide +kernel) ?_)); (conv => whnf)) | (refine Vc.stp ?_; intros; (conv => whnf)) | (refine Vc.spl ?_ ?_ <;> (intro _; (conv => whnf))))))
      exact ⟨rfl, by (repeat (first | assumption | exact Vc.Ext.refl _ | ((with_reducible apply Vc.Ext.trans); (case k => assumption)) | ((with_reducible apply Vc.Ext.but); (case k => assumption); (case hb => omega))))⟩
    | some ls =>
      have hll := parseF_len hp
      ((conv => whnf); repeat (any_goals (first | ((refine (c1 _).mono ?_; rintro _ H3 ⟨⟨a3, k3, rfl, ho3⟩, hx3⟩; have hz3 := hx3.size; have hr3 := ho3.row); (conv => whnf)) | ((refine (c3 _).mono ?_; rintro _ H5 ⟨⟨a5, k5, rfl, ho5⟩, hx5⟩; have hz5 := hx5.size; have hr5 := ho5.row); (conv => whnf)) | ((refine (c2 _).mono ?_; rintro _ H4 ⟨⟨a4, k4, rfl, ho4⟩, hx4⟩; have hz4 := hx4.size; have hr4 := ho4.row); (conv => whnf)) | ((refine (lines_any ls ls a3 a4 _ _ _ _ _ (Row.ext hr3 (by (repeat (first | assumption | exact Vc.Ext.refl _ | ((with_reducible apply Vc.Ext.trans); (case k => assumption)) | ((with_reducible apply Vc.Ext.but); (case k => assumption); (case hb => omega)))))) (Row.ext hr4 (by (repeat (first | assumption | exact Vc.Ext.refl _ | ((with_reducible apply Vc.Ext.trans); (case k => assumption)) | ((with_reducible apply Vc.Ext.but); (case k => assumption); (case hb => omega)))))) rfl rfl (by omega) (by omega)).mono ?_; rintro _ _ ⟨rfl, rfl⟩; rw [decide_eq_true rfl]); (conv => whnf)) | ((refine (lines_any ls ls a5 a4 _ _ _ _ _ (Row.ext hr5 (by (repeat (first | assumption | exact Vc.Ext.refl _ | ((with_reducible apply Vc.Ext.trans); (case k => assumption)) | ((with_reducible apply Vc.Ext.but); (case k => assumption); (case hb => omega)))))) (Row.ext hr4 (by (repeat (first | assumption | exact Vc.Ext.refl _ | ((with_reducible apply Vc.Ext.trans); (case k => assumption)) | ((with_reducible apply Vc.Ext.but); (case k => assumption); (case hb => omega)))))) rfl rfl (by omega) (by omega)).mono ?_; rintro _ _ ⟨rfl, rfl⟩; rw [decide_eq_true rfl]); (conv => whnf)) | ((first | (with_reducible refine Vc.DrawH.lin (id := 11) mixed ?_) | (with_reducible refine Vc.DrawL.split (es := []) 19 1 (by decide) (by decide) (by decide) ?_ ?_) | (with_reducible refine Vc.DrawL.held (es := [(19, 1)]) [0, 2, 3, 4, 5, 6, 10, 13, 14, 15, 16, 17, 12, 18, 19, 1, 7, 8, 9, 11, 20, 21, 22] [(12, [5, 16]), (1, [5])] (by decide +kernel) ?_) | (with_reducible refine Vc.DrawL.split (es := [(1, 19)]) 1 12 (by decide) (by decide) (by decide) ?_ ?_) | (with_reducible refine Vc.DrawL.held (es := [(1, 12), (1, 19)]) [0, 2, 3, 4, 5, 6, 10, 13, 14, 15, 16, 17, 1, 7, 8, 9, 11, 12, 18, 19, 20, 21, 22] [(1, [5, 16]), (12, [5, 16, 8])] (by decide +kernel) ?_) | (with_reducible refine Vc.DrawL.held (es := [(12, 1), (1, 19)]) [0, 2, 3, 4, 5, 6, 10, 13, 14, 15, 16, 17, 12, 18, 1, 7, 8, 9, 11, 19, 20, 21, 22] [(12, [5, 16]), (1, [5, 16])] (by decide +kernel) ?_)); (conv => whnf)) | (refine Vc.stp ?_; intros; (conv => whnf)) | (refine Vc.spl ?_ ?_ <;> (intro _; (conv => whnf))))))
      exact ⟨rfl, by (repeat (first | assumption | exact Vc.Ext.refl _ | ((with_reducible apply Vc.Ext.trans); (case k => assumption)) | ((with_reducible apply Vc.Ext.but); (case k => assumption); (case hb => omega))))⟩
end Go.Proofs.YtlgcfcdmldlefaaDoor
