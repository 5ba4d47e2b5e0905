import Derived.Test.YtlgcfcdmldlefaaDoorTy
set_option linter.unusedVariables false
set_option linter.unusedSimpArgs false
set_option maxRecDepth 100000
/- Build scripts, the statements: scripts of numbers. -/
namespace Go.Vc
variable {P : Program} {H : Heap}
/-- an element of a row of bytes -/
theorem IdxA.byte {a : Option Addr} {l : List UInt8} {n : Nat} {i : Int} {K : Addr → Prop} (h : Row H a (strV l)) (hn : l.length = n) (j : Nat) (c : UInt8) (hi : i = j) (hc : l[j]? = some c)
    (hk : ∀ b o, b < H.size → a = some ⟨b, o, none⟩ → hcell H ⟨b, o + j, none⟩ = some (.int .u8 (c.toNat : Int)) → K ⟨b, o + j, none⟩) : IdxA a n 1 i K := by
  have hj := (List.getElem?_eq_some_iff.1 hc).1
  refine (IdxA.row (size := 1) h (by rw [strV_length, hn, Nat.mul_one]) (by decide) j hi (by omega) fun b o h1 h2 h3 => ?_)
  have e : l.getD j 0 = c := by rw [List.getD_eq_getElem?_getD, hc]; rfl
  have h3 := h3 0 (.int .u8 (c.toNat : Int)) (by rw [Nat.mul_one, Nat.add_zero, strV_get hj, e])
  rw [Nat.mul_one]
  rw [Nat.mul_one] at h3
  exact hk b o h1 h2 (by simpa using h3)
end Go.Vc
namespace Go.Scr
def tx20 : List Txt := [[99, 111, 112, 121, 32, 97, 32, 98], [119, 114, 105, 116, 101, 32, 97, 32, 34, 120, 34], [97, 112, 112, 101, 110, 100, 32, 98, 47, 99, 32, 34, 36, 118, 92, 110, 34], [109, 107, 100, 105, 114, 32, 100], [114, 101, 109, 111, 118, 101, 32, 97], [114, 101, 110, 97, 109, 101, 32, 97, 32, 101], [115, 101, 116, 32, 118, 32, 34, 49, 34], [105, 102, 32, 101, 120, 105, 115, 116, 115, 32, 97], [105, 102, 32, 110, 111, 116, 32, 101, 120, 105, 115, 116, 115, 32, 97], [114, 101, 112, 101, 97, 116, 32, 50], [101, 108, 115, 101], [101, 110, 100], [102, 97, 105, 108, 32, 34, 110, 111, 34], [], [35, 32, 120], [32, 32], [114, 101, 112, 101, 97, 116, 32, 49, 48, 48, 49], [99, 111, 112, 121, 32, 97], [115, 101, 116, 32, 118, 32, 49], [101, 110, 100, 32, 101, 110, 100]]
def txN (k : Nat) : Txt := tx20.getD k []
theorem tx20_len : tx20.length = 20 := rfl
theorem txN_len : ∀ k, k < 20 → (txN k).length ≤ 20 := by decide
def wrF (l : List UInt8) : Txt := catF (l.map fun c => txN (c.toNat % 20))
theorem wrF_cons (c : UInt8) (l : List UInt8) : wrF (c :: l) = txN (c.toNat % 20) ++ 10 :: wrF l := by simp [wrF, catF]
theorem wrF_len : ∀ l : List UInt8, (wrF l).length ≤ 21 * l.length
  | [] => by simp [wrF, catF]
  | c :: l => by
    have := wrF_len l
    have := txN_len (c.toNat % 20) (Nat.mod_lt _ (by decide))
    rw [wrF_cons, List.length_append, List.length_cons, List.length_cons]; omega
end Go.Scr
namespace Go.Proofs.YtlgcfcdmldlefaaDoor
open Go Go.Vc Go.Scr
theorem txt_any (k : Nat) (hk : k < 256) (H : Heap) : CallH Tryd.prog 41 [.int .u8 k] H fun v H' => v = .string (mkS (txN (k % 20))) ∧ Ext H H' := by
  refine Vc.CallH.body Tryd.func41 Tryd.call41 rfl (by decide +kernel) rfl ?_
  ((conv => whnf); repeat (any_goals (first | (refine Vc.sts ?_; (conv => whnf)))))
  refine SemH.lit (vs := [_, _, _, _, _, _, _, _, _, _, _, _, _, _, _, _, _, _, _, _]) rfl rfl rfl rfl rfl rfl rfl ?_
  intro H1 hs1 hb1 hx1
  have hr1 := Blk.row (c := strs tx20) hb1
  have hlt := Nat.mod_lt k (show 0 < 20 by decide)
  ((conv => whnf); repeat (any_goals (first | ((refine IdxA.strD hr1 tx20_len (k % 20) (by omega) hlt ?_; intro _ _ _ _ _); (conv => whnf)) | (refine Vc.stp ?_; intros; (conv => whnf)) | (refine Vc.spl ?_ ?_ <;> (intro _; (conv => whnf))))))
  exact ⟨rfl, hx1⟩
theorem cat2 (a b : Bs) : (mkS a ++ mkS b) ++ mkS [10] = mkS (a ++ (b ++ [10])) := by rw [mkS_app, mkS_app, List.append_assoc]
theorem written_any (l : Bs) (a : Option Addr) (n cap : Nat) (H : Heap) (hr : Row H a (strV l)) (hn : l.length = n) (hm : n ≤ 1000) : CallH Tryd.prog 37 [.slice a n cap] H fun v H' => v = .string (mkS (wrF l)) ∧ Ext H H' := by
  obtain ⟨T, hT⟩ : ∃ T, wrF l = T := ⟨_, rfl⟩
  have hTl : T.length ≤ 21 * n := by rw [← hT, ← hn]; exact wrF_len l
  rw [hT]
  refine Vc.CallH.body Tryd.func37 Tryd.call37 rfl (by decide +kernel) rfl ?_
  ((conv => whnf); repeat (any_goals (first | (refine Vc.sts ?_; (conv => whnf)))))
  refine LoopH.intro (fun (x : Nat × Bs) => [(4, .int .i64 x.1), (3, .string (mkS x.2))]) (fun x H' => x.1 ≤ n ∧ Ext H H' ∧ T = x.2 ++ wrF (l.drop x.1)) (fun x => n - x.1) (0, []) ⟨rfl, rfl, trivial⟩ ⟨Nat.zero_le _, Ext.refl _, hT.symm⟩ ?_
  rintro ⟨i, acc⟩ H2 ⟨hi, hx2, hinv⟩
  dsimp only at hi hinv ⊢
  have hz2 := hx2.size
  have hacc : acc.length ≤ T.length := by rw [hinv, List.length_append]; omega
  by_cases hlt : i < n
  · obtain ⟨c, hc⟩ : ∃ c, l[i]? = some c := ⟨_, List.getElem?_eq_getElem (by omega)⟩
    have hdr : l.drop i = c :: l.drop (i + 1) := by
      rw [List.drop_eq_getElem_cons (by omega)]; congr 1; rw [List.getElem?_eq_getElem (by omega)] at hc; exact Option.some.inj hc
    rw [hdr, wrF_cons] at hinv
    have htl := txN_len (c.toNat % 20) (Nat.mod_lt _ (by decide))
    have hrow := hr.ext hx2
    have h1 : (mkS acc).size = acc.length := rfl
    have h2 : (mkS (txN (c.toNat % 20))).size = (txN (c.toNat % 20)).length := rfl
    have h3 : (mkS acc ++ mkS (txN (c.toNat % 20))).size = acc.length + (txN (c.toNat % 20)).length := by rw [mkS_app]; show (acc ++ _).length = _; rw [List.length_append]
    have h4 : (⟨#[10]⟩ : ByteArray).size = 1 := rfl
    ((conv => whnf); repeat (any_goals (first | ((refine IdxA.byte hrow hn i c rfl hc ?_; intro _ _ _ _ _); (conv => whnf)) | ((refine (txt_any c.toNat c.toNat_lt _).mono ?_; rintro _ H3 ⟨rfl, hx3⟩; have hz3 := hx3.size); (conv => whnf)) | (refine Vc.stp ?_; intros; (conv => whnf)) | (refine Vc.spl ?_ ?_ <;> (intro _; (conv => whnf))))))
    exact ⟨(i + 1, acc ++ (txN (c.toNat % 20) ++ [10])), ⟨rfl, congrArg Value.string (cat2 _ _), trivial⟩, ⟨by show i + 1 ≤ _; omega, by (repeat (first | assumption | exact Vc.Ext.refl _ | ((with_reducible apply Vc.Ext.trans); (case k => assumption)) | ((with_reducible apply Vc.Ext.but); (case k => assumption); (case hb => omega)))), by rw [hinv]; simp⟩, by show n - (i + 1) < n - i; omega⟩
  · rw [List.drop_of_length_le (by omega)] at hinv
    have hTa : T = acc := by rw [hinv]; simp [wrF, catF]
    ((conv => whnf); repeat (any_goals (first | (refine Vc.stp ?_; intros; (conv => whnf)) | (refine Vc.spl ?_ ?_ <;> (intro _; (conv => whnf))))))
    rw [hTa]; exact ⟨rfl, hx2⟩
def parsePair (f : Option (List Ln) × Nat) : List Ln := match f with | (some l, _) => l | _ => []
theorem parseL_len : ∀ (ls : List Txt) (i : Nat) (out : List Ln) (o : List Nat) (l : List Ln), (parseL ls i out o).1 = some l → out.length ≤ 200 → l.length ≤ 200
  | [], i, out, o, l, h, hl => by
    unfold parseL at h
    split at h
    · cases h; exact hl
    · cases h
  | x :: ls, i, out, o, l, h, hl => by
    rw [parseL_step] at h
    split at h
    · exact parseL_len ls _ _ _ l h hl
    · split at h
      · cases h
      · split at h
        · cases h
        · split at h
          · cases h
          · split at h
            · cases h
            · exact parseL_len ls _ _ _ l h (by rw [List.length_append]; simp; omega)
theorem parseF_len {s : Txt} {l : List Ln} {i : Nat} (h : parseF s = (some l, i)) : l.length ≤ 200 := by
  have h : (parseF s).1 = some l := by rw [h]
  unfold parseF at h
  split at h
  · cases h
  · exact parseL_len _ _ _ _ l h (by simp)
theorem blocks_law (l : Bs) (a : Option Addr) (n cap : Nat) (H : Heap) (hr : Row H a (strV l)) (hn : l.length = n) (hm : n ≤ 9223372036854775807) : CallH Tryd.prog 9 [.slice a n cap] H fun v H' => v = .bool true ∧ Ext H H' := by
  refine Vc.CallH.body Tryd.func9 Tryd.call9 rfl (by decide +kernel) rfl ?_
  by_cases hbig : 60 < n
  · ((conv => whnf); repeat (any_goals (first | ((refine (known_any _).mono ?_; rintro _ H1 ⟨rfl, hx1⟩; have hz1 := hx1.size); (conv => whnf)) | (refine Vc.stp ?_; intros; (conv => whnf)) | (refine Vc.spl ?_ ?_ <;> (intro _; (conv => whnf))))))
    exact ⟨rfl, hx1⟩
  · have hwl := wrF_len l
    have c1 := fun H => parse_any (wrF l) (by omega) H
    have c2 := fun H => rparse_any (wrF l) (by omega) H
    cases hp : parseF (wrF l) with
    | mk r i =>
    rw [hp] at c1 c2
    cases r with
    | none =>
      have hz0 : ([] : List Ln).length = 0 := rfl
      ((conv => whnf); repeat (any_goals (first | ((refine (known_any _).mono ?_; rintro _ H1 ⟨rfl, hx1⟩; have hz1 := hx1.size); (conv => whnf)) | ((refine (written_any l a n cap _ (Row.ext hr (by (repeat (first | assumption | exact Vc.Ext.refl _ | ((with_reducible apply Vc.Ext.trans); (case k => assumption)) | ((with_reducible apply Vc.Ext.but); (case k => assumption); (case hb => omega)))))) hn (by omega)).mono ?_; rintro _ H4 ⟨rfl, hx4⟩; have hz4 := hx4.size); (conv => whnf)) | ((refine (c1 _).mono ?_; rintro _ H2 ⟨rfl, hx2⟩; have hz2 := hx2.size); (conv => whnf)) | ((refine (c2 _).mono ?_; rintro _ H3 ⟨rfl, hx3⟩; have hz3 := hx3.size); (conv => whnf)) | ((refine (lines_any [] [] _ _ _ _ _ _ _ (Row.nil _ _) (Row.nil _ _) rfl rfl (by decide) (by decide)).mono ?_; rintro _ _ ⟨rfl, rfl⟩; rw [decide_eq_true rfl]); (conv => whnf)) | (refine Vc.stp ?_; intros; (conv => whnf)) | (refine Vc.spl ?_ ?_ <;> (intro _; (conv => whnf))))))
      exact ⟨rfl, by (repeat (first | assumption | exact Vc.Ext.refl _ | ((with_reducible apply Vc.Ext.trans); (case k => assumption)) | ((with_reducible apply Vc.Ext.but); (case k => assumption); (case hb => omega))))⟩
    | some ls =>
      have hll := parseF_len hp
      ((conv => whnf); repeat (any_goals (first | ((refine (known_any _).mono ?_; rintro _ H1 ⟨rfl, hx1⟩; have hz1 := hx1.size); (conv => whnf)) | ((refine (written_any l a n cap _ (Row.ext hr (by (repeat (first | assumption | exact Vc.Ext.refl _ | ((with_reducible apply Vc.Ext.trans); (case k => assumption)) | ((with_reducible apply Vc.Ext.but); (case k => assumption); (case hb => omega)))))) hn (by omega)).mono ?_; rintro _ H4 ⟨rfl, hx4⟩; have hz4 := hx4.size); (conv => whnf)) | ((refine (c1 _).mono ?_; rintro _ H2 ⟨⟨a2, k2, rfl, ho2⟩, hx2⟩; have hz2 := hx2.size; have hr2 := ho2.row); (conv => whnf)) | ((refine (c2 _).mono ?_; rintro _ H3 ⟨⟨a3, k3, rfl, ho3⟩, hx3⟩; have hz3 := hx3.size; have hr3 := ho3.row); (conv => whnf)) | ((refine (lines_any ls ls _ _ _ _ _ _ _ (Row.ext hr2 (by (repeat (first | assumption | exact Vc.Ext.refl _ | ((with_reducible apply Vc.Ext.trans); (case k => assumption)) | ((with_reducible apply Vc.Ext.but); (case k => assumption); (case hb => omega)))))) (Row.ext hr3 (by (repeat (first | assumption | exact Vc.Ext.refl _ | ((with_reducible apply Vc.Ext.trans); (case k => assumption)) | ((with_reducible apply Vc.Ext.but); (case k => assumption); (case hb => omega)))))) rfl rfl (by omega) (by omega)).mono ?_; rintro _ _ ⟨rfl, rfl⟩; rw [decide_eq_true rfl]); (conv => whnf)) | (refine Vc.stp ?_; intros; (conv => whnf)) | (refine Vc.spl ?_ ?_ <;> (intro _; (conv => whnf))))))
      exact ⟨rfl, by (repeat (first | assumption | exact Vc.Ext.refl _ | ((with_reducible apply Vc.Ext.trans); (case k => assumption)) | ((with_reducible apply Vc.Ext.but); (case k => assumption); (case hb => omega))))⟩
end Go.Proofs.YtlgcfcdmldlefaaDoor
