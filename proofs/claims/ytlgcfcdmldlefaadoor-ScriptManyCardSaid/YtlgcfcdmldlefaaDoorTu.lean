import Derived.Test.YtlgcfcdmldlefaaDoorTt
set_option linter.unusedVariables false
set_option linter.unusedSimpArgs false
set_option maxRecDepth 100000
/- Build scripts, the code: texts in quotes. -/
namespace Go.Vc
variable {P : Program} {H H' H0 : Heap}
/-- two elements more, of one cell each -/
theorem NextH.push2 {t u e ty : TypeId} {i : TypeInfo} {z v v' : Value} {a : Option Addr} {n cap g : Nat} {xs : List Value} {cb : Array Bool} {K : Value → Heap → Prop}
    (hlit : Blk H g #[v, v'] e) (hown : Own H H0.size e 1 a n cap xs) (hx : Ext H0 H) (hn : n ≤ 4000000000000) (ht : P.underlying t = some (.slice e)) (hu : ∃ d, P.underlying u = some d ∧ (∀ k, d ≠ .int k)) (hi : P.info? e = some i) (hz : i.zero = some z) (hzs : z.cells.size = i.size) (h1 : i.size = 1)
    (hby : Nat.ble i.bytes 16 = true) (h0 : Nat.ble 1 i.bytes = true) (hp : plainV v = true) (hp' : plainV v' = true)
    (hk : ∀ a' cap' H', Own H' H0.size e 1 a' (n + 2) cap' (xs ++ [v, v']) → Ext H0 H' → K (.slice a' (n + 2) cap') H') :
    NextH P (builtin .append #[t, u] ty cb #[.slice a n cap, .slice (some ⟨g, 0, none⟩) 2 2]) H K := by
  have hby := Nat.le_of_ble_eq_true hby
  have hown : Own H H0.size e i.size a n cap xs := by rw [h1]; exact hown
  have hk : ∀ a' cap' H', Own H' H0.size e i.size a' (n + 2) cap' (xs ++ [v, v']) → Ext H0 H' → K (.slice a' (n + 2) cap') H' := fun a' c' H' h => hk a' c' H' (by rw [h1] at h; exact h)
  refine NextH.push (m := 2) (news := [v, v']) hown hx (Src.row (Blk.row (c := [v, v']) hlit) (by rw [h1]; rfl) (by simpa using ⟨hp, hp'⟩)) ht hu hi hz hzs ?_ h0 hk
  calc (n + 2) * i.bytes ≤ (n + 2) * 16 := Nat.mul_le_mul_left _ hby
    _ ≤ _ := by omega
end Go.Vc
namespace Go.Proofs.YtlgcfcdmldlefaaDoor
open Go Go.Vc Go.Scr
structure ESt where
  i : Nat
  acc : Bs
  a : Option Addr
  cap : Nat
theorem own_app {H : Heap} {b : Nat} {e : TypeId} {a : Option Addr} {n m cap : Nat} {l l' : Bs} {news : List Value} (hn : n = l'.length) (hv : strV l' = strV l ++ news) (h : Own H b e 1 a n cap (strV l ++ news)) : Own H b e 1 a l'.length cap (strV l') := by rw [hv, ← hn]; exact h
theorem own_two {H : Heap} {b : Nat} {e : TypeId} {a : Option Addr} {cap : Nat} {acc : Bs} {c : UInt8} (h : Own H b e 1 a ((34 :: acc).length + 1 + 1) cap (strV (34 :: acc) ++ [.int .u8 92] ++ [.int .u8 c.toNat])) : Own H b e 1 a (34 :: (acc ++ [92, c])).length cap (strV (34 :: (acc ++ [92, c]))) := by
  have e1 : strV (34 :: (acc ++ [92, c])) = strV (34 :: acc) ++ [.int .u8 92] ++ [.int .u8 c.toNat] := by simp [strV]
  have e2 : (34 :: (acc ++ [92, c])).length = (34 :: acc).length + 1 + 1 := by simp
  rw [e1, e2]; exact h
theorem own_ten {H : Heap} {b : Nat} {e : TypeId} {a : Option Addr} {cap : Nat} {acc : Bs} (h : Own H b e 1 a ((34 :: acc).length + 2) cap (strV (34 :: acc) ++ [.int .u8 92, .int .u8 110])) : Own H b e 1 a (34 :: (acc ++ [92, 110])).length cap (strV (34 :: (acc ++ [92, 110]))) := by
  have e1 : strV (34 :: (acc ++ [92, 110])) = strV (34 :: acc) ++ [.int .u8 92, .int .u8 110] := by simp [strV]
  have e2 : (34 :: (acc ++ [92, 110])).length = (34 :: acc).length + 2 := by simp
  rw [e1, e2]; exact h
set_option maxHeartbeats 2000000 in
theorem escaped_any (s : Bs) (hl : s.length ≤ 1000000000) (H : Heap) : CallH Tryd.prog 104 [.string (mkS s)] H fun v H' => v = .string (mkS (34 :: (escF s ++ [34]))) ∧ Ext H H' := by
  have hsz : (mkS s).size = s.length := rfl
  obtain ⟨E, hE⟩ : ∃ E, escF s = E := ⟨_, rfl⟩
  rw [hE]
  have hEl : E.length ≤ 2 * s.length := by rw [← hE]; exact escF_len s
  refine Vc.CallH.body Tryd.func104 Tryd.call104 rfl (by decide +kernel) rfl ?_
  ((conv => whnf); repeat (any_goals (first | (refine Vc.stp ?_; intros; (conv => whnf)) | (refine Vc.spl ?_ ?_ <;> (intro _; (conv => whnf))))))
  rename_i H1 hs1 hb1 hx1
  have ho1 : Own H1 H.size 5 1 (some ⟨H.size, 0, none⟩) 1 1 (strV [34]) := own_lit hb1 (Nat.le_refl _) rfl (by decide)
  refine LoopH.intro (fun (x : ESt) => [(8, .int .i64 x.i), (3, .slice x.a (34 :: x.acc).length x.cap)]) (fun x H' => x.i ≤ s.length ∧ Own H' H.size 5 1 x.a (34 :: x.acc).length x.cap (strV (34 :: x.acc)) ∧ Ext H H' ∧ E = x.acc ++ escF (s.drop x.i)) (fun x => s.length - x.i) ⟨0, [], _, _⟩ ⟨rfl, rfl, trivial⟩ ⟨Nat.zero_le _, ho1, hx1, hE.symm⟩ ?_
  rintro ⟨i, acc, a, cap⟩ H2 ⟨hi, ho2, hx2, hinv⟩
  dsimp only at hi ho2 hinv ⊢
  have hal : (34 :: acc).length = acc.length + 1 := rfl
  have hacc : acc.length ≤ E.length := by rw [hinv, List.length_append]; omega
  by_cases hlt : i < s.length
  · obtain ⟨c, hc, hdr⟩ := drop_get hlt
    have hcons : escF (c :: s.drop (i + 1)) = escB c ++ escF (s.drop (i + 1)) := by simp [escF]
    rw [hdr, hcons] at hinv
    by_cases h1 : c = 34 ∨ c = 92
    · have he : escB c = [92, c] := by unfold escB; rw [if_pos h1]
      rw [he] at hinv
      have hn : c.toNat = 34 ∨ c.toNat = 92 := by rcases h1 with rfl | rfl <;> simp
      rcases hn with hn | hn
      · ((conv => whnf); repeat (any_goals (first | ((refine IdxH.nat i rfl (by omega) ?_; (conv => whnf); rw [hc]); (conv => whnf)) | (refine Vc.stp ?_; intros; (conv => whnf)) | (refine Vc.spl ?_ ?_ <;> (intro _; (conv => whnf))))))
        rename_i H3 hs3 hb3 hx3 a4 c4 H4 ho4 hx4 H5 hs5 hb5 hx5 a6 c6 H6 ho6 hx6
        exact ⟨⟨i + 1, acc ++ [92, c], a6, c6⟩, ⟨rfl, by show Value.slice a6 ((34 :: acc).length + 1 + 1) c6 = Value.slice a6 (34 :: (acc ++ [92, c])).length c6; simp, trivial⟩, ⟨by show i + 1 ≤ _; omega, own_two ho6, hx6, by rw [hinv]; simp⟩, by show s.length - (i + 1) < s.length - i; omega⟩
      · ((conv => whnf); repeat (any_goals (first | ((refine IdxH.nat i rfl (by omega) ?_; (conv => whnf); rw [hc]); (conv => whnf)) | (refine Vc.stp ?_; intros; (conv => whnf)) | (refine Vc.spl ?_ ?_ <;> (intro _; (conv => whnf))))))
        rename_i H3 hs3 hb3 hx3 a4 c4 H4 ho4 hx4 H5 hs5 hb5 hx5 a6 c6 H6 ho6 hx6
        exact ⟨⟨i + 1, acc ++ [92, c], a6, c6⟩, ⟨rfl, by show Value.slice a6 ((34 :: acc).length + 1 + 1) c6 = Value.slice a6 (34 :: (acc ++ [92, c])).length c6; simp, trivial⟩, ⟨by show i + 1 ≤ _; omega, own_two ho6, hx6, by rw [hinv]; simp⟩, by show s.length - (i + 1) < s.length - i; omega⟩
    · have m34 := ne_nat 34 (by decide) fun e => h1 (.inl e)
      have m92 := ne_nat 92 (by decide) fun e => h1 (.inr e)
      by_cases h2 : c = 10
      · have he : escB c = [92, 110] := by unfold escB; rw [if_neg h1, if_pos h2]
        rw [he] at hinv
        have hn : c.toNat = 10 := by rw [h2]; rfl
        ((conv => whnf); repeat (any_goals (first | ((refine IdxH.nat i rfl (by omega) ?_; (conv => whnf); rw [hc]); (conv => whnf)) | (((with_reducible apply NextH.push2); (focus ((repeat (first | assumption | ((with_reducible apply Vc.Blk.ext); (case k => assumption)) | ((with_reducible apply Vc.Blk.but); (case k => assumption); (case hb => omega)))))); (focus ((repeat (first | assumption | ((with_reducible apply Vc.Own.ext); (case k => assumption)) | ((with_reducible apply Vc.Own.but); (case k => assumption); (case hb => omega)))))); (focus ((repeat (first | assumption | exact Vc.Ext.refl _ | ((with_reducible apply Vc.Ext.trans); (case k => assumption)) | ((with_reducible apply Vc.Ext.but); (case k => assumption); (case hb => omega)))))); (focus (omega)); (focus (rfl)); (focus ((exact ⟨_, rfl, fun _ h => by cases h⟩))); (focus (rfl)); (focus (rfl)); (focus (rfl)); (focus (rfl)); (focus (rfl)); (focus (rfl)); (focus (rfl)); (focus (rfl)); (focus ((intro _ _ _ _ _; (conv => whnf))))); (conv => whnf)) | (refine Vc.stp ?_; intros; (conv => whnf)) | (refine Vc.spl ?_ ?_ <;> (intro _; (conv => whnf))))))
        rename_i H3 hs3 hb3 hx3 a4 c4 H4 ho4 hx4
        exact ⟨⟨i + 1, acc ++ [92, 110], a4, c4⟩, ⟨rfl, by show Value.slice a4 ((34 :: acc).length + 2) c4 = Value.slice a4 (34 :: (acc ++ [92, 110])).length c4; simp, trivial⟩, ⟨by show i + 1 ≤ _; omega, own_ten ho4, hx4, by rw [hinv]; simp⟩, by show s.length - (i + 1) < s.length - i; omega⟩
      · have he : escB c = [c] := by unfold escB; rw [if_neg h1, if_neg h2]
        rw [he] at hinv
        have m10 := ne_nat 10 (by decide) h2
        ((conv => whnf); repeat (any_goals (first | ((refine IdxH.nat i rfl (by omega) ?_; (conv => whnf); rw [hc]); (conv => whnf)) | (refine Vc.stp ?_; intros; (conv => whnf)) | (refine Vc.spl ?_ ?_ <;> (intro _; (conv => whnf))))))
        rename_i H3 hs3 hb3 hx3 a4 c4 H4 ho4 hx4
        exact ⟨⟨i + 1, acc ++ [c], a4, c4⟩, ⟨rfl, sl_snoc2 _ _ _ _, trivial⟩, ⟨by show i + 1 ≤ _; omega, own_snoc2 ho4, hx4, by rw [hinv]; simp⟩, by show s.length - (i + 1) < s.length - i; omega⟩
  · rw [List.drop_of_length_le (by omega)] at hinv
    have hE2 : E = acc := by rw [hinv]; simp [escF]
    ((conv => whnf); repeat (any_goals (first | (refine Vc.stp ?_; intros; (conv => whnf)) | (refine Vc.spl ?_ ?_ <;> (intro _; (conv => whnf))))))
    rename_i H3 hs3 hb3 hx3 a4 c4 H4 ho4 hx4
    refine to_string' rfl rfl rfl (l := 34 :: (acc ++ [34])) ?_ (by simp) ?_
    · exact (own_snoc2 ho4).row
    ((conv => whnf); repeat (any_goals (first | (refine Vc.stp ?_; intros; (conv => whnf)) | (refine Vc.spl ?_ ?_ <;> (intro _; (conv => whnf))))))
    rw [hE2]
    exact ⟨rfl, hx4⟩
end Go.Proofs.YtlgcfcdmldlefaaDoor
